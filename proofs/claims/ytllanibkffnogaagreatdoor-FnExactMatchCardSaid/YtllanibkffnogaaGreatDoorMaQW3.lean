/-
  The walks that show that the code computes the models, part 3.
-/
import Derived.Test.YtllanibkffnogaaGreatDoorMaQW2
namespace Go.Proofs.Tryz
open Go.Av
set_option maxRecDepth 100000
set_option maxHeartbeats 8000000
set_option linter.unusedSimpArgs false
set_option linter.unusedVariables false

theorem mi_exprForm_ok (N : Nat) (a0 : SNode) {r : SForm} (h : mi_exprForm N a0 = some r) :
    AC Tryz.prog (GS [0, 1, 2]) 105 [.agg [V.i a0.Kind, V.i a0.Op, V.s a0.Text, V.s a0.Other, .sl false false (a0.Kids.map encI)]] [] (.agg [V.b r.op, V.b r.text, V.b r.other, V.i r.least, V.i r.most]) [] := by
 rw [mi_exprForm] at h
 refine AC.enter Tryz.func105 rfl ?_
 refine cu Dk mix 2 100 (tl 123 [(1, .loc 100 0), (2, .loc 101 0)]) [(101, .cells 114 [V.b false, V.b false, V.b false, V.i 0, V.i 0]), (100, .cells 48 [V.i a0.Kind, V.i a0.Op, V.s a0.Text, V.s a0.Other, .sl false false (a0.Kids.map encI)])] (by kernel_rfl) ?_
 refine CO.seq' ?_
 refine cu Dk mix 2 102 (tl 123 [(1, .loc 100 0), (2, .loc 101 0), (4, V.i a0.Kind)]) [(101, .cells 114 [V.b false, V.b false, V.b false, V.i 0, V.i 0]), (100, .cells 48 [V.i a0.Kind, V.i a0.Op, V.s a0.Text, V.s a0.Other, .sl false false (a0.Kids.map encI)])] (by kernel_rfl) ?_
 refine CO.block' ?_
 refine cu Dk mix 2 102 (tl 123 [(1, .loc 100 0), (2, .loc 101 0), (4, V.i a0.Kind), (5, V.b (a0.Kind == 1))]) [(101, .cells 114 [V.b false, V.b false, V.b false, V.i 0, V.i 0]), (100, .cells 48 [V.i a0.Kind, V.i a0.Op, V.s a0.Text, V.s a0.Other, .sl false false (a0.Kids.map encI)])] (by kernel_rfl) ?_
 (revert h; refine cR (fun hc46 h => ?_) (fun hc46 h => ?_))
 ·refine CO.ifT hc46 (by kernel_rfl) ?_
  (revert h; refine bR fun r22 hx48 h => ?_)
  refine CO.cutR (tl 123 [(2, .loc 101 0)]) [(101, .cells 114 [V.b (a0.Op == 0), V.b r22, V.b false, V.i 0, V.i 0])] mix (by
   refine W.run Dk 5 102 (by kernel_rfl) ?_
   refine W.call0 (AC.gs (mi_NameOk_ok N a0.Text hx48) (by decide)) cok120 rfl (by kernel_rfl) ?_
   refine W.run Dk 2 102 (by kernel_rfl) ?_
   exact W.fi (by kernel_rfl)
   ) ?_
  refine CO.ret ?_
  have h := Option.some.inj h
  subst h
  exact Ends.gen [] (.inr rfl) (RetV.one rfl (OneR.cell Dk (r := .agg [V.b (a0.Op == 0), V.b r22, V.b false, V.i 0, V.i 0]) (i := 101) (ety := 114) (cs := [V.b (a0.Op == 0), V.b r22, V.b false, V.i 0, V.i 0]) (by kernel_rfl) (by kernel_rfl) (by kernel_rfl))) (by kernel_rfl) (by kernel_rfl) (by kernel_rfl)
 refine CO.ifF hc46 (by kernel_rfl) ?_
 refine CO.join (fun (⟨a0, y23⟩ : (SNode × Bool)) => ⟨tl 123 [(1, .loc 100 0), (2, .loc 101 0), (4, V.i a0.Kind), (14, V.b y23)], [(100, .cells 48 [V.i a0.Kind, V.i a0.Op, V.s a0.Text, V.s a0.Other, .sl false false (a0.Kids.map encI)]), (101, .cells 114 [V.b false, V.b false, V.b false, V.i 0, V.i 0])]⟩) (fun i => mi_exprForm_k1 N i = some r) ?_ ?_
 · rintro ⟨a0, y23⟩ h51
   rw [mi_exprForm_k1] at h51
   (revert h51; refine cR (fun hc52 h51 => ?_) (fun hc52 h51 => ?_))
   ·refine CO.ifT hc52 (by kernel_rfl) ?_
    (revert h51; refine bR fun e26 hx55 h51 => ?_)
    (revert h51; refine bR fun r27 hx56 h51 => ?_)
    refine CO.cutR (tl 123 [(2, .loc 101 0)]) [(101, .cells 114 [V.b (a0.Op == 0), V.b r27, V.b false, V.i 0, V.i 0])] mix (by
     refine W.run Dk 7 102 (by kernel_rfl) ?_
     refine W.ixA Dk V.i hx55 (by kernel_rfl) ?_
     refine W.run Dk 3 102 (by kernel_rfl) ?_
     refine W.call0 (mi_TokenOk_ok N (⟨e26, a0.Text, 0⟩ : SToken) hx56) cok121 rfl (by kernel_rfl) ?_
     refine W.run Dk 2 102 (by kernel_rfl) ?_
     exact W.fi (by kernel_rfl)
     ) ?_
    refine CO.ret ?_
    have h51 := Option.some.inj h51
    subst h51
    exact Ends.gen [] (.inr rfl) (RetV.one rfl (OneR.cell Dk (r := .agg [V.b (a0.Op == 0), V.b r27, V.b false, V.i 0, V.i 0]) (i := 101) (ety := 114) (cs := [V.b (a0.Op == 0), V.b r27, V.b false, V.i 0, V.i 0]) (by kernel_rfl) (by kernel_rfl) (by kernel_rfl))) (by kernel_rfl) (by kernel_rfl) (by kernel_rfl)
   refine CO.ifF hc52 (by kernel_rfl) ?_
   refine CO.join (fun (⟨a0, y28⟩ : (SNode × Bool)) => ⟨tl 123 [(1, .loc 100 0), (2, .loc 101 0), (4, V.i a0.Kind), (31, V.b y28)], [(100, .cells 48 [V.i a0.Kind, V.i a0.Op, V.s a0.Text, V.s a0.Other, .sl false false (a0.Kids.map encI)]), (101, .cells 114 [V.b false, V.b false, V.b false, V.i 0, V.i 0])]⟩) (fun i => mi_exprForm_k2 N i = some r) ?_ ?_
   · rintro ⟨a0, y28⟩ h58
     rw [mi_exprForm_k2] at h58
     (revert h58; refine cR (fun hc59 h58 => ?_) (fun hc59 h58 => ?_))
     ·refine CO.ifT hc59 (by kernel_rfl) ?_
      (revert h58; refine bR fun r30 hx61 h58 => ?_)
      refine CO.cutR (tl 123 [(2, .loc 101 0)]) [(101, .cells 114 [V.b (a0.Op == 0), V.b r30, V.b false, V.i 1, V.i 6])] mix (by
       refine W.run Dk 5 102 (by kernel_rfl) ?_
       refine W.call0 (AC.gs (mi_NameOk_ok N a0.Text hx61) (by decide)) cok120 rfl (by kernel_rfl) ?_
       refine W.run Dk 2 102 (by kernel_rfl) ?_
       exact W.fi (by kernel_rfl)
       ) ?_
      refine CO.ret ?_
      have h58 := Option.some.inj h58
      subst h58
      exact Ends.gen [] (.inr rfl) (RetV.one rfl (OneR.cell Dk (r := .agg [V.b (a0.Op == 0), V.b r30, V.b false, V.i 1, V.i 6]) (i := 101) (ety := 114) (cs := [V.b (a0.Op == 0), V.b r30, V.b false, V.i 1, V.i 6]) (by kernel_rfl) (by kernel_rfl) (by kernel_rfl))) (by kernel_rfl) (by kernel_rfl) (by kernel_rfl)
     refine CO.ifF hc59 (by kernel_rfl) ?_
     refine cu Dk mix 2 102 (tl 123 [(1, .loc 100 0), (2, .loc 101 0), (4, V.i a0.Kind), (41, V.b (a0.Kind == 6))]) [(100, .cells 48 [V.i a0.Kind, V.i a0.Op, V.s a0.Text, V.s a0.Other, .sl false false (a0.Kids.map encI)]), (101, .cells 114 [V.b false, V.b false, V.b false, V.i 0, V.i 0])] (by kernel_rfl) ?_
     (revert h58; refine cR (fun hc62 h58 => ?_) (fun hc62 h58 => ?_))
     ·refine CO.ifT hc62 (by kernel_rfl) ?_
      refine cu Dk mix 8 102 (tl 123 [(2, .loc 101 0)]) [(101, .cells 114 [V.b (a0.Op == 0), V.b (a0.Text == []), V.b false, V.i 1, V.i 1])] (by kernel_rfl) ?_
      refine CO.ret ?_
      have h58 := Option.some.inj h58
      subst h58
      exact Ends.gen [] (.inr rfl) (RetV.one rfl (OneR.cell Dk (r := .agg [V.b (a0.Op == 0), V.b (a0.Text == []), V.b false, V.i 1, V.i 1]) (i := 101) (ety := 114) (cs := [V.b (a0.Op == 0), V.b (a0.Text == []), V.b false, V.i 1, V.i 1]) (by kernel_rfl) (by kernel_rfl) (by kernel_rfl))) (by kernel_rfl) (by kernel_rfl) (by kernel_rfl)
     refine CO.ifF hc62 (by kernel_rfl) ?_
     refine cu Dk mix 2 102 (tl 123 [(1, .loc 100 0), (2, .loc 101 0), (4, V.i a0.Kind), (50, V.b (a0.Kind == 7))]) [(100, .cells 48 [V.i a0.Kind, V.i a0.Op, V.s a0.Text, V.s a0.Other, .sl false false (a0.Kids.map encI)]), (101, .cells 114 [V.b false, V.b false, V.b false, V.i 0, V.i 0])] (by kernel_rfl) ?_
     (revert h58; refine cR (fun hc63 h58 => ?_) (fun hc63 h58 => ?_))
     ·refine CO.ifT hc63 (by kernel_rfl) ?_
      (revert h58; refine bR fun r32 hx65 h58 => ?_)
      refine CO.cutR (tl 123 [(2, .loc 101 0)]) [(101, .cells 114 [V.b (a0.Op == 0), V.b r32, V.b false, V.i 0, V.i 6])] mix (by
       refine W.run Dk 5 102 (by kernel_rfl) ?_
       refine W.call0 (AC.gs (mi_NameOk_ok N a0.Text hx65) (by decide)) cok120 rfl (by kernel_rfl) ?_
       refine W.run Dk 2 102 (by kernel_rfl) ?_
       exact W.fi (by kernel_rfl)
       ) ?_
      refine CO.ret ?_
      have h58 := Option.some.inj h58
      subst h58
      exact Ends.gen [] (.inr rfl) (RetV.one rfl (OneR.cell Dk (r := .agg [V.b (a0.Op == 0), V.b r32, V.b false, V.i 0, V.i 6]) (i := 101) (ety := 114) (cs := [V.b (a0.Op == 0), V.b r32, V.b false, V.i 0, V.i 6]) (by kernel_rfl) (by kernel_rfl) (by kernel_rfl))) (by kernel_rfl) (by kernel_rfl) (by kernel_rfl)
     refine CO.ifF hc63 (by kernel_rfl) ?_
     refine cu Dk mix 2 102 (tl 123 [(1, .loc 100 0), (2, .loc 101 0), (4, V.i a0.Kind), (59, V.b (a0.Kind == 8))]) [(100, .cells 48 [V.i a0.Kind, V.i a0.Op, V.s a0.Text, V.s a0.Other, .sl false false (a0.Kids.map encI)]), (101, .cells 114 [V.b false, V.b false, V.b false, V.i 0, V.i 0])] (by kernel_rfl) ?_
     (revert h58; refine cR (fun hc66 h58 => ?_) (fun hc66 h58 => ?_))
     ·refine CO.ifT hc66 (by kernel_rfl) ?_
      (revert h58; refine bR fun r34 hx68 h58 => ?_)
      refine CO.cutR (tl 123 [(2, .loc 101 0)]) [(101, .cells 114 [V.b (a0.Op == 0), V.b r34, V.b false, V.i 0, V.i 6])] mix (by
       refine W.run Dk 5 102 (by kernel_rfl) ?_
       refine W.call0 (AC.gs (mi_IsBuiltin_ok N a0.Text hx68) (by decide)) cok122 rfl (by kernel_rfl) ?_
       refine W.run Dk 2 102 (by kernel_rfl) ?_
       exact W.fi (by kernel_rfl)
       ) ?_
      refine CO.ret ?_
      have h58 := Option.some.inj h58
      subst h58
      exact Ends.gen [] (.inr rfl) (RetV.one rfl (OneR.cell Dk (r := .agg [V.b (a0.Op == 0), V.b r34, V.b false, V.i 0, V.i 6]) (i := 101) (ety := 114) (cs := [V.b (a0.Op == 0), V.b r34, V.b false, V.i 0, V.i 6]) (by kernel_rfl) (by kernel_rfl) (by kernel_rfl))) (by kernel_rfl) (by kernel_rfl) (by kernel_rfl)
     refine CO.ifF hc66 (by kernel_rfl) ?_
     refine CO.join (fun (⟨a0, y35⟩ : (SNode × Bool)) => ⟨tl 123 [(1, .loc 100 0), (2, .loc 101 0), (4, V.i a0.Kind), (68, V.b y35)], [(100, .cells 48 [V.i a0.Kind, V.i a0.Op, V.s a0.Text, V.s a0.Other, .sl false false (a0.Kids.map encI)]), (101, .cells 114 [V.b false, V.b false, V.b false, V.i 0, V.i 0])]⟩) (fun i => mi_exprForm_k3 N i = some r) ?_ ?_
     · rintro ⟨a0, y35⟩ h70
       rw [mi_exprForm_k3] at h70
       (revert h70; refine cR (fun hc71 h70 => ?_) (fun hc71 h70 => ?_))
       ·refine CO.ifT hc71 (by kernel_rfl) ?_
        (revert h70; refine bR fun r37 hx73 h70 => ?_)
        refine CO.cutR (tl 123 [(2, .loc 101 0)]) [(101, .cells 114 [V.b r37, V.b (a0.Text == []), V.b false, V.i 1, V.i 1])] mix (by
         refine W.run Dk 2 102 (by kernel_rfl) ?_
         refine W.call0 (AC.gs (mi_isStep_ok a0.Op hx73) (by decide)) cok123 rfl (by kernel_rfl) ?_
         refine W.run Dk 5 102 (by kernel_rfl) ?_
         exact W.fi (by kernel_rfl)
         ) ?_
        refine CO.ret ?_
        have h70 := Option.some.inj h70
        subst h70
        exact Ends.gen [] (.inr rfl) (RetV.one rfl (OneR.cell Dk (r := .agg [V.b r37, V.b (a0.Text == []), V.b false, V.i 1, V.i 1]) (i := 101) (ety := 114) (cs := [V.b r37, V.b (a0.Text == []), V.b false, V.i 1, V.i 1]) (by kernel_rfl) (by kernel_rfl) (by kernel_rfl))) (by kernel_rfl) (by kernel_rfl) (by kernel_rfl)
       refine CO.ifF hc71 (by kernel_rfl) ?_
       refine cu Dk mix 2 102 (tl 123 [(1, .loc 100 0), (2, .loc 101 0), (4, V.i a0.Kind), (78, V.b (a0.Kind == 11))]) [(100, .cells 48 [V.i a0.Kind, V.i a0.Op, V.s a0.Text, V.s a0.Other, .sl false false (a0.Kids.map encI)]), (101, .cells 114 [V.b false, V.b false, V.b false, V.i 0, V.i 0])] (by kernel_rfl) ?_
       (revert h70; refine cR (fun hc74 h70 => ?_) (fun hc74 h70 => ?_))
       ·refine CO.ifT hc74 (by kernel_rfl) ?_
        (revert h70; refine bR fun y38 hv77 h70 => ?_)
        refine CO.cutR (tl 123 [(2, .loc 100 0)]) [(100, .cells 114 [V.b y38, V.b (a0.Text == []), V.b false, V.i 1, V.i 1])] mix (by
         refine W.run Dk 4 102 (by kernel_rfl) ?_
         (revert hv77; refine cR (fun hc78 hv77 => ?_) (fun hc78 hv77 => ?_))
         ·refine W.is 83 hc78 (by kernel_rfl) ?_
          refine W.run Dk 14 102 (by kernel_rfl) ?_
          have hv77 := Option.some.inj hv77
          subst hv77
          exact W.fs [(101, 100)] [2] (by kernel_rfl)
         refine W.is 83 hc78 (by kernel_rfl) ?_
         refine W.run Dk 5 102 (by kernel_rfl) ?_
         (revert hv77; refine cR (fun hc79 hv77 => ?_) (fun hc79 hv77 => ?_))
         ·refine W.is 88 hc79 (by kernel_rfl) ?_
          refine W.run Dk 9 102 (by kernel_rfl) ?_
          have hv77 := Option.some.inj hv77
          subst hv77
          exact W.fs [(101, 100)] [2] (by kernel_rfl)
         refine W.is 88 hc79 (by kernel_rfl) ?_
         refine W.run Dk 9 102 (by kernel_rfl) ?_
         have hv77 := Option.some.inj hv77
         subst hv77
         exact W.fs [(101, 100)] [2] (by kernel_rfl)
         ) ?_
        refine CO.ret ?_
        have h70 := Option.some.inj h70
        subst h70
        exact Ends.gen [] (.inr rfl) (RetV.one rfl (OneR.cell Dk (r := .agg [V.b y38, V.b (a0.Text == []), V.b false, V.i 1, V.i 1]) (i := 100) (ety := 114) (cs := [V.b y38, V.b (a0.Text == []), V.b false, V.i 1, V.i 1]) (by kernel_rfl) (by kernel_rfl) (by kernel_rfl))) (by kernel_rfl) (by kernel_rfl) (by kernel_rfl)
       refine CO.ifF hc74 (by kernel_rfl) ?_
       refine cu Dk mix 2 102 (tl 123 [(1, .loc 100 0), (2, .loc 101 0), (4, V.i a0.Kind), (97, V.b (a0.Kind == 12))]) [(100, .cells 48 [V.i a0.Kind, V.i a0.Op, V.s a0.Text, V.s a0.Other, .sl false false (a0.Kids.map encI)]), (101, .cells 114 [V.b false, V.b false, V.b false, V.i 0, V.i 0])] (by kernel_rfl) ?_
       (revert h70; refine cR (fun hc80 h70 => ?_) (fun hc80 h70 => ?_))
       ·refine CO.ifT hc80 (by kernel_rfl) ?_
        (revert h70; refine bR fun r40 hx82 h70 => ?_)
        refine CO.cutR (tl 123 [(2, .loc 101 0)]) [(101, .cells 114 [V.b (r40 != 0), V.b (a0.Text == []), V.b false, V.i 2, V.i 2])] mix (by
         refine W.run Dk 2 102 (by kernel_rfl) ?_
         refine W.call0 (AC.gs (mi_OpLevel_ok a0.Op hx82) (by decide)) cok124 rfl (by kernel_rfl) ?_
         refine W.run Dk 6 102 (by kernel_rfl) ?_
         exact W.fi (by kernel_rfl)
         ) ?_
        refine CO.ret ?_
        have h70 := Option.some.inj h70
        subst h70
        exact Ends.gen [] (.inr rfl) (RetV.one rfl (OneR.cell Dk (r := .agg [V.b (r40 != 0), V.b (a0.Text == []), V.b false, V.i 2, V.i 2]) (i := 101) (ety := 114) (cs := [V.b (r40 != 0), V.b (a0.Text == []), V.b false, V.i 2, V.i 2]) (by kernel_rfl) (by kernel_rfl) (by kernel_rfl))) (by kernel_rfl) (by kernel_rfl) (by kernel_rfl)
       refine CO.ifF hc80 (by kernel_rfl) ?_
       refine cu Dk mix 2 102 (tl 123 [(1, .loc 100 0), (2, .loc 101 0), (107, V.b (a0.Kind == 14))]) [(100, .cells 48 [V.i a0.Kind, V.i a0.Op, V.s a0.Text, V.s a0.Other, .sl false false (a0.Kids.map encI)]), (101, .cells 114 [V.b false, V.b false, V.b false, V.i 0, V.i 0])] (by kernel_rfl) ?_
       (revert h70; refine cR (fun hc83 h70 => ?_) (fun hc83 h70 => ?_))
       ·refine CO.ifT hc83 (by kernel_rfl) ?_
        refine cu Dk mix 8 102 (tl 123 [(2, .loc 101 0)]) [(101, .cells 114 [V.b (a0.Op == 0), V.b (a0.Text == []), V.b false, V.i 3, V.i 3])] (by kernel_rfl) ?_
        refine CO.ret ?_
        have h70 := Option.some.inj h70
        subst h70
        exact Ends.gen [] (.inr rfl) (RetV.one rfl (OneR.cell Dk (r := .agg [V.b (a0.Op == 0), V.b (a0.Text == []), V.b false, V.i 3, V.i 3]) (i := 101) (ety := 114) (cs := [V.b (a0.Op == 0), V.b (a0.Text == []), V.b false, V.i 3, V.i 3]) (by kernel_rfl) (by kernel_rfl) (by kernel_rfl))) (by kernel_rfl) (by kernel_rfl) (by kernel_rfl)
       refine CO.ifF hc83 (by kernel_rfl) ?_
       refine CO.skip ?_
       (revert h70; refine bR fun r42 hx85 h70 => ?_)
       refine CO.cutR (tl 123 [(2, .loc 101 0)]) [(101, .cells 114 [V.b r42, V.b (a0.Text == []), V.b false, V.i 2, V.i 2])] mix (by
        refine W.run Dk 2 102 (by kernel_rfl) ?_
        refine W.call0 (AC.gs (mi_isAssign_ok a0.Op hx85) (by decide)) cok125 rfl (by kernel_rfl) ?_
        refine W.run Dk 5 102 (by kernel_rfl) ?_
        exact W.fi (by kernel_rfl)
        ) ?_
       refine CO.ret ?_
       have h70 := Option.some.inj h70
       subst h70
       exact Ends.gen [] (.inr rfl) (RetV.one rfl (OneR.cell Dk (r := .agg [V.b r42, V.b (a0.Text == []), V.b false, V.i 2, V.i 2]) (i := 101) (ety := 114) (cs := [V.b r42, V.b (a0.Text == []), V.b false, V.i 2, V.i 2]) (by kernel_rfl) (by kernel_rfl) (by kernel_rfl))) (by kernel_rfl) (by kernel_rfl) (by kernel_rfl)
     intro hk86
     refine cu Dk mix 2 102 (tl 123 [(1, .loc 100 0), (2, .loc 101 0), (4, V.i a0.Kind), (68, V.b (a0.Kind == 9))]) [(100, .cells 48 [V.i a0.Kind, V.i a0.Op, V.s a0.Text, V.s a0.Other, .sl false false (a0.Kids.map encI)]), (101, .cells 114 [V.b false, V.b false, V.b false, V.i 0, V.i 0])] (by kernel_rfl) ?_
     (revert h58; refine cR (fun hc87 h58 => ?_) (fun hc87 h58 => ?_))
     ·refine CO.ifT hc87 (by kernel_rfl) ?_
      refine CO.skip ?_
      exact hk86 (a0, (a0.Kind == 9)) h58 _ (Weak.sel [(100, 100), (101, 101)] [1, 2, 4, 68] (by kernel_rfl) (by kernel_rfl) (by kernel_rfl))
     refine CO.ifF hc87 (by kernel_rfl) ?_
     refine ce Dk mix 2 102 (tl 123 [(1, .loc 100 0), (2, .loc 101 0), (4, V.i a0.Kind), (68, V.b (a0.Kind == 10))]) [(100, .cells 48 [V.i a0.Kind, V.i a0.Op, V.s a0.Text, V.s a0.Other, .sl false false (a0.Kids.map encI)]), (101, .cells 114 [V.b false, V.b false, V.b false, V.i 0, V.i 0])] (by kernel_rfl) (fun st hw => ?_)
     exact hk86 (a0, (a0.Kind == 10)) h58 _ (hw.trans (Weak.sel [(100, 100), (101, 101)] [1, 2, 4, 68] (by kernel_rfl) (by kernel_rfl) (by kernel_rfl)))
   intro hk88
   refine cu Dk mix 2 102 (tl 123 [(1, .loc 100 0), (2, .loc 101 0), (4, V.i a0.Kind), (31, V.b (a0.Kind == 5))]) [(100, .cells 48 [V.i a0.Kind, V.i a0.Op, V.s a0.Text, V.s a0.Other, .sl false false (a0.Kids.map encI)]), (101, .cells 114 [V.b false, V.b false, V.b false, V.i 0, V.i 0])] (by kernel_rfl) ?_
   (revert h51; refine cR (fun hc89 h51 => ?_) (fun hc89 h51 => ?_))
   ·refine CO.ifT hc89 (by kernel_rfl) ?_
    refine CO.skip ?_
    exact hk88 (a0, (a0.Kind == 5)) h51 _ (Weak.sel [(100, 100), (101, 101)] [1, 2, 4, 31] (by kernel_rfl) (by kernel_rfl) (by kernel_rfl))
   refine CO.ifF hc89 (by kernel_rfl) ?_
   refine ce Dk mix 2 102 (tl 123 [(1, .loc 100 0), (2, .loc 101 0), (4, V.i a0.Kind), (31, V.b (a0.Kind == 13))]) [(100, .cells 48 [V.i a0.Kind, V.i a0.Op, V.s a0.Text, V.s a0.Other, .sl false false (a0.Kids.map encI)]), (101, .cells 114 [V.b false, V.b false, V.b false, V.i 0, V.i 0])] (by kernel_rfl) (fun st hw => ?_)
   exact hk88 (a0, (a0.Kind == 13)) h51 _ (hw.trans (Weak.sel [(100, 100), (101, 101)] [1, 2, 4, 31] (by kernel_rfl) (by kernel_rfl) (by kernel_rfl)))
 intro hk90
 refine cu Dk mix 2 102 (tl 123 [(1, .loc 100 0), (2, .loc 101 0), (4, V.i a0.Kind), (14, V.b (a0.Kind == 2))]) [(101, .cells 114 [V.b false, V.b false, V.b false, V.i 0, V.i 0]), (100, .cells 48 [V.i a0.Kind, V.i a0.Op, V.s a0.Text, V.s a0.Other, .sl false false (a0.Kids.map encI)])] (by kernel_rfl) ?_
 (revert h; refine cR (fun hc91 h => ?_) (fun hc91 h => ?_))
 ·refine CO.ifT hc91 (by kernel_rfl) ?_
  refine CO.skip ?_
  exact hk90 (a0, (a0.Kind == 2)) h _ (Weak.sel [(100, 100), (101, 101)] [1, 2, 4, 14] (by kernel_rfl) (by kernel_rfl) (by kernel_rfl))
 refine CO.ifF hc91 (by kernel_rfl) ?_
 refine cu Dk mix 2 102 (tl 123 [(1, .loc 100 0), (2, .loc 101 0), (4, V.i a0.Kind), (14, V.b (a0.Kind == 3))]) [(101, .cells 114 [V.b false, V.b false, V.b false, V.i 0, V.i 0]), (100, .cells 48 [V.i a0.Kind, V.i a0.Op, V.s a0.Text, V.s a0.Other, .sl false false (a0.Kids.map encI)])] (by kernel_rfl) ?_
 (revert h; refine cR (fun hc92 h => ?_) (fun hc92 h => ?_))
 ·refine CO.ifT hc92 (by kernel_rfl) ?_
  refine CO.skip ?_
  exact hk90 (a0, (a0.Kind == 3)) h _ (Weak.sel [(100, 100), (101, 101)] [1, 2, 4, 14] (by kernel_rfl) (by kernel_rfl) (by kernel_rfl))
 refine CO.ifF hc92 (by kernel_rfl) ?_
 refine ce Dk mix 2 102 (tl 123 [(1, .loc 100 0), (2, .loc 101 0), (4, V.i a0.Kind), (14, V.b (a0.Kind == 4))]) [(101, .cells 114 [V.b false, V.b false, V.b false, V.i 0, V.i 0]), (100, .cells 48 [V.i a0.Kind, V.i a0.Op, V.s a0.Text, V.s a0.Other, .sl false false (a0.Kids.map encI)])] (by kernel_rfl) (fun st hw => ?_)
 exact hk90 (a0, (a0.Kind == 4)) h _ (hw.trans (Weak.sel [(100, 100), (101, 101)] [1, 2, 4, 14] (by kernel_rfl) (by kernel_rfl) (by kernel_rfl)))

theorem mi_IsStmt_ok (a0 : Int) {r : Bool} (h : mi_IsStmt a0 = some r) :
    AC Tryz.prog (GS []) 106 [V.i a0] [] (V.b r) [] := by
 rw [mi_IsStmt] at h
 refine AC.enter Tryz.func106 rfl ?_
 refine cu Dk mix 1 100 (tl 5 [(0, V.i a0)]) [] (by kernel_rfl) ?_
 (revert h; refine bR fun r2 hx2 h => ?_)
 refine CO.cutR (tl 5 [(2, V.b r2)]) [] mix (by
  refine W.run Dk 1 100 (by kernel_rfl) ?_
  refine W.call0 (mi_within_ok a0 20 34 hx2) cok55 rfl (by kernel_rfl) ?_
  refine W.run Dk 1 100 (by kernel_rfl) ?_
  exact W.fi (by kernel_rfl)
  ) ?_
 refine CO.ret ?_
 have h := Option.some.inj h
 subst h
 exact Ends.gen [] (.inr rfl) (RetV.one rfl (OneR.t (t := 2) (r := V.b r2) (by kernel_rfl))) (by kernel_rfl) (by kernel_rfl) (by kernel_rfl)

theorem mi_stmtForm_ok (N : Nat) (a0 : SNode) {r : SForm} (h : mi_stmtForm N a0 = some r) :
    AC Tryz.prog (GS [0, 1, 2]) 107 [.agg [V.i a0.Kind, V.i a0.Op, V.s a0.Text, V.s a0.Other, .sl false false (a0.Kids.map encI)]] [] (.agg [V.b r.op, V.b r.text, V.b r.other, V.i r.least, V.i r.most]) [] := by
 rw [mi_stmtForm] at h
 refine AC.enter Tryz.func107 rfl ?_
 refine cu Dk mix 2 100 (tl 98 [(1, .loc 100 0), (2, .loc 101 0)]) [(101, .cells 114 [V.b false, V.b false, V.b false, V.i 0, V.i 0]), (100, .cells 48 [V.i a0.Kind, V.i a0.Op, V.s a0.Text, V.s a0.Other, .sl false false (a0.Kids.map encI)])] (by kernel_rfl) ?_
 refine cu Dk mix 12 102 (tl 98 [(1, .loc 100 0), (2, .loc 101 0), (3, .loc 102 0)]) [(102, .cells 114 [V.b (a0.Op == 0), V.b (a0.Text == []), V.b (a0.Other == []), V.i 0, V.i 0]), (101, .cells 114 [V.b false, V.b false, V.b false, V.i 0, V.i 0]), (100, .cells 48 [V.i a0.Kind, V.i a0.Op, V.s a0.Text, V.s a0.Other, .sl false false (a0.Kids.map encI)])] (by kernel_rfl) ?_
 refine CO.join (fun (⟨y14, y15, y16, y17, y18⟩ : (Bool × Bool × Bool × Int × Int)) => ⟨tl 98 [(2, .loc 100 0), (3, .loc 101 0)], [(100, .cells 114 [V.b false, V.b false, V.b false, V.i 0, V.i 0]), (101, .cells 114 [V.b y14, V.b y15, V.b y16, V.i y17, V.i y18])]⟩) (fun i => mi_stmtForm_k1 N i = some r) ?_ ?_
 · rintro ⟨y14, y15, y16, y17, y18⟩ h33
   rw [mi_stmtForm_k1] at h33
   refine cu Dk mix 2 104 (tl 98 [(2, .loc 100 0)]) [(100, .cells 114 [V.b y14, V.b y15, V.b y16, V.i y17, V.i y18])] (by kernel_rfl) ?_
   refine CO.ret ?_
   have h33 := Option.some.inj h33
   subst h33
   exact Ends.gen [] (.inr rfl) (RetV.one rfl (OneR.cell Dk (r := .agg [V.b y14, V.b y15, V.b y16, V.i y17, V.i y18]) (i := 100) (ety := 114) (cs := [V.b y14, V.b y15, V.b y16, V.i y17, V.i y18]) (by kernel_rfl) (by kernel_rfl) (by kernel_rfl))) (by kernel_rfl) (by kernel_rfl) (by kernel_rfl)
 intro hk34
 refine cu Dk mix 2 103 (tl 98 [(1, .loc 100 0), (2, .loc 101 0), (3, .loc 102 0), (15, V.i a0.Kind)]) [(102, .cells 114 [V.b (a0.Op == 0), V.b (a0.Text == []), V.b (a0.Other == []), V.i 0, V.i 0]), (101, .cells 114 [V.b false, V.b false, V.b false, V.i 0, V.i 0]), (100, .cells 48 [V.i a0.Kind, V.i a0.Op, V.s a0.Text, V.s a0.Other, .sl false false (a0.Kids.map encI)])] (by kernel_rfl) ?_
 refine CO.block' ?_
 refine cu Dk mix 2 103 (tl 98 [(1, .loc 100 0), (2, .loc 101 0), (3, .loc 102 0), (15, V.i a0.Kind), (16, V.b (a0.Kind == 20))]) [(102, .cells 114 [V.b (a0.Op == 0), V.b (a0.Text == []), V.b (a0.Other == []), V.i 0, V.i 0]), (101, .cells 114 [V.b false, V.b false, V.b false, V.i 0, V.i 0]), (100, .cells 48 [V.i a0.Kind, V.i a0.Op, V.s a0.Text, V.s a0.Other, .sl false false (a0.Kids.map encI)])] (by kernel_rfl) ?_
 (revert h; refine cR (fun hc35 h => ?_) (fun hc35 h => ?_))
 ·refine CO.ifT hc35 (by kernel_rfl) ?_
  refine ce Dk mix 4 103 (tl 98 [(2, .loc 101 0), (3, .loc 102 0)]) [(102, .cells 114 [V.b (a0.Op == 0), V.b (a0.Text == []), V.b (a0.Other == []), V.i 1, V.i 1]), (101, .cells 114 [V.b false, V.b false, V.b false, V.i 0, V.i 0])] (by kernel_rfl) (fun st hw => ?_)
  exact hk34 ((a0.Op == 0), (a0.Text == []), (a0.Other == []), 1, 1) h _ (hw.trans (Weak.sel [(101, 100), (102, 101)] [2, 3] (by kernel_rfl) (by kernel_rfl) (by kernel_rfl)))
 refine CO.ifF hc35 (by kernel_rfl) ?_
 refine cu Dk mix 2 103 (tl 98 [(1, .loc 100 0), (2, .loc 101 0), (3, .loc 102 0), (15, V.i a0.Kind), (20, V.b (a0.Kind == 21))]) [(102, .cells 114 [V.b (a0.Op == 0), V.b (a0.Text == []), V.b (a0.Other == []), V.i 0, V.i 0]), (101, .cells 114 [V.b false, V.b false, V.b false, V.i 0, V.i 0]), (100, .cells 48 [V.i a0.Kind, V.i a0.Op, V.s a0.Text, V.s a0.Other, .sl false false (a0.Kids.map encI)])] (by kernel_rfl) ?_
 (revert h; refine cR (fun hc36 h => ?_) (fun hc36 h => ?_))
 ·refine CO.ifT hc36 (by kernel_rfl) ?_
  (revert h; refine bR fun y19 hv38 h => ?_)
  refine CO.cutR (tl 98 [(1, .loc 100 0), (2, .loc 101 0), (3, .loc 102 0)]) [(100, .cells 48 [V.i a0.Kind, V.i a0.Op, V.s a0.Text, V.s a0.Other, .sl false false (a0.Kids.map encI)]), (101, .cells 114 [V.b false, V.b false, V.b false, V.i 0, V.i 0]), (102, .cells 114 [V.b y19, V.b (a0.Text == []), V.b (a0.Other == []), V.i 0, V.i 0])] mix (by
   refine W.run Dk 4 103 (by kernel_rfl) ?_
   (revert hv38; refine cR (fun hc39 hv38 => ?_) (fun hc39 hv38 => ?_))
   ·refine W.is 25 hc39 (by kernel_rfl) ?_
    refine W.run Dk 6 103 (by kernel_rfl) ?_
    have hv38 := Option.some.inj hv38
    subst hv38
    exact W.fs [(100, 100), (101, 101), (102, 102)] [1, 2, 3] (by kernel_rfl)
   refine W.is 25 hc39 (by kernel_rfl) ?_
   refine W.run Dk 6 103 (by kernel_rfl) ?_
   have hv38 := Option.some.inj hv38
   subst hv38
   exact W.fs [(100, 100), (101, 101), (102, 102)] [1, 2, 3] (by kernel_rfl)
   ) ?_
  (revert h; refine bR fun r21 hx41 h => ?_)
  refine CO.cutR (tl 98 [(1, .loc 100 0), (2, .loc 101 0), (3, .loc 102 0)]) [(102, .cells 114 [V.b y19, V.b (a0.Text == []), V.b r21, V.i 0, V.i 0]), (100, .cells 48 [V.i a0.Kind, V.i a0.Op, V.s a0.Text, V.s a0.Other, .sl false false (a0.Kids.map encI)]), (101, .cells 114 [V.b false, V.b false, V.b false, V.i 0, V.i 0])] mix (by
   refine W.run Dk 3 103 (by kernel_rfl) ?_
   refine W.lend (AC.gs (m_slices_Contains_string_ok N [[], [62], [62, 62], [124]] a0.Other hx41) (by decide)) cok126 [] [] (LayOk.cons (j := 103) encS encS ([[], [62], [62, 62], [124]] : List (List UInt8)) (by kernel_rfl) (fun _ => rfl) (show LayOk _ [] from trivial)) (.c _) .nil (by kernel_rfl) (by kernel_rfl) ?_
   refine W.run Dk 2 104 (by kernel_rfl) ?_
   exact W.fi (by kernel_rfl)
   ) ?_
  refine cu Dk mix 6 104 (tl 98 [(1, .loc 100 0), (2, .loc 101 0), (3, .loc 102 0)]) [(102, .cells 114 [V.b y19, V.b (a0.Text == []), V.b r21, V.i a0.Op, V.i 6]), (100, .cells 48 [V.i a0.Kind, V.i a0.Op, V.s a0.Text, V.s a0.Other, .sl false false (a0.Kids.map encI)]), (101, .cells 114 [V.b false, V.b false, V.b false, V.i 0, V.i 0])] (by kernel_rfl) ?_
  refine cu Dk mix 3 104 (tl 98 [(2, .loc 101 0), (3, .loc 102 0), (42, V.b (!(a0.Other == [])))]) [(102, .cells 114 [V.b y19, V.b (a0.Text == []), V.b r21, V.i a0.Op, V.i 6]), (101, .cells 114 [V.b false, V.b false, V.b false, V.i 0, V.i 0])] (by kernel_rfl) ?_
  (revert h; refine cR (fun hc42 h => ?_) (fun hc42 h => ?_))
  ·refine CO.ifT hc42 (by kernel_rfl) ?_
   refine ce Dk mix 10 104 (tl 98 [(2, .loc 101 0), (3, .loc 102 0)]) [(102, .cells 114 [V.b y19, V.b (a0.Text == []), V.b r21, V.i (IntKind.wrap .i64 (a0.Op + 1)), V.i 7]), (101, .cells 114 [V.b false, V.b false, V.b false, V.i 0, V.i 0])] (by kernel_rfl) (fun st hw => ?_)
   exact hk34 (y19, (a0.Text == []), r21, (IntKind.wrap .i64 (a0.Op + 1)), 7) h _ (hw.trans (Weak.sel [(101, 100), (102, 101)] [2, 3] (by kernel_rfl) (by kernel_rfl) (by kernel_rfl)))
  refine CO.ifF hc42 (by kernel_rfl) ?_
  refine CO.skip ?_
  exact hk34 (y19, (a0.Text == []), r21, a0.Op, 6) h _ (Weak.sel [(101, 100), (102, 101)] [2, 3] (by kernel_rfl) (by kernel_rfl) (by kernel_rfl))
 refine CO.ifF hc36 (by kernel_rfl) ?_
 refine CO.join (fun (⟨a0, y22⟩ : (SNode × Bool)) => ⟨tl 98 [(1, .loc 100 0), (2, .loc 101 0), (3, .loc 102 0), (15, V.i a0.Kind), (51, V.b y22)], [(100, .cells 48 [V.i a0.Kind, V.i a0.Op, V.s a0.Text, V.s a0.Other, .sl false false (a0.Kids.map encI)]), (101, .cells 114 [V.b false, V.b false, V.b false, V.i 0, V.i 0]), (102, .cells 114 [V.b (a0.Op == 0), V.b (a0.Text == []), V.b (a0.Other == []), V.i 0, V.i 0])]⟩) (fun i => mi_stmtForm_k2 N i = some r) ?_ ?_
 · rintro ⟨a0, y22⟩ h44
   rw [mi_stmtForm_k2] at h44
   (revert h44; refine cR (fun hc45 h44 => ?_) (fun hc45 h44 => ?_))
   ·refine CO.ifT hc45 (by kernel_rfl) ?_
    refine ce Dk mix 2 103 (tl 98 [(2, .loc 101 0), (3, .loc 102 0)]) [(102, .cells 114 [V.b (a0.Op == 0), V.b (a0.Text == []), V.b (a0.Other == []), V.i 0, V.i 1]), (101, .cells 114 [V.b false, V.b false, V.b false, V.i 0, V.i 0])] (by kernel_rfl) (fun st hw => ?_)
    exact hk34 ((a0.Op == 0), (a0.Text == []), (a0.Other == []), 0, 1) h44 _ (hw.trans (Weak.sel [(101, 100), (102, 101)] [2, 3] (by kernel_rfl) (by kernel_rfl) (by kernel_rfl)))
   refine CO.ifF hc45 (by kernel_rfl) ?_
   refine cu Dk mix 2 103 (tl 98 [(1, .loc 100 0), (2, .loc 101 0), (3, .loc 102 0), (15, V.i a0.Kind), (55, V.b (a0.Kind == 27))]) [(100, .cells 48 [V.i a0.Kind, V.i a0.Op, V.s a0.Text, V.s a0.Other, .sl false false (a0.Kids.map encI)]), (101, .cells 114 [V.b false, V.b false, V.b false, V.i 0, V.i 0]), (102, .cells 114 [V.b (a0.Op == 0), V.b (a0.Text == []), V.b (a0.Other == []), V.i 0, V.i 0])] (by kernel_rfl) ?_
   (revert h44; refine cR (fun hc46 h44 => ?_) (fun hc46 h44 => ?_))
   ·refine CO.ifT hc46 (by kernel_rfl) ?_
    (revert h44; refine bR fun r24 hx48 h44 => ?_)
    refine CO.endR (tl 98 [(2, .loc 101 0), (3, .loc 102 0)]) [(102, .cells 114 [V.b (a0.Op == 0), V.b r24, V.b (a0.Other == []), V.i 0, V.i 6]), (101, .cells 114 [V.b false, V.b false, V.b false, V.i 0, V.i 0])] mix (by
     refine W.run Dk 2 103 (by kernel_rfl) ?_
     refine W.call0 (AC.gs (mi_NameOk_ok N a0.Text hx48) (by decide)) cok120 rfl (by kernel_rfl) ?_
     refine W.run Dk 4 103 (by kernel_rfl) ?_
     exact W.fi (by kernel_rfl)
     ) (fun st hw => ?_)
    exact hk34 ((a0.Op == 0), r24, (a0.Other == []), 0, 6) h44 _ (hw.trans (Weak.sel [(101, 100), (102, 101)] [2, 3] (by kernel_rfl) (by kernel_rfl) (by kernel_rfl)))
   refine CO.ifF hc46 (by kernel_rfl) ?_
   refine cu Dk mix 2 103 (tl 98 [(1, .loc 100 0), (2, .loc 101 0), (3, .loc 102 0), (15, V.i a0.Kind), (62, V.b (a0.Kind == 28))]) [(100, .cells 48 [V.i a0.Kind, V.i a0.Op, V.s a0.Text, V.s a0.Other, .sl false false (a0.Kids.map encI)]), (101, .cells 114 [V.b false, V.b false, V.b false, V.i 0, V.i 0]), (102, .cells 114 [V.b (a0.Op == 0), V.b (a0.Text == []), V.b (a0.Other == []), V.i 0, V.i 0])] (by kernel_rfl) ?_
   (revert h44; refine cR (fun hc49 h44 => ?_) (fun hc49 h44 => ?_))
   ·refine CO.ifT hc49 (by kernel_rfl) ?_
    refine ce Dk mix 4 103 (tl 98 [(2, .loc 101 0), (3, .loc 102 0)]) [(102, .cells 114 [V.b (a0.Op == 0), V.b (a0.Text == []), V.b (a0.Other == []), V.i 2, V.i 3]), (101, .cells 114 [V.b false, V.b false, V.b false, V.i 0, V.i 0])] (by kernel_rfl) (fun st hw => ?_)
    exact hk34 ((a0.Op == 0), (a0.Text == []), (a0.Other == []), 2, 3) h44 _ (hw.trans (Weak.sel [(101, 100), (102, 101)] [2, 3] (by kernel_rfl) (by kernel_rfl) (by kernel_rfl)))
   refine CO.ifF hc49 (by kernel_rfl) ?_
   refine CO.join (fun (⟨a0, y25⟩ : (SNode × Bool)) => ⟨tl 98 [(1, .loc 100 0), (2, .loc 101 0), (3, .loc 102 0), (15, V.i a0.Kind), (66, V.b y25)], [(100, .cells 48 [V.i a0.Kind, V.i a0.Op, V.s a0.Text, V.s a0.Other, .sl false false (a0.Kids.map encI)]), (101, .cells 114 [V.b false, V.b false, V.b false, V.i 0, V.i 0]), (102, .cells 114 [V.b (a0.Op == 0), V.b (a0.Text == []), V.b (a0.Other == []), V.i 0, V.i 0])]⟩) (fun i => mi_stmtForm_k3 N i = some r) ?_ ?_
   · rintro ⟨a0, y25⟩ h51
     rw [mi_stmtForm_k3] at h51
     (revert h51; refine cR (fun hc52 h51 => ?_) (fun hc52 h51 => ?_))
     ·refine CO.ifT hc52 (by kernel_rfl) ?_
      refine ce Dk mix 4 103 (tl 98 [(2, .loc 101 0), (3, .loc 102 0)]) [(102, .cells 114 [V.b (a0.Op == 0), V.b (a0.Text == []), V.b (a0.Other == []), V.i 2, V.i 2]), (101, .cells 114 [V.b false, V.b false, V.b false, V.i 0, V.i 0])] (by kernel_rfl) (fun st hw => ?_)
      exact hk34 ((a0.Op == 0), (a0.Text == []), (a0.Other == []), 2, 2) h51 _ (hw.trans (Weak.sel [(101, 100), (102, 101)] [2, 3] (by kernel_rfl) (by kernel_rfl) (by kernel_rfl)))
     refine CO.ifF hc52 (by kernel_rfl) ?_
     refine cu Dk mix 2 103 (tl 98 [(1, .loc 100 0), (2, .loc 101 0), (3, .loc 102 0), (15, V.i a0.Kind), (71, V.b (a0.Kind == 31))]) [(100, .cells 48 [V.i a0.Kind, V.i a0.Op, V.s a0.Text, V.s a0.Other, .sl false false (a0.Kids.map encI)]), (101, .cells 114 [V.b false, V.b false, V.b false, V.i 0, V.i 0]), (102, .cells 114 [V.b (a0.Op == 0), V.b (a0.Text == []), V.b (a0.Other == []), V.i 0, V.i 0])] (by kernel_rfl) ?_
     (revert h51; refine cR (fun hc53 h51 => ?_) (fun hc53 h51 => ?_))
     ·refine CO.ifT hc53 (by kernel_rfl) ?_
      refine ce Dk mix 4 103 (tl 98 [(2, .loc 101 0), (3, .loc 102 0)]) [(102, .cells 114 [V.b (a0.Op == 0), V.b (a0.Text == []), V.b (a0.Other == []), V.i 4, V.i 4]), (101, .cells 114 [V.b false, V.b false, V.b false, V.i 0, V.i 0])] (by kernel_rfl) (fun st hw => ?_)
      exact hk34 ((a0.Op == 0), (a0.Text == []), (a0.Other == []), 4, 4) h51 _ (hw.trans (Weak.sel [(101, 100), (102, 101)] [2, 3] (by kernel_rfl) (by kernel_rfl) (by kernel_rfl)))
     refine CO.ifF hc53 (by kernel_rfl) ?_
     refine cu Dk mix 2 103 (tl 98 [(1, .loc 100 0), (2, .loc 101 0), (3, .loc 102 0), (15, V.i a0.Kind), (75, V.b (a0.Kind == 32))]) [(100, .cells 48 [V.i a0.Kind, V.i a0.Op, V.s a0.Text, V.s a0.Other, .sl false false (a0.Kids.map encI)]), (101, .cells 114 [V.b false, V.b false, V.b false, V.i 0, V.i 0]), (102, .cells 114 [V.b (a0.Op == 0), V.b (a0.Text == []), V.b (a0.Other == []), V.i 0, V.i 0])] (by kernel_rfl) ?_
     (revert h51; refine cR (fun hc54 h51 => ?_) (fun hc54 h51 => ?_))
     ·refine CO.ifT hc54 (by kernel_rfl) ?_
      (revert h51; refine bR fun r28 hx57 h51 => ?_)
      (revert h51; refine bR fun r29 hx58 h51 => ?_)
      refine CO.endR (tl 98 [(2, .loc 101 0), (3, .loc 102 0)]) [(102, .cells 114 [V.b (a0.Op == 0), V.b r28, V.b r29, V.i 1, V.i 1]), (101, .cells 114 [V.b false, V.b false, V.b false, V.i 0, V.i 0])] mix (by
       refine W.run Dk 2 103 (by kernel_rfl) ?_
       refine W.call0 (AC.gs (mi_NameOk_ok N a0.Text hx57) (by decide)) cok120 rfl (by kernel_rfl) ?_
       refine W.run Dk 2 103 (by kernel_rfl) ?_
       refine W.call0 (AC.gs (mi_NameOk_ok N a0.Other hx58) (by decide)) cok120 rfl (by kernel_rfl) ?_
       refine W.run Dk 8 103 (by kernel_rfl) ?_
       exact W.fi (by kernel_rfl)
       ) (fun st hw => ?_)
      exact hk34 ((a0.Op == 0), r28, r29, 1, 1) h51 _ (hw.trans (Weak.sel [(101, 100), (102, 101)] [2, 3] (by kernel_rfl) (by kernel_rfl) (by kernel_rfl)))
     refine CO.ifF hc54 (by kernel_rfl) ?_
     refine cu Dk mix 2 103 (tl 98 [(1, .loc 100 0), (2, .loc 101 0), (3, .loc 102 0), (15, V.i a0.Kind), (87, V.b (a0.Kind == 33))]) [(100, .cells 48 [V.i a0.Kind, V.i a0.Op, V.s a0.Text, V.s a0.Other, .sl false false (a0.Kids.map encI)]), (101, .cells 114 [V.b false, V.b false, V.b false, V.i 0, V.i 0]), (102, .cells 114 [V.b (a0.Op == 0), V.b (a0.Text == []), V.b (a0.Other == []), V.i 0, V.i 0])] (by kernel_rfl) ?_
     (revert h51; refine cR (fun hc59 h51 => ?_) (fun hc59 h51 => ?_))
     ·refine CO.ifT hc59 (by kernel_rfl) ?_
      refine ce Dk mix 2 103 (tl 98 [(2, .loc 101 0), (3, .loc 102 0)]) [(102, .cells 114 [V.b (a0.Op == 0), V.b (a0.Text == []), V.b (a0.Other == []), V.i 0, V.i 400]), (101, .cells 114 [V.b false, V.b false, V.b false, V.i 0, V.i 0])] (by kernel_rfl) (fun st hw => ?_)
      exact hk34 ((a0.Op == 0), (a0.Text == []), (a0.Other == []), 0, 400) h51 _ (hw.trans (Weak.sel [(101, 100), (102, 101)] [2, 3] (by kernel_rfl) (by kernel_rfl) (by kernel_rfl)))
     refine CO.ifF hc59 (by kernel_rfl) ?_
     refine cu Dk mix 2 103 (tl 98 [(1, .loc 100 0), (2, .loc 101 0), (3, .loc 102 0), (90, V.b (a0.Kind == 34))]) [(100, .cells 48 [V.i a0.Kind, V.i a0.Op, V.s a0.Text, V.s a0.Other, .sl false false (a0.Kids.map encI)]), (101, .cells 114 [V.b false, V.b false, V.b false, V.i 0, V.i 0]), (102, .cells 114 [V.b (a0.Op == 0), V.b (a0.Text == []), V.b (a0.Other == []), V.i 0, V.i 0])] (by kernel_rfl) ?_
     (revert h51; refine cR (fun hc60 h51 => ?_) (fun hc60 h51 => ?_))
     ·refine CO.ifT hc60 (by kernel_rfl) ?_
      (revert h51; refine bR fun r31 hx62 h51 => ?_)
      refine CO.endR (tl 98 [(2, .loc 101 0), (3, .loc 102 0)]) [(102, .cells 114 [V.b (a0.Op == 0), V.b r31, V.b (a0.Other == []), V.i 0, V.i 0]), (101, .cells 114 [V.b false, V.b false, V.b false, V.i 0, V.i 0])] mix (by
       refine W.run Dk 3 103 (by kernel_rfl) ?_
       refine W.call0 (mi_TokenOk_ok N (⟨2, a0.Text, 0⟩ : SToken) hx62) cok121 rfl (by kernel_rfl) ?_
       refine W.run Dk 2 103 (by kernel_rfl) ?_
       exact W.fi (by kernel_rfl)
       ) (fun st hw => ?_)
      exact hk34 ((a0.Op == 0), r31, (a0.Other == []), 0, 0) h51 _ (hw.trans (Weak.sel [(101, 100), (102, 101)] [2, 3] (by kernel_rfl) (by kernel_rfl) (by kernel_rfl)))
     refine CO.ifF hc60 (by kernel_rfl) ?_
     refine CO.skip ?_
     exact hk34 ((a0.Op == 0), (a0.Text == []), (a0.Other == []), 0, 0) h51 _ (Weak.sel [(101, 100), (102, 101)] [2, 3] (by kernel_rfl) (by kernel_rfl) (by kernel_rfl))
   intro hk63
   refine cu Dk mix 2 103 (tl 98 [(1, .loc 100 0), (2, .loc 101 0), (3, .loc 102 0), (15, V.i a0.Kind), (66, V.b (a0.Kind == 29))]) [(100, .cells 48 [V.i a0.Kind, V.i a0.Op, V.s a0.Text, V.s a0.Other, .sl false false (a0.Kids.map encI)]), (101, .cells 114 [V.b false, V.b false, V.b false, V.i 0, V.i 0]), (102, .cells 114 [V.b (a0.Op == 0), V.b (a0.Text == []), V.b (a0.Other == []), V.i 0, V.i 0])] (by kernel_rfl) ?_
   (revert h44; refine cR (fun hc64 h44 => ?_) (fun hc64 h44 => ?_))
   ·refine CO.ifT hc64 (by kernel_rfl) ?_
    refine CO.skip ?_
    exact hk63 (a0, (a0.Kind == 29)) h44 _ (Weak.sel [(100, 100), (101, 101), (102, 102)] [1, 2, 3, 15, 66] (by kernel_rfl) (by kernel_rfl) (by kernel_rfl))
   refine CO.ifF hc64 (by kernel_rfl) ?_
   refine ce Dk mix 2 103 (tl 98 [(1, .loc 100 0), (2, .loc 101 0), (3, .loc 102 0), (15, V.i a0.Kind), (66, V.b (a0.Kind == 30))]) [(100, .cells 48 [V.i a0.Kind, V.i a0.Op, V.s a0.Text, V.s a0.Other, .sl false false (a0.Kids.map encI)]), (101, .cells 114 [V.b false, V.b false, V.b false, V.i 0, V.i 0]), (102, .cells 114 [V.b (a0.Op == 0), V.b (a0.Text == []), V.b (a0.Other == []), V.i 0, V.i 0])] (by kernel_rfl) (fun st hw => ?_)
   exact hk63 (a0, (a0.Kind == 30)) h44 _ (hw.trans (Weak.sel [(100, 100), (101, 101), (102, 102)] [1, 2, 3, 15, 66] (by kernel_rfl) (by kernel_rfl) (by kernel_rfl)))
 intro hk65
 refine cu Dk mix 2 103 (tl 98 [(1, .loc 100 0), (2, .loc 101 0), (3, .loc 102 0), (15, V.i a0.Kind), (51, V.b (a0.Kind == 23))]) [(102, .cells 114 [V.b (a0.Op == 0), V.b (a0.Text == []), V.b (a0.Other == []), V.i 0, V.i 0]), (101, .cells 114 [V.b false, V.b false, V.b false, V.i 0, V.i 0]), (100, .cells 48 [V.i a0.Kind, V.i a0.Op, V.s a0.Text, V.s a0.Other, .sl false false (a0.Kids.map encI)])] (by kernel_rfl) ?_
 (revert h; refine cR (fun hc66 h => ?_) (fun hc66 h => ?_))
 ·refine CO.ifT hc66 (by kernel_rfl) ?_
  refine CO.skip ?_
  exact hk65 (a0, (a0.Kind == 23)) h _ (Weak.sel [(100, 100), (101, 101), (102, 102)] [1, 2, 3, 15, 51] (by kernel_rfl) (by kernel_rfl) (by kernel_rfl))
 refine CO.ifF hc66 (by kernel_rfl) ?_
 refine ce Dk mix 2 103 (tl 98 [(1, .loc 100 0), (2, .loc 101 0), (3, .loc 102 0), (15, V.i a0.Kind), (51, V.b (a0.Kind == 24))]) [(102, .cells 114 [V.b (a0.Op == 0), V.b (a0.Text == []), V.b (a0.Other == []), V.i 0, V.i 0]), (101, .cells 114 [V.b false, V.b false, V.b false, V.i 0, V.i 0]), (100, .cells 48 [V.i a0.Kind, V.i a0.Op, V.s a0.Text, V.s a0.Other, .sl false false (a0.Kids.map encI)])] (by kernel_rfl) (fun st hw => ?_)
 exact hk65 (a0, (a0.Kind == 24)) h _ (hw.trans (Weak.sel [(100, 100), (101, 101), (102, 102)] [1, 2, 3, 15, 51] (by kernel_rfl) (by kernel_rfl) (by kernel_rfl)))

theorem mi_itemForm_ok (N : Nat) (a0 : SNode) {r : SForm} (h : mi_itemForm N a0 = some r) :
    AC Tryz.prog (GS [0, 1]) 108 [.agg [V.i a0.Kind, V.i a0.Op, V.s a0.Text, V.s a0.Other, .sl false false (a0.Kids.map encI)]] [] (.agg [V.b r.op, V.b r.text, V.b r.other, V.i r.least, V.i r.most]) [] := by
 rw [mi_itemForm] at h
 refine AC.enter Tryz.func108 rfl ?_
 refine cu Dk mix 2 100 (tl 64 [(1, .loc 100 0), (2, .loc 101 0)]) [(101, .cells 114 [V.b false, V.b false, V.b false, V.i 0, V.i 0]), (100, .cells 48 [V.i a0.Kind, V.i a0.Op, V.s a0.Text, V.s a0.Other, .sl false false (a0.Kids.map encI)])] (by kernel_rfl) ?_
 refine cu Dk mix 12 102 (tl 64 [(1, .loc 100 0), (2, .loc 101 0), (3, .loc 102 0)]) [(102, .cells 114 [V.b (a0.Op == 0), V.b (a0.Text == []), V.b (a0.Other == []), V.i 0, V.i 0]), (101, .cells 114 [V.b false, V.b false, V.b false, V.i 0, V.i 0]), (100, .cells 48 [V.i a0.Kind, V.i a0.Op, V.s a0.Text, V.s a0.Other, .sl false false (a0.Kids.map encI)])] (by kernel_rfl) ?_
 refine CO.join (fun (⟨a0, y9, y10, y11, y12⟩ : (SNode × Bool × Bool × Int × Int)) => ⟨tl 64 [(2, .loc 100 0), (3, .loc 101 0)], [(100, .cells 114 [V.b false, V.b false, V.b false, V.i 0, V.i 0]), (101, .cells 114 [V.b y9, V.b y10, V.b (a0.Other == []), V.i y11, V.i y12])]⟩) (fun i => mi_itemForm_k1 N i = some r) ?_ ?_
 · rintro ⟨a0, y9, y10, y11, y12⟩ h24
   rw [mi_itemForm_k1] at h24
   refine cu Dk mix 2 103 (tl 64 [(2, .loc 100 0)]) [(100, .cells 114 [V.b y9, V.b y10, V.b (a0.Other == []), V.i y11, V.i y12])] (by kernel_rfl) ?_
   refine CO.ret ?_
   have h24 := Option.some.inj h24
   subst h24
   exact Ends.gen [] (.inr rfl) (RetV.one rfl (OneR.cell Dk (r := .agg [V.b y9, V.b y10, V.b (a0.Other == []), V.i y11, V.i y12]) (i := 100) (ety := 114) (cs := [V.b y9, V.b y10, V.b (a0.Other == []), V.i y11, V.i y12]) (by kernel_rfl) (by kernel_rfl) (by kernel_rfl))) (by kernel_rfl) (by kernel_rfl) (by kernel_rfl)
 intro hk25
 refine cu Dk mix 2 103 (tl 64 [(1, .loc 100 0), (2, .loc 101 0), (3, .loc 102 0), (15, V.i a0.Kind)]) [(102, .cells 114 [V.b (a0.Op == 0), V.b (a0.Text == []), V.b (a0.Other == []), V.i 0, V.i 0]), (101, .cells 114 [V.b false, V.b false, V.b false, V.i 0, V.i 0]), (100, .cells 48 [V.i a0.Kind, V.i a0.Op, V.s a0.Text, V.s a0.Other, .sl false false (a0.Kids.map encI)])] (by kernel_rfl) ?_
 refine CO.block' ?_
 refine CO.join (fun (⟨a0, y13⟩ : (SNode × Bool)) => ⟨tl 64 [(1, .loc 100 0), (2, .loc 101 0), (3, .loc 102 0), (15, V.i a0.Kind), (17, V.b y13)], [(100, .cells 48 [V.i a0.Kind, V.i a0.Op, V.s a0.Text, V.s a0.Other, .sl false false (a0.Kids.map encI)]), (101, .cells 114 [V.b false, V.b false, V.b false, V.i 0, V.i 0]), (102, .cells 114 [V.b (a0.Op == 0), V.b (a0.Text == []), V.b (a0.Other == []), V.i 0, V.i 0])]⟩) (fun i => mi_itemForm_k2 N i = some r) ?_ ?_
 · rintro ⟨a0, y13⟩ h27
   rw [mi_itemForm_k2] at h27
   (revert h27; refine cR (fun hc28 h27 => ?_) (fun hc28 h27 => ?_))
   ·refine CO.ifT hc28 (by kernel_rfl) ?_
    refine ce Dk mix 4 103 (tl 64 [(2, .loc 101 0), (3, .loc 102 0)]) [(102, .cells 114 [V.b (a0.Op == 0), V.b (a0.Text == []), V.b (a0.Other == []), V.i 1, V.i 1]), (101, .cells 114 [V.b false, V.b false, V.b false, V.i 0, V.i 0])] (by kernel_rfl) (fun st hw => ?_)
    exact hk25 (a0, (a0.Op == 0), (a0.Text == []), 1, 1) h27 _ (hw.trans (Weak.sel [(101, 100), (102, 101)] [2, 3] (by kernel_rfl) (by kernel_rfl) (by kernel_rfl)))
   refine CO.ifF hc28 (by kernel_rfl) ?_
   refine cu Dk mix 2 103 (tl 64 [(1, .loc 100 0), (2, .loc 101 0), (3, .loc 102 0), (15, V.i a0.Kind), (22, V.b (a0.Kind == 42))]) [(100, .cells 48 [V.i a0.Kind, V.i a0.Op, V.s a0.Text, V.s a0.Other, .sl false false (a0.Kids.map encI)]), (101, .cells 114 [V.b false, V.b false, V.b false, V.i 0, V.i 0]), (102, .cells 114 [V.b (a0.Op == 0), V.b (a0.Text == []), V.b (a0.Other == []), V.i 0, V.i 0])] (by kernel_rfl) ?_
   (revert h27; refine cR (fun hc29 h27 => ?_) (fun hc29 h27 => ?_))
   ·refine CO.ifT hc29 (by kernel_rfl) ?_
    (revert h27; refine bR fun r15 hx31 h27 => ?_)
    refine CO.cutR (tl 64 [(1, .loc 100 0), (2, .loc 101 0), (3, .loc 102 0)]) [(102, .cells 114 [V.b r15, V.b (a0.Text == []), V.b (a0.Other == []), V.i 1, V.i 0]), (100, .cells 48 [V.i a0.Kind, V.i a0.Op, V.s a0.Text, V.s a0.Other, .sl false false (a0.Kids.map encI)]), (101, .cells 114 [V.b false, V.b false, V.b false, V.i 0, V.i 0])] mix (by
     refine W.run Dk 2 103 (by kernel_rfl) ?_
     refine W.call0 (AC.gs (mi_within_ok a0.Op 1 3 hx31) (by decide)) cok55 rfl (by kernel_rfl) ?_
     refine W.run Dk 4 103 (by kernel_rfl) ?_
     exact W.fi (by kernel_rfl)
     ) ?_
    refine CO.join (fun (⟨r15, a0, y16⟩ : (Bool × SNode × Int)) => ⟨tl 64 [(2, .loc 100 0), (3, .loc 101 0)], [(100, .cells 114 [V.b false, V.b false, V.b false, V.i 0, V.i 0]), (101, .cells 114 [V.b r15, V.b (a0.Text == []), V.b (a0.Other == []), V.i y16, V.i 0])]⟩) (fun i => mi_itemForm_k3 N i = some r) ?_ ?_
    · rintro ⟨r15, a0, y16⟩ h33
      rw [mi_itemForm_k3] at h33
      refine ce Dk mix 4 103 (tl 64 [(2, .loc 100 0), (3, .loc 101 0)]) [(101, .cells 114 [V.b r15, V.b (a0.Text == []), V.b (a0.Other == []), V.i y16, V.i y16]), (100, .cells 114 [V.b false, V.b false, V.b false, V.i 0, V.i 0])] (by kernel_rfl) (fun st hw => ?_)
      exact hk25 (a0, r15, (a0.Text == []), y16, y16) h33 _ (hw.trans (Weak.sel [(100, 100), (101, 101)] [2, 3] (by kernel_rfl) (by kernel_rfl) (by kernel_rfl)))
    intro hk34
    refine cu Dk mix 3 103 (tl 64 [(2, .loc 101 0), (3, .loc 102 0), (31, V.b (a0.Op == 3))]) [(102, .cells 114 [V.b r15, V.b (a0.Text == []), V.b (a0.Other == []), V.i 1, V.i 0]), (101, .cells 114 [V.b false, V.b false, V.b false, V.i 0, V.i 0])] (by kernel_rfl) ?_
    (revert h27; refine cR (fun hc35 h27 => ?_) (fun hc35 h27 => ?_))
    ·refine CO.ifT hc35 (by kernel_rfl) ?_
     refine ce Dk mix 2 103 (tl 64 [(2, .loc 101 0), (3, .loc 102 0)]) [(102, .cells 114 [V.b r15, V.b (a0.Text == []), V.b (a0.Other == []), V.i 2, V.i 0]), (101, .cells 114 [V.b false, V.b false, V.b false, V.i 0, V.i 0])] (by kernel_rfl) (fun st hw => ?_)
     exact hk34 (r15, a0, 2) h27 _ (hw.trans (Weak.sel [(101, 100), (102, 101)] [2, 3] (by kernel_rfl) (by kernel_rfl) (by kernel_rfl)))
    refine CO.ifF hc35 (by kernel_rfl) ?_
    refine CO.skip ?_
    exact hk34 (r15, a0, 1) h27 _ (Weak.sel [(101, 100), (102, 101)] [2, 3] (by kernel_rfl) (by kernel_rfl) (by kernel_rfl))
   refine CO.ifF hc29 (by kernel_rfl) ?_
   refine cu Dk mix 2 103 (tl 64 [(1, .loc 100 0), (2, .loc 101 0), (3, .loc 102 0), (15, V.i a0.Kind), (36, V.b (a0.Kind == 43))]) [(100, .cells 48 [V.i a0.Kind, V.i a0.Op, V.s a0.Text, V.s a0.Other, .sl false false (a0.Kids.map encI)]), (101, .cells 114 [V.b false, V.b false, V.b false, V.i 0, V.i 0]), (102, .cells 114 [V.b (a0.Op == 0), V.b (a0.Text == []), V.b (a0.Other == []), V.i 0, V.i 0])] (by kernel_rfl) ?_
   (revert h27; refine cR (fun hc36 h27 => ?_) (fun hc36 h27 => ?_))
   ·refine CO.ifT hc36 (by kernel_rfl) ?_
    (revert h27; refine bR fun y17 hv38 h27 => ?_)
    refine CO.cutR (tl 64 [(1, .loc 100 0), (2, .loc 101 0), (3, .loc 102 0)]) [(100, .cells 48 [V.i a0.Kind, V.i a0.Op, V.s a0.Text, V.s a0.Other, .sl false false (a0.Kids.map encI)]), (101, .cells 114 [V.b false, V.b false, V.b false, V.i 0, V.i 0]), (102, .cells 114 [V.b y17, V.b (a0.Text == []), V.b (a0.Other == []), V.i 2, V.i 0])] mix (by
     refine W.run Dk 4 103 (by kernel_rfl) ?_
     (revert hv38; refine cR (fun hc39 hv38 => ?_) (fun hc39 hv38 => ?_))
     ·refine W.is 41 hc39 (by kernel_rfl) ?_
      refine W.run Dk 8 103 (by kernel_rfl) ?_
      have hv38 := Option.some.inj hv38
      subst hv38
      exact W.fs [(100, 100), (101, 101), (102, 102)] [1, 2, 3] (by kernel_rfl)
     refine W.is 41 hc39 (by kernel_rfl) ?_
     refine W.run Dk 8 103 (by kernel_rfl) ?_
     have hv38 := Option.some.inj hv38
     subst hv38
     exact W.fs [(100, 100), (101, 101), (102, 102)] [1, 2, 3] (by kernel_rfl)
     ) ?_
    refine CO.join (fun (⟨y17, a0, y18⟩ : (Bool × SNode × Int)) => ⟨tl 64 [(2, .loc 100 0), (3, .loc 101 0)], [(100, .cells 114 [V.b false, V.b false, V.b false, V.i 0, V.i 0]), (101, .cells 114 [V.b y17, V.b (a0.Text == []), V.b (a0.Other == []), V.i y18, V.i 0])]⟩) (fun i => mi_itemForm_k4 N i = some r) ?_ ?_
    · rintro ⟨y17, a0, y18⟩ h41
      rw [mi_itemForm_k4] at h41
      refine ce Dk mix 4 103 (tl 64 [(2, .loc 100 0), (3, .loc 101 0)]) [(101, .cells 114 [V.b y17, V.b (a0.Text == []), V.b (a0.Other == []), V.i y18, V.i y18]), (100, .cells 114 [V.b false, V.b false, V.b false, V.i 0, V.i 0])] (by kernel_rfl) (fun st hw => ?_)
      exact hk25 (a0, y17, (a0.Text == []), y18, y18) h41 _ (hw.trans (Weak.sel [(100, 100), (101, 101)] [2, 3] (by kernel_rfl) (by kernel_rfl) (by kernel_rfl)))
    intro hk42
    refine cu Dk mix 3 103 (tl 64 [(2, .loc 101 0), (3, .loc 102 0), (50, V.b (a0.Op == 3))]) [(101, .cells 114 [V.b false, V.b false, V.b false, V.i 0, V.i 0]), (102, .cells 114 [V.b y17, V.b (a0.Text == []), V.b (a0.Other == []), V.i 2, V.i 0])] (by kernel_rfl) ?_
    (revert h27; refine cR (fun hc43 h27 => ?_) (fun hc43 h27 => ?_))
    ·refine CO.ifT hc43 (by kernel_rfl) ?_
     refine ce Dk mix 2 103 (tl 64 [(2, .loc 101 0), (3, .loc 102 0)]) [(102, .cells 114 [V.b y17, V.b (a0.Text == []), V.b (a0.Other == []), V.i 3, V.i 0]), (101, .cells 114 [V.b false, V.b false, V.b false, V.i 0, V.i 0])] (by kernel_rfl) (fun st hw => ?_)
     exact hk42 (y17, a0, 3) h27 _ (hw.trans (Weak.sel [(101, 100), (102, 101)] [2, 3] (by kernel_rfl) (by kernel_rfl) (by kernel_rfl)))
    refine CO.ifF hc43 (by kernel_rfl) ?_
    refine CO.skip ?_
    exact hk42 (y17, a0, 2) h27 _ (Weak.sel [(101, 100), (102, 101)] [2, 3] (by kernel_rfl) (by kernel_rfl) (by kernel_rfl))
   refine CO.ifF hc36 (by kernel_rfl) ?_
   refine cu Dk mix 2 103 (tl 64 [(1, .loc 100 0), (2, .loc 101 0), (3, .loc 102 0), (55, V.b (a0.Kind == 44))]) [(100, .cells 48 [V.i a0.Kind, V.i a0.Op, V.s a0.Text, V.s a0.Other, .sl false false (a0.Kids.map encI)]), (101, .cells 114 [V.b false, V.b false, V.b false, V.i 0, V.i 0]), (102, .cells 114 [V.b (a0.Op == 0), V.b (a0.Text == []), V.b (a0.Other == []), V.i 0, V.i 0])] (by kernel_rfl) ?_
   (revert h27; refine cR (fun hc44 h27 => ?_) (fun hc44 h27 => ?_))
   ·refine CO.ifT hc44 (by kernel_rfl) ?_
    (revert h27; refine bR fun r20 hx46 h27 => ?_)
    refine CO.endR (tl 64 [(2, .loc 101 0), (3, .loc 102 0)]) [(102, .cells 114 [V.b (a0.Op == 0), V.b r20, V.b (a0.Other == []), V.i 1, V.i 7]), (101, .cells 114 [V.b false, V.b false, V.b false, V.i 0, V.i 0])] mix (by
     refine W.run Dk 2 103 (by kernel_rfl) ?_
     refine W.call0 (mi_NameOk_ok N a0.Text hx46) cok120 rfl (by kernel_rfl) ?_
     refine W.run Dk 6 103 (by kernel_rfl) ?_
     exact W.fi (by kernel_rfl)
     ) (fun st hw => ?_)
    exact hk25 (a0, (a0.Op == 0), r20, 1, 7) h27 _ (hw.trans (Weak.sel [(101, 100), (102, 101)] [2, 3] (by kernel_rfl) (by kernel_rfl) (by kernel_rfl)))
   refine CO.ifF hc44 (by kernel_rfl) ?_
   refine ce Dk mix 2 103 (tl 64 [(2, .loc 101 0), (3, .loc 102 0)]) [(102, .cells 114 [V.b (a0.Op == 0), V.b (a0.Text == []), V.b (a0.Other == []), V.i 0, V.i 400]), (101, .cells 114 [V.b false, V.b false, V.b false, V.i 0, V.i 0])] (by kernel_rfl) (fun st hw => ?_)
   exact hk25 (a0, (a0.Op == 0), (a0.Text == []), 0, 400) h27 _ (hw.trans (Weak.sel [(101, 100), (102, 101)] [2, 3] (by kernel_rfl) (by kernel_rfl) (by kernel_rfl)))
 intro hk47
 refine cu Dk mix 2 103 (tl 64 [(1, .loc 100 0), (2, .loc 101 0), (3, .loc 102 0), (15, V.i a0.Kind), (17, V.b (a0.Kind == 40))]) [(102, .cells 114 [V.b (a0.Op == 0), V.b (a0.Text == []), V.b (a0.Other == []), V.i 0, V.i 0]), (101, .cells 114 [V.b false, V.b false, V.b false, V.i 0, V.i 0]), (100, .cells 48 [V.i a0.Kind, V.i a0.Op, V.s a0.Text, V.s a0.Other, .sl false false (a0.Kids.map encI)])] (by kernel_rfl) ?_
 (revert h; refine cR (fun hc48 h => ?_) (fun hc48 h => ?_))
 ·refine CO.ifT hc48 (by kernel_rfl) ?_
  refine CO.skip ?_
  exact hk47 (a0, (a0.Kind == 40)) h _ (Weak.sel [(100, 100), (101, 101), (102, 102)] [1, 2, 3, 15, 17] (by kernel_rfl) (by kernel_rfl) (by kernel_rfl))
 refine CO.ifF hc48 (by kernel_rfl) ?_
 refine ce Dk mix 2 103 (tl 64 [(1, .loc 100 0), (2, .loc 101 0), (3, .loc 102 0), (15, V.i a0.Kind), (17, V.b (a0.Kind == 41))]) [(102, .cells 114 [V.b (a0.Op == 0), V.b (a0.Text == []), V.b (a0.Other == []), V.i 0, V.i 0]), (101, .cells 114 [V.b false, V.b false, V.b false, V.i 0, V.i 0]), (100, .cells 48 [V.i a0.Kind, V.i a0.Op, V.s a0.Text, V.s a0.Other, .sl false false (a0.Kids.map encI)])] (by kernel_rfl) (fun st hw => ?_)
 exact hk47 (a0, (a0.Kind == 41)) h _ (hw.trans (Weak.sel [(100, 100), (101, 101), (102, 102)] [1, 2, 3, 15, 17] (by kernel_rfl) (by kernel_rfl) (by kernel_rfl)))

theorem mi_FieldsOk_ok (N : Nat) (a0 : SNode) {r : Bool} (h : mi_FieldsOk N a0 = some r) :
    AC Tryz.prog (GS [0, 1, 2]) 76 [.agg [V.i a0.Kind, V.i a0.Op, V.s a0.Text, V.s a0.Other, .sl false false (a0.Kids.map encI)]] [] (V.b r) [] := by
 rw [mi_FieldsOk] at h
 refine AC.enter Tryz.func76 rfl ?_
 refine cu Dk mix 2 100 (tl 61 [(1, .loc 100 0)]) [(100, .cells 48 [V.i a0.Kind, V.i a0.Op, V.s a0.Text, V.s a0.Other, .sl false false (a0.Kids.map encI)])] (by kernel_rfl) ?_
 refine cu Dk mix 3 101 (tl 61 [(1, .loc 100 0), (3, .loc 101 0)]) [(101, .cells 114 [V.b false, V.b false, V.b false, V.i 0, V.i 0]), (100, .cells 48 [V.i a0.Kind, V.i a0.Op, V.s a0.Text, V.s a0.Other, .sl false false (a0.Kids.map encI)])] (by kernel_rfl) ?_
 refine CO.join (fun (⟨a0, y13, y14, y15, y16, y17⟩ : (SNode × Bool × Bool × Bool × Int × Int)) => ⟨tl 61 [(1, .loc 100 0), (3, .loc 101 0)], [(100, .cells 48 [V.i a0.Kind, V.i a0.Op, V.s a0.Text, V.s a0.Other, .sl false false (a0.Kids.map encI)]), (101, .cells 114 [V.b y13, V.b y14, V.b y15, V.i y16, V.i y17])]⟩) (fun i => mi_FieldsOk_k1 N i = some r) ?_ ?_
 · rintro ⟨a0, y13, y14, y15, y16, y17⟩ h17
   rw [mi_FieldsOk_k1] at h17
   (revert h17; refine bR fun y19 hv22 h17 => ?_)
   refine CO.cutR (tl 61 [(2, V.b y19)]) [] mix (by
    refine W.run Dk 3 102 (by kernel_rfl) ?_
    (revert hv22; refine cR (fun hc23 hv22 => ?_) (fun hc23 hv22 => ?_))
    ·refine W.is 43 hc23 (by kernel_rfl) ?_
     refine W.run Dk 4 102 (by kernel_rfl) ?_
     (revert hv22; refine cR (fun hc24 hv22 => ?_) (fun hc24 hv22 => ?_))
     ·refine W.is 47 hc24 (by kernel_rfl) ?_
      refine W.run Dk 4 102 (by kernel_rfl) ?_
      (revert hv22; refine cR (fun hc25 hv22 => ?_) (fun hc25 hv22 => ?_))
      ·refine W.is 51 hc25 (by kernel_rfl) ?_
       refine W.run Dk 2 102 (by kernel_rfl) ?_
       refine W.len Dk encI a0.Kids [] (by kernel_rfl) (by kernel_rfl) ?_
       refine W.run Dk 4 102 (by kernel_rfl) ?_
       (revert hv22; refine bR fun r20 hx26 hv22 => ?_)
       refine W.call0 (AC.gs (mi_within_ok (a0.Kids.length : Int) y16 y17 hx26) (by decide)) cok55 rfl (by kernel_rfl) ?_
       refine W.run Dk 2 102 (by kernel_rfl) ?_
       have hv22 := Option.some.inj hv22
       subst hv22
       exact W.fs [] [2] (by kernel_rfl)
      refine W.is 51 hc25 (by kernel_rfl) ?_
      refine W.run Dk 10 102 (by kernel_rfl) ?_
      have hv22 := Option.some.inj hv22
      subst hv22
      exact W.fs [] [2] (by kernel_rfl)
     refine W.is 47 hc24 (by kernel_rfl) ?_
     refine W.run Dk 14 102 (by kernel_rfl) ?_
     have hv22 := Option.some.inj hv22
     subst hv22
     exact W.fs [] [2] (by kernel_rfl)
    refine W.is 43 hc23 (by kernel_rfl) ?_
    refine W.run Dk 18 102 (by kernel_rfl) ?_
    have hv22 := Option.some.inj hv22
    subst hv22
    exact W.fs [] [2] (by kernel_rfl)
    ) ?_
   refine CO.ret ?_
   have h17 := Option.some.inj h17
   subst h17
   exact Ends.gen [] (.inr rfl) (RetV.one rfl (OneR.t (t := 2) (r := V.b y19) (by kernel_rfl))) (by kernel_rfl) (by kernel_rfl) (by kernel_rfl)
 intro hk27
 refine CO.block' ?_
 (revert h; refine bR fun r22 hx29 h => ?_)
 refine CO.cutR (tl 61 [(1, .loc 100 0), (3, .loc 101 0), (5, V.b r22)]) [(101, .cells 114 [V.b false, V.b false, V.b false, V.i 0, V.i 0]), (100, .cells 48 [V.i a0.Kind, V.i a0.Op, V.s a0.Text, V.s a0.Other, .sl false false (a0.Kids.map encI)])] mix (by
  refine W.run Dk 2 102 (by kernel_rfl) ?_
  refine W.call0 (AC.gs (mi_IsExpr_ok a0.Kind hx29) (by decide)) cok46 rfl (by kernel_rfl) ?_
  refine W.run Dk 1 102 (by kernel_rfl) ?_
  exact W.fi (by kernel_rfl)
  ) ?_
 (revert h; refine cR (fun hc30 h => ?_) (fun hc30 h => ?_))
 ·refine CO.ifT hc30 (by kernel_rfl) ?_
  (revert h; refine bR fun r24 hx32 h => ?_)
  refine CO.cutR (tl 61 [(1, .loc 100 0), (3, .loc 101 0)]) [(101, .cells 114 [V.b r24.op, V.b r24.text, V.b r24.other, V.i r24.least, V.i r24.most]), (100, .cells 48 [V.i a0.Kind, V.i a0.Op, V.s a0.Text, V.s a0.Other, .sl false false (a0.Kids.map encI)])] mix (by
   refine W.run Dk 1 102 (by kernel_rfl) ?_
   refine W.call0 (mi_exprForm_ok N a0 hx32) cok105 rfl (by kernel_rfl) ?_
   refine W.run Dk 1 102 (by kernel_rfl) ?_
   exact W.fi (by kernel_rfl)
   ) ?_
  refine ce Dk mix 5 102 (tl 61 [(1, .loc 100 0), (3, .loc 101 0)]) [(101, .cells 114 [V.b r24.op, V.b r24.text, V.b (a0.Other == []), V.i r24.least, V.i r24.most]), (100, .cells 48 [V.i a0.Kind, V.i a0.Op, V.s a0.Text, V.s a0.Other, .sl false false (a0.Kids.map encI)])] (by kernel_rfl) (fun st hw => ?_)
  exact hk27 (a0, r24.op, r24.text, (a0.Other == []), r24.least, r24.most) h _ (hw.trans (Weak.sel [(100, 100), (101, 101)] [1, 3] (by kernel_rfl) (by kernel_rfl) (by kernel_rfl)))
 refine CO.ifF hc30 (by kernel_rfl) ?_
 refine cu Dk mix 4 102 (tl 61 [(1, .loc 100 0), (3, .loc 101 0), (15, V.b (a0.Kind == 16))]) [(101, .cells 114 [V.b false, V.b false, V.b false, V.i 0, V.i 0]), (100, .cells 48 [V.i a0.Kind, V.i a0.Op, V.s a0.Text, V.s a0.Other, .sl false false (a0.Kids.map encI)])] (by kernel_rfl) ?_
 (revert h; refine cR (fun hc33 h => ?_) (fun hc33 h => ?_))
 ·refine CO.ifT hc33 (by kernel_rfl) ?_
  refine ce Dk mix 11 102 (tl 61 [(1, .loc 100 0), (3, .loc 101 0)]) [(101, .cells 114 [V.b (a0.Op == 0), V.b (a0.Text == []), V.b (a0.Other == []), V.i 0, V.i 0]), (100, .cells 48 [V.i a0.Kind, V.i a0.Op, V.s a0.Text, V.s a0.Other, .sl false false (a0.Kids.map encI)])] (by kernel_rfl) (fun st hw => ?_)
  exact hk27 (a0, (a0.Op == 0), (a0.Text == []), (a0.Other == []), 0, 0) h _ (hw.trans (Weak.sel [(100, 100), (101, 101)] [1, 3] (by kernel_rfl) (by kernel_rfl) (by kernel_rfl)))
 refine CO.ifF hc33 (by kernel_rfl) ?_
 (revert h; refine bR fun r26 hx35 h => ?_)
 refine CO.cutR (tl 61 [(1, .loc 100 0), (3, .loc 101 0), (29, V.b r26)]) [(101, .cells 114 [V.b false, V.b false, V.b false, V.i 0, V.i 0]), (100, .cells 48 [V.i a0.Kind, V.i a0.Op, V.s a0.Text, V.s a0.Other, .sl false false (a0.Kids.map encI)])] mix (by
  refine W.run Dk 2 102 (by kernel_rfl) ?_
  refine W.call0 (AC.gs (mi_IsStmt_ok a0.Kind hx35) (by decide)) cok106 rfl (by kernel_rfl) ?_
  refine W.run Dk 1 102 (by kernel_rfl) ?_
  exact W.fi (by kernel_rfl)
  ) ?_
 (revert h; refine cR (fun hc36 h => ?_) (fun hc36 h => ?_))
 ·refine CO.ifT hc36 (by kernel_rfl) ?_
  (revert h; refine bR fun r28 hx38 h => ?_)
  refine CO.endR (tl 61 [(1, .loc 100 0), (3, .loc 101 0)]) [(101, .cells 114 [V.b r28.op, V.b r28.text, V.b r28.other, V.i r28.least, V.i r28.most]), (100, .cells 48 [V.i a0.Kind, V.i a0.Op, V.s a0.Text, V.s a0.Other, .sl false false (a0.Kids.map encI)])] mix (by
   refine W.run Dk 1 102 (by kernel_rfl) ?_
   refine W.call0 (mi_stmtForm_ok N a0 hx38) cok107 rfl (by kernel_rfl) ?_
   refine W.run Dk 1 102 (by kernel_rfl) ?_
   exact W.fi (by kernel_rfl)
   ) (fun st hw => ?_)
  exact hk27 (a0, r28.op, r28.text, r28.other, r28.least, r28.most) h _ (hw.trans (Weak.sel [(100, 100), (101, 101)] [1, 3] (by kernel_rfl) (by kernel_rfl) (by kernel_rfl)))
 refine CO.ifF hc36 (by kernel_rfl) ?_
 (revert h; refine bR fun r30 hx40 h => ?_)
 refine CO.cutR (tl 61 [(1, .loc 100 0), (3, .loc 101 0), (35, V.b r30)]) [(101, .cells 114 [V.b false, V.b false, V.b false, V.i 0, V.i 0]), (100, .cells 48 [V.i a0.Kind, V.i a0.Op, V.s a0.Text, V.s a0.Other, .sl false false (a0.Kids.map encI)])] mix (by
  refine W.run Dk 2 102 (by kernel_rfl) ?_
  refine W.call0 (AC.gs (mi_within_ok a0.Kind 40 45 hx40) (by decide)) cok55 rfl (by kernel_rfl) ?_
  refine W.run Dk 1 102 (by kernel_rfl) ?_
  exact W.fi (by kernel_rfl)
  ) ?_
 (revert h; refine cR (fun hc41 h => ?_) (fun hc41 h => ?_))
 ·refine CO.ifT hc41 (by kernel_rfl) ?_
  (revert h; refine bR fun r32 hx43 h => ?_)
  refine CO.endR (tl 61 [(1, .loc 100 0), (3, .loc 101 0)]) [(101, .cells 114 [V.b r32.op, V.b r32.text, V.b r32.other, V.i r32.least, V.i r32.most]), (100, .cells 48 [V.i a0.Kind, V.i a0.Op, V.s a0.Text, V.s a0.Other, .sl false false (a0.Kids.map encI)])] mix (by
   refine W.run Dk 1 102 (by kernel_rfl) ?_
   refine W.call0 (AC.gs (mi_itemForm_ok N a0 hx43) (by decide)) cok108 rfl (by kernel_rfl) ?_
   refine W.run Dk 1 102 (by kernel_rfl) ?_
   exact W.fi (by kernel_rfl)
   ) (fun st hw => ?_)
  exact hk27 (a0, r32.op, r32.text, r32.other, r32.least, r32.most) h _ (hw.trans (Weak.sel [(100, 100), (101, 101)] [1, 3] (by kernel_rfl) (by kernel_rfl) (by kernel_rfl)))
 refine CO.ifF hc41 (by kernel_rfl) ?_
 refine cu Dk mix 1 102 (tl 61 [(2, V.b false)]) [] (by kernel_rfl) ?_
 refine CO.ret ?_
 have h := Option.some.inj h
 subst h
 exact Ends.gen [] (.inr rfl) (RetV.one rfl (OneR.t (t := 2) (r := V.b false) (by kernel_rfl))) (by kernel_rfl) (by kernel_rfl) (by kernel_rfl)

theorem mi_IsLvalue_ok (a0 : Int) {r : Bool} (h : mi_IsLvalue a0 = some r) :
    AC Tryz.prog (GS []) 109 [V.i a0] [] (V.b r) [] := by
 rw [mi_IsLvalue] at h
 refine AC.enter Tryz.func109 rfl ?_
 refine cu Dk mix 1 100 (tl 13 [(0, V.i a0)]) [] (by kernel_rfl) ?_
 (revert h; refine bR fun y1 hv3 h => ?_)
 refine CO.cutR (tl 13 [(2, V.b y1)]) [] mix (by
  refine W.run Dk 3 100 (by kernel_rfl) ?_
  (revert hv3; refine cR (fun hc4 hv3 => ?_) (fun hc4 hv3 => ?_))
  ·refine W.is 5 hc4 (by kernel_rfl) ?_
   refine W.run Dk 8 100 (by kernel_rfl) ?_
   have hv3 := Option.some.inj hv3
   subst hv3
   exact W.fs [] [2] (by kernel_rfl)
  refine W.is 5 hc4 (by kernel_rfl) ?_
  refine W.run Dk 4 100 (by kernel_rfl) ?_
  (revert hv3; refine cR (fun hc5 hv3 => ?_) (fun hc5 hv3 => ?_))
  ·refine W.is 9 hc5 (by kernel_rfl) ?_
   refine W.run Dk 4 100 (by kernel_rfl) ?_
   have hv3 := Option.some.inj hv3
   subst hv3
   exact W.fs [] [2] (by kernel_rfl)
  refine W.is 9 hc5 (by kernel_rfl) ?_
  refine W.run Dk 4 100 (by kernel_rfl) ?_
  have hv3 := Option.some.inj hv3
  subst hv3
  exact W.fs [] [2] (by kernel_rfl)
  ) ?_
 refine CO.ret ?_
 have h := Option.some.inj h
 subst h
 exact Ends.gen [] (.inr rfl) (RetV.one rfl (OneR.t (t := 2) (r := V.b y1) (by kernel_rfl))) (by kernel_rfl) (by kernel_rfl) (by kernel_rfl)

theorem mi_isItem_ok (a0 : Int) {r : Bool} (h : mi_isItem a0 = some r) :
    AC Tryz.prog (GS []) 110 [V.i a0] [] (V.b r) [] := by
 rw [mi_isItem] at h
 refine AC.enter Tryz.func110 rfl ?_
 refine cu Dk mix 1 100 (tl 5 [(0, V.i a0)]) [] (by kernel_rfl) ?_
 (revert h; refine bR fun r2 hx2 h => ?_)
 refine CO.cutR (tl 5 [(2, V.b r2)]) [] mix (by
  refine W.run Dk 1 100 (by kernel_rfl) ?_
  refine W.call0 (mi_within_ok a0 40 44 hx2) cok55 rfl (by kernel_rfl) ?_
  refine W.run Dk 1 100 (by kernel_rfl) ?_
  exact W.fi (by kernel_rfl)
  ) ?_
 refine CO.ret ?_
 have h := Option.some.inj h
 subst h
 exact Ends.gen [] (.inr rfl) (RetV.one rfl (OneR.t (t := 2) (r := V.b r2) (by kernel_rfl))) (by kernel_rfl) (by kernel_rfl) (by kernel_rfl)

theorem mi_kidOk_ok (a0 : SNode) (a1 : Int) (a2 : Int) {r : Bool} (h : mi_kidOk a0 a1 a2 = some r) :
    AC Tryz.prog (GS []) 77 [.agg [V.i a0.Kind, V.i a0.Op, V.s a0.Text, V.s a0.Other, .sl false false (a0.Kids.map encI)], V.i a1, V.i a2] [] (V.b r) [] := by
 rw [mi_kidOk] at h
 refine AC.enter Tryz.func77 rfl ?_
 refine cu Dk mix 2 100 (tl 99 [(1, V.i a1), (2, V.i a2), (3, .loc 100 0)]) [(100, .cells 48 [V.i a0.Kind, V.i a0.Op, V.s a0.Text, V.s a0.Other, .sl false false (a0.Kids.map encI)])] (by kernel_rfl) ?_
 refine CO.cutR (tl 99 [(1, V.i a1), (2, V.i a2), (3, .loc 100 0), (7, V.b (a1 == (IntKind.wrap .i64 ((a0.Kids.length : Int) - 1))))]) [(100, .cells 48 [V.i a0.Kind, V.i a0.Op, V.s a0.Text, V.s a0.Other, .sl false false (a0.Kids.map encI)])] mix (by
  refine W.run Dk 3 101 (by kernel_rfl) ?_
  refine W.len Dk encI a0.Kids [] (by kernel_rfl) (by kernel_rfl) ?_
  refine W.run Dk 3 101 (by kernel_rfl) ?_
  exact W.fi (by kernel_rfl)
  ) ?_
 refine cu Dk mix 1 101 (tl 99 [(1, V.i a1), (2, V.i a2), (3, .loc 100 0), (7, V.b (a1 == (IntKind.wrap .i64 ((a0.Kids.length : Int) - 1)))), (8, V.b false)]) [(100, .cells 48 [V.i a0.Kind, V.i a0.Op, V.s a0.Text, V.s a0.Other, .sl false false (a0.Kids.map encI)])] (by kernel_rfl) ?_
 refine CO.join (fun (⟨a2, y22⟩ : (Int × Bool)) => ⟨tl 99 [(2, V.i a2), (8, V.b y22)], []⟩) (fun i => mi_kidOk_k1 i = some r) ?_ ?_
 · rintro ⟨a2, y22⟩ h66
   rw [mi_kidOk_k1] at h66
   refine CO.seq' ?_
   refine cu Dk mix 1 101 (tl 99 [(2, V.i a2), (94, V.b y22)]) [] (by kernel_rfl) ?_
   (revert h66; refine cR (fun hc68 h66 => ?_) (fun hc68 h66 => ?_))
   ·refine CO.ifT hc68 (by kernel_rfl) ?_
    refine cu Dk mix 3 101 (tl 99 [(6, V.b (a2 == 33))]) [] (by kernel_rfl) ?_
    refine CO.ret ?_
    have h66 := Option.some.inj h66
    subst h66
    exact Ends.gen [] (.inr rfl) (RetV.one rfl (OneR.t (t := 6) (r := V.b (a2 == 33)) (by kernel_rfl))) (by kernel_rfl) (by kernel_rfl) (by kernel_rfl)
   refine CO.ifF hc68 (by kernel_rfl) ?_
   refine CO.skip ?_
   (revert h66; refine bR fun r24 hx70 h66 => ?_)
   refine CO.cutR (tl 99 [(6, V.b r24)]) [] mix (by
    refine W.run Dk 1 101 (by kernel_rfl) ?_
    refine W.call0 (mi_IsExpr_ok a2 hx70) cok46 rfl (by kernel_rfl) ?_
    refine W.run Dk 1 101 (by kernel_rfl) ?_
    exact W.fi (by kernel_rfl)
    ) ?_
   refine CO.ret ?_
   have h66 := Option.some.inj h66
   subst h66
   exact Ends.gen [] (.inr rfl) (RetV.one rfl (OneR.t (t := 6) (r := V.b r24) (by kernel_rfl))) (by kernel_rfl) (by kernel_rfl) (by kernel_rfl)
 intro hk71
 refine cu Dk mix 2 101 (tl 99 [(1, V.i a1), (2, V.i a2), (3, .loc 100 0), (7, V.b (a1 == (IntKind.wrap .i64 ((a0.Kids.length : Int) - 1)))), (8, V.b false), (16, V.i a0.Kind)]) [(100, .cells 48 [V.i a0.Kind, V.i a0.Op, V.s a0.Text, V.s a0.Other, .sl false false (a0.Kids.map encI)])] (by kernel_rfl) ?_
 refine CO.block' ?_
 refine CO.join (fun (⟨a1, a2, a0, y25⟩ : (Int × Int × SNode × Bool)) => ⟨tl 99 [(1, V.i a1), (2, V.i a2), (3, .loc 100 0), (7, V.b (a1 == (IntKind.wrap .i64 ((a0.Kids.length : Int) - 1)))), (8, V.b false), (16, V.i a0.Kind), (17, V.b y25)], [(100, .cells 48 [V.i a0.Kind, V.i a0.Op, V.s a0.Text, V.s a0.Other, .sl false false (a0.Kids.map encI)])]⟩) (fun i => mi_kidOk_k2 i = some r) ?_ ?_
 · rintro ⟨a1, a2, a0, y25⟩ h73
   rw [mi_kidOk_k2] at h73
   (revert h73; refine cR (fun hc74 h73 => ?_) (fun hc74 h73 => ?_))
   ·refine CO.ifT hc74 (by kernel_rfl) ?_
    (revert h73; refine bR fun r27 hx76 h73 => ?_)
    refine CO.cutR (tl 99 [(6, V.b r27)]) [] mix (by
     refine W.run Dk 1 101 (by kernel_rfl) ?_
     refine W.call0 (mi_IsLvalue_ok a2 hx76) cok109 rfl (by kernel_rfl) ?_
     refine W.run Dk 1 101 (by kernel_rfl) ?_
     exact W.fi (by kernel_rfl)
     ) ?_
    refine CO.ret ?_
    have h73 := Option.some.inj h73
    subst h73
    exact Ends.gen [] (.inr rfl) (RetV.one rfl (OneR.t (t := 6) (r := V.b r27) (by kernel_rfl))) (by kernel_rfl) (by kernel_rfl) (by kernel_rfl)
   refine CO.ifF hc74 (by kernel_rfl) ?_
   refine cu Dk mix 2 101 (tl 99 [(1, V.i a1), (2, V.i a2), (3, .loc 100 0), (7, V.b (a1 == (IntKind.wrap .i64 ((a0.Kids.length : Int) - 1)))), (8, V.b false), (16, V.i a0.Kind), (22, V.b (a0.Kind == 15))]) [(100, .cells 48 [V.i a0.Kind, V.i a0.Op, V.s a0.Text, V.s a0.Other, .sl false false (a0.Kids.map encI)])] (by kernel_rfl) ?_
   (revert h73; refine cR (fun hc77 h73 => ?_) (fun hc77 h73 => ?_))
   ·refine CO.ifT hc77 (by kernel_rfl) ?_
    (revert h73; refine bR fun y31 hv85 h73 => ?_)
    refine CO.cutR (tl 99 [(6, V.b y31)]) [] mix (by
     refine W.run Dk 3 101 (by kernel_rfl) ?_
     (revert hv85; refine cR (fun hc86 hv85 => ?_) (fun hc86 hv85 => ?_))
     ·refine W.is 26 hc86 (by kernel_rfl) ?_
      refine W.run Dk 1 101 (by kernel_rfl) ?_
      (revert hv85; refine bR fun r32 hx87 hv85 => ?_)
      refine W.call0 (mi_IsLvalue_ok a2 hx87) cok109 rfl (by kernel_rfl) ?_
      refine W.run Dk 2 101 (by kernel_rfl) ?_
      (revert hv85; refine cR (fun hc88 hv85 => ?_) (fun hc88 hv85 => ?_))
      ·refine W.is 30 hc88 (by kernel_rfl) ?_
       refine W.run Dk 8 101 (by kernel_rfl) ?_
       have hv85 := Option.some.inj hv85
       subst hv85
       exact W.fs [] [6] (by kernel_rfl)
      refine W.is 30 hc88 (by kernel_rfl) ?_
      refine W.run Dk 3 101 (by kernel_rfl) ?_
      (revert hv85; refine cR (fun hc89 hv85 => ?_) (fun hc89 hv85 => ?_))
      ·refine W.is 33 hc89 (by kernel_rfl) ?_
       refine W.run Dk 1 101 (by kernel_rfl) ?_
       (revert hv85; refine bR fun r33 hx90 hv85 => ?_)
       refine W.call0 (mi_IsExpr_ok a2 hx90) cok46 rfl (by kernel_rfl) ?_
       refine W.run Dk 3 101 (by kernel_rfl) ?_
       have hv85 := Option.some.inj hv85
       subst hv85
       exact W.fs [] [6] (by kernel_rfl)
      refine W.is 33 hc89 (by kernel_rfl) ?_
      refine W.run Dk 5 101 (by kernel_rfl) ?_
      have hv85 := Option.some.inj hv85
      subst hv85
      exact W.fs [] [6] (by kernel_rfl)
     refine W.is 26 hc86 (by kernel_rfl) ?_
     refine W.run Dk 7 101 (by kernel_rfl) ?_
     (revert hv85; refine cR (fun hc91 hv85 => ?_) (fun hc91 hv85 => ?_))
     ·refine W.is 33 hc91 (by kernel_rfl) ?_
      refine W.run Dk 1 101 (by kernel_rfl) ?_
      (revert hv85; refine bR fun r34 hx92 hv85 => ?_)
      refine W.call0 (mi_IsExpr_ok a2 hx92) cok46 rfl (by kernel_rfl) ?_
      refine W.run Dk 3 101 (by kernel_rfl) ?_
      have hv85 := Option.some.inj hv85
      subst hv85
      exact W.fs [] [6] (by kernel_rfl)
     refine W.is 33 hc91 (by kernel_rfl) ?_
     refine W.run Dk 5 101 (by kernel_rfl) ?_
     have hv85 := Option.some.inj hv85
     subst hv85
     exact W.fs [] [6] (by kernel_rfl)
     ) ?_
    refine CO.ret ?_
    have h73 := Option.some.inj h73
    subst h73
    exact Ends.gen [] (.inr rfl) (RetV.one rfl (OneR.t (t := 6) (r := V.b y31) (by kernel_rfl))) (by kernel_rfl) (by kernel_rfl) (by kernel_rfl)
   refine CO.ifF hc77 (by kernel_rfl) ?_
   refine CO.join (fun (⟨a1, a2, a0, y35⟩ : (Int × Int × SNode × Bool)) => ⟨tl 99 [(1, V.i a1), (2, V.i a2), (3, .loc 100 0), (7, V.b (a1 == (IntKind.wrap .i64 ((a0.Kids.length : Int) - 1)))), (8, V.b false), (16, V.i a0.Kind), (38, V.b y35)], [(100, .cells 48 [V.i a0.Kind, V.i a0.Op, V.s a0.Text, V.s a0.Other, .sl false false (a0.Kids.map encI)])]⟩) (fun i => mi_kidOk_k3 i = some r) ?_ ?_
   · rintro ⟨a1, a2, a0, y35⟩ h94
     rw [mi_kidOk_k3] at h94
     (revert h94; refine cR (fun hc95 h94 => ?_) (fun hc95 h94 => ?_))
     ·refine CO.ifT hc95 (by kernel_rfl) ?_
      refine ce Dk mix 3 101 (tl 99 [(2, V.i a2), (8, V.b (decide (a1 > 0)))]) [] (by kernel_rfl) (fun st hw => ?_)
      exact hk71 (a2, (decide (a1 > 0))) h94 _ (hw.trans (Weak.sel [] [2, 8] (by kernel_rfl) (by kernel_rfl) (by kernel_rfl)))
     refine CO.ifF hc95 (by kernel_rfl) ?_
     refine cu Dk mix 2 101 (tl 99 [(1, V.i a1), (2, V.i a2), (3, .loc 100 0), (7, V.b (a1 == (IntKind.wrap .i64 ((a0.Kids.length : Int) - 1)))), (8, V.b false), (16, V.i a0.Kind), (43, V.b (a0.Kind == 31))]) [(100, .cells 48 [V.i a0.Kind, V.i a0.Op, V.s a0.Text, V.s a0.Other, .sl false false (a0.Kids.map encI)])] (by kernel_rfl) ?_
     (revert h94; refine cR (fun hc96 h94 => ?_) (fun hc96 h94 => ?_))
     ·refine CO.ifT hc96 (by kernel_rfl) ?_
      refine CO.seq' ?_
      (revert h94; refine bR fun y37 hv102 h94 => ?_)
      refine CO.cutR (tl 99 [(2, V.i a2), (7, V.b (a1 == (IntKind.wrap .i64 ((a0.Kids.length : Int) - 1)))), (50, V.b y37)]) [] mix (by
       refine W.run Dk 3 101 (by kernel_rfl) ?_
       (revert hv102; refine cR (fun hc103 hv102 => ?_) (fun hc103 hv102 => ?_))
       ·refine W.is 47 hc103 (by kernel_rfl) ?_
        refine W.run Dk 3 101 (by kernel_rfl) ?_
        have hv102 := Option.some.inj hv102
        subst hv102
        exact W.fs [] [2, 7, 50] (by kernel_rfl)
       refine W.is 47 hc103 (by kernel_rfl) ?_
       refine W.run Dk 3 101 (by kernel_rfl) ?_
       have hv102 := Option.some.inj hv102
       subst hv102
       exact W.fs [] [2, 7, 50] (by kernel_rfl)
       ) ?_
      (revert h94; refine cR (fun hc104 h94 => ?_) (fun hc104 h94 => ?_))
      ·refine CO.ifT hc104 (by kernel_rfl) ?_
       refine cu Dk mix 1 101 (tl 99 [(6, V.b true)]) [] (by kernel_rfl) ?_
       refine CO.ret ?_
       have h94 := Option.some.inj h94
       subst h94
       exact Ends.gen [] (.inr rfl) (RetV.one rfl (OneR.t (t := 6) (r := V.b true) (by kernel_rfl))) (by kernel_rfl) (by kernel_rfl) (by kernel_rfl)
      refine CO.ifF hc104 (by kernel_rfl) ?_
      refine CO.skip ?_
      refine ce Dk mix 2 101 (tl 99 [(2, V.i a2), (8, V.b (a1 == (IntKind.wrap .i64 ((a0.Kids.length : Int) - 1))))]) [] (by kernel_rfl) (fun st hw => ?_)
      exact hk71 (a2, (a1 == (IntKind.wrap .i64 ((a0.Kids.length : Int) - 1)))) h94 _ (hw.trans (Weak.sel [] [2, 8] (by kernel_rfl) (by kernel_rfl) (by kernel_rfl)))
     refine CO.ifF hc96 (by kernel_rfl) ?_
     refine cu Dk mix 2 101 (tl 99 [(1, V.i a1), (2, V.i a2), (3, .loc 100 0), (7, V.b (a1 == (IntKind.wrap .i64 ((a0.Kids.length : Int) - 1)))), (8, V.b false), (16, V.i a0.Kind), (52, V.b (a0.Kind == 30))]) [(100, .cells 48 [V.i a0.Kind, V.i a0.Op, V.s a0.Text, V.s a0.Other, .sl false false (a0.Kids.map encI)])] (by kernel_rfl) ?_
     (revert h94; refine cR (fun hc105 h94 => ?_) (fun hc105 h94 => ?_))
     ·refine CO.ifT hc105 (by kernel_rfl) ?_
      refine ce Dk mix 3 101 (tl 99 [(2, V.i a2), (8, V.b (a1 == 0))]) [] (by kernel_rfl) (fun st hw => ?_)
      exact hk71 (a2, (a1 == 0)) h94 _ (hw.trans (Weak.sel [] [2, 8] (by kernel_rfl) (by kernel_rfl) (by kernel_rfl)))
     refine CO.ifF hc105 (by kernel_rfl) ?_
     refine CO.join (fun (⟨a2, a1, a0, y38⟩ : (Int × Int × SNode × Bool)) => ⟨tl 99 [(2, V.i a2), (3, .loc 100 0), (7, V.b (a1 == (IntKind.wrap .i64 ((a0.Kids.length : Int) - 1)))), (8, V.b false), (16, V.i a0.Kind), (56, V.b y38)], [(100, .cells 48 [V.i a0.Kind, V.i a0.Op, V.s a0.Text, V.s a0.Other, .sl false false (a0.Kids.map encI)])]⟩) (fun i => mi_kidOk_k4 i = some r) ?_ ?_
     · rintro ⟨a2, a1, a0, y38⟩ h108
       rw [mi_kidOk_k4] at h108
       (revert h108; refine cR (fun hc109 h108 => ?_) (fun hc109 h108 => ?_))
       ·refine CO.ifT hc109 (by kernel_rfl) ?_
        refine ce Dk mix 1 101 (tl 99 [(2, V.i a2), (8, V.b true)]) [] (by kernel_rfl) (fun st hw => ?_)
        exact hk71 (a2, true) h108 _ (hw.trans (Weak.sel [] [2, 8] (by kernel_rfl) (by kernel_rfl) (by kernel_rfl)))
       refine CO.ifF hc109 (by kernel_rfl) ?_
       refine cu Dk mix 2 101 (tl 99 [(2, V.i a2), (3, .loc 100 0), (7, V.b (a1 == (IntKind.wrap .i64 ((a0.Kids.length : Int) - 1)))), (8, V.b false), (16, V.i a0.Kind), (60, V.b (a0.Kind == 33))]) [(100, .cells 48 [V.i a0.Kind, V.i a0.Op, V.s a0.Text, V.s a0.Other, .sl false false (a0.Kids.map encI)])] (by kernel_rfl) ?_
       (revert h108; refine cR (fun hc110 h108 => ?_) (fun hc110 h108 => ?_))
       ·refine CO.ifT hc110 (by kernel_rfl) ?_
        (revert h108; refine bR fun r40 hx112 h108 => ?_)
        refine CO.cutR (tl 99 [(6, V.b r40)]) [] mix (by
         refine W.run Dk 1 101 (by kernel_rfl) ?_
         refine W.call0 (mi_IsStmt_ok a2 hx112) cok106 rfl (by kernel_rfl) ?_
         refine W.run Dk 1 101 (by kernel_rfl) ?_
         exact W.fi (by kernel_rfl)
         ) ?_
        refine CO.ret ?_
        have h108 := Option.some.inj h108
        subst h108
        exact Ends.gen [] (.inr rfl) (RetV.one rfl (OneR.t (t := 6) (r := V.b r40) (by kernel_rfl))) (by kernel_rfl) (by kernel_rfl) (by kernel_rfl)
       refine CO.ifF hc110 (by kernel_rfl) ?_
       refine cu Dk mix 2 101 (tl 99 [(2, V.i a2), (3, .loc 100 0), (7, V.b (a1 == (IntKind.wrap .i64 ((a0.Kids.length : Int) - 1)))), (8, V.b false), (16, V.i a0.Kind), (64, V.b (a0.Kind == 42))]) [(100, .cells 48 [V.i a0.Kind, V.i a0.Op, V.s a0.Text, V.s a0.Other, .sl false false (a0.Kids.map encI)])] (by kernel_rfl) ?_
       (revert h108; refine cR (fun hc113 h108 => ?_) (fun hc113 h108 => ?_))
       ·refine CO.ifT hc113 (by kernel_rfl) ?_
        (revert h108; refine bR fun y41 hv115 h108 => ?_)
        refine CO.endR (tl 99 [(2, V.i a2), (8, V.b y41)]) [] mix (by
         refine W.run Dk 2 101 (by kernel_rfl) ?_
         (revert hv115; refine cR (fun hc116 hv115 => ?_) (fun hc116 hv115 => ?_))
         ·refine W.is 67 hc116 (by kernel_rfl) ?_
          refine W.run Dk 5 101 (by kernel_rfl) ?_
          have hv115 := Option.some.inj hv115
          subst hv115
          exact W.fs [] [2, 8] (by kernel_rfl)
         refine W.is 67 hc116 (by kernel_rfl) ?_
         refine W.run Dk 5 101 (by kernel_rfl) ?_
         have hv115 := Option.some.inj hv115
         subst hv115
         exact W.fs [] [2, 8] (by kernel_rfl)
         ) (fun st hw => ?_)
        exact hk71 (a2, y41) h108 _ (hw.trans (Weak.sel [] [2, 8] (by kernel_rfl) (by kernel_rfl) (by kernel_rfl)))
       refine CO.ifF hc113 (by kernel_rfl) ?_
       refine cu Dk mix 2 101 (tl 99 [(2, V.i a2), (3, .loc 100 0), (7, V.b (a1 == (IntKind.wrap .i64 ((a0.Kids.length : Int) - 1)))), (8, V.b false), (16, V.i a0.Kind), (72, V.b (a0.Kind == 43))]) [(100, .cells 48 [V.i a0.Kind, V.i a0.Op, V.s a0.Text, V.s a0.Other, .sl false false (a0.Kids.map encI)])] (by kernel_rfl) ?_
       (revert h108; refine cR (fun hc117 h108 => ?_) (fun hc117 h108 => ?_))
       ·refine CO.ifT hc117 (by kernel_rfl) ?_
        (revert h108; refine bR fun y42 hv119 h108 => ?_)
        refine CO.endR (tl 99 [(2, V.i a2), (8, V.b y42)]) [] mix (by
         refine W.run Dk 2 101 (by kernel_rfl) ?_
         (revert hv119; refine cR (fun hc120 hv119 => ?_) (fun hc120 hv119 => ?_))
         ·refine W.is 75 hc120 (by kernel_rfl) ?_
          refine W.run Dk 5 101 (by kernel_rfl) ?_
          have hv119 := Option.some.inj hv119
          subst hv119
          exact W.fs [] [2, 8] (by kernel_rfl)
         refine W.is 75 hc120 (by kernel_rfl) ?_
         refine W.run Dk 5 101 (by kernel_rfl) ?_
         have hv119 := Option.some.inj hv119
         subst hv119
         exact W.fs [] [2, 8] (by kernel_rfl)
         ) (fun st hw => ?_)
        exact hk71 (a2, y42) h108 _ (hw.trans (Weak.sel [] [2, 8] (by kernel_rfl) (by kernel_rfl) (by kernel_rfl)))
       refine CO.ifF hc117 (by kernel_rfl) ?_
       refine cu Dk mix 2 101 (tl 99 [(2, V.i a2), (7, V.b (a1 == (IntKind.wrap .i64 ((a0.Kids.length : Int) - 1)))), (8, V.b false), (16, V.i a0.Kind), (80, V.b (a0.Kind == 44))]) [] (by kernel_rfl) ?_
       (revert h108; refine cR (fun hc121 h108 => ?_) (fun hc121 h108 => ?_))
       ·refine CO.ifT hc121 (by kernel_rfl) ?_
        refine CO.seq' ?_
        refine cu Dk mix 2 101 (tl 99 [(2, V.i a2), (83, V.b (!(a1 == (IntKind.wrap .i64 ((a0.Kids.length : Int) - 1)))))]) [] (by kernel_rfl) ?_
        (revert h108; refine cR (fun hc123 h108 => ?_) (fun hc123 h108 => ?_))
        ·refine CO.ifT hc123 (by kernel_rfl) ?_
         refine cu Dk mix 3 101 (tl 99 [(6, V.b (a2 == 1))]) [] (by kernel_rfl) ?_
         refine CO.ret ?_
         have h108 := Option.some.inj h108
         subst h108
         exact Ends.gen [] (.inr rfl) (RetV.one rfl (OneR.t (t := 6) (r := V.b (a2 == 1)) (by kernel_rfl))) (by kernel_rfl) (by kernel_rfl) (by kernel_rfl)
        refine CO.ifF hc123 (by kernel_rfl) ?_
        refine CO.skip ?_
        refine ce Dk mix 1 101 (tl 99 [(2, V.i a2), (8, V.b true)]) [] (by kernel_rfl) (fun st hw => ?_)
        exact hk71 (a2, true) h108 _ (hw.trans (Weak.sel [] [2, 8] (by kernel_rfl) (by kernel_rfl) (by kernel_rfl)))
       refine CO.ifF hc121 (by kernel_rfl) ?_
       refine cu Dk mix 2 101 (tl 99 [(2, V.i a2), (8, V.b false), (86, V.b (a0.Kind == 45))]) [] (by kernel_rfl) ?_
       (revert h108; refine cR (fun hc124 h108 => ?_) (fun hc124 h108 => ?_))
       ·refine CO.ifT hc124 (by kernel_rfl) ?_
        (revert h108; refine bR fun y44 hv127 h108 => ?_)
        refine CO.cutR (tl 99 [(6, V.b y44)]) [] mix (by
         refine W.run Dk 1 101 (by kernel_rfl) ?_
         (revert hv127; refine bR fun r45 hx128 hv127 => ?_)
         refine W.call0 (mi_isItem_ok a2 hx128) cok110 rfl (by kernel_rfl) ?_
         refine W.run Dk 1 101 (by kernel_rfl) ?_
         (revert hv127; refine cR (fun hc129 hv127 => ?_) (fun hc129 hv127 => ?_))
         ·refine W.is 90 hc129 (by kernel_rfl) ?_
          refine W.run Dk 4 101 (by kernel_rfl) ?_
          have hv127 := Option.some.inj hv127
          subst hv127
          exact W.fs [] [6] (by kernel_rfl)
         refine W.is 90 hc129 (by kernel_rfl) ?_
         refine W.run Dk 4 101 (by kernel_rfl) ?_
         have hv127 := Option.some.inj hv127
         subst hv127
         exact W.fs [] [6] (by kernel_rfl)
         ) ?_
        refine CO.ret ?_
        have h108 := Option.some.inj h108
        subst h108
        exact Ends.gen [] (.inr rfl) (RetV.one rfl (OneR.t (t := 6) (r := V.b y44) (by kernel_rfl))) (by kernel_rfl) (by kernel_rfl) (by kernel_rfl)
       refine CO.ifF hc124 (by kernel_rfl) ?_
       refine CO.skip ?_
       exact hk71 (a2, false) h108 _ (Weak.sel [] [2, 8] (by kernel_rfl) (by kernel_rfl) (by kernel_rfl))
     intro hk130
     refine cu Dk mix 2 101 (tl 99 [(2, V.i a2), (3, .loc 100 0), (7, V.b (a1 == (IntKind.wrap .i64 ((a0.Kids.length : Int) - 1)))), (8, V.b false), (16, V.i a0.Kind), (56, V.b (a0.Kind == 32))]) [(100, .cells 48 [V.i a0.Kind, V.i a0.Op, V.s a0.Text, V.s a0.Other, .sl false false (a0.Kids.map encI)])] (by kernel_rfl) ?_
     (revert h94; refine cR (fun hc131 h94 => ?_) (fun hc131 h94 => ?_))
     ·refine CO.ifT hc131 (by kernel_rfl) ?_
      refine CO.skip ?_
      exact hk130 (a2, a1, a0, (a0.Kind == 32)) h94 _ (Weak.sel [(100, 100)] [2, 3, 7, 8, 16, 56] (by kernel_rfl) (by kernel_rfl) (by kernel_rfl))
     refine CO.ifF hc131 (by kernel_rfl) ?_
     refine cu Dk mix 2 101 (tl 99 [(2, V.i a2), (3, .loc 100 0), (7, V.b (a1 == (IntKind.wrap .i64 ((a0.Kids.length : Int) - 1)))), (8, V.b false), (16, V.i a0.Kind), (56, V.b (a0.Kind == 40))]) [(100, .cells 48 [V.i a0.Kind, V.i a0.Op, V.s a0.Text, V.s a0.Other, .sl false false (a0.Kids.map encI)])] (by kernel_rfl) ?_
     (revert h94; refine cR (fun hc132 h94 => ?_) (fun hc132 h94 => ?_))
     ·refine CO.ifT hc132 (by kernel_rfl) ?_
      refine CO.skip ?_
      exact hk130 (a2, a1, a0, (a0.Kind == 40)) h94 _ (Weak.sel [(100, 100)] [2, 3, 7, 8, 16, 56] (by kernel_rfl) (by kernel_rfl) (by kernel_rfl))
     refine CO.ifF hc132 (by kernel_rfl) ?_
     refine ce Dk mix 2 101 (tl 99 [(2, V.i a2), (3, .loc 100 0), (7, V.b (a1 == (IntKind.wrap .i64 ((a0.Kids.length : Int) - 1)))), (8, V.b false), (16, V.i a0.Kind), (56, V.b (a0.Kind == 41))]) [(100, .cells 48 [V.i a0.Kind, V.i a0.Op, V.s a0.Text, V.s a0.Other, .sl false false (a0.Kids.map encI)])] (by kernel_rfl) (fun st hw => ?_)
     exact hk130 (a2, a1, a0, (a0.Kind == 41)) h94 _ (hw.trans (Weak.sel [(100, 100)] [2, 3, 7, 8, 16, 56] (by kernel_rfl) (by kernel_rfl) (by kernel_rfl)))
   intro hk133
   refine cu Dk mix 2 101 (tl 99 [(1, V.i a1), (2, V.i a2), (3, .loc 100 0), (7, V.b (a1 == (IntKind.wrap .i64 ((a0.Kids.length : Int) - 1)))), (8, V.b false), (16, V.i a0.Kind), (38, V.b (a0.Kind == 28))]) [(100, .cells 48 [V.i a0.Kind, V.i a0.Op, V.s a0.Text, V.s a0.Other, .sl false false (a0.Kids.map encI)])] (by kernel_rfl) ?_
   (revert h73; refine cR (fun hc134 h73 => ?_) (fun hc134 h73 => ?_))
   ·refine CO.ifT hc134 (by kernel_rfl) ?_
    refine CO.skip ?_
    exact hk133 (a1, a2, a0, (a0.Kind == 28)) h73 _ (Weak.sel [(100, 100)] [1, 2, 3, 7, 8, 16, 38] (by kernel_rfl) (by kernel_rfl) (by kernel_rfl))
   refine CO.ifF hc134 (by kernel_rfl) ?_
   refine ce Dk mix 2 101 (tl 99 [(1, V.i a1), (2, V.i a2), (3, .loc 100 0), (7, V.b (a1 == (IntKind.wrap .i64 ((a0.Kids.length : Int) - 1)))), (8, V.b false), (16, V.i a0.Kind), (38, V.b (a0.Kind == 29))]) [(100, .cells 48 [V.i a0.Kind, V.i a0.Op, V.s a0.Text, V.s a0.Other, .sl false false (a0.Kids.map encI)])] (by kernel_rfl) (fun st hw => ?_)
   exact hk133 (a1, a2, a0, (a0.Kind == 29)) h73 _ (hw.trans (Weak.sel [(100, 100)] [1, 2, 3, 7, 8, 16, 38] (by kernel_rfl) (by kernel_rfl) (by kernel_rfl)))
 intro hk135
 refine cu Dk mix 2 101 (tl 99 [(1, V.i a1), (2, V.i a2), (3, .loc 100 0), (7, V.b (a1 == (IntKind.wrap .i64 ((a0.Kids.length : Int) - 1)))), (8, V.b false), (16, V.i a0.Kind), (17, V.b (a0.Kind == 9))]) [(100, .cells 48 [V.i a0.Kind, V.i a0.Op, V.s a0.Text, V.s a0.Other, .sl false false (a0.Kids.map encI)])] (by kernel_rfl) ?_
 (revert h; refine cR (fun hc136 h => ?_) (fun hc136 h => ?_))
 ·refine CO.ifT hc136 (by kernel_rfl) ?_
  refine CO.skip ?_
  exact hk135 (a1, a2, a0, (a0.Kind == 9)) h _ (Weak.sel [(100, 100)] [1, 2, 3, 7, 8, 16, 17] (by kernel_rfl) (by kernel_rfl) (by kernel_rfl))
 refine CO.ifF hc136 (by kernel_rfl) ?_
 refine ce Dk mix 2 101 (tl 99 [(1, V.i a1), (2, V.i a2), (3, .loc 100 0), (7, V.b (a1 == (IntKind.wrap .i64 ((a0.Kids.length : Int) - 1)))), (8, V.b false), (16, V.i a0.Kind), (17, V.b (a0.Kind == 10))]) [(100, .cells 48 [V.i a0.Kind, V.i a0.Op, V.s a0.Text, V.s a0.Other, .sl false false (a0.Kids.map encI)])] (by kernel_rfl) (fun st hw => ?_)
 exact hk135 (a1, a2, a0, (a0.Kind == 10)) h _ (hw.trans (Weak.sel [(100, 100)] [1, 2, 3, 7, 8, 16, 17] (by kernel_rfl) (by kernel_rfl) (by kernel_rfl)))

structure RecOk2 (R : Rec2) : Prop where
  mi_treeAt : ∀ (a0 : List SNode) (a1 : Int) (r : STree), R.mi_treeAt a0 a1 = some r → AC Tryz.prog (GS []) 48 [.sl false false (a0.map (eSN false)), V.i a1] [] (.agg [V.i r.kind, V.i r.op, V.s r.text, V.s r.other, .sl false false (r.kids.map eST)]) []

theorem mi_treeAt_F_ok (N : Nat) (R : Rec2) (HR : RecOk2 R) (a0 : List SNode) (a1 : Int) {r : STree} (h : mi_treeAt_F N R a0 a1 = some r) :
    AC Tryz.prog (GS []) 48 [.sl false false (a0.map (eSN false)), V.i a1] [] (.agg [V.i r.kind, V.i r.op, V.s r.text, V.s r.other, .sl false false (r.kids.map eST)]) [] := by
 rw [mi_treeAt_F] at h
 refine AC.enter Tryz.func48 rfl ?_
 refine cu Dk mix 1 100 (tl 39 [(0, .sl false false (a0.map (eSN false))), (1, V.i a1), (4, .loc 100 0)]) [(100, .cells 68 [V.i 0, V.i 0, V.s [], V.s [], .c (.slice none 0 0)])] (by kernel_rfl) ?_
 (revert h; refine bR fun e2 hx2 h => ?_)
 refine CO.cutR (tl 39 [(0, .sl false false (a0.map (eSN false))), (4, .loc 100 0), (5, .loc 101 0)]) [(101, .cells 48 [V.i e2.Kind, V.i e2.Op, V.s e2.Text, V.s e2.Other, .sl false false (e2.Kids.map encI)]), (100, .cells 68 [V.i 0, V.i 0, V.s [], V.s [], .c (.slice none 0 0)])] mix (by
  refine W.run Dk 2 101 (by kernel_rfl) ?_
  refine W.ixD Dk (eSN false) hx2 5 (by kernel_rfl) (by kernel_rfl) ?_
  refine W.run Dk 3 101 (by kernel_rfl) ?_
  exact W.fi (by kernel_rfl)
  ) ?_
 refine cu Dk mix 11 102 (tl 39 [(0, .sl false false (a0.map (eSN false))), (4, .loc 100 0), (5, .loc 101 0), (6, .loc 102 0)]) [(102, .cells 68 [V.i e2.Kind, V.i e2.Op, V.s e2.Text, V.s e2.Other, .c (.slice none 0 0)]), (101, .cells 48 [V.i e2.Kind, V.i e2.Op, V.s e2.Text, V.s e2.Other, .sl false false (e2.Kids.map encI)]), (100, .cells 68 [V.i 0, V.i 0, V.s [], V.s [], .c (.slice none 0 0)])] (by kernel_rfl) ?_
 refine CO.seq' ?_
 refine CO.cutR (tl 39 [(0, .sl false false (a0.map (eSN false))), (4, .loc 100 0), (6, .loc 102 0), (23, .sl false false (e2.Kids.map encI)), (24, V.i (e2.Kids.length : Int)), (25, V.i 0)]) [(102, .cells 68 [V.i e2.Kind, V.i e2.Op, V.s e2.Text, V.s e2.Other, .c (.slice none 0 0)]), (100, .cells 68 [V.i 0, V.i 0, V.s [], V.s [], .c (.slice none 0 0)])] mix (by
  refine W.run Dk 2 103 (by kernel_rfl) ?_
  refine W.len Dk encI e2.Kids [] (by kernel_rfl) (by kernel_rfl) ?_
  refine W.run Dk 1 103 (by kernel_rfl) ?_
  exact W.fi (by kernel_rfl)
  ) ?_
 refine CO.block' ?_
 refine CO.loopJ (fun (⟨a0, e2, y63, y64⟩ : ((List SNode) × SNode × Int × (List STree))) => ⟨tl 39 [(0, .sl false false (a0.map (eSN false))), (4, .loc 100 0), (6, .loc 101 0), (23, .sl false false (e2.Kids.map encI)), (24, V.i (e2.Kids.length : Int)), (25, V.i y63)], [(100, .cells 68 [V.i 0, V.i 0, V.s [], V.s [], .c (.slice none 0 0)]), (101, .cells 68 [V.i e2.Kind, V.i e2.Op, V.s e2.Text, V.s e2.Other, .own 102]), (102, .vec false 68 5 (y64.map eST))]⟩) (fun n i => mi_treeAt_l1 N R n i = some r) (n0 := N) (i0 := (a0, e2, 0, [])) ((Weak.nilCell 102 4 103 68 5 (ety := 68) (cs := [V.i e2.Kind, V.i e2.Op, V.s e2.Text, V.s e2.Other, .c (.slice none 0 0)]) (by kernel_rfl) (by kernel_rfl) (by kernel_rfl)).trans (Weak.sel [(100, 100), (102, 101), (103, 102)] [0, 4, 6, 23, 24, 25] (by kernel_rfl) (by kernel_rfl) (by kernel_rfl))) h (fun i h => by simp [mi_treeAt_l1] at h) ?_
 rintro n1 ⟨a0, e2, y63, y64⟩ h83 ih84
 rw [mi_treeAt_l1] at h83
 refine cu Dk mix 1 168 (tl 39 [(0, .sl false false (a0.map (eSN false))), (4, .loc 100 0), (6, .loc 101 0), (23, .sl false false (e2.Kids.map encI)), (24, V.i (e2.Kids.length : Int)), (25, V.i y63), (26, V.b (decide (y63 < (e2.Kids.length : Int))))]) [(100, .cells 68 [V.i 0, V.i 0, V.s [], V.s [], .c (.slice none 0 0)]), (101, .cells 68 [V.i e2.Kind, V.i e2.Op, V.s e2.Text, V.s e2.Other, .own 102]), (102, .vec false 68 5 (y64.map eST))] (by kernel_rfl) ?_
 refine CO.seq' ?_
 (revert h83; refine cR (fun hc86 h83 => ?_) (fun hc86 h83 => ?_))
 ·refine CO.ifT hc86 (by kernel_rfl) ?_
  refine CO.skip ?_
  refine CO.seq' ?_
  refine CO.block' ?_
  (revert h83; refine bR fun e86 hx94 h83 => ?_)
  refine CO.cutR (tl 39 [(0, .sl false false (a0.map (eSN false))), (4, .loc 100 0), (6, .loc 101 0), (8, V.i e86), (23, .sl false false (e2.Kids.map encI)), (24, V.i (e2.Kids.length : Int)), (25, V.i y63)]) [(100, .cells 68 [V.i 0, V.i 0, V.s [], V.s [], .c (.slice none 0 0)]), (101, .cells 68 [V.i e2.Kind, V.i e2.Op, V.s e2.Text, V.s e2.Other, .own 102]), (102, .vec false 68 5 (y64.map eST))] mix (by
   refine W.ixD Dk encI hx94 1 (by kernel_rfl) (by kernel_rfl) ?_
   refine W.run Dk 2 168 (by kernel_rfl) ?_
   exact W.fi (by kernel_rfl)
   ) ?_
  (revert h83; refine bR fun r89 hx97 h83 => ?_)
  (revert h83; refine bR fun x90 hx98 h83 => ?_)
  refine CO.endR (tl 39 [(0, .sl false false (a0.map (eSN false))), (4, .loc 100 0), (6, .loc 101 0), (23, .sl false false (e2.Kids.map encI)), (24, V.i (e2.Kids.length : Int)), (25, V.i y63)]) [(101, .cells 68 [V.i e2.Kind, V.i e2.Op, V.s e2.Text, V.s e2.Other, .own 169]), (169, .vec false 68 5 (x90.map eST)), (100, .cells 68 [V.i 0, V.i 0, V.s [], V.s [], .c (.slice none 0 0)])] mix (by
   refine W.run Dk 4 168 (by kernel_rfl) ?_
   refine W.call0 (HR.mi_treeAt a0 e86 _ hx97) cok48 rfl (by kernel_rfl) ?_
   refine W.layop Dk (show LayOk _ [] from trivial) (by kernel_rfl) 168 { v := .own 168, R := [], new := [(168, .vec true 68 5 [[V.i r89.kind, V.i r89.op, V.s r89.text, V.s r89.other, .sl false false (r89.kids.map eST)]])], N := [168] } (by kernel_rfl) ?_
   refine W.vecEq 168 (nn := true) (e := 68) (k := 5) (rows := [[V.i r89.kind, V.i r89.op, V.s r89.text, V.s r89.other, .sl false false (r89.kids.map eST)]]) (rows' := [r89].map eST) (by kernel_rfl) (by simp only [List.map_cons, List.map_nil, encSTree_eq]) ?_
   refine W.appO Dk eST (a := 102) (c := 168) (el := 68) (sz := 5) 72 hx98 rfl 169 (by kernel_rfl) ?_
   refine W.run Dk 2 170 (by kernel_rfl) ?_
   exact W.fi (by kernel_rfl)
   ) (fun st hw => ?_)
  refine CO.weak hw ?_
  refine ce Dk mix 2 170 (tl 39 [(0, .sl false false (a0.map (eSN false))), (4, .loc 100 0), (6, .loc 101 0), (23, .sl false false (e2.Kids.map encI)), (24, V.i (e2.Kids.length : Int)), (25, V.i (IntKind.wrap .i64 (y63 + 1)))]) [(101, .cells 68 [V.i e2.Kind, V.i e2.Op, V.s e2.Text, V.s e2.Other, .own 169]), (169, .vec false 68 5 (x90.map eST)), (100, .cells 68 [V.i 0, V.i 0, V.s [], V.s [], .c (.slice none 0 0)])] (by kernel_rfl) (fun st hw => ?_)
  exact ih84 (a0, e2, (IntKind.wrap .i64 (y63 + 1)), x90) h83 _ (hw.trans (Weak.sel [(100, 100), (101, 101), (169, 102)] [0, 4, 6, 23, 24, 25] (by kernel_rfl) (by kernel_rfl) (by kernel_rfl)))
 refine CO.ifF hc86 (by kernel_rfl) ?_
 refine CO.exit ?_
 refine cu Dk mix 2 168 (tl 39 [(4, .loc 100 0)]) [(100, .cells 68 [V.i e2.Kind, V.i e2.Op, V.s e2.Text, V.s e2.Other, .own 102]), (102, .vec false 68 5 (y64.map eST))] (by kernel_rfl) ?_
 refine CO.lay (tl 39 [(4, .loc 100 0)]) [(100, .cells 68 [V.i e2.Kind, V.i e2.Op, V.s e2.Text, V.s e2.Other, .sl false false (y64.map eST)])] (LayOk.cons (j := 102) eST eST y64 (by kernel_rfl) (share_encSTree) (show LayOk _ [] from trivial)) (by kernel_rfl) (by kernel_rfl) (by kernel_rfl) ?_
 refine CO.ret ?_
 have h83 := Option.some.inj h83
 subst h83
 exact Ends.gen [] (.inr rfl) (RetV.one rfl (OneR.cell Dk (r := .agg [V.i e2.Kind, V.i e2.Op, V.s e2.Text, V.s e2.Other, .sl false false (y64.map eST)]) (i := 100) (ety := 68) (cs := [V.i e2.Kind, V.i e2.Op, V.s e2.Text, V.s e2.Other, .sl false false (y64.map eST)]) (by kernel_rfl) (by kernel_rfl) (by kernel_rfl))) (by kernel_rfl) (by kernel_rfl) (by kernel_rfl)

theorem scc2_ok : ∀ N, RecOk2 (scc2 N)
  | 0 => ⟨fun _ _ _ h => (by cases h)⟩
  | N + 1 => ⟨fun a0 a1 _ h => mi_treeAt_F_ok N (scc2 N) (scc2_ok N) a0 a1 h⟩

theorem mi_treeAt_ok (N : Nat) (a0 : List SNode) (a1 : Int) {r : STree} (h : mi_treeAt N a0 a1 = some r) :
    AC Tryz.prog (GS []) 48 [.sl false false (a0.map (eSN false)), V.i a1] [] (.agg [V.i r.kind, V.i r.op, V.s r.text, V.s r.other, .sl false false (r.kids.map eST)]) [] :=
  (scc2_ok N).mi_treeAt a0 a1 r h

theorem mi_rootOf_ok (N : Nat) (a0 : List SNode) {r : STree} (h : mi_rootOf N a0 = some r) :
    AC Tryz.prog (GS []) 45 [.sl false false (a0.map (eSN false))] [] (.agg [V.i r.kind, V.i r.op, V.s r.text, V.s r.other, .sl false false (r.kids.map eST)]) [] := by
 rw [mi_rootOf] at h
 refine AC.enter Tryz.func45 rfl ?_
 refine cu Dk mix 1 100 (tl 8 [(0, .sl false false (a0.map (eSN false))), (2, .loc 100 0)]) [(100, .cells 68 [V.i 0, V.i 0, V.s [], V.s [], .c (.slice none 0 0)])] (by kernel_rfl) ?_
 (revert h; refine bR fun r2 hx2 h => ?_)
 refine CO.cutR (tl 8 [(2, .loc 100 0)]) [(100, .cells 68 [V.i r2.kind, V.i r2.op, V.s r2.text, V.s r2.other, .sl false false (r2.kids.map eST)])] mix (by
  refine W.run Dk 2 101 (by kernel_rfl) ?_
  refine W.len Dk (eSN false) a0 [] (by kernel_rfl) (by kernel_rfl) ?_
  refine W.run Dk 1 101 (by kernel_rfl) ?_
  refine W.call0 (mi_treeAt_ok N a0 (IntKind.wrap .i64 ((a0.length : Int) - 1)) hx2) cok48 rfl (by kernel_rfl) ?_
  refine W.run Dk 1 101 (by kernel_rfl) ?_
  exact W.fi (by kernel_rfl)
  ) ?_
 refine CO.ret ?_
 have h := Option.some.inj h
 subst h
 exact Ends.gen [] (.inr rfl) (RetV.one rfl (OneR.cell Dk (r := .agg [V.i r2.kind, V.i r2.op, V.s r2.text, V.s r2.other, .sl false false (r2.kids.map eST)]) (i := 100) (ety := 68) (cs := [V.i r2.kind, V.i r2.op, V.s r2.text, V.s r2.other, .sl false false (r2.kids.map eST)]) (by kernel_rfl) (by kernel_rfl) (by kernel_rfl))) (by kernel_rfl) (by kernel_rfl) (by kernel_rfl)

structure RecOk3 (R : Rec3) : Prop where
  mi_tree__depth : ∀ (a0 : STree) (r : Int), R.mi_tree__depth a0 = some r → AC Tryz.prog (GS []) 78 [.agg [V.i a0.kind, V.i a0.op, V.s a0.text, V.s a0.other, .sl false false (a0.kids.map eST)]] [] (V.i r) []

theorem mi_tree__depth_F_ok (N : Nat) (R : Rec3) (HR : RecOk3 R) (a0 : STree) {r : Int} (h : mi_tree__depth_F N R a0 = some r) :
    AC Tryz.prog (GS []) 78 [.agg [V.i a0.kind, V.i a0.op, V.s a0.text, V.s a0.other, .sl false false (a0.kids.map eST)]] [] (V.i r) [] := by
 rw [mi_tree__depth_F] at h
 refine AC.enter Tryz.func78 rfl ?_
 refine cu Dk mix 2 100 (tl 20 [(1, .loc 100 0)]) [(100, .cells 68 [V.i a0.kind, V.i a0.op, V.s a0.text, V.s a0.other, .sl false false (a0.kids.map eST)])] (by kernel_rfl) ?_
 refine cu Dk mix 1 101 (tl 20 [(1, .loc 100 0), (3, V.i 0)]) [(100, .cells 68 [V.i a0.kind, V.i a0.op, V.s a0.text, V.s a0.other, .sl false false (a0.kids.map eST)])] (by kernel_rfl) ?_
 refine CO.seq' ?_
 refine CO.cutR (tl 20 [(3, V.i 0), (7, .sl false false (a0.kids.map eST)), (8, V.i (a0.kids.length : Int)), (9, V.i 0)]) [] mix (by
  refine W.run Dk 2 101 (by kernel_rfl) ?_
  refine W.len Dk eST a0.kids [] (by kernel_rfl) (by kernel_rfl) ?_
  refine W.run Dk 1 101 (by kernel_rfl) ?_
  exact W.fi (by kernel_rfl)
  ) ?_
 refine CO.block' ?_
 refine CO.loopJ (fun (⟨a0, y37, y38⟩ : (STree × Int × Int)) => ⟨tl 20 [(3, V.i y37), (7, .sl false false (a0.kids.map eST)), (8, V.i (a0.kids.length : Int)), (9, V.i y38)], []⟩) (fun n i => mi_tree__depth_l1 N R n i = some r) (n0 := N) (i0 := (a0, 0, 0)) (Weak.sel [] [3, 7, 8, 9] (by kernel_rfl) (by kernel_rfl) (by kernel_rfl)) h (fun i h => by simp [mi_tree__depth_l1] at h) ?_
 rintro n1 ⟨a0, y37, y38⟩ h53 ih54
 rw [mi_tree__depth_l1] at h53
 refine cu Dk mix 1 163 (tl 20 [(3, V.i y37), (7, .sl false false (a0.kids.map eST)), (8, V.i (a0.kids.length : Int)), (9, V.i y38), (10, V.b (decide (y38 < (a0.kids.length : Int))))]) [] (by kernel_rfl) ?_
 refine CO.seq' ?_
 (revert h53; refine cR (fun hc56 h53 => ?_) (fun hc56 h53 => ?_))
 ·refine CO.ifT hc56 (by kernel_rfl) ?_
  refine CO.skip ?_
  refine CO.seq' ?_
  refine CO.block' ?_
  (revert h53; refine bR fun e54 hx62 h53 => ?_)
  refine CO.cutR (tl 20 [(3, V.i y37), (5, .loc 163 0), (7, .sl false false (a0.kids.map eST)), (8, V.i (a0.kids.length : Int)), (9, V.i y38)]) [(163, .cells 68 [V.i e54.kind, V.i e54.op, V.s e54.text, V.s e54.other, .sl false false (e54.kids.map eST)])] mix (by
   refine W.ixDr Dk eST hx62 5 (by kernel_rfl) (encSTree_eq e54) (by kernel_rfl) ?_
   refine W.run Dk 3 163 (by kernel_rfl) ?_
   exact W.fi (by kernel_rfl)
   ) ?_
  (revert h53; refine bR fun r56 hx64 h53 => ?_)
  refine CO.endR (tl 20 [(3, V.i (if r56 > y37 then r56 else y37)), (7, .sl false false (a0.kids.map eST)), (8, V.i (a0.kids.length : Int)), (9, V.i y38)]) [] mix (by
   refine W.run Dk 2 164 (by kernel_rfl) ?_
   refine W.call0 (HR.mi_tree__depth e54 _ hx64) cok78 rfl (by kernel_rfl) ?_
   refine W.run Dk 2 164 (by kernel_rfl) ?_
   exact W.fi (by kernel_rfl)
   ) (fun st hw => ?_)
  refine CO.weak hw ?_
  refine ce Dk mix 2 164 (tl 20 [(3, V.i (if r56 > y37 then r56 else y37)), (7, .sl false false (a0.kids.map eST)), (8, V.i (a0.kids.length : Int)), (9, V.i (IntKind.wrap .i64 (y38 + 1)))]) [] (by kernel_rfl) (fun st hw => ?_)
  exact ih54 (a0, (if r56 > y37 then r56 else y37), (IntKind.wrap .i64 (y38 + 1))) h53 _ (hw.trans (Weak.sel [] [3, 7, 8, 9] (by kernel_rfl) (by kernel_rfl) (by kernel_rfl)))
 refine CO.ifF hc56 (by kernel_rfl) ?_
 refine CO.exit ?_
 refine cu Dk mix 3 163 (tl 20 [(2, V.i (IntKind.wrap .i64 (y37 + 1)))]) [] (by kernel_rfl) ?_
 refine CO.ret ?_
 have h53 := Option.some.inj h53
 subst h53
 exact Ends.gen [] (.inr rfl) (RetV.one rfl (OneR.t (t := 2) (r := V.i (IntKind.wrap .i64 (y37 + 1))) (by kernel_rfl))) (by kernel_rfl) (by kernel_rfl) (by kernel_rfl)

theorem scc3_ok : ∀ N, RecOk3 (scc3 N)
  | 0 => ⟨fun _ _ h => (by cases h)⟩
  | N + 1 => ⟨fun a0 _ h => mi_tree__depth_F_ok N (scc3 N) (scc3_ok N) a0 h⟩

theorem mi_tree__depth_ok (N : Nat) (a0 : STree) {r : Int} (h : mi_tree__depth N a0 = some r) :
    AC Tryz.prog (GS []) 78 [.agg [V.i a0.kind, V.i a0.op, V.s a0.text, V.s a0.other, .sl false false (a0.kids.map eST)]] [] (V.i r) [] :=
  (scc3_ok N).mi_tree__depth a0 r h

theorem mi_TreeOk_ok (N : Nat) (a0 : List SNode) {r : Bool} (h : mi_TreeOk N a0 = some r) :
    AC Tryz.prog (GS [0, 1, 2]) 36 [.sl false false (a0.map (eSN false))] [] (V.b r) [] := by
 rw [mi_TreeOk] at h
 refine AC.enter Tryz.func36 rfl ?_
 refine cu Dk mix 1 100 (tl 42 [(0, .sl false false (a0.map (eSN false)))]) [] (by kernel_rfl) ?_
 refine CO.seq' ?_
 (revert h; refine bR fun r4 hx5 h => ?_)
 refine CO.cutR (tl 42 [(0, .sl false false (a0.map (eSN false))), (9, V.b (!r4))]) [] mix (by
  refine W.run Dk 1 100 (by kernel_rfl) ?_
  refine W.call0 (AC.gs (mi_ShapeOk_ok N a0 hx5) (by decide)) cok75 rfl (by kernel_rfl) ?_
  refine W.run Dk 1 100 (by kernel_rfl) ?_
  exact W.fi (by kernel_rfl)
  ) ?_
 (revert h; refine cR (fun hc6 h => ?_) (fun hc6 h => ?_))
 ·refine CO.ifT hc6 (by kernel_rfl) ?_
  refine cu Dk mix 1 100 (tl 42 [(2, V.b false)]) [] (by kernel_rfl) ?_
  refine CO.ret ?_
  have h := Option.some.inj h
  subst h
  exact Ends.gen [] (.inr rfl) (RetV.one rfl (OneR.t (t := 2) (r := V.b false) (by kernel_rfl))) (by kernel_rfl) (by kernel_rfl) (by kernel_rfl)
 refine CO.ifF hc6 (by kernel_rfl) ?_
 refine CO.skip ?_
 refine CO.seq' ?_
 refine CO.cutR (tl 42 [(0, .sl false false (a0.map (eSN false))), (10, .sl false false (a0.map (eSN false))), (11, V.i (a0.length : Int)), (12, V.i 0)]) [] mix (by
  refine W.run Dk 1 100 (by kernel_rfl) ?_
  refine W.len Dk (eSN false) a0 [] (by kernel_rfl) (by kernel_rfl) ?_
  refine W.run Dk 1 100 (by kernel_rfl) ?_
  exact W.fi (by kernel_rfl)
  ) ?_
 refine CO.block' ?_
 refine CO.loopJ (fun (⟨a0, y359⟩ : ((List SNode) × Int)) => ⟨tl 42 [(0, .sl false false (a0.map (eSN false))), (10, .sl false false (a0.map (eSN false))), (11, V.i (a0.length : Int)), (12, V.i y359)], []⟩) (fun n i => mi_TreeOk_l1 N n i = some r) (n0 := N) (i0 := (a0, 0)) (Weak.sel [] [0, 10, 11, 12] (by kernel_rfl) (by kernel_rfl) (by kernel_rfl)) h (fun i h => by simp [mi_TreeOk_l1] at h) ?_
 rintro n1 ⟨a0, y359⟩ h599 ih600
 rw [mi_TreeOk_l1] at h599
 refine cu Dk mix 1 282 (tl 42 [(0, .sl false false (a0.map (eSN false))), (10, .sl false false (a0.map (eSN false))), (11, V.i (a0.length : Int)), (12, V.i y359), (13, V.b (decide (y359 < (a0.length : Int))))]) [] (by kernel_rfl) ?_
 refine CO.seq' ?_
 (revert h599; refine cR (fun hc602 h599 => ?_) (fun hc602 h599 => ?_))
 ·refine CO.ifT hc602 (by kernel_rfl) ?_
  refine CO.skip ?_
  refine CO.seq' ?_
  refine CO.block' ?_
  (revert h599; refine bR fun e494 hx662 h599 => ?_)
  refine CO.cutR (tl 42 [(0, .sl false false (a0.map (eSN false))), (4, .loc 282 0), (10, .sl false false (a0.map (eSN false))), (11, V.i (a0.length : Int)), (12, V.i y359)]) [(282, .cells 48 [V.i e494.Kind, V.i e494.Op, V.s e494.Text, V.s e494.Other, .sl false false (e494.Kids.map encI)])] mix (by
   refine W.ixD Dk (eSN false) hx662 5 (by kernel_rfl) (by kernel_rfl) ?_
   refine W.run Dk 3 282 (by kernel_rfl) ?_
   exact W.fi (by kernel_rfl)
   ) ?_
  refine CO.seq' ?_
  (revert h599; refine bR fun r498 hx667 h599 => ?_)
  refine CO.cutR (tl 42 [(0, .sl false false (a0.map (eSN false))), (4, .loc 282 0), (10, .sl false false (a0.map (eSN false))), (11, V.i (a0.length : Int)), (12, V.i y359), (18, V.b (!r498))]) [(282, .cells 48 [V.i e494.Kind, V.i e494.Op, V.s e494.Text, V.s e494.Other, .sl false false (e494.Kids.map encI)])] mix (by
   refine W.run Dk 1 283 (by kernel_rfl) ?_
   refine W.call0 (mi_FieldsOk_ok N e494 hx667) cok76 rfl (by kernel_rfl) ?_
   refine W.run Dk 1 283 (by kernel_rfl) ?_
   exact W.fi (by kernel_rfl)
   ) ?_
  (revert h599; refine cR (fun hc668 h599 => ?_) (fun hc668 h599 => ?_))
  ·refine CO.ifT hc668 (by kernel_rfl) ?_
   refine cu Dk mix 1 283 (tl 42 [(2, V.b false)]) [] (by kernel_rfl) ?_
   refine CO.ret ?_
   have h599 := Option.some.inj h599
   subst h599
   exact Ends.gen [] (.inr rfl) (RetV.one rfl (OneR.t (t := 2) (r := V.b false) (by kernel_rfl))) (by kernel_rfl) (by kernel_rfl) (by kernel_rfl)
  refine CO.ifF hc668 (by kernel_rfl) ?_
  refine CO.skip ?_
  refine CO.cutR (tl 42 [(0, .sl false false (a0.map (eSN false))), (4, .loc 282 0), (10, .sl false false (a0.map (eSN false))), (11, V.i (a0.length : Int)), (12, V.i y359), (20, .sl false false (e494.Kids.map encI)), (21, V.i (e494.Kids.length : Int)), (22, V.i 0)]) [(282, .cells 48 [V.i e494.Kind, V.i e494.Op, V.s e494.Text, V.s e494.Other, .sl false false (e494.Kids.map encI)])] mix (by
   refine W.run Dk 2 283 (by kernel_rfl) ?_
   refine W.len Dk encI e494.Kids [] (by kernel_rfl) (by kernel_rfl) ?_
   refine W.run Dk 1 283 (by kernel_rfl) ?_
   exact W.fi (by kernel_rfl)
   ) ?_
  refine CO.block' ?_
  refine CO.loopJ (fun (⟨a0, y359, e494, y511⟩ : ((List SNode) × Int × SNode × Int)) => ⟨tl 42 [(0, .sl false false (a0.map (eSN false))), (4, .loc 100 0), (10, .sl false false (a0.map (eSN false))), (11, V.i (a0.length : Int)), (12, V.i y359), (20, .sl false false (e494.Kids.map encI)), (21, V.i (e494.Kids.length : Int)), (22, V.i y511)], [(100, .cells 48 [V.i e494.Kind, V.i e494.Op, V.s e494.Text, V.s e494.Other, .sl false false (e494.Kids.map encI)])]⟩) (fun n i => mi_TreeOk_l2 N (mi_TreeOk_l1 N n1) n i = some r) (n0 := N) (i0 := (a0, y359, e494, 0)) (Weak.sel [(282, 100)] [0, 4, 10, 11, 12, 20, 21, 22] (by kernel_rfl) (by kernel_rfl) (by kernel_rfl)) h599 (fun i h => by simp [mi_TreeOk_l2] at h) ?_
  rintro n2 ⟨a0, y359, e494, y511⟩ h701 ih702
  rw [mi_TreeOk_l2] at h701
  refine cu Dk mix 1 343 (tl 42 [(0, .sl false false (a0.map (eSN false))), (4, .loc 100 0), (10, .sl false false (a0.map (eSN false))), (11, V.i (a0.length : Int)), (12, V.i y359), (20, .sl false false (e494.Kids.map encI)), (21, V.i (e494.Kids.length : Int)), (22, V.i y511), (23, V.b (decide (y511 < (e494.Kids.length : Int))))]) [(100, .cells 48 [V.i e494.Kind, V.i e494.Op, V.s e494.Text, V.s e494.Other, .sl false false (e494.Kids.map encI)])] (by kernel_rfl) ?_
  refine CO.seq' ?_
  (revert h701; refine cR (fun hc704 h701 => ?_) (fun hc704 h701 => ?_))
  ·refine CO.ifT hc704 (by kernel_rfl) ?_
   refine CO.skip ?_
   refine CO.seq' ?_
   refine CO.block' ?_
   (revert h701; refine bR fun e532 hx713 h701 => ?_)
   refine CO.cutR (tl 42 [(0, .sl false false (a0.map (eSN false))), (4, .loc 100 0), (5, V.i y511), (6, V.i e532), (10, .sl false false (a0.map (eSN false))), (11, V.i (a0.length : Int)), (12, V.i y359), (20, .sl false false (e494.Kids.map encI)), (21, V.i (e494.Kids.length : Int)), (22, V.i y511)]) [(100, .cells 48 [V.i e494.Kind, V.i e494.Op, V.s e494.Text, V.s e494.Other, .sl false false (e494.Kids.map encI)])] mix (by
    refine W.run Dk 1 343 (by kernel_rfl) ?_
    refine W.ixD Dk encI hx713 1 (by kernel_rfl) (by kernel_rfl) ?_
    refine W.run Dk 3 343 (by kernel_rfl) ?_
    exact W.fi (by kernel_rfl)
    ) ?_
   (revert h701; refine bR fun e535 hx716 h701 => ?_)
   (revert h701; refine bR fun r536 hx717 h701 => ?_)
   refine CO.cutR (tl 42 [(0, .sl false false (a0.map (eSN false))), (4, .loc 100 0), (10, .sl false false (a0.map (eSN false))), (11, V.i (a0.length : Int)), (12, V.i y359), (20, .sl false false (e494.Kids.map encI)), (21, V.i (e494.Kids.length : Int)), (22, V.i y511), (35, V.b (!r536))]) [(100, .cells 48 [V.i e494.Kind, V.i e494.Op, V.s e494.Text, V.s e494.Other, .sl false false (e494.Kids.map encI)])] mix (by
    refine W.run Dk 4 343 (by kernel_rfl) ?_
    refine W.ixD Dk (eSN false) hx716 5 (by kernel_rfl) (by kernel_rfl) ?_
    refine W.run Dk 2 343 (by kernel_rfl) ?_
    refine W.call0 (AC.gs (mi_kidOk_ok e494 y511 e535.Kind hx717) (by decide)) cok77 rfl (by kernel_rfl) ?_
    refine W.run Dk 1 343 (by kernel_rfl) ?_
    exact W.fi (by kernel_rfl)
    ) ?_
   (revert h701; refine cR (fun hc718 h701 => ?_) (fun hc718 h701 => ?_))
   ·refine CO.ifT hc718 (by kernel_rfl) ?_
    refine cu Dk mix 1 343 (tl 42 [(2, V.b false)]) [] (by kernel_rfl) ?_
    refine CO.ret ?_
    have h701 := Option.some.inj h701
    subst h701
    exact Ends.gen [] (.inr rfl) (RetV.one rfl (OneR.t (t := 2) (r := V.b false) (by kernel_rfl))) (by kernel_rfl) (by kernel_rfl) (by kernel_rfl)
   refine CO.ifF hc718 (by kernel_rfl) ?_
   refine CO.skip ?_
   refine ce Dk mix 2 343 (tl 42 [(0, .sl false false (a0.map (eSN false))), (4, .loc 100 0), (10, .sl false false (a0.map (eSN false))), (11, V.i (a0.length : Int)), (12, V.i y359), (20, .sl false false (e494.Kids.map encI)), (21, V.i (e494.Kids.length : Int)), (22, V.i (IntKind.wrap .i64 (y511 + 1)))]) [(100, .cells 48 [V.i e494.Kind, V.i e494.Op, V.s e494.Text, V.s e494.Other, .sl false false (e494.Kids.map encI)])] (by kernel_rfl) (fun st hw => ?_)
   exact ih702 (a0, y359, e494, (IntKind.wrap .i64 (y511 + 1))) h701 _ (hw.trans (Weak.sel [(100, 100)] [0, 4, 10, 11, 12, 20, 21, 22] (by kernel_rfl) (by kernel_rfl) (by kernel_rfl)))
  refine CO.ifF hc704 (by kernel_rfl) ?_
  refine CO.exit ?_
  refine ce Dk mix 2 343 (tl 42 [(0, .sl false false (a0.map (eSN false))), (10, .sl false false (a0.map (eSN false))), (11, V.i (a0.length : Int)), (12, V.i (IntKind.wrap .i64 (y359 + 1)))]) [] (by kernel_rfl) (fun st hw => ?_)
  exact ih600 (a0, (IntKind.wrap .i64 (y359 + 1))) h701 _ (hw.trans (Weak.sel [] [0, 10, 11, 12] (by kernel_rfl) (by kernel_rfl) (by kernel_rfl)))
 refine CO.ifF hc602 (by kernel_rfl) ?_
 refine CO.exit ?_
 (revert h599; refine bR fun r539 hx721 h599 => ?_)
 (revert h599; refine bR fun r540 hx722 h599 => ?_)
 refine CO.cutR (tl 42 [(2, V.b (decide (r540 ≤ 40)))]) [] mix (by
  refine W.run Dk 1 282 (by kernel_rfl) ?_
  refine W.call0 (AC.gs (mi_rootOf_ok N a0 hx721) (by decide)) cok45 rfl (by kernel_rfl) ?_
  refine W.call0 (AC.gs (mi_tree__depth_ok N r539 hx722) (by decide)) cok78 rfl (by kernel_rfl) ?_
  refine W.run Dk 2 282 (by kernel_rfl) ?_
  exact W.fi (by kernel_rfl)
  ) ?_
 refine CO.ret ?_
 have h599 := Option.some.inj h599
 subst h599
 exact Ends.gen [] (.inr rfl) (RetV.one rfl (OneR.t (t := 2) (r := V.b (decide (r540 ≤ 40))) (by kernel_rfl))) (by kernel_rfl) (by kernel_rfl) (by kernel_rfl)

theorem mi_ExprOk_ok (N : Nat) (a0 : List SNode) {r : Bool} (h : mi_ExprOk N a0 = some r) :
    AC Tryz.prog (GS [0, 1, 2]) 44 [.sl false false (a0.map (eSN false))] [] (V.b r) [] := by
 rw [mi_ExprOk] at h
 refine AC.enter Tryz.func44 rfl ?_
 refine cu Dk mix 1 100 (tl 15 [(0, .sl false false (a0.map (eSN false)))]) [] (by kernel_rfl) ?_
 (revert h; refine bR fun y4 hv5 h => ?_)
 refine CO.cutR (tl 15 [(2, V.b y4)]) [] mix (by
  refine W.run Dk 1 100 (by kernel_rfl) ?_
  (revert hv5; refine bR fun r5 hx6 hv5 => ?_)
  refine W.call0 (mi_TreeOk_ok N a0 hx6) cok36 rfl (by kernel_rfl) ?_
  refine W.run Dk 1 100 (by kernel_rfl) ?_
  (revert hv5; refine cR (fun hc7 hv5 => ?_) (fun hc7 hv5 => ?_))
  ·refine W.is 5 hc7 (by kernel_rfl) ?_
   refine W.run Dk 2 100 (by kernel_rfl) ?_
   refine W.len Dk (eSN false) a0 [] (by kernel_rfl) (by kernel_rfl) ?_
   refine W.run Dk 1 100 (by kernel_rfl) ?_
   (revert hv5; refine bR fun e6 hx8 hv5 => ?_)
   refine W.ixD Dk (eSN false) hx8 5 (by kernel_rfl) (by kernel_rfl) ?_
   refine W.run Dk 2 100 (by kernel_rfl) ?_
   (revert hv5; refine bR fun r7 hx9 hv5 => ?_)
   refine W.call0 (AC.gs (mi_IsExpr_ok e6.Kind hx9) (by decide)) cok46 rfl (by kernel_rfl) ?_
   refine W.run Dk 2 100 (by kernel_rfl) ?_
   have hv5 := Option.some.inj hv5
   subst hv5
   exact W.fs [] [2] (by kernel_rfl)
  refine W.is 5 hc7 (by kernel_rfl) ?_
  refine W.run Dk 10 100 (by kernel_rfl) ?_
  have hv5 := Option.some.inj hv5
  subst hv5
  exact W.fs [] [2] (by kernel_rfl)
  ) ?_
 refine CO.ret ?_
 have h := Option.some.inj h
 subst h
 exact Ends.gen [] (.inr rfl) (RetV.one rfl (OneR.t (t := 2) (r := V.b y4) (by kernel_rfl))) (by kernel_rfl) (by kernel_rfl) (by kernel_rfl)

theorem mi_IsHole_ok (a0 : SNode) {r : Bool} (h : mi_IsHole a0 = some r) :
    AC Tryz.prog (GS []) 63 [.agg [V.i a0.Kind, V.i a0.Op, V.s a0.Text, V.s a0.Other, .sl false false (a0.Kids.map encI)]] [] (V.b r) [] := by
 rw [mi_IsHole] at h
 refine AC.enter Tryz.func63 rfl ?_
 refine cu Dk mix 2 100 (tl 24 [(1, .loc 100 0)]) [(100, .cells 48 [V.i a0.Kind, V.i a0.Op, V.s a0.Text, V.s a0.Other, .sl false false (a0.Kids.map encI)])] (by kernel_rfl) ?_
 (revert h; refine bR fun y3 hv6 h => ?_)
 refine CO.cutR (tl 24 [(2, V.b y3)]) [] mix (by
  refine W.run Dk 4 101 (by kernel_rfl) ?_
  (revert hv6; refine cR (fun hc7 hv6 => ?_) (fun hc7 hv6 => ?_))
  ·refine W.is 6 hc7 (by kernel_rfl) ?_
   refine W.run Dk 6 101 (by kernel_rfl) ?_
   (revert hv6; refine cR (fun hc8 hv6 => ?_) (fun hc8 hv6 => ?_))
   ·refine W.is 12 hc8 (by kernel_rfl) ?_
    refine W.run Dk 2 101 (by kernel_rfl) ?_
    (revert hv6; refine bR fun b4 hx9 hv6 => ?_)
    refine W.ixS Dk hx9 (by kernel_rfl) ?_
    refine W.run Dk 3 101 (by kernel_rfl) ?_
    (revert hv6; refine cR (fun hc10 hv6 => ?_) (fun hc10 hv6 => ?_))
    ·refine W.is 18 hc10 (by kernel_rfl) ?_
     refine W.run Dk 2 101 (by kernel_rfl) ?_
     (revert hv6; refine bR fun b5 hx11 hv6 => ?_)
     refine W.ixS Dk hx11 (by kernel_rfl) ?_
     refine W.run Dk 3 101 (by kernel_rfl) ?_
     have hv6 := Option.some.inj hv6
     subst hv6
     exact W.fs [] [2] (by kernel_rfl)
    refine W.is 18 hc10 (by kernel_rfl) ?_
    refine W.run Dk 6 101 (by kernel_rfl) ?_
    have hv6 := Option.some.inj hv6
    subst hv6
    exact W.fs [] [2] (by kernel_rfl)
   refine W.is 12 hc8 (by kernel_rfl) ?_
   refine W.run Dk 12 101 (by kernel_rfl) ?_
   have hv6 := Option.some.inj hv6
   subst hv6
   exact W.fs [] [2] (by kernel_rfl)
  refine W.is 6 hc7 (by kernel_rfl) ?_
  refine W.run Dk 18 101 (by kernel_rfl) ?_
  have hv6 := Option.some.inj hv6
  subst hv6
  exact W.fs [] [2] (by kernel_rfl)
  ) ?_
 refine CO.ret ?_
 have h := Option.some.inj h
 subst h
 exact Ends.gen [] (.inr rfl) (RetV.one rfl (OneR.t (t := 2) (r := V.b y3) (by kernel_rfl))) (by kernel_rfl) (by kernel_rfl) (by kernel_rfl)

theorem mi_tree__isHole_ok (a0 : STree) {r : Bool} (h : mi_tree__isHole a0 = some r) :
    AC Tryz.prog (GS []) 86 [.agg [V.i a0.kind, V.i a0.op, V.s a0.text, V.s a0.other, .sl false false (a0.kids.map eST)]] [] (V.b r) [] := by
 rw [mi_tree__isHole] at h
 refine AC.enter Tryz.func86 rfl ?_
 refine cu Dk mix 2 100 (tl 9 [(1, .loc 100 0)]) [(100, .cells 68 [V.i a0.kind, V.i a0.op, V.s a0.text, V.s a0.other, .sl false false (a0.kids.map eST)])] (by kernel_rfl) ?_
 (revert h; refine bR fun r2 hx2 h => ?_)
 refine CO.cutR (tl 9 [(2, V.b r2)]) [] mix (by
  refine W.run Dk 5 101 (by kernel_rfl) ?_
  refine W.call0 (mi_IsHole_ok (⟨a0.kind, 0, a0.text, [], []⟩ : SNode) hx2) cok63 rfl (by kernel_rfl) ?_
  refine W.run Dk 1 101 (by kernel_rfl) ?_
  exact W.fi (by kernel_rfl)
  ) ?_
 refine CO.ret ?_
 have h := Option.some.inj h
 subst h
 exact Ends.gen [] (.inr rfl) (RetV.one rfl (OneR.t (t := 2) (r := V.b r2) (by kernel_rfl))) (by kernel_rfl) (by kernel_rfl) (by kernel_rfl)

theorem mi_tree__alike_ok (a0 : STree) (a1 : STree) {r : Bool} (h : mi_tree__alike a0 a1 = some r) :
    AC Tryz.prog (GS []) 88 [.agg [V.i a0.kind, V.i a0.op, V.s a0.text, V.s a0.other, .sl false false (a0.kids.map eST)], .agg [V.i a1.kind, V.i a1.op, V.s a1.text, V.s a1.other, .sl false false (a1.kids.map eST)]] [] (V.b r) [] := by
 rw [mi_tree__alike] at h
 refine AC.enter Tryz.func88 rfl ?_
 refine cu Dk mix 3 100 (tl 40 [(2, .loc 100 0), (3, .loc 101 0)]) [(101, .cells 68 [V.i a1.kind, V.i a1.op, V.s a1.text, V.s a1.other, .sl false false (a1.kids.map eST)]), (100, .cells 68 [V.i a0.kind, V.i a0.op, V.s a0.text, V.s a0.other, .sl false false (a0.kids.map eST)])] (by kernel_rfl) ?_
 (revert h; refine bR fun y1 hv5 h => ?_)
 refine CO.cutR (tl 40 [(4, V.b y1)]) [] mix (by
  refine W.run Dk 6 102 (by kernel_rfl) ?_
  (revert hv5; refine cR (fun hc6 hv5 => ?_) (fun hc6 hv5 => ?_))
  ·refine W.is 10 hc6 (by kernel_rfl) ?_
   refine W.run Dk 7 102 (by kernel_rfl) ?_
   (revert hv5; refine cR (fun hc7 hv5 => ?_) (fun hc7 hv5 => ?_))
   ·refine W.is 17 hc7 (by kernel_rfl) ?_
    refine W.run Dk 7 102 (by kernel_rfl) ?_
    (revert hv5; refine cR (fun hc8 hv5 => ?_) (fun hc8 hv5 => ?_))
    ·refine W.is 24 hc8 (by kernel_rfl) ?_
     refine W.run Dk 7 102 (by kernel_rfl) ?_
     (revert hv5; refine cR (fun hc9 hv5 => ?_) (fun hc9 hv5 => ?_))
     ·refine W.is 31 hc9 (by kernel_rfl) ?_
      refine W.run Dk 2 102 (by kernel_rfl) ?_
      refine W.len Dk eST a0.kids [] (by kernel_rfl) (by kernel_rfl) ?_
      refine W.run Dk 2 102 (by kernel_rfl) ?_
      refine W.len Dk eST a1.kids [] (by kernel_rfl) (by kernel_rfl) ?_
      refine W.run Dk 3 102 (by kernel_rfl) ?_
      have hv5 := Option.some.inj hv5
      subst hv5
      exact W.fs [] [4] (by kernel_rfl)
     refine W.is 31 hc9 (by kernel_rfl) ?_
     refine W.run Dk 9 102 (by kernel_rfl) ?_
     have hv5 := Option.some.inj hv5
     subst hv5
     exact W.fs [] [4] (by kernel_rfl)
    refine W.is 24 hc8 (by kernel_rfl) ?_
    refine W.run Dk 16 102 (by kernel_rfl) ?_
    have hv5 := Option.some.inj hv5
    subst hv5
    exact W.fs [] [4] (by kernel_rfl)
   refine W.is 17 hc7 (by kernel_rfl) ?_
   refine W.run Dk 23 102 (by kernel_rfl) ?_
   have hv5 := Option.some.inj hv5
   subst hv5
   exact W.fs [] [4] (by kernel_rfl)
  refine W.is 10 hc6 (by kernel_rfl) ?_
  refine W.run Dk 30 102 (by kernel_rfl) ?_
  have hv5 := Option.some.inj hv5
  subst hv5
  exact W.fs [] [4] (by kernel_rfl)
  ) ?_
 refine CO.ret ?_
 have h := Option.some.inj h
 subst h
 exact Ends.gen [] (.inr rfl) (RetV.one rfl (OneR.t (t := 4) (r := V.b y1) (by kernel_rfl))) (by kernel_rfl) (by kernel_rfl) (by kernel_rfl)

structure RecOk4 (R : Rec4) : Prop where
  m_slices_EqualFunc_tree : ∀ (a0 : List STree) (a1 : List STree) (r : Bool), R.m_slices_EqualFunc_tree a0 a1 = some r → AC Tryz.prog (GS []) 112 [.sl false false (a0.map eST), .sl false false (a1.map eST), .fn 87 []] [] (V.b r) []
  mi_tree__same : ∀ (a0 : STree) (a1 : STree) (r : Bool), R.mi_tree__same a0 a1 = some r → AC Tryz.prog (GS []) 87 [.agg [V.i a0.kind, V.i a0.op, V.s a0.text, V.s a0.other, .sl false false (a0.kids.map eST)], .agg [V.i a1.kind, V.i a1.op, V.s a1.text, V.s a1.other, .sl false false (a1.kids.map eST)]] [] (V.b r) []

theorem m_slices_EqualFunc_tree_F_ok (N : Nat) (R : Rec4) (HR : RecOk4 R) (a0 : List STree) (a1 : List STree) {r : Bool} (h : m_slices_EqualFunc_tree_F N R a0 a1 = some r) :
    AC Tryz.prog (GS []) 112 [.sl false false (a0.map eST), .sl false false (a1.map eST), .fn 87 []] [] (V.b r) [] := by
 rw [m_slices_EqualFunc_tree_F] at h
 refine AC.enter Tryz.func112 rfl ?_
 refine cu Dk mix 1 100 (tl 32 [(0, .sl false false (a0.map eST)), (1, .sl false false (a1.map eST)), (2, .fn 87 [])]) [] (by kernel_rfl) ?_
 refine CO.seq' ?_
 refine CO.cutR (tl 32 [(0, .sl false false (a0.map eST)), (1, .sl false false (a1.map eST)), (2, .fn 87 []), (14, V.b ((a0.length : Int) != (a1.length : Int)))]) [] mix (by
  refine W.run Dk 1 100 (by kernel_rfl) ?_
  refine W.len Dk eST a0 [] (by kernel_rfl) (by kernel_rfl) ?_
  refine W.run Dk 1 100 (by kernel_rfl) ?_
  refine W.len Dk eST a1 [] (by kernel_rfl) (by kernel_rfl) ?_
  refine W.run Dk 1 100 (by kernel_rfl) ?_
  exact W.fi (by kernel_rfl)
  ) ?_
 (revert h; refine cR (fun hc2 h => ?_) (fun hc2 h => ?_))
 ·refine CO.ifT hc2 (by kernel_rfl) ?_
  refine cu Dk mix 1 100 (tl 32 [(6, V.b false)]) [] (by kernel_rfl) ?_
  refine CO.ret ?_
  have h := Option.some.inj h
  subst h
  exact Ends.gen [] (.inr rfl) (RetV.one rfl (OneR.t (t := 6) (r := V.b false) (by kernel_rfl))) (by kernel_rfl) (by kernel_rfl) (by kernel_rfl)
 refine CO.ifF hc2 (by kernel_rfl) ?_
 refine CO.skip ?_
 refine CO.seq' ?_
 refine CO.cutR (tl 32 [(1, .sl false false (a1.map eST)), (2, .fn 87 []), (15, .sl false false (a0.map eST)), (16, V.i (a0.length : Int)), (17, V.i 0)]) [] mix (by
  refine W.run Dk 1 100 (by kernel_rfl) ?_
  refine W.len Dk eST a0 [] (by kernel_rfl) (by kernel_rfl) ?_
  refine W.run Dk 1 100 (by kernel_rfl) ?_
  exact W.fi (by kernel_rfl)
  ) ?_
 refine CO.block' ?_
 refine CO.loopJ (fun (⟨a1, a0, y51⟩ : ((List STree) × (List STree) × Int)) => ⟨tl 32 [(1, .sl false false (a1.map eST)), (2, .fn 87 []), (15, .sl false false (a0.map eST)), (16, V.i (a0.length : Int)), (17, V.i y51)], []⟩) (fun n i => m_slices_EqualFunc_tree_l1 N R n i = some r) (n0 := N) (i0 := (a1, a0, 0)) (Weak.sel [] [1, 2, 15, 16, 17] (by kernel_rfl) (by kernel_rfl) (by kernel_rfl)) h (fun i h => by simp [m_slices_EqualFunc_tree_l1] at h) ?_
 rintro n1 ⟨a1, a0, y51⟩ h85 ih86
 rw [m_slices_EqualFunc_tree_l1] at h85
 refine cu Dk mix 1 164 (tl 32 [(1, .sl false false (a1.map eST)), (2, .fn 87 []), (15, .sl false false (a0.map eST)), (16, V.i (a0.length : Int)), (17, V.i y51), (18, V.b (decide (y51 < (a0.length : Int))))]) [] (by kernel_rfl) ?_
 refine CO.seq' ?_
 (revert h85; refine cR (fun hc88 h85 => ?_) (fun hc88 h85 => ?_))
 ·refine CO.ifT hc88 (by kernel_rfl) ?_
  refine CO.skip ?_
  refine CO.seq' ?_
  refine CO.block' ?_
  (revert h85; refine bR fun e72 hx97 h85 => ?_)
  refine CO.cutR (tl 32 [(1, .sl false false (a1.map eST)), (2, .fn 87 []), (7, V.i y51), (8, .loc 164 0), (15, .sl false false (a0.map eST)), (16, V.i (a0.length : Int)), (17, V.i y51)]) [(164, .cells 68 [V.i e72.kind, V.i e72.op, V.s e72.text, V.s e72.other, .sl false false (e72.kids.map eST)])] mix (by
   refine W.run Dk 1 164 (by kernel_rfl) ?_
   refine W.ixDr Dk eST hx97 5 (by kernel_rfl) (encSTree_eq e72) (by kernel_rfl) ?_
   refine W.run Dk 4 164 (by kernel_rfl) ?_
   exact W.fi (by kernel_rfl)
   ) ?_
  (revert h85; refine bR fun e74 hx99 h85 => ?_)
  refine CO.cutR (tl 32 [(1, .sl false false (a1.map eST)), (2, .fn 87 []), (8, .loc 164 0), (9, .loc 165 0), (15, .sl false false (a0.map eST)), (16, V.i (a0.length : Int)), (17, V.i y51)]) [(165, .cells 68 [V.i e74.kind, V.i e74.op, V.s e74.text, V.s e74.other, .sl false false (e74.kids.map eST)]), (164, .cells 68 [V.i e72.kind, V.i e72.op, V.s e72.text, V.s e72.other, .sl false false (e72.kids.map eST)])] mix (by
   refine W.run Dk 2 165 (by kernel_rfl) ?_
   refine W.ixDr Dk eST hx99 5 (by kernel_rfl) (encSTree_eq e74) (by kernel_rfl) ?_
   refine W.run Dk 3 165 (by kernel_rfl) ?_
   exact W.fi (by kernel_rfl)
   ) ?_
  (revert h85; refine bR fun r76 hx101 h85 => ?_)
  refine CO.cutR (tl 32 [(1, .sl false false (a1.map eST)), (2, .fn 87 []), (15, .sl false false (a0.map eST)), (16, V.i (a0.length : Int)), (17, V.i y51), (30, V.b (!r76))]) [] mix (by
   refine W.run Dk 3 166 (by kernel_rfl) ?_
   refine W.call0 (HR.mi_tree__same e72 e74 _ hx101) cok87 rfl (by kernel_rfl) ?_
   refine W.run Dk 1 166 (by kernel_rfl) ?_
   exact W.fi (by kernel_rfl)
   ) ?_
  (revert h85; refine cR (fun hc102 h85 => ?_) (fun hc102 h85 => ?_))
  ·refine CO.ifT hc102 (by kernel_rfl) ?_
   refine cu Dk mix 1 166 (tl 32 [(6, V.b false)]) [] (by kernel_rfl) ?_
   refine CO.ret ?_
   have h85 := Option.some.inj h85
   subst h85
   exact Ends.gen [] (.inr rfl) (RetV.one rfl (OneR.t (t := 6) (r := V.b false) (by kernel_rfl))) (by kernel_rfl) (by kernel_rfl) (by kernel_rfl)
  refine CO.ifF hc102 (by kernel_rfl) ?_
  refine CO.skip ?_
  refine ce Dk mix 2 166 (tl 32 [(1, .sl false false (a1.map eST)), (2, .fn 87 []), (15, .sl false false (a0.map eST)), (16, V.i (a0.length : Int)), (17, V.i (IntKind.wrap .i64 (y51 + 1)))]) [] (by kernel_rfl) (fun st hw => ?_)
  exact ih86 (a1, a0, (IntKind.wrap .i64 (y51 + 1))) h85 _ (hw.trans (Weak.sel [] [1, 2, 15, 16, 17] (by kernel_rfl) (by kernel_rfl) (by kernel_rfl)))
 refine CO.ifF hc88 (by kernel_rfl) ?_
 refine CO.exit ?_
 refine cu Dk mix 1 164 (tl 32 [(6, V.b true)]) [] (by kernel_rfl) ?_
 refine CO.ret ?_
 have h85 := Option.some.inj h85
 subst h85
 exact Ends.gen [] (.inr rfl) (RetV.one rfl (OneR.t (t := 6) (r := V.b true) (by kernel_rfl))) (by kernel_rfl) (by kernel_rfl) (by kernel_rfl)

theorem mi_tree__same_F_ok (N : Nat) (R : Rec4) (HR : RecOk4 R) (a0 : STree) (a1 : STree) {r : Bool} (h : mi_tree__same_F N R a0 a1 = some r) :
    AC Tryz.prog (GS []) 87 [.agg [V.i a0.kind, V.i a0.op, V.s a0.text, V.s a0.other, .sl false false (a0.kids.map eST)], .agg [V.i a1.kind, V.i a1.op, V.s a1.text, V.s a1.other, .sl false false (a1.kids.map eST)]] [] (V.b r) [] := by
 rw [mi_tree__same_F] at h
 refine AC.enter Tryz.func87 rfl ?_
 refine cu Dk mix 3 100 (tl 15 [(2, .loc 100 0), (3, .loc 101 0)]) [(101, .cells 68 [V.i a1.kind, V.i a1.op, V.s a1.text, V.s a1.other, .sl false false (a1.kids.map eST)]), (100, .cells 68 [V.i a0.kind, V.i a0.op, V.s a0.text, V.s a0.other, .sl false false (a0.kids.map eST)])] (by kernel_rfl) ?_
 (revert h; refine bR fun y3 hv4 h => ?_)
 refine CO.cutR (tl 15 [(4, V.b y3)]) [] mix (by
  refine W.run Dk 2 102 (by kernel_rfl) ?_
  (revert hv4; refine bR fun r4 hx5 hv4 => ?_)
  refine W.call0 (mi_tree__alike_ok a0 a1 hx5) cok88 rfl (by kernel_rfl) ?_
  refine W.run Dk 1 102 (by kernel_rfl) ?_
  (revert hv4; refine cR (fun hc6 hv4 => ?_) (fun hc6 hv4 => ?_))
  ·refine W.is 8 hc6 (by kernel_rfl) ?_
   refine W.run Dk 4 102 (by kernel_rfl) ?_
   (revert hv4; refine bR fun r5 hx7 hv4 => ?_)
   refine W.call0 (HR.m_slices_EqualFunc_tree a0.kids a1.kids _ hx7) cok112 rfl (by kernel_rfl) ?_
   refine W.run Dk 2 102 (by kernel_rfl) ?_
   have hv4 := Option.some.inj hv4
   subst hv4
   exact W.fs [] [4] (by kernel_rfl)
  refine W.is 8 hc6 (by kernel_rfl) ?_
  refine W.run Dk 7 102 (by kernel_rfl) ?_
  have hv4 := Option.some.inj hv4
  subst hv4
  exact W.fs [] [4] (by kernel_rfl)
  ) ?_
 refine CO.ret ?_
 have h := Option.some.inj h
 subst h
 exact Ends.gen [] (.inr rfl) (RetV.one rfl (OneR.t (t := 4) (r := V.b y3) (by kernel_rfl))) (by kernel_rfl) (by kernel_rfl) (by kernel_rfl)

theorem scc4_ok : ∀ N, RecOk4 (scc4 N)
  | 0 => ⟨fun _ _ _ h => (by cases h), fun _ _ _ h => (by cases h)⟩
  | N + 1 => ⟨fun a0 a1 _ h => m_slices_EqualFunc_tree_F_ok N (scc4 N) (scc4_ok N) a0 a1 h, fun a0 a1 _ h => mi_tree__same_F_ok N (scc4 N) (scc4_ok N) a0 a1 h⟩

theorem m_slices_EqualFunc_tree_ok (N : Nat) (a0 : List STree) (a1 : List STree) {r : Bool} (h : m_slices_EqualFunc_tree N a0 a1 = some r) :
    AC Tryz.prog (GS []) 112 [.sl false false (a0.map eST), .sl false false (a1.map eST), .fn 87 []] [] (V.b r) [] :=
  (scc4_ok N).m_slices_EqualFunc_tree a0 a1 r h
theorem mi_tree__same_ok (N : Nat) (a0 : STree) (a1 : STree) {r : Bool} (h : mi_tree__same N a0 a1 = some r) :
    AC Tryz.prog (GS []) 87 [.agg [V.i a0.kind, V.i a0.op, V.s a0.text, V.s a0.other, .sl false false (a0.kids.map eST)], .agg [V.i a1.kind, V.i a1.op, V.s a1.text, V.s a1.other, .sl false false (a1.kids.map eST)]] [] (V.b r) [] :=
  (scc4_ok N).mi_tree__same a0 a1 r h

structure RecOk5 (R : Rec5) : Prop where
  mi_tree__matches : ∀ (a0 : STree) (a1 : STree) (p0 : List SFilling) (r : ((List SFilling) × Bool)), R.mi_tree__matches a0 a1 p0 = some r → AC Tryz.prog (GS []) 47 [.agg [V.i a0.kind, V.i a0.op, V.s a0.text, V.s a0.other, .sl false false (a0.kids.map eST)], .agg [V.i a1.kind, V.i a1.op, V.s a1.text, V.s a1.other, .sl false false (a1.kids.map eST)], .own 0] [(0, .vec false 76 6 (p0.map encSFilling))] (.tup [.own 100, V.b r.2]) [(100, .vec false 76 6 (r.1.map encSFilling))]

theorem mi_tree__matches_F_ok (N : Nat) (R : Rec5) (HR : RecOk5 R) (a0 : STree) (a1 : STree) (p0 : List SFilling) {r : ((List SFilling) × Bool)} (h : mi_tree__matches_F N R a0 a1 p0 = some r) :
    AC Tryz.prog (GS []) 47 [.agg [V.i a0.kind, V.i a0.op, V.s a0.text, V.s a0.other, .sl false false (a0.kids.map eST)], .agg [V.i a1.kind, V.i a1.op, V.s a1.text, V.s a1.other, .sl false false (a1.kids.map eST)], .own 0] [(0, .vec false 76 6 (p0.map encSFilling))] (.tup [.own 100, V.b r.2]) [(100, .vec false 76 6 (r.1.map encSFilling))] := by
 rw [mi_tree__matches_F] at h
 refine AC.enter Tryz.func47 rfl ?_
 refine cu Dk mix 4 100 (tl 73 [(2, .own 0), (3, .loc 100 0), (4, .loc 101 0)]) [(101, .cells 68 [V.i a1.kind, V.i a1.op, V.s a1.text, V.s a1.other, .sl false false (a1.kids.map eST)]), (100, .cells 68 [V.i a0.kind, V.i a0.op, V.s a0.text, V.s a0.other, .sl false false (a0.kids.map eST)]), (0, .vec false 76 6 (p0.map encSFilling))] (by kernel_rfl) ?_
 refine CO.seq' ?_
 (revert h; refine bR fun r62 hx89 h => ?_)
 refine CO.cutR (tl 73 [(2, .own 0), (3, .loc 100 0), (4, .loc 101 0), (14, V.b r62)]) [(101, .cells 68 [V.i a1.kind, V.i a1.op, V.s a1.text, V.s a1.other, .sl false false (a1.kids.map eST)]), (100, .cells 68 [V.i a0.kind, V.i a0.op, V.s a0.text, V.s a0.other, .sl false false (a0.kids.map eST)]), (0, .vec false 76 6 (p0.map encSFilling))] mix (by
  refine W.run Dk 1 102 (by kernel_rfl) ?_
  refine W.call0 (mi_tree__isHole_ok a0 hx89) cok86 rfl (by kernel_rfl) ?_
  exact W.fi (by kernel_rfl)
  ) ?_
 (revert h; refine cR (fun hc90 h => ?_) (fun hc90 h => ?_))
 ·refine CO.ifT hc90 (by kernel_rfl) ?_
  refine CO.seq' ?_
  (revert h; refine bR fun r66 hx95 h => ?_)
  refine CO.cutR (tl 73 [(2, .own 0), (3, .loc 100 0), (4, .loc 101 0), (18, V.b (!r66))]) [(101, .cells 68 [V.i a1.kind, V.i a1.op, V.s a1.text, V.s a1.other, .sl false false (a1.kids.map eST)]), (100, .cells 68 [V.i a0.kind, V.i a0.op, V.s a0.text, V.s a0.other, .sl false false (a0.kids.map eST)]), (0, .vec false 76 6 (p0.map encSFilling))] mix (by
   refine W.run Dk 2 102 (by kernel_rfl) ?_
   refine W.call0 (mi_IsExpr_ok a1.kind hx95) cok46 rfl (by kernel_rfl) ?_
   refine W.run Dk 1 102 (by kernel_rfl) ?_
   exact W.fi (by kernel_rfl)
   ) ?_
  (revert h; refine cR (fun hc96 h => ?_) (fun hc96 h => ?_))
  ·refine CO.ifT hc96 (by kernel_rfl) ?_
   refine cu Dk mix 2 102 (tl 73 [(6, .c (.slice none 0 0)), (7, V.b false)]) [(0, .vec false 76 6 (p0.map encSFilling))] (by kernel_rfl) ?_
   refine CO.weak (Weak.nil 6 102 76 6 (by kernel_rfl) (by kernel_rfl)) ?_
   refine CO.ret ?_
   have h := Option.some.inj h
   subst h
   exact Ends.gen [(102, 100)] (.inr rfl) (RetV.two rfl (OneR.t (t := 6) (r := .own 102) (by kernel_rfl)) (OneR.t (t := 7) (r := V.b false) (by kernel_rfl))) (by kernel_rfl) (by kernel_rfl) (by kernel_rfl)
  refine CO.ifF hc96 (by kernel_rfl) ?_
  refine CO.skip ?_
  refine CO.seq' ?_
  refine CO.cutR (tl 73 [(2, .own 0), (3, .loc 100 0), (4, .loc 101 0), (19, .own 0), (20, V.i (p0.length : Int)), (21, V.i 0)]) [(101, .cells 68 [V.i a1.kind, V.i a1.op, V.s a1.text, V.s a1.other, .sl false false (a1.kids.map eST)]), (100, .cells 68 [V.i a0.kind, V.i a0.op, V.s a0.text, V.s a0.other, .sl false false (a0.kids.map eST)]), (0, .vec false 76 6 (p0.map encSFilling))] mix (by
   refine W.run Dk 1 102 (by kernel_rfl) ?_
   refine W.len Dk encSFilling p0 [0] (by kernel_rfl) (by kernel_rfl) ?_
   refine W.run Dk 1 102 (by kernel_rfl) ?_
   exact W.fi (by kernel_rfl)
   ) ?_
  refine CO.block' ?_
  refine CO.loopJ (fun (⟨p0, a0, a1, y101⟩ : ((List SFilling) × STree × STree × Int)) => ⟨tl 73 [(2, .own 0), (3, .loc 100 0), (4, .loc 101 0), (19, .own 0), (20, V.i (p0.length : Int)), (21, V.i y101)], [(0, .vec false 76 6 (p0.map encSFilling)), (100, .cells 68 [V.i a0.kind, V.i a0.op, V.s a0.text, V.s a0.other, .sl false false (a0.kids.map eST)]), (101, .cells 68 [V.i a1.kind, V.i a1.op, V.s a1.text, V.s a1.other, .sl false false (a1.kids.map eST)])]⟩) (fun n i => mi_tree__matches_l1 N R n i = some r) (n0 := N) (i0 := (p0, a0, a1, 0)) (Weak.sel [(0, 0), (100, 100), (101, 101)] [2, 3, 4, 19, 20, 21] (by kernel_rfl) (by kernel_rfl) (by kernel_rfl)) h (fun i h => by simp [mi_tree__matches_l1] at h) ?_
  rintro n1 ⟨p0, a0, a1, y101⟩ h159 ih160
  rw [mi_tree__matches_l1] at h159
  refine cu Dk mix 1 164 (tl 73 [(2, .own 0), (3, .loc 100 0), (4, .loc 101 0), (19, .own 0), (20, V.i (p0.length : Int)), (21, V.i y101), (22, V.b (decide (y101 < (p0.length : Int))))]) [(0, .vec false 76 6 (p0.map encSFilling)), (100, .cells 68 [V.i a0.kind, V.i a0.op, V.s a0.text, V.s a0.other, .sl false false (a0.kids.map eST)]), (101, .cells 68 [V.i a1.kind, V.i a1.op, V.s a1.text, V.s a1.other, .sl false false (a1.kids.map eST)])] (by kernel_rfl) ?_
  refine CO.seq' ?_
  (revert h159; refine cR (fun hc162 h159 => ?_) (fun hc162 h159 => ?_))
  ·refine CO.ifT hc162 (by kernel_rfl) ?_
   refine CO.skip ?_
   refine CO.seq' ?_
   refine CO.block' ?_
   (revert h159; refine bR fun e116 hx169 h159 => ?_)
   refine CO.cutR (tl 73 [(2, .own 0), (3, .loc 100 0), (4, .loc 101 0), (9, .loc 164 0), (19, .own 0), (20, V.i (p0.length : Int)), (21, V.i y101)]) [(164, .cells 76 [V.s e116.name, V.i e116.tree.kind, V.i e116.tree.op, V.s e116.tree.text, V.s e116.tree.other, .sl false false (e116.tree.kids.map eST)]), (0, .vec false 76 6 (p0.map encSFilling)), (100, .cells 68 [V.i a0.kind, V.i a0.op, V.s a0.text, V.s a0.other, .sl false false (a0.kids.map eST)]), (101, .cells 68 [V.i a1.kind, V.i a1.op, V.s a1.text, V.s a1.other, .sl false false (a1.kids.map eST)])] mix (by
    refine W.ixO Dk encSFilling hx169 0 6 (by kernel_rfl) ?_
    refine W.ldO Dk encSFilling hx169 76 0 0 (.agg [V.s e116.name, V.i e116.tree.kind, V.i e116.tree.op, V.s e116.tree.text, V.s e116.tree.other, .sl false false (e116.tree.kids.map eST)]) (by kernel_rfl) (by kernel_rfl) ?_
    refine W.run Dk 2 164 (by kernel_rfl) ?_
    exact W.fi (by kernel_rfl)
    ) ?_
   refine cu Dk mix 5 165 (tl 73 [(2, .own 0), (3, .loc 100 0), (4, .loc 101 0), (9, .loc 164 0), (19, .own 0), (20, V.i (p0.length : Int)), (21, V.i y101), (29, V.b (e116.name == a0.text))]) [(164, .cells 76 [V.s e116.name, V.i e116.tree.kind, V.i e116.tree.op, V.s e116.tree.text, V.s e116.tree.other, .sl false false (e116.tree.kids.map eST)]), (0, .vec false 76 6 (p0.map encSFilling)), (100, .cells 68 [V.i a0.kind, V.i a0.op, V.s a0.text, V.s a0.other, .sl false false (a0.kids.map eST)]), (101, .cells 68 [V.i a1.kind, V.i a1.op, V.s a1.text, V.s a1.other, .sl false false (a1.kids.map eST)])] (by kernel_rfl) ?_
   (revert h159; refine cR (fun hc170 h159 => ?_) (fun hc170 h159 => ?_))
   ·refine CO.ifT hc170 (by kernel_rfl) ?_
    (revert h159; refine bR fun r118 hx172 h159 => ?_)
    refine CO.cutR (tl 73 [(6, .own 0), (7, V.b r118)]) [(0, .vec false 76 6 (p0.map encSFilling))] mix (by
     refine W.run Dk 4 165 (by kernel_rfl) ?_
     refine W.call0 (mi_tree__same_ok N e116.tree a1 hx172) cok87 rfl (by kernel_rfl) ?_
     refine W.run Dk 2 165 (by kernel_rfl) ?_
     exact W.fi (by kernel_rfl)
     ) ?_
    refine CO.ret ?_
    have h159 := Option.some.inj h159
    subst h159
    exact Ends.gen [(0, 100)] (.inr rfl) (RetV.two rfl (OneR.t (t := 6) (r := .own 0) (by kernel_rfl)) (OneR.t (t := 7) (r := V.b r118) (by kernel_rfl))) (by kernel_rfl) (by kernel_rfl) (by kernel_rfl)
   refine CO.ifF hc170 (by kernel_rfl) ?_
   refine CO.skip ?_
   refine ce Dk mix 2 165 (tl 73 [(2, .own 0), (3, .loc 100 0), (4, .loc 101 0), (19, .own 0), (20, V.i (p0.length : Int)), (21, V.i (IntKind.wrap .i64 (y101 + 1)))]) [(0, .vec false 76 6 (p0.map encSFilling)), (100, .cells 68 [V.i a0.kind, V.i a0.op, V.s a0.text, V.s a0.other, .sl false false (a0.kids.map eST)]), (101, .cells 68 [V.i a1.kind, V.i a1.op, V.s a1.text, V.s a1.other, .sl false false (a1.kids.map eST)])] (by kernel_rfl) (fun st hw => ?_)
   exact ih160 (p0, a0, a1, (IntKind.wrap .i64 (y101 + 1))) h159 _ (hw.trans (Weak.sel [(0, 0), (100, 100), (101, 101)] [2, 3, 4, 19, 20, 21] (by kernel_rfl) (by kernel_rfl) (by kernel_rfl)))
  refine CO.ifF hc162 (by kernel_rfl) ?_
  refine CO.exit ?_
  (revert h159; refine bR fun x120 hx174 h159 => ?_)
  refine CO.cutR (tl 73 [(6, .own 165), (7, V.b true)]) [(165, .vec false 76 6 (x120.map encSFilling))] mix (by
   refine W.run Dk 5 164 (by kernel_rfl) ?_
   refine W.layop Dk (show LayOk _ [] from trivial) (by kernel_rfl) 164 { v := .own 164, R := [], new := [(164, .vec true 76 6 [[V.s a0.text, V.i a1.kind, V.i a1.op, V.s a1.text, V.s a1.other, .sl false false (a1.kids.map eST)]])], N := [164] } (by kernel_rfl) ?_
   refine W.vecEq 164 (nn := true) (e := 76) (k := 6) (rows := [[V.s a0.text, V.i a1.kind, V.i a1.op, V.s a1.text, V.s a1.other, .sl false false (a1.kids.map eST)]]) (rows' := [(⟨a0.text, a1⟩ : SFilling)].map encSFilling) (by kernel_rfl) (by kernel_rfl) ?_
   refine W.appO Dk encSFilling (a := 0) (c := 164) (el := 76) (sz := 6) 88 hx174 rfl 165 (by kernel_rfl) ?_
   refine W.run Dk 2 166 (by kernel_rfl) ?_
   exact W.fi (by kernel_rfl)
   ) ?_
  refine CO.ret ?_
  have h159 := Option.some.inj h159
  subst h159
  exact Ends.gen [(165, 100)] (.inr rfl) (RetV.two rfl (OneR.t (t := 6) (r := .own 165) (by kernel_rfl)) (OneR.t (t := 7) (r := V.b true) (by kernel_rfl))) (by kernel_rfl) (by kernel_rfl) (by kernel_rfl)
 refine CO.ifF hc90 (by kernel_rfl) ?_
 refine CO.skip ?_
 refine CO.seq' ?_
 (revert h; refine bR fun r124 hx179 h => ?_)
 refine CO.cutR (tl 73 [(2, .own 0), (3, .loc 100 0), (4, .loc 101 0), (46, V.b (!r124))]) [(101, .cells 68 [V.i a1.kind, V.i a1.op, V.s a1.text, V.s a1.other, .sl false false (a1.kids.map eST)]), (100, .cells 68 [V.i a0.kind, V.i a0.op, V.s a0.text, V.s a0.other, .sl false false (a0.kids.map eST)]), (0, .vec false 76 6 (p0.map encSFilling))] mix (by
  refine W.run Dk 2 102 (by kernel_rfl) ?_
  refine W.call0 (mi_tree__alike_ok a0 a1 hx179) cok88 rfl (by kernel_rfl) ?_
  refine W.run Dk 1 102 (by kernel_rfl) ?_
  exact W.fi (by kernel_rfl)
  ) ?_
 (revert h; refine cR (fun hc180 h => ?_) (fun hc180 h => ?_))
 ·refine CO.ifT hc180 (by kernel_rfl) ?_
  refine cu Dk mix 2 102 (tl 73 [(6, .c (.slice none 0 0)), (7, V.b false)]) [(0, .vec false 76 6 (p0.map encSFilling))] (by kernel_rfl) ?_
  refine CO.weak (Weak.nil 6 102 76 6 (by kernel_rfl) (by kernel_rfl)) ?_
  refine CO.ret ?_
  have h := Option.some.inj h
  subst h
  exact Ends.gen [(102, 100)] (.inr rfl) (RetV.two rfl (OneR.t (t := 6) (r := .own 102) (by kernel_rfl)) (OneR.t (t := 7) (r := V.b false) (by kernel_rfl))) (by kernel_rfl) (by kernel_rfl) (by kernel_rfl)
 refine CO.ifF hc180 (by kernel_rfl) ?_
 refine CO.skip ?_
 refine CO.seq' ?_
 refine CO.cutR (tl 73 [(2, .own 0), (3, .loc 100 0), (4, .loc 101 0), (49, V.i (a0.kids.length : Int)), (50, V.i 0)]) [(101, .cells 68 [V.i a1.kind, V.i a1.op, V.s a1.text, V.s a1.other, .sl false false (a1.kids.map eST)]), (100, .cells 68 [V.i a0.kind, V.i a0.op, V.s a0.text, V.s a0.other, .sl false false (a0.kids.map eST)]), (0, .vec false 76 6 (p0.map encSFilling))] mix (by
  refine W.run Dk 2 102 (by kernel_rfl) ?_
  refine W.len Dk eST a0.kids [] (by kernel_rfl) (by kernel_rfl) ?_
  refine W.run Dk 1 102 (by kernel_rfl) ?_
  exact W.fi (by kernel_rfl)
  ) ?_
 refine CO.block' ?_
 refine CO.loopJ (fun (⟨a0, a1, y177, y178⟩ : (STree × STree × Int × (List SFilling))) => ⟨tl 73 [(2, .own 100), (3, .loc 101 0), (4, .loc 102 0), (49, V.i (a0.kids.length : Int)), (50, V.i y177)], [(100, .vec false 76 6 (y178.map encSFilling)), (101, .cells 68 [V.i a0.kind, V.i a0.op, V.s a0.text, V.s a0.other, .sl false false (a0.kids.map eST)]), (102, .cells 68 [V.i a1.kind, V.i a1.op, V.s a1.text, V.s a1.other, .sl false false (a1.kids.map eST)])]⟩) (fun n i => mi_tree__matches_l2 N R n i = some r) (n0 := N) (i0 := (a0, a1, 0, p0)) (Weak.sel [(0, 100), (100, 101), (101, 102)] [2, 3, 4, 49, 50] (by kernel_rfl) (by kernel_rfl) (by kernel_rfl)) h (fun i h => by simp [mi_tree__matches_l2] at h) ?_
 rintro n2 ⟨a0, a1, y177, y178⟩ h273 ih274
 rw [mi_tree__matches_l2] at h273
 refine cu Dk mix 1 164 (tl 73 [(2, .own 100), (3, .loc 101 0), (4, .loc 102 0), (49, V.i (a0.kids.length : Int)), (50, V.i y177), (51, V.b (decide (y177 < (a0.kids.length : Int))))]) [(100, .vec false 76 6 (y178.map encSFilling)), (101, .cells 68 [V.i a0.kind, V.i a0.op, V.s a0.text, V.s a0.other, .sl false false (a0.kids.map eST)]), (102, .cells 68 [V.i a1.kind, V.i a1.op, V.s a1.text, V.s a1.other, .sl false false (a1.kids.map eST)])] (by kernel_rfl) ?_
 refine CO.seq' ?_
 (revert h273; refine cR (fun hc276 h273 => ?_) (fun hc276 h273 => ?_))
 ·refine CO.ifT hc276 (by kernel_rfl) ?_
  refine CO.skip ?_
  refine CO.seq' ?_
  refine CO.block' ?_
  refine cu Dk mix 2 164 (tl 73 [(2, .own 100), (3, .loc 101 0), (4, .loc 102 0), (10, V.i y177), (49, V.i (a0.kids.length : Int)), (50, V.i y177)]) [(100, .vec false 76 6 (y178.map encSFilling)), (101, .cells 68 [V.i a0.kind, V.i a0.op, V.s a0.text, V.s a0.other, .sl false false (a0.kids.map eST)]), (102, .cells 68 [V.i a1.kind, V.i a1.op, V.s a1.text, V.s a1.other, .sl false false (a1.kids.map eST)])] (by kernel_rfl) ?_
  (revert h273; refine bR fun e202 hx288 h273 => ?_)
  (revert h273; refine bR fun e203 hx289 h273 => ?_)
  (revert h273; refine bR fun r204 hx290 h273 => ?_)
  refine CO.cutR (tl 73 [(3, .loc 101 0), (4, .loc 102 0), (11, .own 164), (12, V.b r204.2), (49, V.i (a0.kids.length : Int)), (50, V.i y177)]) [(164, .vec false 76 6 (r204.1.map encSFilling)), (101, .cells 68 [V.i a0.kind, V.i a0.op, V.s a0.text, V.s a0.other, .sl false false (a0.kids.map eST)]), (102, .cells 68 [V.i a1.kind, V.i a1.op, V.s a1.text, V.s a1.other, .sl false false (a1.kids.map eST)])] mix (by
   refine W.run Dk 3 164 (by kernel_rfl) ?_
   refine W.ixDr Dk eST hx288 5 (by kernel_rfl) (encSTree_eq e202) (by kernel_rfl) ?_
   refine W.run Dk 4 164 (by kernel_rfl) ?_
   refine W.ixDr Dk eST hx289 5 (by kernel_rfl) (encSTree_eq e203) (by kernel_rfl) ?_
   refine W.run Dk 2 164 (by kernel_rfl) ?_
   refine W.call (HR.mi_tree__matches e202 e203 y178 _ hx290) cok47 [(100, 0)] [(100, 164)] [164] (show LayOk _ [] from trivial) (by kernel_rfl) (by kernel_rfl) ?_
   refine W.run Dk 5 165 (by kernel_rfl) ?_
   exact W.fi (by kernel_rfl)
   ) ?_
  refine CO.seq' ?_
  refine cu Dk mix 2 165 (tl 73 [(3, .loc 101 0), (4, .loc 102 0), (11, .own 164), (49, V.i (a0.kids.length : Int)), (50, V.i y177), (69, V.b (!r204.2))]) [(164, .vec false 76 6 (r204.1.map encSFilling)), (101, .cells 68 [V.i a0.kind, V.i a0.op, V.s a0.text, V.s a0.other, .sl false false (a0.kids.map eST)]), (102, .cells 68 [V.i a1.kind, V.i a1.op, V.s a1.text, V.s a1.other, .sl false false (a1.kids.map eST)])] (by kernel_rfl) ?_
  (revert h273; refine cR (fun hc292 h273 => ?_) (fun hc292 h273 => ?_))
  ·refine CO.ifT hc292 (by kernel_rfl) ?_
   refine cu Dk mix 2 165 (tl 73 [(6, .c (.slice none 0 0)), (7, V.b false)]) [] (by kernel_rfl) ?_
   refine CO.weak (Weak.nil 6 165 76 6 (by kernel_rfl) (by kernel_rfl)) ?_
   refine CO.ret ?_
   have h273 := Option.some.inj h273
   subst h273
   exact Ends.gen [(165, 100)] (.inr rfl) (RetV.two rfl (OneR.t (t := 6) (r := .own 165) (by kernel_rfl)) (OneR.t (t := 7) (r := V.b false) (by kernel_rfl))) (by kernel_rfl) (by kernel_rfl) (by kernel_rfl)
  refine CO.ifF hc292 (by kernel_rfl) ?_
  refine CO.skip ?_
  refine ce Dk mix 2 165 (tl 73 [(2, .own 164), (3, .loc 101 0), (4, .loc 102 0), (49, V.i (a0.kids.length : Int)), (50, V.i y177)]) [(164, .vec false 76 6 (r204.1.map encSFilling)), (101, .cells 68 [V.i a0.kind, V.i a0.op, V.s a0.text, V.s a0.other, .sl false false (a0.kids.map eST)]), (102, .cells 68 [V.i a1.kind, V.i a1.op, V.s a1.text, V.s a1.other, .sl false false (a1.kids.map eST)])] (by kernel_rfl) (fun st hw => ?_)
  refine CO.weak hw ?_
  refine ce Dk mix 2 165 (tl 73 [(2, .own 164), (3, .loc 101 0), (4, .loc 102 0), (49, V.i (a0.kids.length : Int)), (50, V.i (IntKind.wrap .i64 (y177 + 1)))]) [(164, .vec false 76 6 (r204.1.map encSFilling)), (101, .cells 68 [V.i a0.kind, V.i a0.op, V.s a0.text, V.s a0.other, .sl false false (a0.kids.map eST)]), (102, .cells 68 [V.i a1.kind, V.i a1.op, V.s a1.text, V.s a1.other, .sl false false (a1.kids.map eST)])] (by kernel_rfl) (fun st hw => ?_)
  exact ih274 (a0, a1, (IntKind.wrap .i64 (y177 + 1)), r204.1) h273 _ (hw.trans (Weak.sel [(164, 100), (101, 101), (102, 102)] [2, 3, 4, 49, 50] (by kernel_rfl) (by kernel_rfl) (by kernel_rfl)))
 refine CO.ifF hc276 (by kernel_rfl) ?_
 refine CO.exit ?_
 refine cu Dk mix 3 164 (tl 73 [(6, .own 100), (7, V.b true)]) [(100, .vec false 76 6 (y178.map encSFilling))] (by kernel_rfl) ?_
 refine CO.ret ?_
 have h273 := Option.some.inj h273
 subst h273
 exact Ends.gen [(100, 100)] (.inr rfl) (RetV.two rfl (OneR.t (t := 6) (r := .own 100) (by kernel_rfl)) (OneR.t (t := 7) (r := V.b true) (by kernel_rfl))) (by kernel_rfl) (by kernel_rfl) (by kernel_rfl)

theorem scc5_ok : ∀ N, RecOk5 (scc5 N)
  | 0 => ⟨fun _ _ _ _ h => (by cases h)⟩
  | N + 1 => ⟨fun a0 a1 p0 _ h => mi_tree__matches_F_ok N (scc5 N) (scc5_ok N) a0 a1 p0 h⟩

theorem mi_tree__matches_ok (N : Nat) (a0 : STree) (a1 : STree) (p0 : List SFilling) {r : ((List SFilling) × Bool)} (h : mi_tree__matches N a0 a1 p0 = some r) :
    AC Tryz.prog (GS []) 47 [.agg [V.i a0.kind, V.i a0.op, V.s a0.text, V.s a0.other, .sl false false (a0.kids.map eST)], .agg [V.i a1.kind, V.i a1.op, V.s a1.text, V.s a1.other, .sl false false (a1.kids.map eST)], .own 0] [(0, .vec false 76 6 (p0.map encSFilling))] (.tup [.own 100, V.b r.2]) [(100, .vec false 76 6 (r.1.map encSFilling))] :=
  (scc5_ok N).mi_tree__matches a0 a1 p0 r h

structure RecOk6 (R : Rec6) : Prop where
  mi_tree__add : ∀ (a0 : STree) (p0 : List SNode) (r : (List SNode)), R.mi_tree__add a0 p0 = some r → AC Tryz.prog (GS []) 89 [.agg [V.i a0.kind, V.i a0.op, V.s a0.text, V.s a0.other, .sl false false (a0.kids.map eST)], .own 0] [(0, .vec false 48 5 (p0.map (eSN true)))] (.own 100) [(100, .vec false 48 5 (r.map (eSN true)))]

theorem mi_tree__add_F_ok (N : Nat) (R : Rec6) (HR : RecOk6 R) (a0 : STree) (p0 : List SNode) {r : (List SNode)} (h : mi_tree__add_F N R a0 p0 = some r) :
    AC Tryz.prog (GS []) 89 [.agg [V.i a0.kind, V.i a0.op, V.s a0.text, V.s a0.other, .sl false false (a0.kids.map eST)], .own 0] [(0, .vec false 48 5 (p0.map (eSN true)))] (.own 100) [(100, .vec false 48 5 (r.map (eSN true)))] := by
 rw [mi_tree__add_F] at h
 refine AC.enter Tryz.func89 rfl ?_
 refine cu Dk mix 2 100 (tl 40 [(1, .own 0), (2, .loc 100 0)]) [(100, .cells 68 [V.i a0.kind, V.i a0.op, V.s a0.text, V.s a0.other, .sl false false (a0.kids.map eST)]), (0, .vec false 48 5 (p0.map (eSN true)))] (by kernel_rfl) ?_
 refine cu Dk mix 11 101 (tl 40 [(1, .own 0), (2, .loc 100 0), (5, .loc 101 0)]) [(101, .cells 48 [V.i a0.kind, V.i a0.op, V.s a0.text, V.s a0.other, .c (.slice none 0 0)]), (100, .cells 68 [V.i a0.kind, V.i a0.op, V.s a0.text, V.s a0.other, .sl false false (a0.kids.map eST)]), (0, .vec false 48 5 (p0.map (eSN true)))] (by kernel_rfl) ?_
 refine CO.seq' ?_
 refine CO.cutR (tl 40 [(1, .own 0), (5, .loc 101 0), (18, .sl false false (a0.kids.map eST)), (19, V.i (a0.kids.length : Int)), (20, V.i 0)]) [(101, .cells 48 [V.i a0.kind, V.i a0.op, V.s a0.text, V.s a0.other, .c (.slice none 0 0)]), (0, .vec false 48 5 (p0.map (eSN true)))] mix (by
  refine W.run Dk 2 102 (by kernel_rfl) ?_
  refine W.len Dk eST a0.kids [] (by kernel_rfl) (by kernel_rfl) ?_
  refine W.run Dk 1 102 (by kernel_rfl) ?_
  exact W.fi (by kernel_rfl)
  ) ?_
 refine CO.block' ?_
 refine CO.loopJ (fun (⟨a0, y59, y60, y61⟩ : (STree × Int × (List SNode) × (List Int))) => ⟨tl 40 [(1, .own 100), (5, .loc 101 0), (18, .sl false false (a0.kids.map eST)), (19, V.i (a0.kids.length : Int)), (20, V.i y59)], [(100, .vec false 48 5 (y60.map (eSN true))), (101, .cells 48 [V.i a0.kind, V.i a0.op, V.s a0.text, V.s a0.other, .own 102]), (102, .vec false 3 1 (y61.map encI))]⟩) (fun n i => mi_tree__add_l1 N R n i = some r) (n0 := N) (i0 := (a0, 0, p0, [])) ((Weak.nilCell 101 4 102 3 1 (ety := 48) (cs := [V.i a0.kind, V.i a0.op, V.s a0.text, V.s a0.other, .c (.slice none 0 0)]) (by kernel_rfl) (by kernel_rfl) (by kernel_rfl)).trans (Weak.sel [(0, 100), (101, 101), (102, 102)] [1, 5, 18, 19, 20] (by kernel_rfl) (by kernel_rfl) (by kernel_rfl))) h (fun i h => by simp [mi_tree__add_l1] at h) ?_
 rintro n1 ⟨a0, y59, y60, y61⟩ h77 ih78
 rw [mi_tree__add_l1] at h77
 refine cu Dk mix 1 171 (tl 40 [(1, .own 100), (5, .loc 101 0), (18, .sl false false (a0.kids.map eST)), (19, V.i (a0.kids.length : Int)), (20, V.i y59), (21, V.b (decide (y59 < (a0.kids.length : Int))))]) [(100, .vec false 48 5 (y60.map (eSN true))), (101, .cells 48 [V.i a0.kind, V.i a0.op, V.s a0.text, V.s a0.other, .own 102]), (102, .vec false 3 1 (y61.map encI))] (by kernel_rfl) ?_
 refine CO.seq' ?_
 (revert h77; refine cR (fun hc80 h77 => ?_) (fun hc80 h77 => ?_))
 ·refine CO.ifT hc80 (by kernel_rfl) ?_
  refine CO.skip ?_
  refine CO.seq' ?_
  refine CO.block' ?_
  (revert h77; refine bR fun e84 hx88 h77 => ?_)
  refine CO.cutR (tl 40 [(1, .own 100), (5, .loc 101 0), (7, .loc 171 0), (18, .sl false false (a0.kids.map eST)), (19, V.i (a0.kids.length : Int)), (20, V.i y59)]) [(171, .cells 68 [V.i e84.kind, V.i e84.op, V.s e84.text, V.s e84.other, .sl false false (e84.kids.map eST)]), (100, .vec false 48 5 (y60.map (eSN true))), (101, .cells 48 [V.i a0.kind, V.i a0.op, V.s a0.text, V.s a0.other, .own 102]), (102, .vec false 3 1 (y61.map encI))] mix (by
   refine W.ixDr Dk eST hx88 5 (by kernel_rfl) (encSTree_eq e84) (by kernel_rfl) ?_
   refine W.run Dk 3 171 (by kernel_rfl) ?_
   exact W.fi (by kernel_rfl)
   ) ?_
  (revert h77; refine bR fun r86 hx90 h77 => ?_)
  refine CO.cutR (tl 40 [(1, .own 172), (5, .loc 101 0), (18, .sl false false (a0.kids.map eST)), (19, V.i (a0.kids.length : Int)), (20, V.i y59)]) [(172, .vec false 48 5 (r86.map (eSN true))), (101, .cells 48 [V.i a0.kind, V.i a0.op, V.s a0.text, V.s a0.other, .own 102]), (102, .vec false 3 1 (y61.map encI))] mix (by
   refine W.run Dk 2 172 (by kernel_rfl) ?_
   refine W.call (HR.mi_tree__add e84 y60 _ hx90) cok89 [(100, 0)] [(100, 172)] [172] (show LayOk _ [] from trivial) (by kernel_rfl) (by kernel_rfl) ?_
   refine W.run Dk 1 173 (by kernel_rfl) ?_
   exact W.fi (by kernel_rfl)
   ) ?_
  (revert h77; refine bR fun x88 hx92 h77 => ?_)
  refine CO.endR (tl 40 [(1, .own 172), (5, .loc 101 0), (18, .sl false false (a0.kids.map eST)), (19, V.i (a0.kids.length : Int)), (20, V.i y59)]) [(101, .cells 48 [V.i a0.kind, V.i a0.op, V.s a0.text, V.s a0.other, .own 174]), (174, .vec false 3 1 (x88.map encI)), (172, .vec false 48 5 (r86.map (eSN true)))] mix (by
   refine W.run Dk 3 173 (by kernel_rfl) ?_
   refine W.len Dk (eSN true) r86 [172] (by kernel_rfl) (by kernel_rfl) ?_
   refine W.run Dk 2 173 (by kernel_rfl) ?_
   refine W.appO Dk encI (a := 102) (c := 173) (el := 3) (sz := 1) 8 hx92 rfl 174 (by kernel_rfl) ?_
   refine W.run Dk 2 175 (by kernel_rfl) ?_
   exact W.fi (by kernel_rfl)
   ) (fun st hw => ?_)
  refine CO.weak hw ?_
  refine ce Dk mix 2 175 (tl 40 [(1, .own 172), (5, .loc 101 0), (18, .sl false false (a0.kids.map eST)), (19, V.i (a0.kids.length : Int)), (20, V.i (IntKind.wrap .i64 (y59 + 1)))]) [(101, .cells 48 [V.i a0.kind, V.i a0.op, V.s a0.text, V.s a0.other, .own 174]), (174, .vec false 3 1 (x88.map encI)), (172, .vec false 48 5 (r86.map (eSN true)))] (by kernel_rfl) (fun st hw => ?_)
  exact ih78 (a0, (IntKind.wrap .i64 (y59 + 1)), r86, x88) h77 _ (hw.trans (Weak.sel [(172, 100), (101, 101), (174, 102)] [1, 5, 18, 19, 20] (by kernel_rfl) (by kernel_rfl) (by kernel_rfl)))
 refine CO.ifF hc80 (by kernel_rfl) ?_
 refine CO.exit ?_
 (revert h77; refine bR fun x90 hx94 h77 => ?_)
 refine CO.cutR (tl 40 [(4, .own 172)]) [(172, .vec false 48 5 (x90.map (eSN true)))] mix (by
  refine W.run Dk 3 171 (by kernel_rfl) ?_
  refine W.appO Dk (eSN true) (a := 100) (c := 171) (el := 48) (sz := 5) 72 hx94 rfl 172 (by kernel_rfl) ?_
  refine W.run Dk 1 173 (by kernel_rfl) ?_
  exact W.fi (by kernel_rfl)
  ) ?_
 refine CO.ret ?_
 have h77 := Option.some.inj h77
 subst h77
 exact Ends.gen [(172, 100)] (.inr rfl) (RetV.one rfl (OneR.t (t := 4) (r := .own 172) (by kernel_rfl))) (by kernel_rfl) (by kernel_rfl) (by kernel_rfl)

theorem scc6_ok : ∀ N, RecOk6 (scc6 N)
  | 0 => ⟨fun _ _ _ h => (by cases h)⟩
  | N + 1 => ⟨fun a0 p0 _ h => mi_tree__add_F_ok N (scc6 N) (scc6_ok N) a0 p0 h⟩

theorem mi_tree__add_ok (N : Nat) (a0 : STree) (p0 : List SNode) {r : (List SNode)} (h : mi_tree__add N a0 p0 = some r) :
    AC Tryz.prog (GS []) 89 [.agg [V.i a0.kind, V.i a0.op, V.s a0.text, V.s a0.other, .sl false false (a0.kids.map eST)], .own 0] [(0, .vec false 48 5 (p0.map (eSN true)))] (.own 100) [(100, .vec false 48 5 (r.map (eSN true)))] :=
  (scc6_ok N).mi_tree__add a0 p0 r h

theorem mi_tree__list_ok (N : Nat) (a0 : STree) {r : (List SNode)} (h : mi_tree__list N a0 = some r) :
    AC Tryz.prog (GS []) 49 [.agg [V.i a0.kind, V.i a0.op, V.s a0.text, V.s a0.other, .sl false false (a0.kids.map eST)]] [] (.own 100) [(100, .vec false 48 5 (r.map (eSN true)))] := by
 rw [mi_tree__list] at h
 refine AC.enter Tryz.func49 rfl ?_
 refine cu Dk mix 2 100 (tl 5 [(1, .loc 100 0)]) [(100, .cells 68 [V.i a0.kind, V.i a0.op, V.s a0.text, V.s a0.other, .sl false false (a0.kids.map eST)])] (by kernel_rfl) ?_
 (revert h; refine bR fun r2 hx2 h => ?_)
 refine CO.cutR (tl 5 [(2, .own 101)]) [(101, .vec false 48 5 (r2.map (eSN true)))] mix (by
  refine W.run Dk 1 101 (by kernel_rfl) ?_
  refine W.callK (AC.nilArg 1 0 48 5 (mi_tree__add_ok N a0 [] hx2) (by kernel_rfl) (by kernel_rfl) (by kernel_rfl) (by kernel_rfl) rfl) cok89 [] [(100, 101)] [1] [101] (show LayOk _ [] from trivial) (by kernel_rfl) (by kernel_rfl) ?_
  refine W.run Dk 1 102 (by kernel_rfl) ?_
  exact W.fi (by kernel_rfl)
  ) ?_
 refine CO.ret ?_
 have h := Option.some.inj h
 subst h
 exact Ends.gen [(101, 100)] (.inr rfl) (RetV.one rfl (OneR.t (t := 2) (r := .own 101) (by kernel_rfl))) (by kernel_rfl) (by kernel_rfl) (by kernel_rfl)

theorem mi_Match_ok (N : Nat) (a0 : List SNode) (a1 : List SNode) {r : ((List SHole) × Bool)} (h : mi_Match N a0 a1 = some r) :
    AC Tryz.prog (GS [0, 1, 2]) 21 [.sl false false (a0.map (eSN false)), .sl false false (a1.map (eSN false))] [] (.tup [.own 100, V.b r.2]) [(100, .vec false 79 2 (r.1.map (encSHole true)))] := by
 rw [mi_Match] at h
 refine AC.enter Tryz.func21 rfl ?_
 refine cu Dk mix 2 100 (tl 46 [(0, .sl false false (a0.map (eSN false))), (1, .sl false false (a1.map (eSN false)))]) [] (by kernel_rfl) ?_
 refine CO.seq' ?_
 (revert h; refine bR fun y8 hv12 h => ?_)
 refine CO.cutR (tl 46 [(0, .sl false false (a0.map (eSN false))), (1, .sl false false (a1.map (eSN false))), (18, V.b y8)]) [] mix (by
  refine W.run Dk 1 100 (by kernel_rfl) ?_
  (revert hv12; refine bR fun r9 hx13 hv12 => ?_)
  refine W.call0 (mi_ExprOk_ok N a0 hx13) cok44 rfl (by kernel_rfl) ?_
  refine W.run Dk 2 100 (by kernel_rfl) ?_
  (revert hv12; refine cR (fun hc14 hv12 => ?_) (fun hc14 hv12 => ?_))
  ·refine W.is 14 hc14 (by kernel_rfl) ?_
   refine W.run Dk 4 100 (by kernel_rfl) ?_
   have hv12 := Option.some.inj hv12
   subst hv12
   exact W.fs [] [0, 1, 18] (by kernel_rfl)
  refine W.is 14 hc14 (by kernel_rfl) ?_
  refine W.run Dk 1 100 (by kernel_rfl) ?_
  (revert hv12; refine bR fun r10 hx15 hv12 => ?_)
  refine W.call0 (mi_ExprOk_ok N a1 hx15) cok44 rfl (by kernel_rfl) ?_
  refine W.run Dk 2 100 (by kernel_rfl) ?_
  have hv12 := Option.some.inj hv12
  subst hv12
  exact W.fs [] [0, 1, 18] (by kernel_rfl)
  ) ?_
 (revert h; refine cR (fun hc16 h => ?_) (fun hc16 h => ?_))
 ·refine CO.ifT hc16 (by kernel_rfl) ?_
  refine cu Dk mix 2 100 (tl 46 [(4, .c (.slice none 0 0)), (5, V.b false)]) [] (by kernel_rfl) ?_
  refine CO.weak (Weak.nil 4 100 79 2 (by kernel_rfl) (by kernel_rfl)) ?_
  refine CO.ret ?_
  have h := Option.some.inj h
  subst h
  exact Ends.gen [(100, 100)] (.inr rfl) (RetV.two rfl (OneR.t (t := 4) (r := .own 100) (by kernel_rfl)) (OneR.t (t := 5) (r := V.b false) (by kernel_rfl))) (by kernel_rfl) (by kernel_rfl) (by kernel_rfl)
 refine CO.ifF hc16 (by kernel_rfl) ?_
 refine CO.skip ?_
 (revert h; refine bR fun r14 hx20 h => ?_)
 (revert h; refine bR fun r15 hx21 h => ?_)
 (revert h; refine bR fun r16 hx22 h => ?_)
 refine CO.cutR (tl 46 [(6, .own 100), (7, V.b r16.2)]) [(100, .vec false 76 6 (r16.1.map encSFilling))] mix (by
  refine W.run Dk 1 100 (by kernel_rfl) ?_
  refine W.call0 (AC.gs (mi_rootOf_ok N a0 hx20) (by decide)) cok45 rfl (by kernel_rfl) ?_
  refine W.run Dk 1 100 (by kernel_rfl) ?_
  refine W.call0 (AC.gs (mi_rootOf_ok N a1 hx21) (by decide)) cok45 rfl (by kernel_rfl) ?_
  refine W.callK (AC.nilArg 2 0 76 6 (AC.gs (mi_tree__matches_ok N r14 r15 [] hx22) (by decide)) (by kernel_rfl) (by kernel_rfl) (by kernel_rfl) (by kernel_rfl) rfl) cok47 [] [(100, 100)] [2] [100] (show LayOk _ [] from trivial) (by kernel_rfl) (by kernel_rfl) ?_
  refine W.run Dk 5 101 (by kernel_rfl) ?_
  exact W.fi (by kernel_rfl)
  ) ?_
 refine cu Dk mix 2 101 (tl 46 [(6, .own 100), (7, V.b r16.2), (8, .own 101)]) [(101, .vec false 79 2 ([].map (encSHole true))), (100, .vec false 76 6 (r16.1.map encSFilling))] (by kernel_rfl) ?_
 refine CO.seq' ?_
 refine CO.cutR (tl 46 [(7, V.b r16.2), (8, .own 101), (28, .own 100), (29, V.i (r16.1.length : Int)), (30, V.i 0)]) [(101, .vec false 79 2 ([].map (encSHole true))), (100, .vec false 76 6 (r16.1.map encSFilling))] mix (by
  refine W.run Dk 1 102 (by kernel_rfl) ?_
  refine W.len Dk encSFilling r16.1 [100] (by kernel_rfl) (by kernel_rfl) ?_
  refine W.run Dk 1 102 (by kernel_rfl) ?_
  exact W.fi (by kernel_rfl)
  ) ?_
 refine CO.block' ?_
 refine CO.loopJ (fun (⟨r16, y69, y70⟩ : (((List SFilling) × Bool) × Int × (List SHole))) => ⟨tl 46 [(7, V.b r16.2), (8, .own 100), (28, .own 101), (29, V.i (r16.1.length : Int)), (30, V.i y69)], [(100, .vec false 79 2 (y70.map (encSHole true))), (101, .vec false 76 6 (r16.1.map encSFilling))]⟩) (fun n i => mi_Match_l1 N n i = some r) (n0 := N) (i0 := (r16, 0, [])) (Weak.sel [(101, 100), (100, 101)] [7, 8, 28, 29, 30] (by kernel_rfl) (by kernel_rfl) (by kernel_rfl)) h (fun i h => by simp [mi_Match_l1] at h) ?_
 rintro n1 ⟨r16, y69, y70⟩ h95 ih96
 rw [mi_Match_l1] at h95
 refine cu Dk mix 1 170 (tl 46 [(7, V.b r16.2), (8, .own 100), (28, .own 101), (29, V.i (r16.1.length : Int)), (30, V.i y69), (31, V.b (decide (y69 < (r16.1.length : Int))))]) [(100, .vec false 79 2 (y70.map (encSHole true))), (101, .vec false 76 6 (r16.1.map encSFilling))] (by kernel_rfl) ?_
 refine CO.seq' ?_
 (revert h95; refine cR (fun hc98 h95 => ?_) (fun hc98 h95 => ?_))
 ·refine CO.ifT hc98 (by kernel_rfl) ?_
  refine CO.skip ?_
  refine CO.seq' ?_
  refine CO.block' ?_
  (revert h95; refine bR fun e92 hx106 h95 => ?_)
  refine CO.cutR (tl 46 [(7, V.b r16.2), (8, .own 100), (10, .loc 170 0), (28, .own 101), (29, V.i (r16.1.length : Int)), (30, V.i y69)]) [(170, .cells 76 [V.s e92.name, V.i e92.tree.kind, V.i e92.tree.op, V.s e92.tree.text, V.s e92.tree.other, .sl false false (e92.tree.kids.map eST)]), (100, .vec false 79 2 (y70.map (encSHole true))), (101, .vec false 76 6 (r16.1.map encSFilling))] mix (by
   refine W.ixO Dk encSFilling hx106 101 6 (by kernel_rfl) ?_
   refine W.ldO Dk encSFilling hx106 76 101 0 (.agg [V.s e92.name, V.i e92.tree.kind, V.i e92.tree.op, V.s e92.tree.text, V.s e92.tree.other, .sl false false (e92.tree.kids.map eST)]) (by kernel_rfl) (by kernel_rfl) ?_
   refine W.run Dk 2 170 (by kernel_rfl) ?_
   exact W.fi (by kernel_rfl)
   ) ?_
  (revert h95; refine bR fun r95 hx109 h95 => ?_)
  (revert h95; refine bR fun x96 hx110 h95 => ?_)
  refine CO.endR (tl 46 [(7, V.b r16.2), (8, .own 173), (28, .own 101), (29, V.i (r16.1.length : Int)), (30, V.i y69)]) [(173, .vec false 79 2 (x96.map (encSHole true))), (101, .vec false 76 6 (r16.1.map encSFilling))] mix (by
   refine W.run Dk 5 171 (by kernel_rfl) ?_
   refine W.call (AC.gs (mi_tree__list_ok N e92.tree hx109) (by decide)) cok49 [] [(100, 171)] [171] (show LayOk _ [] from trivial) (by kernel_rfl) (by kernel_rfl) ?_
   refine W.run Dk 2 172 (by kernel_rfl) ?_
   refine W.appO Dk (encSHole true) (a := 100) (c := 172) (el := 79) (sz := 2) 40 hx110 rfl 173 (by kernel_rfl) ?_
   refine W.run Dk 1 174 (by kernel_rfl) ?_
   exact W.fi (by kernel_rfl)
   ) (fun st hw => ?_)
  refine CO.weak hw ?_
  refine ce Dk mix 2 174 (tl 46 [(7, V.b r16.2), (8, .own 173), (28, .own 101), (29, V.i (r16.1.length : Int)), (30, V.i (IntKind.wrap .i64 (y69 + 1)))]) [(173, .vec false 79 2 (x96.map (encSHole true))), (101, .vec false 76 6 (r16.1.map encSFilling))] (by kernel_rfl) (fun st hw => ?_)
  exact ih96 (r16, (IntKind.wrap .i64 (y69 + 1)), x96) h95 _ (hw.trans (Weak.sel [(173, 100), (101, 101)] [7, 8, 28, 29, 30] (by kernel_rfl) (by kernel_rfl) (by kernel_rfl)))
 refine CO.ifF hc98 (by kernel_rfl) ?_
 refine CO.exit ?_
 refine cu Dk mix 4 170 (tl 46 [(4, .own 100), (5, V.b r16.2)]) [(100, .vec false 79 2 (y70.map (encSHole true)))] (by kernel_rfl) ?_
 refine CO.ret ?_
 have h95 := Option.some.inj h95
 subst h95
 exact Ends.gen [(100, 100)] (.inr rfl) (RetV.two rfl (OneR.t (t := 4) (r := .own 100) (by kernel_rfl)) (OneR.t (t := 5) (r := V.b r16.2) (by kernel_rfl))) (by kernel_rfl) (by kernel_rfl) (by kernel_rfl)

theorem ml_eqIntS_ok (N : Nat) (a0 : List Int) (a1 : List Int) {r : Bool} (h : ml_eqIntS N a0 a1 = some r) :
    AC Tryz.prog (GS []) 17 [.sl false false (a0.map encI), .sl false false (a1.map encI)] [] (V.b r) [] := by
 rw [ml_eqIntS] at h
 refine AC.enter Tryz.func17 rfl ?_
 refine cu Dk mix 1 100 (tl 26 [(0, .sl false false (a0.map encI)), (1, .sl false false (a1.map encI))]) [] (by kernel_rfl) ?_
 refine CO.seq' ?_
 refine CO.cutR (tl 26 [(0, .sl false false (a0.map encI)), (1, .sl false false (a1.map encI)), (10, V.b ((a0.length : Int) != (a1.length : Int)))]) [] mix (by
  refine W.run Dk 1 100 (by kernel_rfl) ?_
  refine W.len Dk encI a0 [] (by kernel_rfl) (by kernel_rfl) ?_
  refine W.run Dk 1 100 (by kernel_rfl) ?_
  refine W.len Dk encI a1 [] (by kernel_rfl) (by kernel_rfl) ?_
  refine W.run Dk 1 100 (by kernel_rfl) ?_
  exact W.fi (by kernel_rfl)
  ) ?_
 (revert h; refine cR (fun hc2 h => ?_) (fun hc2 h => ?_))
 ·refine CO.ifT hc2 (by kernel_rfl) ?_
  refine cu Dk mix 1 100 (tl 26 [(4, V.b false)]) [] (by kernel_rfl) ?_
  refine CO.ret ?_
  have h := Option.some.inj h
  subst h
  exact Ends.gen [] (.inr rfl) (RetV.one rfl (OneR.t (t := 4) (r := V.b false) (by kernel_rfl))) (by kernel_rfl) (by kernel_rfl) (by kernel_rfl)
 refine CO.ifF hc2 (by kernel_rfl) ?_
 refine CO.skip ?_
 refine CO.seq' ?_
 refine cu Dk mix 1 100 (tl 26 [(0, .sl false false (a0.map encI)), (1, .sl false false (a1.map encI)), (5, V.i 0)]) [] (by kernel_rfl) ?_
 refine CO.block' ?_
 refine CO.loopJ (fun (⟨a0, a1, y35⟩ : ((List Int) × (List Int) × Int)) => ⟨tl 26 [(0, .sl false false (a0.map encI)), (1, .sl false false (a1.map encI)), (5, V.i y35)], []⟩) (fun n i => ml_eqIntS_l1 N n i = some r) (n0 := N) (i0 := (a0, a1, 0)) (Weak.sel [] [0, 1, 5] (by kernel_rfl) (by kernel_rfl) (by kernel_rfl)) h (fun i h => by simp [ml_eqIntS_l1] at h) ?_
 rintro n1 ⟨a0, a1, y35⟩ h65 ih66
 rw [ml_eqIntS_l1] at h65
 refine CO.seq' ?_
 refine CO.cutR (tl 26 [(0, .sl false false (a0.map encI)), (1, .sl false false (a1.map encI)), (5, V.i y35), (14, V.b (decide (y35 < (a0.length : Int))))]) [] mix (by
  refine W.run Dk 2 160 (by kernel_rfl) ?_
  refine W.len Dk encI a0 [] (by kernel_rfl) (by kernel_rfl) ?_
  refine W.run Dk 1 160 (by kernel_rfl) ?_
  exact W.fi (by kernel_rfl)
  ) ?_
 (revert h65; refine cR (fun hc68 h65 => ?_) (fun hc68 h65 => ?_))
 ·refine CO.ifT hc68 (by kernel_rfl) ?_
  refine CO.skip ?_
  refine CO.seq' ?_
  refine CO.block' ?_
  (revert h65; refine bR fun e51 hx76 h65 => ?_)
  (revert h65; refine bR fun e52 hx77 h65 => ?_)
  refine CO.cutR (tl 26 [(0, .sl false false (a0.map encI)), (1, .sl false false (a1.map encI)), (5, V.i y35), (25, V.b (e51 != e52))]) [] mix (by
   refine W.run Dk 2 160 (by kernel_rfl) ?_
   refine W.ixD Dk encI hx76 1 (by kernel_rfl) (by kernel_rfl) ?_
   refine W.run Dk 3 160 (by kernel_rfl) ?_
   refine W.ixD Dk encI hx77 1 (by kernel_rfl) (by kernel_rfl) ?_
   refine W.run Dk 2 160 (by kernel_rfl) ?_
   exact W.fi (by kernel_rfl)
   ) ?_
  (revert h65; refine cR (fun hc78 h65 => ?_) (fun hc78 h65 => ?_))
  ·refine CO.ifT hc78 (by kernel_rfl) ?_
   refine cu Dk mix 1 160 (tl 26 [(4, V.b false)]) [] (by kernel_rfl) ?_
   refine CO.ret ?_
   have h65 := Option.some.inj h65
   subst h65
   exact Ends.gen [] (.inr rfl) (RetV.one rfl (OneR.t (t := 4) (r := V.b false) (by kernel_rfl))) (by kernel_rfl) (by kernel_rfl) (by kernel_rfl)
  refine CO.ifF hc78 (by kernel_rfl) ?_
  refine CO.skip ?_
  refine ce Dk mix 3 160 (tl 26 [(0, .sl false false (a0.map encI)), (1, .sl false false (a1.map encI)), (5, V.i (IntKind.wrap .i64 (y35 + 1)))]) [] (by kernel_rfl) (fun st hw => ?_)
  exact ih66 (a0, a1, (IntKind.wrap .i64 (y35 + 1))) h65 _ (hw.trans (Weak.sel [] [0, 1, 5] (by kernel_rfl) (by kernel_rfl) (by kernel_rfl)))
 refine CO.ifF hc68 (by kernel_rfl) ?_
 refine CO.exit ?_
 refine cu Dk mix 1 160 (tl 26 [(4, V.b true)]) [] (by kernel_rfl) ?_
 refine CO.ret ?_
 have h65 := Option.some.inj h65
 subst h65
 exact Ends.gen [] (.inr rfl) (RetV.one rfl (OneR.t (t := 4) (r := V.b true) (by kernel_rfl))) (by kernel_rfl) (by kernel_rfl) (by kernel_rfl)

theorem ml_eqNode_ok (N : Nat) (a0 : SNode) (a1 : SNode) {r : Bool} (h : ml_eqNode N a0 a1 = some r) :
    AC Tryz.prog (GS []) 38 [.agg [V.i a0.Kind, V.i a0.Op, V.s a0.Text, V.s a0.Other, .sl false false (a0.Kids.map encI)], .agg [V.i a1.Kind, V.i a1.Op, V.s a1.Text, V.s a1.Other, .sl false false (a1.Kids.map encI)]] [] (V.b r) [] := by
 rw [ml_eqNode] at h
 refine AC.enter Tryz.func38 rfl ?_
 refine cu Dk mix 3 100 (tl 31 [(2, .loc 100 0), (3, .loc 101 0)]) [(101, .cells 48 [V.i a1.Kind, V.i a1.Op, V.s a1.Text, V.s a1.Other, .sl false false (a1.Kids.map encI)]), (100, .cells 48 [V.i a0.Kind, V.i a0.Op, V.s a0.Text, V.s a0.Other, .sl false false (a0.Kids.map encI)])] (by kernel_rfl) ?_
 refine CO.seq' ?_
 refine cu Dk mix 5 102 (tl 31 [(2, .loc 100 0), (3, .loc 101 0), (9, V.b (a0.Kind != a1.Kind))]) [(101, .cells 48 [V.i a1.Kind, V.i a1.Op, V.s a1.Text, V.s a1.Other, .sl false false (a1.Kids.map encI)]), (100, .cells 48 [V.i a0.Kind, V.i a0.Op, V.s a0.Text, V.s a0.Other, .sl false false (a0.Kids.map encI)])] (by kernel_rfl) ?_
 (revert h; refine cR (fun hc2 h => ?_) (fun hc2 h => ?_))
 ·refine CO.ifT hc2 (by kernel_rfl) ?_
  refine cu Dk mix 1 102 (tl 31 [(4, V.b false)]) [] (by kernel_rfl) ?_
  refine CO.ret ?_
  have h := Option.some.inj h
  subst h
  exact Ends.gen [] (.inr rfl) (RetV.one rfl (OneR.t (t := 4) (r := V.b false) (by kernel_rfl))) (by kernel_rfl) (by kernel_rfl) (by kernel_rfl)
 refine CO.ifF hc2 (by kernel_rfl) ?_
 refine CO.skip ?_
 refine CO.seq' ?_
 refine cu Dk mix 5 102 (tl 31 [(2, .loc 100 0), (3, .loc 101 0), (14, V.b (a0.Op != a1.Op))]) [(101, .cells 48 [V.i a1.Kind, V.i a1.Op, V.s a1.Text, V.s a1.Other, .sl false false (a1.Kids.map encI)]), (100, .cells 48 [V.i a0.Kind, V.i a0.Op, V.s a0.Text, V.s a0.Other, .sl false false (a0.Kids.map encI)])] (by kernel_rfl) ?_
 (revert h; refine cR (fun hc4 h => ?_) (fun hc4 h => ?_))
 ·refine CO.ifT hc4 (by kernel_rfl) ?_
  refine cu Dk mix 1 102 (tl 31 [(4, V.b false)]) [] (by kernel_rfl) ?_
  refine CO.ret ?_
  have h := Option.some.inj h
  subst h
  exact Ends.gen [] (.inr rfl) (RetV.one rfl (OneR.t (t := 4) (r := V.b false) (by kernel_rfl))) (by kernel_rfl) (by kernel_rfl) (by kernel_rfl)
 refine CO.ifF hc4 (by kernel_rfl) ?_
 refine CO.skip ?_
 refine CO.seq' ?_
 refine cu Dk mix 5 102 (tl 31 [(2, .loc 100 0), (3, .loc 101 0), (19, V.b (!(a0.Text == a1.Text)))]) [(101, .cells 48 [V.i a1.Kind, V.i a1.Op, V.s a1.Text, V.s a1.Other, .sl false false (a1.Kids.map encI)]), (100, .cells 48 [V.i a0.Kind, V.i a0.Op, V.s a0.Text, V.s a0.Other, .sl false false (a0.Kids.map encI)])] (by kernel_rfl) ?_
 (revert h; refine cR (fun hc6 h => ?_) (fun hc6 h => ?_))
 ·refine CO.ifT hc6 (by kernel_rfl) ?_
  refine cu Dk mix 1 102 (tl 31 [(4, V.b false)]) [] (by kernel_rfl) ?_
  refine CO.ret ?_
  have h := Option.some.inj h
  subst h
  exact Ends.gen [] (.inr rfl) (RetV.one rfl (OneR.t (t := 4) (r := V.b false) (by kernel_rfl))) (by kernel_rfl) (by kernel_rfl) (by kernel_rfl)
 refine CO.ifF hc6 (by kernel_rfl) ?_
 refine CO.skip ?_
 refine CO.seq' ?_
 refine cu Dk mix 5 102 (tl 31 [(2, .loc 100 0), (3, .loc 101 0), (24, V.b (!(a0.Other == a1.Other)))]) [(101, .cells 48 [V.i a1.Kind, V.i a1.Op, V.s a1.Text, V.s a1.Other, .sl false false (a1.Kids.map encI)]), (100, .cells 48 [V.i a0.Kind, V.i a0.Op, V.s a0.Text, V.s a0.Other, .sl false false (a0.Kids.map encI)])] (by kernel_rfl) ?_
 (revert h; refine cR (fun hc8 h => ?_) (fun hc8 h => ?_))
 ·refine CO.ifT hc8 (by kernel_rfl) ?_
  refine cu Dk mix 1 102 (tl 31 [(4, V.b false)]) [] (by kernel_rfl) ?_
  refine CO.ret ?_
  have h := Option.some.inj h
  subst h
  exact Ends.gen [] (.inr rfl) (RetV.one rfl (OneR.t (t := 4) (r := V.b false) (by kernel_rfl))) (by kernel_rfl) (by kernel_rfl) (by kernel_rfl)
 refine CO.ifF hc8 (by kernel_rfl) ?_
 refine CO.skip ?_
 refine CO.seq' ?_
 (revert h; refine bR fun r4 hx13 h => ?_)
 refine CO.cutR (tl 31 [(30, V.b (!r4))]) [] mix (by
  refine W.run Dk 4 102 (by kernel_rfl) ?_
  refine W.call0 (ml_eqIntS_ok N a0.Kids a1.Kids hx13) cok17 rfl (by kernel_rfl) ?_
  refine W.run Dk 1 102 (by kernel_rfl) ?_
  exact W.fi (by kernel_rfl)
  ) ?_
 (revert h; refine cR (fun hc14 h => ?_) (fun hc14 h => ?_))
 ·refine CO.ifT hc14 (by kernel_rfl) ?_
  refine cu Dk mix 1 102 (tl 31 [(4, V.b false)]) [] (by kernel_rfl) ?_
  refine CO.ret ?_
  have h := Option.some.inj h
  subst h
  exact Ends.gen [] (.inr rfl) (RetV.one rfl (OneR.t (t := 4) (r := V.b false) (by kernel_rfl))) (by kernel_rfl) (by kernel_rfl) (by kernel_rfl)
 refine CO.ifF hc14 (by kernel_rfl) ?_
 refine CO.skip ?_
 refine cu Dk mix 1 102 (tl 31 [(4, V.b true)]) [] (by kernel_rfl) ?_
 refine CO.ret ?_
 have h := Option.some.inj h
 subst h
 exact Ends.gen [] (.inr rfl) (RetV.one rfl (OneR.t (t := 4) (r := V.b true) (by kernel_rfl))) (by kernel_rfl) (by kernel_rfl) (by kernel_rfl)

theorem ml_eqNodeS_ok (N : Nat) (a0 : List SNode) (a1 : List SNode) {r : Bool} (h : ml_eqNodeS N a0 a1 = some r) :
    AC Tryz.prog (GS []) 10 [.sl false false (a0.map (eSN false)), .sl false false (a1.map (eSN false))] [] (V.b r) [] := by
 rw [ml_eqNodeS] at h
 refine AC.enter Tryz.func10 rfl ?_
 refine cu Dk mix 1 100 (tl 27 [(0, .sl false false (a0.map (eSN false))), (1, .sl false false (a1.map (eSN false)))]) [] (by kernel_rfl) ?_
 refine CO.seq' ?_
 refine CO.cutR (tl 27 [(0, .sl false false (a0.map (eSN false))), (1, .sl false false (a1.map (eSN false))), (10, V.b ((a0.length : Int) != (a1.length : Int)))]) [] mix (by
  refine W.run Dk 1 100 (by kernel_rfl) ?_
  refine W.len Dk (eSN false) a0 [] (by kernel_rfl) (by kernel_rfl) ?_
  refine W.run Dk 1 100 (by kernel_rfl) ?_
  refine W.len Dk (eSN false) a1 [] (by kernel_rfl) (by kernel_rfl) ?_
  refine W.run Dk 1 100 (by kernel_rfl) ?_
  exact W.fi (by kernel_rfl)
  ) ?_
 (revert h; refine cR (fun hc2 h => ?_) (fun hc2 h => ?_))
 ·refine CO.ifT hc2 (by kernel_rfl) ?_
  refine cu Dk mix 1 100 (tl 27 [(4, V.b false)]) [] (by kernel_rfl) ?_
  refine CO.ret ?_
  have h := Option.some.inj h
  subst h
  exact Ends.gen [] (.inr rfl) (RetV.one rfl (OneR.t (t := 4) (r := V.b false) (by kernel_rfl))) (by kernel_rfl) (by kernel_rfl) (by kernel_rfl)
 refine CO.ifF hc2 (by kernel_rfl) ?_
 refine CO.skip ?_
 refine CO.seq' ?_
 refine cu Dk mix 1 100 (tl 27 [(0, .sl false false (a0.map (eSN false))), (1, .sl false false (a1.map (eSN false))), (5, V.i 0)]) [] (by kernel_rfl) ?_
 refine CO.block' ?_
 refine CO.loopJ (fun (⟨a0, a1, y51⟩ : ((List SNode) × (List SNode) × Int)) => ⟨tl 27 [(0, .sl false false (a0.map (eSN false))), (1, .sl false false (a1.map (eSN false))), (5, V.i y51)], []⟩) (fun n i => ml_eqNodeS_l1 N n i = some r) (n0 := N) (i0 := (a0, a1, 0)) (Weak.sel [] [0, 1, 5] (by kernel_rfl) (by kernel_rfl) (by kernel_rfl)) h (fun i h => by simp [ml_eqNodeS_l1] at h) ?_
 rintro n1 ⟨a0, a1, y51⟩ h85 ih86
 rw [ml_eqNodeS_l1] at h85
 refine CO.seq' ?_
 refine CO.cutR (tl 27 [(0, .sl false false (a0.map (eSN false))), (1, .sl false false (a1.map (eSN false))), (5, V.i y51), (14, V.b (decide (y51 < (a0.length : Int))))]) [] mix (by
  refine W.run Dk 2 160 (by kernel_rfl) ?_
  refine W.len Dk (eSN false) a0 [] (by kernel_rfl) (by kernel_rfl) ?_
  refine W.run Dk 1 160 (by kernel_rfl) ?_
  exact W.fi (by kernel_rfl)
  ) ?_
 (revert h85; refine cR (fun hc88 h85 => ?_) (fun hc88 h85 => ?_))
 ·refine CO.ifT hc88 (by kernel_rfl) ?_
  refine CO.skip ?_
  refine CO.seq' ?_
  refine CO.block' ?_
  (revert h85; refine bR fun e74 hx99 h85 => ?_)
  (revert h85; refine bR fun e75 hx100 h85 => ?_)
  (revert h85; refine bR fun r76 hx101 h85 => ?_)
  refine CO.cutR (tl 27 [(0, .sl false false (a0.map (eSN false))), (1, .sl false false (a1.map (eSN false))), (5, V.i y51), (26, V.b (!r76))]) [] mix (by
   refine W.run Dk 2 160 (by kernel_rfl) ?_
   refine W.ixD Dk (eSN false) hx99 5 (by kernel_rfl) (by kernel_rfl) ?_
   refine W.run Dk 3 160 (by kernel_rfl) ?_
   refine W.ixD Dk (eSN false) hx100 5 (by kernel_rfl) (by kernel_rfl) ?_
   refine W.run Dk 1 160 (by kernel_rfl) ?_
   refine W.call0 (ml_eqNode_ok N e74 e75 hx101) cok38 rfl (by kernel_rfl) ?_
   refine W.run Dk 1 160 (by kernel_rfl) ?_
   exact W.fi (by kernel_rfl)
   ) ?_
  (revert h85; refine cR (fun hc102 h85 => ?_) (fun hc102 h85 => ?_))
  ·refine CO.ifT hc102 (by kernel_rfl) ?_
   refine cu Dk mix 1 160 (tl 27 [(4, V.b false)]) [] (by kernel_rfl) ?_
   refine CO.ret ?_
   have h85 := Option.some.inj h85
   subst h85
   exact Ends.gen [] (.inr rfl) (RetV.one rfl (OneR.t (t := 4) (r := V.b false) (by kernel_rfl))) (by kernel_rfl) (by kernel_rfl) (by kernel_rfl)
  refine CO.ifF hc102 (by kernel_rfl) ?_
  refine CO.skip ?_
  refine ce Dk mix 3 160 (tl 27 [(0, .sl false false (a0.map (eSN false))), (1, .sl false false (a1.map (eSN false))), (5, V.i (IntKind.wrap .i64 (y51 + 1)))]) [] (by kernel_rfl) (fun st hw => ?_)
  exact ih86 (a0, a1, (IntKind.wrap .i64 (y51 + 1))) h85 _ (hw.trans (Weak.sel [] [0, 1, 5] (by kernel_rfl) (by kernel_rfl) (by kernel_rfl)))
 refine CO.ifF hc88 (by kernel_rfl) ?_
 refine CO.exit ?_
 refine cu Dk mix 1 160 (tl 27 [(4, V.b true)]) [] (by kernel_rfl) ?_
 refine CO.ret ?_
 have h85 := Option.some.inj h85
 subst h85
 exact Ends.gen [] (.inr rfl) (RetV.one rfl (OneR.t (t := 4) (r := V.b true) (by kernel_rfl))) (by kernel_rfl) (by kernel_rfl) (by kernel_rfl)

theorem ml_eqHole_ok (N : Nat) (a0 : SHole) (a1 : SHole) {r : Bool} (h : ml_eqHole N a0 a1 = some r) :
    AC Tryz.prog (GS []) 50 [.agg [V.s a0.Name, .sl false false (a0.Part.map (eSN false))], .agg [V.s a1.Name, .sl false false (a1.Part.map (eSN false))]] [] (V.b r) [] := by
 rw [ml_eqHole] at h
 refine AC.enter Tryz.func50 rfl ?_
 refine cu Dk mix 3 100 (tl 16 [(2, .loc 100 0), (3, .loc 101 0)]) [(101, .cells 79 [V.s a1.Name, .sl false false (a1.Part.map (eSN false))]), (100, .cells 79 [V.s a0.Name, .sl false false (a0.Part.map (eSN false))])] (by kernel_rfl) ?_
 refine CO.seq' ?_
 refine cu Dk mix 5 102 (tl 16 [(2, .loc 100 0), (3, .loc 101 0), (9, V.b (!(a0.Name == a1.Name)))]) [(101, .cells 79 [V.s a1.Name, .sl false false (a1.Part.map (eSN false))]), (100, .cells 79 [V.s a0.Name, .sl false false (a0.Part.map (eSN false))])] (by kernel_rfl) ?_
 (revert h; refine cR (fun hc2 h => ?_) (fun hc2 h => ?_))
 ·refine CO.ifT hc2 (by kernel_rfl) ?_
  refine cu Dk mix 1 102 (tl 16 [(4, V.b false)]) [] (by kernel_rfl) ?_
  refine CO.ret ?_
  have h := Option.some.inj h
  subst h
  exact Ends.gen [] (.inr rfl) (RetV.one rfl (OneR.t (t := 4) (r := V.b false) (by kernel_rfl))) (by kernel_rfl) (by kernel_rfl) (by kernel_rfl)
 refine CO.ifF hc2 (by kernel_rfl) ?_
 refine CO.skip ?_
 refine CO.seq' ?_
 (revert h; refine bR fun r4 hx7 h => ?_)
 refine CO.cutR (tl 16 [(15, V.b (!r4))]) [] mix (by
  refine W.run Dk 4 102 (by kernel_rfl) ?_
  refine W.call0 (ml_eqNodeS_ok N a0.Part a1.Part hx7) cok10 rfl (by kernel_rfl) ?_
  refine W.run Dk 1 102 (by kernel_rfl) ?_
  exact W.fi (by kernel_rfl)
  ) ?_
 (revert h; refine cR (fun hc8 h => ?_) (fun hc8 h => ?_))
 ·refine CO.ifT hc8 (by kernel_rfl) ?_
  refine cu Dk mix 1 102 (tl 16 [(4, V.b false)]) [] (by kernel_rfl) ?_
  refine CO.ret ?_
  have h := Option.some.inj h
  subst h
  exact Ends.gen [] (.inr rfl) (RetV.one rfl (OneR.t (t := 4) (r := V.b false) (by kernel_rfl))) (by kernel_rfl) (by kernel_rfl) (by kernel_rfl)
 refine CO.ifF hc8 (by kernel_rfl) ?_
 refine CO.skip ?_
 refine cu Dk mix 1 102 (tl 16 [(4, V.b true)]) [] (by kernel_rfl) ?_
 refine CO.ret ?_
 have h := Option.some.inj h
 subst h
 exact Ends.gen [] (.inr rfl) (RetV.one rfl (OneR.t (t := 4) (r := V.b true) (by kernel_rfl))) (by kernel_rfl) (by kernel_rfl) (by kernel_rfl)

theorem ml_eqHoleS_ok (N : Nat) (a0 : List SHole) (a1 : List SHole) {r : Bool} (h : ml_eqHoleS N a0 a1 = some r) :
    AC Tryz.prog (GS []) 22 [.sl false false (a0.map (encSHole false)), .sl false false (a1.map (encSHole false))] [] (V.b r) [] := by
 rw [ml_eqHoleS] at h
 refine AC.enter Tryz.func22 rfl ?_
 refine cu Dk mix 1 100 (tl 27 [(0, .sl false false (a0.map (encSHole false))), (1, .sl false false (a1.map (encSHole false)))]) [] (by kernel_rfl) ?_
 refine CO.seq' ?_
 refine CO.cutR (tl 27 [(0, .sl false false (a0.map (encSHole false))), (1, .sl false false (a1.map (encSHole false))), (10, V.b ((a0.length : Int) != (a1.length : Int)))]) [] mix (by
  refine W.run Dk 1 100 (by kernel_rfl) ?_
  refine W.len Dk (encSHole false) a0 [] (by kernel_rfl) (by kernel_rfl) ?_
  refine W.run Dk 1 100 (by kernel_rfl) ?_
  refine W.len Dk (encSHole false) a1 [] (by kernel_rfl) (by kernel_rfl) ?_
  refine W.run Dk 1 100 (by kernel_rfl) ?_
  exact W.fi (by kernel_rfl)
  ) ?_
 (revert h; refine cR (fun hc2 h => ?_) (fun hc2 h => ?_))
 ·refine CO.ifT hc2 (by kernel_rfl) ?_
  refine cu Dk mix 1 100 (tl 27 [(4, V.b false)]) [] (by kernel_rfl) ?_
  refine CO.ret ?_
  have h := Option.some.inj h
  subst h
  exact Ends.gen [] (.inr rfl) (RetV.one rfl (OneR.t (t := 4) (r := V.b false) (by kernel_rfl))) (by kernel_rfl) (by kernel_rfl) (by kernel_rfl)
 refine CO.ifF hc2 (by kernel_rfl) ?_
 refine CO.skip ?_
 refine CO.seq' ?_
 refine cu Dk mix 1 100 (tl 27 [(0, .sl false false (a0.map (encSHole false))), (1, .sl false false (a1.map (encSHole false))), (5, V.i 0)]) [] (by kernel_rfl) ?_
 refine CO.block' ?_
 refine CO.loopJ (fun (⟨a0, a1, y51⟩ : ((List SHole) × (List SHole) × Int)) => ⟨tl 27 [(0, .sl false false (a0.map (encSHole false))), (1, .sl false false (a1.map (encSHole false))), (5, V.i y51)], []⟩) (fun n i => ml_eqHoleS_l1 N n i = some r) (n0 := N) (i0 := (a0, a1, 0)) (Weak.sel [] [0, 1, 5] (by kernel_rfl) (by kernel_rfl) (by kernel_rfl)) h (fun i h => by simp [ml_eqHoleS_l1] at h) ?_
 rintro n1 ⟨a0, a1, y51⟩ h85 ih86
 rw [ml_eqHoleS_l1] at h85
 refine CO.seq' ?_
 refine CO.cutR (tl 27 [(0, .sl false false (a0.map (encSHole false))), (1, .sl false false (a1.map (encSHole false))), (5, V.i y51), (14, V.b (decide (y51 < (a0.length : Int))))]) [] mix (by
  refine W.run Dk 2 160 (by kernel_rfl) ?_
  refine W.len Dk (encSHole false) a0 [] (by kernel_rfl) (by kernel_rfl) ?_
  refine W.run Dk 1 160 (by kernel_rfl) ?_
  exact W.fi (by kernel_rfl)
  ) ?_
 (revert h85; refine cR (fun hc88 h85 => ?_) (fun hc88 h85 => ?_))
 ·refine CO.ifT hc88 (by kernel_rfl) ?_
  refine CO.skip ?_
  refine CO.seq' ?_
  refine CO.block' ?_
  (revert h85; refine bR fun e74 hx99 h85 => ?_)
  (revert h85; refine bR fun e75 hx100 h85 => ?_)
  (revert h85; refine bR fun r76 hx101 h85 => ?_)
  refine CO.cutR (tl 27 [(0, .sl false false (a0.map (encSHole false))), (1, .sl false false (a1.map (encSHole false))), (5, V.i y51), (26, V.b (!r76))]) [] mix (by
   refine W.run Dk 2 160 (by kernel_rfl) ?_
   refine W.ixD Dk (encSHole false) hx99 2 (by kernel_rfl) (by kernel_rfl) ?_
   refine W.run Dk 3 160 (by kernel_rfl) ?_
   refine W.ixD Dk (encSHole false) hx100 2 (by kernel_rfl) (by kernel_rfl) ?_
   refine W.run Dk 1 160 (by kernel_rfl) ?_
   refine W.call0 (ml_eqHole_ok N e74 e75 hx101) cok50 rfl (by kernel_rfl) ?_
   refine W.run Dk 1 160 (by kernel_rfl) ?_
   exact W.fi (by kernel_rfl)
   ) ?_
  (revert h85; refine cR (fun hc102 h85 => ?_) (fun hc102 h85 => ?_))
  ·refine CO.ifT hc102 (by kernel_rfl) ?_
   refine cu Dk mix 1 160 (tl 27 [(4, V.b false)]) [] (by kernel_rfl) ?_
   refine CO.ret ?_
   have h85 := Option.some.inj h85
   subst h85
   exact Ends.gen [] (.inr rfl) (RetV.one rfl (OneR.t (t := 4) (r := V.b false) (by kernel_rfl))) (by kernel_rfl) (by kernel_rfl) (by kernel_rfl)
  refine CO.ifF hc102 (by kernel_rfl) ?_
  refine CO.skip ?_
  refine ce Dk mix 3 160 (tl 27 [(0, .sl false false (a0.map (encSHole false))), (1, .sl false false (a1.map (encSHole false))), (5, V.i (IntKind.wrap .i64 (y51 + 1)))]) [] (by kernel_rfl) (fun st hw => ?_)
  exact ih86 (a0, a1, (IntKind.wrap .i64 (y51 + 1))) h85 _ (hw.trans (Weak.sel [] [0, 1, 5] (by kernel_rfl) (by kernel_rfl) (by kernel_rfl)))
 refine CO.ifF hc88 (by kernel_rfl) ?_
 refine CO.exit ?_
 refine cu Dk mix 1 160 (tl 27 [(4, V.b true)]) [] (by kernel_rfl) ?_
 refine CO.ret ?_
 have h85 := Option.some.inj h85
 subst h85
 exact Ends.gen [] (.inr rfl) (RetV.one rfl (OneR.t (t := 4) (r := V.b true) (by kernel_rfl))) (by kernel_rfl) (by kernel_rfl) (by kernel_rfl)

theorem ml_markText_ok (N : Nat) (a0 : Int) {r : (List UInt8)} (h : ml_markText N a0 = some r) :
    AC Tryz.prog (GS []) 39 [V.i a0] [] (V.s r) [] := by
 rw [ml_markText] at h
 refine AC.enter Tryz.func39 rfl ?_
 refine cu Dk mix 1 100 (tl 20 [(0, V.i a0)]) [] (by kernel_rfl) ?_
 refine CO.seq' ?_
 refine cu Dk mix 2 100 (tl 20 [(0, V.i a0), (5, V.b (decide (a0 ≤ 0)))]) [] (by kernel_rfl) ?_
 (revert h; refine cR (fun hc2 h => ?_) (fun hc2 h => ?_))
 ·refine CO.ifT hc2 (by kernel_rfl) ?_
  refine cu Dk mix 1 100 (tl 20 [(2, V.s [109, 48])]) [] (by kernel_rfl) ?_
  refine CO.ret ?_
  have h := Option.some.inj h
  subst h
  exact Ends.gen [] (.inr rfl) (RetV.one rfl (OneR.t (t := 2) (r := V.s [109, 48]) (by kernel_rfl))) (by kernel_rfl) (by kernel_rfl) (by kernel_rfl)
 refine CO.ifF hc2 (by kernel_rfl) ?_
 refine CO.skip ?_
 refine cu Dk mix 1 100 (tl 20 [(0, V.i a0), (3, V.s [])]) [] (by kernel_rfl) ?_
 refine CO.seq' ?_
 refine CO.block' ?_
 refine CO.loopJ (fun (⟨y13, y14⟩ : (Int × (List UInt8))) => ⟨tl 20 [(0, V.i y13), (3, V.s y14)], []⟩) (fun n i => ml_markText_l1 N n i = some r) (n0 := N) (i0 := (a0, [])) (Weak.sel [] [0, 3] (by kernel_rfl) (by kernel_rfl) (by kernel_rfl)) h (fun i h => by simp [ml_markText_l1] at h) ?_
 rintro n1 ⟨y13, y14⟩ h25 ih26
 rw [ml_markText_l1] at h25
 refine CO.seq' ?_
 refine cu Dk mix 2 162 (tl 20 [(0, V.i y13), (3, V.s y14), (7, V.b (decide (y13 > 0)))]) [] (by kernel_rfl) ?_
 (revert h25; refine cR (fun hc28 h25 => ?_) (fun hc28 h25 => ?_))
 ·refine CO.ifT hc28 (by kernel_rfl) ?_
  refine CO.skip ?_
  refine CO.block' ?_
  (revert h25; refine bR fun s20 hx30 h25 => ?_)
  refine CO.cutR (tl 20 [(0, V.i y13), (3, V.s s20)]) [] mix (by
   refine W.run Dk 4 162 (by kernel_rfl) ?_
   refine W.run Dk 1 162 (by kernel_rfl) ?_
   refine W.vecEq 162 (nn := true) (e := 5) (k := 1) (rows := [[.c (.int .u8 (IntKind.wrap .u8 (IntKind.wrap .i64 (48 + (Int.tmod y13 10)))))]]) (rows' := [(bytI (IntKind.wrap .i64 (48 + (Int.tmod y13 10))))].map byteRow) (by kernel_rfl) (by first | (simp only [List.map_cons, List.map_nil, ← bytI_row]; done) | (simp only [List.map_cons, List.map_nil, ← bytI_row]; rfl)) ?_
   refine W.strO Dk ([(bytI (IntKind.wrap .i64 (48 + (Int.tmod y13 10))))] : List UInt8) (a := 162) (by kernel_rfl) ?_
   refine W.run Dk 1 163 (by kernel_rfl) ?_
   refine W.cat hx30 (by kernel_rfl) ?_
   refine W.run Dk 1 163 (by kernel_rfl) ?_
   exact W.fi (by kernel_rfl)
   ) ?_
  refine ce Dk mix 3 163 (tl 20 [(0, V.i (IntKind.wrap .i64 (Int.tdiv y13 10))), (3, V.s s20)]) [] (by kernel_rfl) (fun st hw => ?_)
  exact ih26 ((IntKind.wrap .i64 (Int.tdiv y13 10)), s20) h25 _ (hw.trans (Weak.sel [] [0, 3] (by kernel_rfl) (by kernel_rfl) (by kernel_rfl)))
 refine CO.ifF hc28 (by kernel_rfl) ?_
 refine CO.exit ?_
 (revert h25; refine bR fun s22 hx32 h25 => ?_)
 refine CO.cutR (tl 20 [(2, V.s s22)]) [] mix (by
  refine W.run Dk 1 162 (by kernel_rfl) ?_
  refine W.cat hx32 (by kernel_rfl) ?_
  refine W.run Dk 1 162 (by kernel_rfl) ?_
  exact W.fi (by kernel_rfl)
  ) ?_
 refine CO.ret ?_
 have h25 := Option.some.inj h25
 subst h25
 exact Ends.gen [] (.inr rfl) (RetV.one rfl (OneR.t (t := 2) (r := V.s s22) (by kernel_rfl))) (by kernel_rfl) (by kernel_rfl) (by kernel_rfl)

theorem ml_markIntS_ok (e0 : TypeId) (N : Nat) (a1 : Int) (p0 : List Int) {r : (Int × (List Int))} (h : ml_markIntS N a1 p0 = some r) :
    AC Tryz.prog (GS []) 18 [.own 0, V.i a1] [(0, .vec false e0 1 (p0.map encI))] (V.i r.1) [(0, .vec false e0 1 (r.2.map encI))] := by
 rw [ml_markIntS] at h
 refine AC.enter Tryz.func18 rfl ?_
 refine cu Dk mix 1 100 (tl 19 [(0, .own 0), (1, V.i a1)]) [(0, .vec false e0 1 (p0.map encI))] (by kernel_rfl) ?_
 refine CO.seq' ?_
 refine cu Dk mix 1 100 (tl 19 [(0, .own 0), (1, V.i a1), (5, V.i 0)]) [(0, .vec false e0 1 (p0.map encI))] (by kernel_rfl) ?_
 refine CO.block' ?_
 refine CO.loopJ (fun (⟨y39, y40, y41⟩ : (Int × Int × (List Int))) => ⟨tl 19 [(0, .own 0), (1, V.i y39), (5, V.i y40)], [(0, .vec false e0 1 (y41.map encI))]⟩) (fun n i => ml_markIntS_l1 N n i = some r) (n0 := N) (i0 := (a1, 0, p0)) (Weak.sel [(0, 0)] [0, 1, 5] (by kernel_rfl) (by kernel_rfl) (by kernel_rfl)) h (fun i h => by simp [ml_markIntS_l1] at h) ?_
 rintro n1 ⟨y39, y40, y41⟩ h53 ih54
 rw [ml_markIntS_l1] at h53
 refine CO.seq' ?_
 refine CO.cutR (tl 19 [(0, .own 0), (1, V.i y39), (5, V.i y40), (9, V.b (decide (y40 < (y41.length : Int))))]) [(0, .vec false e0 1 (y41.map encI))] mix (by
  refine W.run Dk 2 160 (by kernel_rfl) ?_
  refine W.len Dk encI y41 [0] (by kernel_rfl) (by kernel_rfl) ?_
  refine W.run Dk 1 160 (by kernel_rfl) ?_
  exact W.fi (by kernel_rfl)
  ) ?_
 (revert h53; refine cR (fun hc56 h53 => ?_) (fun hc56 h53 => ?_))
 ·refine CO.ifT hc56 (by kernel_rfl) ?_
  refine CO.skip ?_
  refine CO.seq' ?_
  refine CO.block' ?_
  (revert h53; refine bR fun e59 hx63 h53 => ?_)
  (revert h53; refine bR fun x60 hu64 h53 => ?_)
  refine CO.cutR (tl 19 [(0, .own 0), (1, V.i y39), (5, V.i y40)]) [(0, .vec false e0 1 (x60.map encI))] mix (by
   refine W.run Dk 3 160 (by kernel_rfl) ?_
   refine W.ixO Dk encI hx63 0 1 (by kernel_rfl) ?_
   refine W.stO Dk encI (x' := y39) hx63 hu64 (j := 0) (nn := false) (ety := e0) (sz := 1) (b := 0) (ys := [V.i y39]) (C := []) (R := []) (by kernel_rfl) (by kernel_rfl) ?_
   exact W.fi (by kernel_rfl)
   ) ?_
  refine ce Dk mix 3 160 (tl 19 [(0, .own 0), (1, V.i (IntKind.wrap .i64 (y39 + 1))), (5, V.i y40)]) [(0, .vec false e0 1 (x60.map encI))] (by kernel_rfl) (fun st hw => ?_)
  refine CO.weak hw ?_
  refine ce Dk mix 3 160 (tl 19 [(0, .own 0), (1, V.i (IntKind.wrap .i64 (y39 + 1))), (5, V.i (IntKind.wrap .i64 (y40 + 1)))]) [(0, .vec false e0 1 (x60.map encI))] (by kernel_rfl) (fun st hw => ?_)
  exact ih54 ((IntKind.wrap .i64 (y39 + 1)), (IntKind.wrap .i64 (y40 + 1)), x60) h53 _ (hw.trans (Weak.sel [(0, 0)] [0, 1, 5] (by kernel_rfl) (by kernel_rfl) (by kernel_rfl)))
 refine CO.ifF hc56 (by kernel_rfl) ?_
 refine CO.exit ?_
 refine cu Dk mix 2 160 (tl 19 [(4, V.i y39)]) [(0, .vec false e0 1 (y41.map encI))] (by kernel_rfl) ?_
 refine CO.ret ?_
 have h53 := Option.some.inj h53
 subst h53
 exact Ends.gen [(0, 0)] (.inr rfl) (RetV.one rfl (OneR.t (t := 4) (r := V.i y39) (by kernel_rfl))) (by kernel_rfl) (by kernel_rfl) (by kernel_rfl)

end Go.Proofs.Tryz
