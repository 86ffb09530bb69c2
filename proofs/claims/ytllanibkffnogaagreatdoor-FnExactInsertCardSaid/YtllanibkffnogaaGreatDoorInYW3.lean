/-
  The walks that show that the code computes the models, part 3.
-/
import Derived.Test.YtllanibkffnogaaGreatDoorInYW2
import Derived.Shelf.Spec.SlicesInsertGrow
import Derived.Laws.CopyRow
namespace Go.Proofs.Tryz
open Go.Av
set_option maxRecDepth 100000
set_option maxHeartbeats 8000000
set_option linter.unusedSimpArgs false
set_option linter.unusedVariables false

open Go.Lib Go.RowKit
theorem mi_exprForm_ok (N : Nat) (a0 : SNode) {r : SForm} (h : mi_exprForm N a0 = some r) :
    AC Tryz.prog (GS [0, 1, 2]) 105 [.agg [V.i a0.Kind, V.i a0.Op, V.s a0.Text, V.s a0.Other, .sl false false (a0.Kids.map encI)]] [] (.agg [V.b r.op, V.b r.text, V.b r.other, V.i r.least, V.i r.most]) [] := by
 rw [mi_exprForm] at h
 refine AC.enter Tryz.func105 rfl ?_
 refine cU 2 100 (tl 123 [(1, .loc 100 0), (2, .loc 101 0)]) [(101, .cells 114 [V.b false, V.b false, V.b false, V.i 0, V.i 0]), (100, .cells 48 [V.i a0.Kind, V.i a0.Op, V.s a0.Text, V.s a0.Other, .sl false false (a0.Kids.map encI)])] ?_
 refine CO.seq' ?_
 refine cU 2 102 (tl 123 [(1, .loc 100 0), (2, .loc 101 0), (4, V.i a0.Kind)]) [(101, .cells 114 [V.b false, V.b false, V.b false, V.i 0, V.i 0]), (100, .cells 48 [V.i a0.Kind, V.i a0.Op, V.s a0.Text, V.s a0.Other, .sl false false (a0.Kids.map encI)])] ?_
 refine CO.block' ?_
 refine cU 2 102 (tl 123 [(1, .loc 100 0), (2, .loc 101 0), (4, V.i a0.Kind), (5, V.b (a0.Kind == 1))]) [(101, .cells 114 [V.b false, V.b false, V.b false, V.i 0, V.i 0]), (100, .cells 48 [V.i a0.Kind, V.i a0.Op, V.s a0.Text, V.s a0.Other, .sl false false (a0.Kids.map encI)])] ?_
 refine bC h (fun hc46 h => ?_) (fun hc46 h => ?_)
 ·refine iT hc46 ?_
  refine bB h fun r22 hx48 h => ?_
  refine CO.cutR (tl 123 [(2, .loc 101 0)]) [(101, .cells 114 [V.b (a0.Op == 0), V.b r22, V.b false, V.i 0, V.i 0])] mix (by
   refine wR 5 102 ?_
   refine W.call0 (AC.gs (mi_NameOk_ok N a0.Text hx48) (by decide)) cok120 rfl (by kernel_rfl) ?_
   refine wR 2 102 ?_
   exact fI
   ) ?_
  refine CO.ret ?_
  have h := sI h
  subst h
  exact eG [] (.inr rfl) (RetV.one rfl (OneR.cell Dk (r := .agg [V.b (a0.Op == 0), V.b r22, V.b false, V.i 0, V.i 0]) (i := 101) (ety := 114) (cs := [V.b (a0.Op == 0), V.b r22, V.b false, V.i 0, V.i 0]) (by kernel_rfl) (by kernel_rfl) (by kernel_rfl)))
 refine iF hc46 ?_
 refine CO.join (fun (⟨a0, y23⟩ : (SNode × Bool)) => ⟨tl 123 [(1, .loc 100 0), (2, .loc 101 0), (4, V.i a0.Kind), (14, V.b y23)], [(100, .cells 48 [V.i a0.Kind, V.i a0.Op, V.s a0.Text, V.s a0.Other, .sl false false (a0.Kids.map encI)]), (101, .cells 114 [V.b false, V.b false, V.b false, V.i 0, V.i 0])]⟩) (fun i => mi_exprForm_k1 N i = some r) ?_ ?_
 · rintro ⟨a0, y23⟩ h51
   rw [mi_exprForm_k1] at h51
   refine bC h51 (fun hc52 h51 => ?_) (fun hc52 h51 => ?_)
   ·refine iT hc52 ?_
    refine bB h51 fun e26 hx55 h51 => ?_
    refine bB h51 fun r27 hx56 h51 => ?_
    refine CO.cutR (tl 123 [(2, .loc 101 0)]) [(101, .cells 114 [V.b (a0.Op == 0), V.b r27, V.b false, V.i 0, V.i 0])] mix (by
     refine wR 7 102 ?_
     refine W.ixA Dk V.i hx55 (by kernel_rfl) ?_
     refine wR 3 102 ?_
     refine W.call0 (mi_TokenOk_ok N (⟨e26, a0.Text, 0⟩ : SToken) hx56) cok121 rfl (by kernel_rfl) ?_
     refine wR 2 102 ?_
     exact fI
     ) ?_
    refine CO.ret ?_
    have h51 := sI h51
    subst h51
    exact eG [] (.inr rfl) (RetV.one rfl (OneR.cell Dk (r := .agg [V.b (a0.Op == 0), V.b r27, V.b false, V.i 0, V.i 0]) (i := 101) (ety := 114) (cs := [V.b (a0.Op == 0), V.b r27, V.b false, V.i 0, V.i 0]) (by kernel_rfl) (by kernel_rfl) (by kernel_rfl)))
   refine iF hc52 ?_
   refine CO.join (fun (⟨a0, y28⟩ : (SNode × Bool)) => ⟨tl 123 [(1, .loc 100 0), (2, .loc 101 0), (4, V.i a0.Kind), (31, V.b y28)], [(100, .cells 48 [V.i a0.Kind, V.i a0.Op, V.s a0.Text, V.s a0.Other, .sl false false (a0.Kids.map encI)]), (101, .cells 114 [V.b false, V.b false, V.b false, V.i 0, V.i 0])]⟩) (fun i => mi_exprForm_k2 N i = some r) ?_ ?_
   · rintro ⟨a0, y28⟩ h58
     rw [mi_exprForm_k2] at h58
     refine bC h58 (fun hc59 h58 => ?_) (fun hc59 h58 => ?_)
     ·refine iT hc59 ?_
      refine bB h58 fun r30 hx61 h58 => ?_
      refine CO.cutR (tl 123 [(2, .loc 101 0)]) [(101, .cells 114 [V.b (a0.Op == 0), V.b r30, V.b false, V.i 1, V.i 6])] mix (by
       refine wR 5 102 ?_
       refine W.call0 (AC.gs (mi_NameOk_ok N a0.Text hx61) (by decide)) cok120 rfl (by kernel_rfl) ?_
       refine wR 2 102 ?_
       exact fI
       ) ?_
      refine CO.ret ?_
      have h58 := sI h58
      subst h58
      exact eG [] (.inr rfl) (RetV.one rfl (OneR.cell Dk (r := .agg [V.b (a0.Op == 0), V.b r30, V.b false, V.i 1, V.i 6]) (i := 101) (ety := 114) (cs := [V.b (a0.Op == 0), V.b r30, V.b false, V.i 1, V.i 6]) (by kernel_rfl) (by kernel_rfl) (by kernel_rfl)))
     refine iF hc59 ?_
     refine cU 2 102 (tl 123 [(1, .loc 100 0), (2, .loc 101 0), (4, V.i a0.Kind), (41, V.b (a0.Kind == 6))]) [(100, .cells 48 [V.i a0.Kind, V.i a0.Op, V.s a0.Text, V.s a0.Other, .sl false false (a0.Kids.map encI)]), (101, .cells 114 [V.b false, V.b false, V.b false, V.i 0, V.i 0])] ?_
     refine bC h58 (fun hc62 h58 => ?_) (fun hc62 h58 => ?_)
     ·refine iT hc62 ?_
      refine cU 8 102 (tl 123 [(2, .loc 101 0)]) [(101, .cells 114 [V.b (a0.Op == 0), V.b (a0.Text == []), V.b false, V.i 1, V.i 1])] ?_
      refine CO.ret ?_
      have h58 := sI h58
      subst h58
      exact eG [] (.inr rfl) (RetV.one rfl (OneR.cell Dk (r := .agg [V.b (a0.Op == 0), V.b (a0.Text == []), V.b false, V.i 1, V.i 1]) (i := 101) (ety := 114) (cs := [V.b (a0.Op == 0), V.b (a0.Text == []), V.b false, V.i 1, V.i 1]) (by kernel_rfl) (by kernel_rfl) (by kernel_rfl)))
     refine iF hc62 ?_
     refine cU 2 102 (tl 123 [(1, .loc 100 0), (2, .loc 101 0), (4, V.i a0.Kind), (50, V.b (a0.Kind == 7))]) [(100, .cells 48 [V.i a0.Kind, V.i a0.Op, V.s a0.Text, V.s a0.Other, .sl false false (a0.Kids.map encI)]), (101, .cells 114 [V.b false, V.b false, V.b false, V.i 0, V.i 0])] ?_
     refine bC h58 (fun hc63 h58 => ?_) (fun hc63 h58 => ?_)
     ·refine iT hc63 ?_
      refine bB h58 fun r32 hx65 h58 => ?_
      refine CO.cutR (tl 123 [(2, .loc 101 0)]) [(101, .cells 114 [V.b (a0.Op == 0), V.b r32, V.b false, V.i 0, V.i 6])] mix (by
       refine wR 5 102 ?_
       refine W.call0 (AC.gs (mi_NameOk_ok N a0.Text hx65) (by decide)) cok120 rfl (by kernel_rfl) ?_
       refine wR 2 102 ?_
       exact fI
       ) ?_
      refine CO.ret ?_
      have h58 := sI h58
      subst h58
      exact eG [] (.inr rfl) (RetV.one rfl (OneR.cell Dk (r := .agg [V.b (a0.Op == 0), V.b r32, V.b false, V.i 0, V.i 6]) (i := 101) (ety := 114) (cs := [V.b (a0.Op == 0), V.b r32, V.b false, V.i 0, V.i 6]) (by kernel_rfl) (by kernel_rfl) (by kernel_rfl)))
     refine iF hc63 ?_
     refine cU 2 102 (tl 123 [(1, .loc 100 0), (2, .loc 101 0), (4, V.i a0.Kind), (59, V.b (a0.Kind == 8))]) [(100, .cells 48 [V.i a0.Kind, V.i a0.Op, V.s a0.Text, V.s a0.Other, .sl false false (a0.Kids.map encI)]), (101, .cells 114 [V.b false, V.b false, V.b false, V.i 0, V.i 0])] ?_
     refine bC h58 (fun hc66 h58 => ?_) (fun hc66 h58 => ?_)
     ·refine iT hc66 ?_
      refine bB h58 fun r34 hx68 h58 => ?_
      refine CO.cutR (tl 123 [(2, .loc 101 0)]) [(101, .cells 114 [V.b (a0.Op == 0), V.b r34, V.b false, V.i 0, V.i 6])] mix (by
       refine wR 5 102 ?_
       refine W.call0 (AC.gs (mi_IsBuiltin_ok N a0.Text hx68) (by decide)) cok122 rfl (by kernel_rfl) ?_
       refine wR 2 102 ?_
       exact fI
       ) ?_
      refine CO.ret ?_
      have h58 := sI h58
      subst h58
      exact eG [] (.inr rfl) (RetV.one rfl (OneR.cell Dk (r := .agg [V.b (a0.Op == 0), V.b r34, V.b false, V.i 0, V.i 6]) (i := 101) (ety := 114) (cs := [V.b (a0.Op == 0), V.b r34, V.b false, V.i 0, V.i 6]) (by kernel_rfl) (by kernel_rfl) (by kernel_rfl)))
     refine iF hc66 ?_
     refine CO.join (fun (⟨a0, y35⟩ : (SNode × Bool)) => ⟨tl 123 [(1, .loc 100 0), (2, .loc 101 0), (4, V.i a0.Kind), (68, V.b y35)], [(100, .cells 48 [V.i a0.Kind, V.i a0.Op, V.s a0.Text, V.s a0.Other, .sl false false (a0.Kids.map encI)]), (101, .cells 114 [V.b false, V.b false, V.b false, V.i 0, V.i 0])]⟩) (fun i => mi_exprForm_k3 N i = some r) ?_ ?_
     · rintro ⟨a0, y35⟩ h70
       rw [mi_exprForm_k3] at h70
       refine bC h70 (fun hc71 h70 => ?_) (fun hc71 h70 => ?_)
       ·refine iT hc71 ?_
        refine bB h70 fun r37 hx73 h70 => ?_
        refine CO.cutR (tl 123 [(2, .loc 101 0)]) [(101, .cells 114 [V.b r37, V.b (a0.Text == []), V.b false, V.i 1, V.i 1])] mix (by
         refine wR 2 102 ?_
         refine W.call0 (AC.gs (mi_isStep_ok a0.Op hx73) (by decide)) cok123 rfl (by kernel_rfl) ?_
         refine wR 5 102 ?_
         exact fI
         ) ?_
        refine CO.ret ?_
        have h70 := sI h70
        subst h70
        exact eG [] (.inr rfl) (RetV.one rfl (OneR.cell Dk (r := .agg [V.b r37, V.b (a0.Text == []), V.b false, V.i 1, V.i 1]) (i := 101) (ety := 114) (cs := [V.b r37, V.b (a0.Text == []), V.b false, V.i 1, V.i 1]) (by kernel_rfl) (by kernel_rfl) (by kernel_rfl)))
       refine iF hc71 ?_
       refine cU 2 102 (tl 123 [(1, .loc 100 0), (2, .loc 101 0), (4, V.i a0.Kind), (78, V.b (a0.Kind == 11))]) [(100, .cells 48 [V.i a0.Kind, V.i a0.Op, V.s a0.Text, V.s a0.Other, .sl false false (a0.Kids.map encI)]), (101, .cells 114 [V.b false, V.b false, V.b false, V.i 0, V.i 0])] ?_
       refine bC h70 (fun hc74 h70 => ?_) (fun hc74 h70 => ?_)
       ·refine iT hc74 ?_
        refine bB h70 fun y38 hv77 h70 => ?_
        refine CO.cutR (tl 123 [(2, .loc 100 0)]) [(100, .cells 114 [V.b y38, V.b (a0.Text == []), V.b false, V.i 1, V.i 1])] mix (by
         refine wR 4 102 ?_
         refine bC hv77 (fun hc78 hv77 => ?_) (fun hc78 hv77 => ?_)
         ·refine wI 83 hc78 ?_
          refine wR 14 102 ?_
          have hv77 := sI hv77
          subst hv77
          exact fS [(101, 100)] [2]
         refine wI 83 hc78 ?_
         refine wR 5 102 ?_
         refine bC hv77 (fun hc79 hv77 => ?_) (fun hc79 hv77 => ?_)
         ·refine wI 88 hc79 ?_
          refine wR 9 102 ?_
          have hv77 := sI hv77
          subst hv77
          exact fS [(101, 100)] [2]
         refine wI 88 hc79 ?_
         refine wR 9 102 ?_
         have hv77 := sI hv77
         subst hv77
         exact fS [(101, 100)] [2]
         ) ?_
        refine CO.ret ?_
        have h70 := sI h70
        subst h70
        exact eG [] (.inr rfl) (RetV.one rfl (OneR.cell Dk (r := .agg [V.b y38, V.b (a0.Text == []), V.b false, V.i 1, V.i 1]) (i := 100) (ety := 114) (cs := [V.b y38, V.b (a0.Text == []), V.b false, V.i 1, V.i 1]) (by kernel_rfl) (by kernel_rfl) (by kernel_rfl)))
       refine iF hc74 ?_
       refine cU 2 102 (tl 123 [(1, .loc 100 0), (2, .loc 101 0), (4, V.i a0.Kind), (97, V.b (a0.Kind == 12))]) [(100, .cells 48 [V.i a0.Kind, V.i a0.Op, V.s a0.Text, V.s a0.Other, .sl false false (a0.Kids.map encI)]), (101, .cells 114 [V.b false, V.b false, V.b false, V.i 0, V.i 0])] ?_
       refine bC h70 (fun hc80 h70 => ?_) (fun hc80 h70 => ?_)
       ·refine iT hc80 ?_
        refine bB h70 fun r40 hx82 h70 => ?_
        refine CO.cutR (tl 123 [(2, .loc 101 0)]) [(101, .cells 114 [V.b (r40 != 0), V.b (a0.Text == []), V.b false, V.i 2, V.i 2])] mix (by
         refine wR 2 102 ?_
         refine W.call0 (AC.gs (mi_OpLevel_ok a0.Op hx82) (by decide)) cok124 rfl (by kernel_rfl) ?_
         refine wR 6 102 ?_
         exact fI
         ) ?_
        refine CO.ret ?_
        have h70 := sI h70
        subst h70
        exact eG [] (.inr rfl) (RetV.one rfl (OneR.cell Dk (r := .agg [V.b (r40 != 0), V.b (a0.Text == []), V.b false, V.i 2, V.i 2]) (i := 101) (ety := 114) (cs := [V.b (r40 != 0), V.b (a0.Text == []), V.b false, V.i 2, V.i 2]) (by kernel_rfl) (by kernel_rfl) (by kernel_rfl)))
       refine iF hc80 ?_
       refine cU 2 102 (tl 123 [(1, .loc 100 0), (2, .loc 101 0), (107, V.b (a0.Kind == 14))]) [(100, .cells 48 [V.i a0.Kind, V.i a0.Op, V.s a0.Text, V.s a0.Other, .sl false false (a0.Kids.map encI)]), (101, .cells 114 [V.b false, V.b false, V.b false, V.i 0, V.i 0])] ?_
       refine bC h70 (fun hc83 h70 => ?_) (fun hc83 h70 => ?_)
       ·refine iT hc83 ?_
        refine cU 8 102 (tl 123 [(2, .loc 101 0)]) [(101, .cells 114 [V.b (a0.Op == 0), V.b (a0.Text == []), V.b false, V.i 3, V.i 3])] ?_
        refine CO.ret ?_
        have h70 := sI h70
        subst h70
        exact eG [] (.inr rfl) (RetV.one rfl (OneR.cell Dk (r := .agg [V.b (a0.Op == 0), V.b (a0.Text == []), V.b false, V.i 3, V.i 3]) (i := 101) (ety := 114) (cs := [V.b (a0.Op == 0), V.b (a0.Text == []), V.b false, V.i 3, V.i 3]) (by kernel_rfl) (by kernel_rfl) (by kernel_rfl)))
       refine iF hc83 ?_
       refine CO.skip ?_
       refine bB h70 fun r42 hx85 h70 => ?_
       refine CO.cutR (tl 123 [(2, .loc 101 0)]) [(101, .cells 114 [V.b r42, V.b (a0.Text == []), V.b false, V.i 2, V.i 2])] mix (by
        refine wR 2 102 ?_
        refine W.call0 (AC.gs (mi_isAssign_ok a0.Op hx85) (by decide)) cok125 rfl (by kernel_rfl) ?_
        refine wR 5 102 ?_
        exact fI
        ) ?_
       refine CO.ret ?_
       have h70 := sI h70
       subst h70
       exact eG [] (.inr rfl) (RetV.one rfl (OneR.cell Dk (r := .agg [V.b r42, V.b (a0.Text == []), V.b false, V.i 2, V.i 2]) (i := 101) (ety := 114) (cs := [V.b r42, V.b (a0.Text == []), V.b false, V.i 2, V.i 2]) (by kernel_rfl) (by kernel_rfl) (by kernel_rfl)))
     intro hk86
     refine cU 2 102 (tl 123 [(1, .loc 100 0), (2, .loc 101 0), (4, V.i a0.Kind), (68, V.b (a0.Kind == 9))]) [(100, .cells 48 [V.i a0.Kind, V.i a0.Op, V.s a0.Text, V.s a0.Other, .sl false false (a0.Kids.map encI)]), (101, .cells 114 [V.b false, V.b false, V.b false, V.i 0, V.i 0])] ?_
     refine bC h58 (fun hc87 h58 => ?_) (fun hc87 h58 => ?_)
     ·refine iT hc87 ?_
      refine CO.skip ?_
      exact hk86 (a0, (a0.Kind == 9)) h58 _ (wS [(100, 100), (101, 101)] [1, 2, 4, 68])
     refine iF hc87 ?_
     refine cE 2 102 (tl 123 [(1, .loc 100 0), (2, .loc 101 0), (4, V.i a0.Kind), (68, V.b (a0.Kind == 10))]) [(100, .cells 48 [V.i a0.Kind, V.i a0.Op, V.s a0.Text, V.s a0.Other, .sl false false (a0.Kids.map encI)]), (101, .cells 114 [V.b false, V.b false, V.b false, V.i 0, V.i 0])] (fun st hw => ?_)
     exact hk86 (a0, (a0.Kind == 10)) h58 _ (hw.trans (wS [(100, 100), (101, 101)] [1, 2, 4, 68]))
   intro hk88
   refine cU 2 102 (tl 123 [(1, .loc 100 0), (2, .loc 101 0), (4, V.i a0.Kind), (31, V.b (a0.Kind == 5))]) [(100, .cells 48 [V.i a0.Kind, V.i a0.Op, V.s a0.Text, V.s a0.Other, .sl false false (a0.Kids.map encI)]), (101, .cells 114 [V.b false, V.b false, V.b false, V.i 0, V.i 0])] ?_
   refine bC h51 (fun hc89 h51 => ?_) (fun hc89 h51 => ?_)
   ·refine iT hc89 ?_
    refine CO.skip ?_
    exact hk88 (a0, (a0.Kind == 5)) h51 _ (wS [(100, 100), (101, 101)] [1, 2, 4, 31])
   refine iF hc89 ?_
   refine cE 2 102 (tl 123 [(1, .loc 100 0), (2, .loc 101 0), (4, V.i a0.Kind), (31, V.b (a0.Kind == 13))]) [(100, .cells 48 [V.i a0.Kind, V.i a0.Op, V.s a0.Text, V.s a0.Other, .sl false false (a0.Kids.map encI)]), (101, .cells 114 [V.b false, V.b false, V.b false, V.i 0, V.i 0])] (fun st hw => ?_)
   exact hk88 (a0, (a0.Kind == 13)) h51 _ (hw.trans (wS [(100, 100), (101, 101)] [1, 2, 4, 31]))
 intro hk90
 refine cU 2 102 (tl 123 [(1, .loc 100 0), (2, .loc 101 0), (4, V.i a0.Kind), (14, V.b (a0.Kind == 2))]) [(101, .cells 114 [V.b false, V.b false, V.b false, V.i 0, V.i 0]), (100, .cells 48 [V.i a0.Kind, V.i a0.Op, V.s a0.Text, V.s a0.Other, .sl false false (a0.Kids.map encI)])] ?_
 refine bC h (fun hc91 h => ?_) (fun hc91 h => ?_)
 ·refine iT hc91 ?_
  refine CO.skip ?_
  exact hk90 (a0, (a0.Kind == 2)) h _ (wS [(100, 100), (101, 101)] [1, 2, 4, 14])
 refine iF hc91 ?_
 refine cU 2 102 (tl 123 [(1, .loc 100 0), (2, .loc 101 0), (4, V.i a0.Kind), (14, V.b (a0.Kind == 3))]) [(101, .cells 114 [V.b false, V.b false, V.b false, V.i 0, V.i 0]), (100, .cells 48 [V.i a0.Kind, V.i a0.Op, V.s a0.Text, V.s a0.Other, .sl false false (a0.Kids.map encI)])] ?_
 refine bC h (fun hc92 h => ?_) (fun hc92 h => ?_)
 ·refine iT hc92 ?_
  refine CO.skip ?_
  exact hk90 (a0, (a0.Kind == 3)) h _ (wS [(100, 100), (101, 101)] [1, 2, 4, 14])
 refine iF hc92 ?_
 refine cE 2 102 (tl 123 [(1, .loc 100 0), (2, .loc 101 0), (4, V.i a0.Kind), (14, V.b (a0.Kind == 4))]) [(101, .cells 114 [V.b false, V.b false, V.b false, V.i 0, V.i 0]), (100, .cells 48 [V.i a0.Kind, V.i a0.Op, V.s a0.Text, V.s a0.Other, .sl false false (a0.Kids.map encI)])] (fun st hw => ?_)
 exact hk90 (a0, (a0.Kind == 4)) h _ (hw.trans (wS [(100, 100), (101, 101)] [1, 2, 4, 14]))

theorem mi_IsStmt_ok (a0 : Int) {r : Bool} (h : mi_IsStmt a0 = some r) :
    AC Tryz.prog (GS []) 106 [V.i a0] [] (V.b r) [] := by
 rw [mi_IsStmt] at h
 refine AC.enter Tryz.func106 rfl ?_
 refine cU 1 100 (tl 5 [(0, V.i a0)]) [] ?_
 refine bB h fun r2 hx2 h => ?_
 refine CO.cutR (tl 5 [(2, V.b r2)]) [] mix (by
  refine wR 1 100 ?_
  refine W.call0 (mi_within_ok a0 20 34 hx2) cok55 rfl (by kernel_rfl) ?_
  refine wR 1 100 ?_
  exact fI
  ) ?_
 refine CO.ret ?_
 have h := sI h
 subst h
 exact eG [] (.inr rfl) (RetV.one rfl (oT (t := 2) (r := V.b r2)))

theorem mi_stmtForm_ok (N : Nat) (a0 : SNode) {r : SForm} (h : mi_stmtForm N a0 = some r) :
    AC Tryz.prog (GS [0, 1, 2]) 107 [.agg [V.i a0.Kind, V.i a0.Op, V.s a0.Text, V.s a0.Other, .sl false false (a0.Kids.map encI)]] [] (.agg [V.b r.op, V.b r.text, V.b r.other, V.i r.least, V.i r.most]) [] := by
 rw [mi_stmtForm] at h
 refine AC.enter Tryz.func107 rfl ?_
 refine cU 2 100 (tl 98 [(1, .loc 100 0), (2, .loc 101 0)]) [(101, .cells 114 [V.b false, V.b false, V.b false, V.i 0, V.i 0]), (100, .cells 48 [V.i a0.Kind, V.i a0.Op, V.s a0.Text, V.s a0.Other, .sl false false (a0.Kids.map encI)])] ?_
 refine cU 12 102 (tl 98 [(1, .loc 100 0), (2, .loc 101 0), (3, .loc 102 0)]) [(102, .cells 114 [V.b (a0.Op == 0), V.b (a0.Text == []), V.b (a0.Other == []), V.i 0, V.i 0]), (101, .cells 114 [V.b false, V.b false, V.b false, V.i 0, V.i 0]), (100, .cells 48 [V.i a0.Kind, V.i a0.Op, V.s a0.Text, V.s a0.Other, .sl false false (a0.Kids.map encI)])] ?_
 refine CO.join (fun (⟨y14, y15, y16, y17, y18⟩ : (Bool × Bool × Bool × Int × Int)) => ⟨tl 98 [(2, .loc 100 0), (3, .loc 101 0)], [(100, .cells 114 [V.b false, V.b false, V.b false, V.i 0, V.i 0]), (101, .cells 114 [V.b y14, V.b y15, V.b y16, V.i y17, V.i y18])]⟩) (fun i => mi_stmtForm_k1 N i = some r) ?_ ?_
 · rintro ⟨y14, y15, y16, y17, y18⟩ h33
   rw [mi_stmtForm_k1] at h33
   refine cU 2 104 (tl 98 [(2, .loc 100 0)]) [(100, .cells 114 [V.b y14, V.b y15, V.b y16, V.i y17, V.i y18])] ?_
   refine CO.ret ?_
   have h33 := sI h33
   subst h33
   exact eG [] (.inr rfl) (RetV.one rfl (OneR.cell Dk (r := .agg [V.b y14, V.b y15, V.b y16, V.i y17, V.i y18]) (i := 100) (ety := 114) (cs := [V.b y14, V.b y15, V.b y16, V.i y17, V.i y18]) (by kernel_rfl) (by kernel_rfl) (by kernel_rfl)))
 intro hk34
 refine cU 2 103 (tl 98 [(1, .loc 100 0), (2, .loc 101 0), (3, .loc 102 0), (15, V.i a0.Kind)]) [(102, .cells 114 [V.b (a0.Op == 0), V.b (a0.Text == []), V.b (a0.Other == []), V.i 0, V.i 0]), (101, .cells 114 [V.b false, V.b false, V.b false, V.i 0, V.i 0]), (100, .cells 48 [V.i a0.Kind, V.i a0.Op, V.s a0.Text, V.s a0.Other, .sl false false (a0.Kids.map encI)])] ?_
 refine CO.block' ?_
 refine cU 2 103 (tl 98 [(1, .loc 100 0), (2, .loc 101 0), (3, .loc 102 0), (15, V.i a0.Kind), (16, V.b (a0.Kind == 20))]) [(102, .cells 114 [V.b (a0.Op == 0), V.b (a0.Text == []), V.b (a0.Other == []), V.i 0, V.i 0]), (101, .cells 114 [V.b false, V.b false, V.b false, V.i 0, V.i 0]), (100, .cells 48 [V.i a0.Kind, V.i a0.Op, V.s a0.Text, V.s a0.Other, .sl false false (a0.Kids.map encI)])] ?_
 refine bC h (fun hc35 h => ?_) (fun hc35 h => ?_)
 ·refine iT hc35 ?_
  refine cE 4 103 (tl 98 [(2, .loc 101 0), (3, .loc 102 0)]) [(102, .cells 114 [V.b (a0.Op == 0), V.b (a0.Text == []), V.b (a0.Other == []), V.i 1, V.i 1]), (101, .cells 114 [V.b false, V.b false, V.b false, V.i 0, V.i 0])] (fun st hw => ?_)
  exact hk34 ((a0.Op == 0), (a0.Text == []), (a0.Other == []), 1, 1) h _ (hw.trans (wS [(101, 100), (102, 101)] [2, 3]))
 refine iF hc35 ?_
 refine cU 2 103 (tl 98 [(1, .loc 100 0), (2, .loc 101 0), (3, .loc 102 0), (15, V.i a0.Kind), (20, V.b (a0.Kind == 21))]) [(102, .cells 114 [V.b (a0.Op == 0), V.b (a0.Text == []), V.b (a0.Other == []), V.i 0, V.i 0]), (101, .cells 114 [V.b false, V.b false, V.b false, V.i 0, V.i 0]), (100, .cells 48 [V.i a0.Kind, V.i a0.Op, V.s a0.Text, V.s a0.Other, .sl false false (a0.Kids.map encI)])] ?_
 refine bC h (fun hc36 h => ?_) (fun hc36 h => ?_)
 ·refine iT hc36 ?_
  refine bB h fun y19 hv38 h => ?_
  refine CO.cutR (tl 98 [(1, .loc 100 0), (2, .loc 101 0), (3, .loc 102 0)]) [(100, .cells 48 [V.i a0.Kind, V.i a0.Op, V.s a0.Text, V.s a0.Other, .sl false false (a0.Kids.map encI)]), (101, .cells 114 [V.b false, V.b false, V.b false, V.i 0, V.i 0]), (102, .cells 114 [V.b y19, V.b (a0.Text == []), V.b (a0.Other == []), V.i 0, V.i 0])] mix (by
   refine wR 4 103 ?_
   refine bC hv38 (fun hc39 hv38 => ?_) (fun hc39 hv38 => ?_)
   ·refine wI 25 hc39 ?_
    refine wR 6 103 ?_
    have hv38 := sI hv38
    subst hv38
    exact fS [(100, 100), (101, 101), (102, 102)] [1, 2, 3]
   refine wI 25 hc39 ?_
   refine wR 6 103 ?_
   have hv38 := sI hv38
   subst hv38
   exact fS [(100, 100), (101, 101), (102, 102)] [1, 2, 3]
   ) ?_
  refine bB h fun r21 hx41 h => ?_
  refine CO.cutR (tl 98 [(1, .loc 100 0), (2, .loc 101 0), (3, .loc 102 0)]) [(102, .cells 114 [V.b y19, V.b (a0.Text == []), V.b r21, V.i 0, V.i 0]), (100, .cells 48 [V.i a0.Kind, V.i a0.Op, V.s a0.Text, V.s a0.Other, .sl false false (a0.Kids.map encI)]), (101, .cells 114 [V.b false, V.b false, V.b false, V.i 0, V.i 0])] mix (by
   refine wR 3 103 ?_
   refine W.lend (AC.gs (m_slices_Contains_string_ok N [[], [62], [62, 62], [124]] a0.Other hx41) (by decide)) cok126 [] [] (LayOk.cons (j := 103) encS encS ([[], [62], [62, 62], [124]] : List (List UInt8)) (by kernel_rfl) (fun _ => rfl) (show LayOk _ [] from trivial)) (.c _) .nil (by kernel_rfl) (by kernel_rfl) ?_
   refine wR 2 104 ?_
   exact fI
   ) ?_
  refine cU 6 104 (tl 98 [(1, .loc 100 0), (2, .loc 101 0), (3, .loc 102 0)]) [(102, .cells 114 [V.b y19, V.b (a0.Text == []), V.b r21, V.i a0.Op, V.i 6]), (100, .cells 48 [V.i a0.Kind, V.i a0.Op, V.s a0.Text, V.s a0.Other, .sl false false (a0.Kids.map encI)]), (101, .cells 114 [V.b false, V.b false, V.b false, V.i 0, V.i 0])] ?_
  refine cU 3 104 (tl 98 [(2, .loc 101 0), (3, .loc 102 0), (42, V.b (!(a0.Other == [])))]) [(102, .cells 114 [V.b y19, V.b (a0.Text == []), V.b r21, V.i a0.Op, V.i 6]), (101, .cells 114 [V.b false, V.b false, V.b false, V.i 0, V.i 0])] ?_
  refine bC h (fun hc42 h => ?_) (fun hc42 h => ?_)
  ·refine iT hc42 ?_
   refine cE 10 104 (tl 98 [(2, .loc 101 0), (3, .loc 102 0)]) [(102, .cells 114 [V.b y19, V.b (a0.Text == []), V.b r21, V.i (IntKind.wrap .i64 (a0.Op + 1)), V.i 7]), (101, .cells 114 [V.b false, V.b false, V.b false, V.i 0, V.i 0])] (fun st hw => ?_)
   exact hk34 (y19, (a0.Text == []), r21, (IntKind.wrap .i64 (a0.Op + 1)), 7) h _ (hw.trans (wS [(101, 100), (102, 101)] [2, 3]))
  refine iF hc42 ?_
  refine CO.skip ?_
  exact hk34 (y19, (a0.Text == []), r21, a0.Op, 6) h _ (wS [(101, 100), (102, 101)] [2, 3])
 refine iF hc36 ?_
 refine CO.join (fun (⟨a0, y22⟩ : (SNode × Bool)) => ⟨tl 98 [(1, .loc 100 0), (2, .loc 101 0), (3, .loc 102 0), (15, V.i a0.Kind), (51, V.b y22)], [(100, .cells 48 [V.i a0.Kind, V.i a0.Op, V.s a0.Text, V.s a0.Other, .sl false false (a0.Kids.map encI)]), (101, .cells 114 [V.b false, V.b false, V.b false, V.i 0, V.i 0]), (102, .cells 114 [V.b (a0.Op == 0), V.b (a0.Text == []), V.b (a0.Other == []), V.i 0, V.i 0])]⟩) (fun i => mi_stmtForm_k2 N i = some r) ?_ ?_
 · rintro ⟨a0, y22⟩ h44
   rw [mi_stmtForm_k2] at h44
   refine bC h44 (fun hc45 h44 => ?_) (fun hc45 h44 => ?_)
   ·refine iT hc45 ?_
    refine cE 2 103 (tl 98 [(2, .loc 101 0), (3, .loc 102 0)]) [(102, .cells 114 [V.b (a0.Op == 0), V.b (a0.Text == []), V.b (a0.Other == []), V.i 0, V.i 1]), (101, .cells 114 [V.b false, V.b false, V.b false, V.i 0, V.i 0])] (fun st hw => ?_)
    exact hk34 ((a0.Op == 0), (a0.Text == []), (a0.Other == []), 0, 1) h44 _ (hw.trans (wS [(101, 100), (102, 101)] [2, 3]))
   refine iF hc45 ?_
   refine cU 2 103 (tl 98 [(1, .loc 100 0), (2, .loc 101 0), (3, .loc 102 0), (15, V.i a0.Kind), (55, V.b (a0.Kind == 27))]) [(100, .cells 48 [V.i a0.Kind, V.i a0.Op, V.s a0.Text, V.s a0.Other, .sl false false (a0.Kids.map encI)]), (101, .cells 114 [V.b false, V.b false, V.b false, V.i 0, V.i 0]), (102, .cells 114 [V.b (a0.Op == 0), V.b (a0.Text == []), V.b (a0.Other == []), V.i 0, V.i 0])] ?_
   refine bC h44 (fun hc46 h44 => ?_) (fun hc46 h44 => ?_)
   ·refine iT hc46 ?_
    refine bB h44 fun r24 hx48 h44 => ?_
    refine CO.endR (tl 98 [(2, .loc 101 0), (3, .loc 102 0)]) [(102, .cells 114 [V.b (a0.Op == 0), V.b r24, V.b (a0.Other == []), V.i 0, V.i 6]), (101, .cells 114 [V.b false, V.b false, V.b false, V.i 0, V.i 0])] mix (by
     refine wR 2 103 ?_
     refine W.call0 (AC.gs (mi_NameOk_ok N a0.Text hx48) (by decide)) cok120 rfl (by kernel_rfl) ?_
     refine wR 4 103 ?_
     exact fI
     ) (fun st hw => ?_)
    exact hk34 ((a0.Op == 0), r24, (a0.Other == []), 0, 6) h44 _ (hw.trans (wS [(101, 100), (102, 101)] [2, 3]))
   refine iF hc46 ?_
   refine cU 2 103 (tl 98 [(1, .loc 100 0), (2, .loc 101 0), (3, .loc 102 0), (15, V.i a0.Kind), (62, V.b (a0.Kind == 28))]) [(100, .cells 48 [V.i a0.Kind, V.i a0.Op, V.s a0.Text, V.s a0.Other, .sl false false (a0.Kids.map encI)]), (101, .cells 114 [V.b false, V.b false, V.b false, V.i 0, V.i 0]), (102, .cells 114 [V.b (a0.Op == 0), V.b (a0.Text == []), V.b (a0.Other == []), V.i 0, V.i 0])] ?_
   refine bC h44 (fun hc49 h44 => ?_) (fun hc49 h44 => ?_)
   ·refine iT hc49 ?_
    refine cE 4 103 (tl 98 [(2, .loc 101 0), (3, .loc 102 0)]) [(102, .cells 114 [V.b (a0.Op == 0), V.b (a0.Text == []), V.b (a0.Other == []), V.i 2, V.i 3]), (101, .cells 114 [V.b false, V.b false, V.b false, V.i 0, V.i 0])] (fun st hw => ?_)
    exact hk34 ((a0.Op == 0), (a0.Text == []), (a0.Other == []), 2, 3) h44 _ (hw.trans (wS [(101, 100), (102, 101)] [2, 3]))
   refine iF hc49 ?_
   refine CO.join (fun (⟨a0, y25⟩ : (SNode × Bool)) => ⟨tl 98 [(1, .loc 100 0), (2, .loc 101 0), (3, .loc 102 0), (15, V.i a0.Kind), (66, V.b y25)], [(100, .cells 48 [V.i a0.Kind, V.i a0.Op, V.s a0.Text, V.s a0.Other, .sl false false (a0.Kids.map encI)]), (101, .cells 114 [V.b false, V.b false, V.b false, V.i 0, V.i 0]), (102, .cells 114 [V.b (a0.Op == 0), V.b (a0.Text == []), V.b (a0.Other == []), V.i 0, V.i 0])]⟩) (fun i => mi_stmtForm_k3 N i = some r) ?_ ?_
   · rintro ⟨a0, y25⟩ h51
     rw [mi_stmtForm_k3] at h51
     refine bC h51 (fun hc52 h51 => ?_) (fun hc52 h51 => ?_)
     ·refine iT hc52 ?_
      refine cE 4 103 (tl 98 [(2, .loc 101 0), (3, .loc 102 0)]) [(102, .cells 114 [V.b (a0.Op == 0), V.b (a0.Text == []), V.b (a0.Other == []), V.i 2, V.i 2]), (101, .cells 114 [V.b false, V.b false, V.b false, V.i 0, V.i 0])] (fun st hw => ?_)
      exact hk34 ((a0.Op == 0), (a0.Text == []), (a0.Other == []), 2, 2) h51 _ (hw.trans (wS [(101, 100), (102, 101)] [2, 3]))
     refine iF hc52 ?_
     refine cU 2 103 (tl 98 [(1, .loc 100 0), (2, .loc 101 0), (3, .loc 102 0), (15, V.i a0.Kind), (71, V.b (a0.Kind == 31))]) [(100, .cells 48 [V.i a0.Kind, V.i a0.Op, V.s a0.Text, V.s a0.Other, .sl false false (a0.Kids.map encI)]), (101, .cells 114 [V.b false, V.b false, V.b false, V.i 0, V.i 0]), (102, .cells 114 [V.b (a0.Op == 0), V.b (a0.Text == []), V.b (a0.Other == []), V.i 0, V.i 0])] ?_
     refine bC h51 (fun hc53 h51 => ?_) (fun hc53 h51 => ?_)
     ·refine iT hc53 ?_
      refine cE 4 103 (tl 98 [(2, .loc 101 0), (3, .loc 102 0)]) [(102, .cells 114 [V.b (a0.Op == 0), V.b (a0.Text == []), V.b (a0.Other == []), V.i 4, V.i 4]), (101, .cells 114 [V.b false, V.b false, V.b false, V.i 0, V.i 0])] (fun st hw => ?_)
      exact hk34 ((a0.Op == 0), (a0.Text == []), (a0.Other == []), 4, 4) h51 _ (hw.trans (wS [(101, 100), (102, 101)] [2, 3]))
     refine iF hc53 ?_
     refine cU 2 103 (tl 98 [(1, .loc 100 0), (2, .loc 101 0), (3, .loc 102 0), (15, V.i a0.Kind), (75, V.b (a0.Kind == 32))]) [(100, .cells 48 [V.i a0.Kind, V.i a0.Op, V.s a0.Text, V.s a0.Other, .sl false false (a0.Kids.map encI)]), (101, .cells 114 [V.b false, V.b false, V.b false, V.i 0, V.i 0]), (102, .cells 114 [V.b (a0.Op == 0), V.b (a0.Text == []), V.b (a0.Other == []), V.i 0, V.i 0])] ?_
     refine bC h51 (fun hc54 h51 => ?_) (fun hc54 h51 => ?_)
     ·refine iT hc54 ?_
      refine bB h51 fun r28 hx57 h51 => ?_
      refine bB h51 fun r29 hx58 h51 => ?_
      refine CO.endR (tl 98 [(2, .loc 101 0), (3, .loc 102 0)]) [(102, .cells 114 [V.b (a0.Op == 0), V.b r28, V.b r29, V.i 1, V.i 1]), (101, .cells 114 [V.b false, V.b false, V.b false, V.i 0, V.i 0])] mix (by
       refine wR 2 103 ?_
       refine W.call0 (AC.gs (mi_NameOk_ok N a0.Text hx57) (by decide)) cok120 rfl (by kernel_rfl) ?_
       refine wR 2 103 ?_
       refine W.call0 (AC.gs (mi_NameOk_ok N a0.Other hx58) (by decide)) cok120 rfl (by kernel_rfl) ?_
       refine wR 8 103 ?_
       exact fI
       ) (fun st hw => ?_)
      exact hk34 ((a0.Op == 0), r28, r29, 1, 1) h51 _ (hw.trans (wS [(101, 100), (102, 101)] [2, 3]))
     refine iF hc54 ?_
     refine cU 2 103 (tl 98 [(1, .loc 100 0), (2, .loc 101 0), (3, .loc 102 0), (15, V.i a0.Kind), (87, V.b (a0.Kind == 33))]) [(100, .cells 48 [V.i a0.Kind, V.i a0.Op, V.s a0.Text, V.s a0.Other, .sl false false (a0.Kids.map encI)]), (101, .cells 114 [V.b false, V.b false, V.b false, V.i 0, V.i 0]), (102, .cells 114 [V.b (a0.Op == 0), V.b (a0.Text == []), V.b (a0.Other == []), V.i 0, V.i 0])] ?_
     refine bC h51 (fun hc59 h51 => ?_) (fun hc59 h51 => ?_)
     ·refine iT hc59 ?_
      refine cE 2 103 (tl 98 [(2, .loc 101 0), (3, .loc 102 0)]) [(102, .cells 114 [V.b (a0.Op == 0), V.b (a0.Text == []), V.b (a0.Other == []), V.i 0, V.i 400]), (101, .cells 114 [V.b false, V.b false, V.b false, V.i 0, V.i 0])] (fun st hw => ?_)
      exact hk34 ((a0.Op == 0), (a0.Text == []), (a0.Other == []), 0, 400) h51 _ (hw.trans (wS [(101, 100), (102, 101)] [2, 3]))
     refine iF hc59 ?_
     refine cU 2 103 (tl 98 [(1, .loc 100 0), (2, .loc 101 0), (3, .loc 102 0), (90, V.b (a0.Kind == 34))]) [(100, .cells 48 [V.i a0.Kind, V.i a0.Op, V.s a0.Text, V.s a0.Other, .sl false false (a0.Kids.map encI)]), (101, .cells 114 [V.b false, V.b false, V.b false, V.i 0, V.i 0]), (102, .cells 114 [V.b (a0.Op == 0), V.b (a0.Text == []), V.b (a0.Other == []), V.i 0, V.i 0])] ?_
     refine bC h51 (fun hc60 h51 => ?_) (fun hc60 h51 => ?_)
     ·refine iT hc60 ?_
      refine bB h51 fun r31 hx62 h51 => ?_
      refine CO.endR (tl 98 [(2, .loc 101 0), (3, .loc 102 0)]) [(102, .cells 114 [V.b (a0.Op == 0), V.b r31, V.b (a0.Other == []), V.i 0, V.i 0]), (101, .cells 114 [V.b false, V.b false, V.b false, V.i 0, V.i 0])] mix (by
       refine wR 3 103 ?_
       refine W.call0 (mi_TokenOk_ok N (⟨2, a0.Text, 0⟩ : SToken) hx62) cok121 rfl (by kernel_rfl) ?_
       refine wR 2 103 ?_
       exact fI
       ) (fun st hw => ?_)
      exact hk34 ((a0.Op == 0), r31, (a0.Other == []), 0, 0) h51 _ (hw.trans (wS [(101, 100), (102, 101)] [2, 3]))
     refine iF hc60 ?_
     refine CO.skip ?_
     exact hk34 ((a0.Op == 0), (a0.Text == []), (a0.Other == []), 0, 0) h51 _ (wS [(101, 100), (102, 101)] [2, 3])
   intro hk63
   refine cU 2 103 (tl 98 [(1, .loc 100 0), (2, .loc 101 0), (3, .loc 102 0), (15, V.i a0.Kind), (66, V.b (a0.Kind == 29))]) [(100, .cells 48 [V.i a0.Kind, V.i a0.Op, V.s a0.Text, V.s a0.Other, .sl false false (a0.Kids.map encI)]), (101, .cells 114 [V.b false, V.b false, V.b false, V.i 0, V.i 0]), (102, .cells 114 [V.b (a0.Op == 0), V.b (a0.Text == []), V.b (a0.Other == []), V.i 0, V.i 0])] ?_
   refine bC h44 (fun hc64 h44 => ?_) (fun hc64 h44 => ?_)
   ·refine iT hc64 ?_
    refine CO.skip ?_
    exact hk63 (a0, (a0.Kind == 29)) h44 _ (wS [(100, 100), (101, 101), (102, 102)] [1, 2, 3, 15, 66])
   refine iF hc64 ?_
   refine cE 2 103 (tl 98 [(1, .loc 100 0), (2, .loc 101 0), (3, .loc 102 0), (15, V.i a0.Kind), (66, V.b (a0.Kind == 30))]) [(100, .cells 48 [V.i a0.Kind, V.i a0.Op, V.s a0.Text, V.s a0.Other, .sl false false (a0.Kids.map encI)]), (101, .cells 114 [V.b false, V.b false, V.b false, V.i 0, V.i 0]), (102, .cells 114 [V.b (a0.Op == 0), V.b (a0.Text == []), V.b (a0.Other == []), V.i 0, V.i 0])] (fun st hw => ?_)
   exact hk63 (a0, (a0.Kind == 30)) h44 _ (hw.trans (wS [(100, 100), (101, 101), (102, 102)] [1, 2, 3, 15, 66]))
 intro hk65
 refine cU 2 103 (tl 98 [(1, .loc 100 0), (2, .loc 101 0), (3, .loc 102 0), (15, V.i a0.Kind), (51, V.b (a0.Kind == 23))]) [(102, .cells 114 [V.b (a0.Op == 0), V.b (a0.Text == []), V.b (a0.Other == []), V.i 0, V.i 0]), (101, .cells 114 [V.b false, V.b false, V.b false, V.i 0, V.i 0]), (100, .cells 48 [V.i a0.Kind, V.i a0.Op, V.s a0.Text, V.s a0.Other, .sl false false (a0.Kids.map encI)])] ?_
 refine bC h (fun hc66 h => ?_) (fun hc66 h => ?_)
 ·refine iT hc66 ?_
  refine CO.skip ?_
  exact hk65 (a0, (a0.Kind == 23)) h _ (wS [(100, 100), (101, 101), (102, 102)] [1, 2, 3, 15, 51])
 refine iF hc66 ?_
 refine cE 2 103 (tl 98 [(1, .loc 100 0), (2, .loc 101 0), (3, .loc 102 0), (15, V.i a0.Kind), (51, V.b (a0.Kind == 24))]) [(102, .cells 114 [V.b (a0.Op == 0), V.b (a0.Text == []), V.b (a0.Other == []), V.i 0, V.i 0]), (101, .cells 114 [V.b false, V.b false, V.b false, V.i 0, V.i 0]), (100, .cells 48 [V.i a0.Kind, V.i a0.Op, V.s a0.Text, V.s a0.Other, .sl false false (a0.Kids.map encI)])] (fun st hw => ?_)
 exact hk65 (a0, (a0.Kind == 24)) h _ (hw.trans (wS [(100, 100), (101, 101), (102, 102)] [1, 2, 3, 15, 51]))

theorem mi_itemForm_ok (N : Nat) (a0 : SNode) {r : SForm} (h : mi_itemForm N a0 = some r) :
    AC Tryz.prog (GS [0, 1]) 108 [.agg [V.i a0.Kind, V.i a0.Op, V.s a0.Text, V.s a0.Other, .sl false false (a0.Kids.map encI)]] [] (.agg [V.b r.op, V.b r.text, V.b r.other, V.i r.least, V.i r.most]) [] := by
 rw [mi_itemForm] at h
 refine AC.enter Tryz.func108 rfl ?_
 refine cU 2 100 (tl 64 [(1, .loc 100 0), (2, .loc 101 0)]) [(101, .cells 114 [V.b false, V.b false, V.b false, V.i 0, V.i 0]), (100, .cells 48 [V.i a0.Kind, V.i a0.Op, V.s a0.Text, V.s a0.Other, .sl false false (a0.Kids.map encI)])] ?_
 refine cU 12 102 (tl 64 [(1, .loc 100 0), (2, .loc 101 0), (3, .loc 102 0)]) [(102, .cells 114 [V.b (a0.Op == 0), V.b (a0.Text == []), V.b (a0.Other == []), V.i 0, V.i 0]), (101, .cells 114 [V.b false, V.b false, V.b false, V.i 0, V.i 0]), (100, .cells 48 [V.i a0.Kind, V.i a0.Op, V.s a0.Text, V.s a0.Other, .sl false false (a0.Kids.map encI)])] ?_
 refine CO.join (fun (⟨a0, y9, y10, y11, y12⟩ : (SNode × Bool × Bool × Int × Int)) => ⟨tl 64 [(2, .loc 100 0), (3, .loc 101 0)], [(100, .cells 114 [V.b false, V.b false, V.b false, V.i 0, V.i 0]), (101, .cells 114 [V.b y9, V.b y10, V.b (a0.Other == []), V.i y11, V.i y12])]⟩) (fun i => mi_itemForm_k1 N i = some r) ?_ ?_
 · rintro ⟨a0, y9, y10, y11, y12⟩ h24
   rw [mi_itemForm_k1] at h24
   refine cU 2 103 (tl 64 [(2, .loc 100 0)]) [(100, .cells 114 [V.b y9, V.b y10, V.b (a0.Other == []), V.i y11, V.i y12])] ?_
   refine CO.ret ?_
   have h24 := sI h24
   subst h24
   exact eG [] (.inr rfl) (RetV.one rfl (OneR.cell Dk (r := .agg [V.b y9, V.b y10, V.b (a0.Other == []), V.i y11, V.i y12]) (i := 100) (ety := 114) (cs := [V.b y9, V.b y10, V.b (a0.Other == []), V.i y11, V.i y12]) (by kernel_rfl) (by kernel_rfl) (by kernel_rfl)))
 intro hk25
 refine cU 2 103 (tl 64 [(1, .loc 100 0), (2, .loc 101 0), (3, .loc 102 0), (15, V.i a0.Kind)]) [(102, .cells 114 [V.b (a0.Op == 0), V.b (a0.Text == []), V.b (a0.Other == []), V.i 0, V.i 0]), (101, .cells 114 [V.b false, V.b false, V.b false, V.i 0, V.i 0]), (100, .cells 48 [V.i a0.Kind, V.i a0.Op, V.s a0.Text, V.s a0.Other, .sl false false (a0.Kids.map encI)])] ?_
 refine CO.block' ?_
 refine CO.join (fun (⟨a0, y13⟩ : (SNode × Bool)) => ⟨tl 64 [(1, .loc 100 0), (2, .loc 101 0), (3, .loc 102 0), (15, V.i a0.Kind), (17, V.b y13)], [(100, .cells 48 [V.i a0.Kind, V.i a0.Op, V.s a0.Text, V.s a0.Other, .sl false false (a0.Kids.map encI)]), (101, .cells 114 [V.b false, V.b false, V.b false, V.i 0, V.i 0]), (102, .cells 114 [V.b (a0.Op == 0), V.b (a0.Text == []), V.b (a0.Other == []), V.i 0, V.i 0])]⟩) (fun i => mi_itemForm_k2 N i = some r) ?_ ?_
 · rintro ⟨a0, y13⟩ h27
   rw [mi_itemForm_k2] at h27
   refine bC h27 (fun hc28 h27 => ?_) (fun hc28 h27 => ?_)
   ·refine iT hc28 ?_
    refine cE 4 103 (tl 64 [(2, .loc 101 0), (3, .loc 102 0)]) [(102, .cells 114 [V.b (a0.Op == 0), V.b (a0.Text == []), V.b (a0.Other == []), V.i 1, V.i 1]), (101, .cells 114 [V.b false, V.b false, V.b false, V.i 0, V.i 0])] (fun st hw => ?_)
    exact hk25 (a0, (a0.Op == 0), (a0.Text == []), 1, 1) h27 _ (hw.trans (wS [(101, 100), (102, 101)] [2, 3]))
   refine iF hc28 ?_
   refine cU 2 103 (tl 64 [(1, .loc 100 0), (2, .loc 101 0), (3, .loc 102 0), (15, V.i a0.Kind), (22, V.b (a0.Kind == 42))]) [(100, .cells 48 [V.i a0.Kind, V.i a0.Op, V.s a0.Text, V.s a0.Other, .sl false false (a0.Kids.map encI)]), (101, .cells 114 [V.b false, V.b false, V.b false, V.i 0, V.i 0]), (102, .cells 114 [V.b (a0.Op == 0), V.b (a0.Text == []), V.b (a0.Other == []), V.i 0, V.i 0])] ?_
   refine bC h27 (fun hc29 h27 => ?_) (fun hc29 h27 => ?_)
   ·refine iT hc29 ?_
    refine bB h27 fun r15 hx31 h27 => ?_
    refine CO.cutR (tl 64 [(1, .loc 100 0), (2, .loc 101 0), (3, .loc 102 0)]) [(102, .cells 114 [V.b r15, V.b (a0.Text == []), V.b (a0.Other == []), V.i 1, V.i 0]), (100, .cells 48 [V.i a0.Kind, V.i a0.Op, V.s a0.Text, V.s a0.Other, .sl false false (a0.Kids.map encI)]), (101, .cells 114 [V.b false, V.b false, V.b false, V.i 0, V.i 0])] mix (by
     refine wR 2 103 ?_
     refine W.call0 (AC.gs (mi_within_ok a0.Op 1 3 hx31) (by decide)) cok55 rfl (by kernel_rfl) ?_
     refine wR 4 103 ?_
     exact fI
     ) ?_
    refine CO.join (fun (⟨r15, a0, y16⟩ : (Bool × SNode × Int)) => ⟨tl 64 [(2, .loc 100 0), (3, .loc 101 0)], [(100, .cells 114 [V.b false, V.b false, V.b false, V.i 0, V.i 0]), (101, .cells 114 [V.b r15, V.b (a0.Text == []), V.b (a0.Other == []), V.i y16, V.i 0])]⟩) (fun i => mi_itemForm_k3 N i = some r) ?_ ?_
    · rintro ⟨r15, a0, y16⟩ h33
      rw [mi_itemForm_k3] at h33
      refine cE 4 103 (tl 64 [(2, .loc 100 0), (3, .loc 101 0)]) [(101, .cells 114 [V.b r15, V.b (a0.Text == []), V.b (a0.Other == []), V.i y16, V.i y16]), (100, .cells 114 [V.b false, V.b false, V.b false, V.i 0, V.i 0])] (fun st hw => ?_)
      exact hk25 (a0, r15, (a0.Text == []), y16, y16) h33 _ (hw.trans (wS [(100, 100), (101, 101)] [2, 3]))
    intro hk34
    refine cU 3 103 (tl 64 [(2, .loc 101 0), (3, .loc 102 0), (31, V.b (a0.Op == 3))]) [(102, .cells 114 [V.b r15, V.b (a0.Text == []), V.b (a0.Other == []), V.i 1, V.i 0]), (101, .cells 114 [V.b false, V.b false, V.b false, V.i 0, V.i 0])] ?_
    refine bC h27 (fun hc35 h27 => ?_) (fun hc35 h27 => ?_)
    ·refine iT hc35 ?_
     refine cE 2 103 (tl 64 [(2, .loc 101 0), (3, .loc 102 0)]) [(102, .cells 114 [V.b r15, V.b (a0.Text == []), V.b (a0.Other == []), V.i 2, V.i 0]), (101, .cells 114 [V.b false, V.b false, V.b false, V.i 0, V.i 0])] (fun st hw => ?_)
     exact hk34 (r15, a0, 2) h27 _ (hw.trans (wS [(101, 100), (102, 101)] [2, 3]))
    refine iF hc35 ?_
    refine CO.skip ?_
    exact hk34 (r15, a0, 1) h27 _ (wS [(101, 100), (102, 101)] [2, 3])
   refine iF hc29 ?_
   refine cU 2 103 (tl 64 [(1, .loc 100 0), (2, .loc 101 0), (3, .loc 102 0), (15, V.i a0.Kind), (36, V.b (a0.Kind == 43))]) [(100, .cells 48 [V.i a0.Kind, V.i a0.Op, V.s a0.Text, V.s a0.Other, .sl false false (a0.Kids.map encI)]), (101, .cells 114 [V.b false, V.b false, V.b false, V.i 0, V.i 0]), (102, .cells 114 [V.b (a0.Op == 0), V.b (a0.Text == []), V.b (a0.Other == []), V.i 0, V.i 0])] ?_
   refine bC h27 (fun hc36 h27 => ?_) (fun hc36 h27 => ?_)
   ·refine iT hc36 ?_
    refine bB h27 fun y17 hv38 h27 => ?_
    refine CO.cutR (tl 64 [(1, .loc 100 0), (2, .loc 101 0), (3, .loc 102 0)]) [(100, .cells 48 [V.i a0.Kind, V.i a0.Op, V.s a0.Text, V.s a0.Other, .sl false false (a0.Kids.map encI)]), (101, .cells 114 [V.b false, V.b false, V.b false, V.i 0, V.i 0]), (102, .cells 114 [V.b y17, V.b (a0.Text == []), V.b (a0.Other == []), V.i 2, V.i 0])] mix (by
     refine wR 4 103 ?_
     refine bC hv38 (fun hc39 hv38 => ?_) (fun hc39 hv38 => ?_)
     ·refine wI 41 hc39 ?_
      refine wR 8 103 ?_
      have hv38 := sI hv38
      subst hv38
      exact fS [(100, 100), (101, 101), (102, 102)] [1, 2, 3]
     refine wI 41 hc39 ?_
     refine wR 8 103 ?_
     have hv38 := sI hv38
     subst hv38
     exact fS [(100, 100), (101, 101), (102, 102)] [1, 2, 3]
     ) ?_
    refine CO.join (fun (⟨y17, a0, y18⟩ : (Bool × SNode × Int)) => ⟨tl 64 [(2, .loc 100 0), (3, .loc 101 0)], [(100, .cells 114 [V.b false, V.b false, V.b false, V.i 0, V.i 0]), (101, .cells 114 [V.b y17, V.b (a0.Text == []), V.b (a0.Other == []), V.i y18, V.i 0])]⟩) (fun i => mi_itemForm_k4 N i = some r) ?_ ?_
    · rintro ⟨y17, a0, y18⟩ h41
      rw [mi_itemForm_k4] at h41
      refine cE 4 103 (tl 64 [(2, .loc 100 0), (3, .loc 101 0)]) [(101, .cells 114 [V.b y17, V.b (a0.Text == []), V.b (a0.Other == []), V.i y18, V.i y18]), (100, .cells 114 [V.b false, V.b false, V.b false, V.i 0, V.i 0])] (fun st hw => ?_)
      exact hk25 (a0, y17, (a0.Text == []), y18, y18) h41 _ (hw.trans (wS [(100, 100), (101, 101)] [2, 3]))
    intro hk42
    refine cU 3 103 (tl 64 [(2, .loc 101 0), (3, .loc 102 0), (50, V.b (a0.Op == 3))]) [(101, .cells 114 [V.b false, V.b false, V.b false, V.i 0, V.i 0]), (102, .cells 114 [V.b y17, V.b (a0.Text == []), V.b (a0.Other == []), V.i 2, V.i 0])] ?_
    refine bC h27 (fun hc43 h27 => ?_) (fun hc43 h27 => ?_)
    ·refine iT hc43 ?_
     refine cE 2 103 (tl 64 [(2, .loc 101 0), (3, .loc 102 0)]) [(102, .cells 114 [V.b y17, V.b (a0.Text == []), V.b (a0.Other == []), V.i 3, V.i 0]), (101, .cells 114 [V.b false, V.b false, V.b false, V.i 0, V.i 0])] (fun st hw => ?_)
     exact hk42 (y17, a0, 3) h27 _ (hw.trans (wS [(101, 100), (102, 101)] [2, 3]))
    refine iF hc43 ?_
    refine CO.skip ?_
    exact hk42 (y17, a0, 2) h27 _ (wS [(101, 100), (102, 101)] [2, 3])
   refine iF hc36 ?_
   refine cU 2 103 (tl 64 [(1, .loc 100 0), (2, .loc 101 0), (3, .loc 102 0), (55, V.b (a0.Kind == 44))]) [(100, .cells 48 [V.i a0.Kind, V.i a0.Op, V.s a0.Text, V.s a0.Other, .sl false false (a0.Kids.map encI)]), (101, .cells 114 [V.b false, V.b false, V.b false, V.i 0, V.i 0]), (102, .cells 114 [V.b (a0.Op == 0), V.b (a0.Text == []), V.b (a0.Other == []), V.i 0, V.i 0])] ?_
   refine bC h27 (fun hc44 h27 => ?_) (fun hc44 h27 => ?_)
   ·refine iT hc44 ?_
    refine bB h27 fun r20 hx46 h27 => ?_
    refine CO.endR (tl 64 [(2, .loc 101 0), (3, .loc 102 0)]) [(102, .cells 114 [V.b (a0.Op == 0), V.b r20, V.b (a0.Other == []), V.i 1, V.i 7]), (101, .cells 114 [V.b false, V.b false, V.b false, V.i 0, V.i 0])] mix (by
     refine wR 2 103 ?_
     refine W.call0 (mi_NameOk_ok N a0.Text hx46) cok120 rfl (by kernel_rfl) ?_
     refine wR 6 103 ?_
     exact fI
     ) (fun st hw => ?_)
    exact hk25 (a0, (a0.Op == 0), r20, 1, 7) h27 _ (hw.trans (wS [(101, 100), (102, 101)] [2, 3]))
   refine iF hc44 ?_
   refine cE 2 103 (tl 64 [(2, .loc 101 0), (3, .loc 102 0)]) [(102, .cells 114 [V.b (a0.Op == 0), V.b (a0.Text == []), V.b (a0.Other == []), V.i 0, V.i 400]), (101, .cells 114 [V.b false, V.b false, V.b false, V.i 0, V.i 0])] (fun st hw => ?_)
   exact hk25 (a0, (a0.Op == 0), (a0.Text == []), 0, 400) h27 _ (hw.trans (wS [(101, 100), (102, 101)] [2, 3]))
 intro hk47
 refine cU 2 103 (tl 64 [(1, .loc 100 0), (2, .loc 101 0), (3, .loc 102 0), (15, V.i a0.Kind), (17, V.b (a0.Kind == 40))]) [(102, .cells 114 [V.b (a0.Op == 0), V.b (a0.Text == []), V.b (a0.Other == []), V.i 0, V.i 0]), (101, .cells 114 [V.b false, V.b false, V.b false, V.i 0, V.i 0]), (100, .cells 48 [V.i a0.Kind, V.i a0.Op, V.s a0.Text, V.s a0.Other, .sl false false (a0.Kids.map encI)])] ?_
 refine bC h (fun hc48 h => ?_) (fun hc48 h => ?_)
 ·refine iT hc48 ?_
  refine CO.skip ?_
  exact hk47 (a0, (a0.Kind == 40)) h _ (wS [(100, 100), (101, 101), (102, 102)] [1, 2, 3, 15, 17])
 refine iF hc48 ?_
 refine cE 2 103 (tl 64 [(1, .loc 100 0), (2, .loc 101 0), (3, .loc 102 0), (15, V.i a0.Kind), (17, V.b (a0.Kind == 41))]) [(102, .cells 114 [V.b (a0.Op == 0), V.b (a0.Text == []), V.b (a0.Other == []), V.i 0, V.i 0]), (101, .cells 114 [V.b false, V.b false, V.b false, V.i 0, V.i 0]), (100, .cells 48 [V.i a0.Kind, V.i a0.Op, V.s a0.Text, V.s a0.Other, .sl false false (a0.Kids.map encI)])] (fun st hw => ?_)
 exact hk47 (a0, (a0.Kind == 41)) h _ (hw.trans (wS [(100, 100), (101, 101), (102, 102)] [1, 2, 3, 15, 17]))

theorem mi_FieldsOk_ok (N : Nat) (a0 : SNode) {r : Bool} (h : mi_FieldsOk N a0 = some r) :
    AC Tryz.prog (GS [0, 1, 2]) 76 [.agg [V.i a0.Kind, V.i a0.Op, V.s a0.Text, V.s a0.Other, .sl false false (a0.Kids.map encI)]] [] (V.b r) [] := by
 rw [mi_FieldsOk] at h
 refine AC.enter Tryz.func76 rfl ?_
 refine cU 2 100 (tl 61 [(1, .loc 100 0)]) [(100, .cells 48 [V.i a0.Kind, V.i a0.Op, V.s a0.Text, V.s a0.Other, .sl false false (a0.Kids.map encI)])] ?_
 refine cU 3 101 (tl 61 [(1, .loc 100 0), (3, .loc 101 0)]) [(101, .cells 114 [V.b false, V.b false, V.b false, V.i 0, V.i 0]), (100, .cells 48 [V.i a0.Kind, V.i a0.Op, V.s a0.Text, V.s a0.Other, .sl false false (a0.Kids.map encI)])] ?_
 refine CO.join (fun (⟨a0, y13, y14, y15, y16, y17⟩ : (SNode × Bool × Bool × Bool × Int × Int)) => ⟨tl 61 [(1, .loc 100 0), (3, .loc 101 0)], [(100, .cells 48 [V.i a0.Kind, V.i a0.Op, V.s a0.Text, V.s a0.Other, .sl false false (a0.Kids.map encI)]), (101, .cells 114 [V.b y13, V.b y14, V.b y15, V.i y16, V.i y17])]⟩) (fun i => mi_FieldsOk_k1 N i = some r) ?_ ?_
 · rintro ⟨a0, y13, y14, y15, y16, y17⟩ h17
   rw [mi_FieldsOk_k1] at h17
   refine bB h17 fun y19 hv22 h17 => ?_
   refine CO.cutR (tl 61 [(2, V.b y19)]) [] mix (by
    refine wR 3 102 ?_
    refine bC hv22 (fun hc23 hv22 => ?_) (fun hc23 hv22 => ?_)
    ·refine wI 43 hc23 ?_
     refine wR 4 102 ?_
     refine bC hv22 (fun hc24 hv22 => ?_) (fun hc24 hv22 => ?_)
     ·refine wI 47 hc24 ?_
      refine wR 4 102 ?_
      refine bC hv22 (fun hc25 hv22 => ?_) (fun hc25 hv22 => ?_)
      ·refine wI 51 hc25 ?_
       refine wR 2 102 ?_
       refine W.len Dk encI a0.Kids [] (by kernel_rfl) (by kernel_rfl) ?_
       refine wR 4 102 ?_
       refine bB hv22 fun r20 hx26 hv22 => ?_
       refine W.call0 (AC.gs (mi_within_ok (a0.Kids.length : Int) y16 y17 hx26) (by decide)) cok55 rfl (by kernel_rfl) ?_
       refine wR 2 102 ?_
       have hv22 := sI hv22
       subst hv22
       exact fS [] [2]
      refine wI 51 hc25 ?_
      refine wR 10 102 ?_
      have hv22 := sI hv22
      subst hv22
      exact fS [] [2]
     refine wI 47 hc24 ?_
     refine wR 14 102 ?_
     have hv22 := sI hv22
     subst hv22
     exact fS [] [2]
    refine wI 43 hc23 ?_
    refine wR 18 102 ?_
    have hv22 := sI hv22
    subst hv22
    exact fS [] [2]
    ) ?_
   refine CO.ret ?_
   have h17 := sI h17
   subst h17
   exact eG [] (.inr rfl) (RetV.one rfl (oT (t := 2) (r := V.b y19)))
 intro hk27
 refine CO.block' ?_
 refine bB h fun r22 hx29 h => ?_
 refine CO.cutR (tl 61 [(1, .loc 100 0), (3, .loc 101 0), (5, V.b r22)]) [(101, .cells 114 [V.b false, V.b false, V.b false, V.i 0, V.i 0]), (100, .cells 48 [V.i a0.Kind, V.i a0.Op, V.s a0.Text, V.s a0.Other, .sl false false (a0.Kids.map encI)])] mix (by
  refine wR 2 102 ?_
  refine W.call0 (AC.gs (mi_IsExpr_ok a0.Kind hx29) (by decide)) cok46 rfl (by kernel_rfl) ?_
  refine wR 1 102 ?_
  exact fI
  ) ?_
 refine bC h (fun hc30 h => ?_) (fun hc30 h => ?_)
 ·refine iT hc30 ?_
  refine bB h fun r24 hx32 h => ?_
  refine CO.cutR (tl 61 [(1, .loc 100 0), (3, .loc 101 0)]) [(101, .cells 114 [V.b r24.op, V.b r24.text, V.b r24.other, V.i r24.least, V.i r24.most]), (100, .cells 48 [V.i a0.Kind, V.i a0.Op, V.s a0.Text, V.s a0.Other, .sl false false (a0.Kids.map encI)])] mix (by
   refine wR 1 102 ?_
   refine W.call0 (mi_exprForm_ok N a0 hx32) cok105 rfl (by kernel_rfl) ?_
   refine wR 1 102 ?_
   exact fI
   ) ?_
  refine cE 5 102 (tl 61 [(1, .loc 100 0), (3, .loc 101 0)]) [(101, .cells 114 [V.b r24.op, V.b r24.text, V.b (a0.Other == []), V.i r24.least, V.i r24.most]), (100, .cells 48 [V.i a0.Kind, V.i a0.Op, V.s a0.Text, V.s a0.Other, .sl false false (a0.Kids.map encI)])] (fun st hw => ?_)
  exact hk27 (a0, r24.op, r24.text, (a0.Other == []), r24.least, r24.most) h _ (hw.trans (wS [(100, 100), (101, 101)] [1, 3]))
 refine iF hc30 ?_
 refine cU 4 102 (tl 61 [(1, .loc 100 0), (3, .loc 101 0), (15, V.b (a0.Kind == 16))]) [(101, .cells 114 [V.b false, V.b false, V.b false, V.i 0, V.i 0]), (100, .cells 48 [V.i a0.Kind, V.i a0.Op, V.s a0.Text, V.s a0.Other, .sl false false (a0.Kids.map encI)])] ?_
 refine bC h (fun hc33 h => ?_) (fun hc33 h => ?_)
 ·refine iT hc33 ?_
  refine cE 11 102 (tl 61 [(1, .loc 100 0), (3, .loc 101 0)]) [(101, .cells 114 [V.b (a0.Op == 0), V.b (a0.Text == []), V.b (a0.Other == []), V.i 0, V.i 0]), (100, .cells 48 [V.i a0.Kind, V.i a0.Op, V.s a0.Text, V.s a0.Other, .sl false false (a0.Kids.map encI)])] (fun st hw => ?_)
  exact hk27 (a0, (a0.Op == 0), (a0.Text == []), (a0.Other == []), 0, 0) h _ (hw.trans (wS [(100, 100), (101, 101)] [1, 3]))
 refine iF hc33 ?_
 refine bB h fun r26 hx35 h => ?_
 refine CO.cutR (tl 61 [(1, .loc 100 0), (3, .loc 101 0), (29, V.b r26)]) [(101, .cells 114 [V.b false, V.b false, V.b false, V.i 0, V.i 0]), (100, .cells 48 [V.i a0.Kind, V.i a0.Op, V.s a0.Text, V.s a0.Other, .sl false false (a0.Kids.map encI)])] mix (by
  refine wR 2 102 ?_
  refine W.call0 (AC.gs (mi_IsStmt_ok a0.Kind hx35) (by decide)) cok106 rfl (by kernel_rfl) ?_
  refine wR 1 102 ?_
  exact fI
  ) ?_
 refine bC h (fun hc36 h => ?_) (fun hc36 h => ?_)
 ·refine iT hc36 ?_
  refine bB h fun r28 hx38 h => ?_
  refine CO.endR (tl 61 [(1, .loc 100 0), (3, .loc 101 0)]) [(101, .cells 114 [V.b r28.op, V.b r28.text, V.b r28.other, V.i r28.least, V.i r28.most]), (100, .cells 48 [V.i a0.Kind, V.i a0.Op, V.s a0.Text, V.s a0.Other, .sl false false (a0.Kids.map encI)])] mix (by
   refine wR 1 102 ?_
   refine W.call0 (mi_stmtForm_ok N a0 hx38) cok107 rfl (by kernel_rfl) ?_
   refine wR 1 102 ?_
   exact fI
   ) (fun st hw => ?_)
  exact hk27 (a0, r28.op, r28.text, r28.other, r28.least, r28.most) h _ (hw.trans (wS [(100, 100), (101, 101)] [1, 3]))
 refine iF hc36 ?_
 refine bB h fun r30 hx40 h => ?_
 refine CO.cutR (tl 61 [(1, .loc 100 0), (3, .loc 101 0), (35, V.b r30)]) [(101, .cells 114 [V.b false, V.b false, V.b false, V.i 0, V.i 0]), (100, .cells 48 [V.i a0.Kind, V.i a0.Op, V.s a0.Text, V.s a0.Other, .sl false false (a0.Kids.map encI)])] mix (by
  refine wR 2 102 ?_
  refine W.call0 (AC.gs (mi_within_ok a0.Kind 40 45 hx40) (by decide)) cok55 rfl (by kernel_rfl) ?_
  refine wR 1 102 ?_
  exact fI
  ) ?_
 refine bC h (fun hc41 h => ?_) (fun hc41 h => ?_)
 ·refine iT hc41 ?_
  refine bB h fun r32 hx43 h => ?_
  refine CO.endR (tl 61 [(1, .loc 100 0), (3, .loc 101 0)]) [(101, .cells 114 [V.b r32.op, V.b r32.text, V.b r32.other, V.i r32.least, V.i r32.most]), (100, .cells 48 [V.i a0.Kind, V.i a0.Op, V.s a0.Text, V.s a0.Other, .sl false false (a0.Kids.map encI)])] mix (by
   refine wR 1 102 ?_
   refine W.call0 (AC.gs (mi_itemForm_ok N a0 hx43) (by decide)) cok108 rfl (by kernel_rfl) ?_
   refine wR 1 102 ?_
   exact fI
   ) (fun st hw => ?_)
  exact hk27 (a0, r32.op, r32.text, r32.other, r32.least, r32.most) h _ (hw.trans (wS [(100, 100), (101, 101)] [1, 3]))
 refine iF hc41 ?_
 refine cU 1 102 (tl 61 [(2, V.b false)]) [] ?_
 refine CO.ret ?_
 have h := sI h
 subst h
 exact eG [] (.inr rfl) (RetV.one rfl (oT (t := 2) (r := V.b false)))

theorem mi_IsLvalue_ok (a0 : Int) {r : Bool} (h : mi_IsLvalue a0 = some r) :
    AC Tryz.prog (GS []) 109 [V.i a0] [] (V.b r) [] := by
 rw [mi_IsLvalue] at h
 refine AC.enter Tryz.func109 rfl ?_
 refine cU 1 100 (tl 13 [(0, V.i a0)]) [] ?_
 refine bB h fun y1 hv3 h => ?_
 refine CO.cutR (tl 13 [(2, V.b y1)]) [] mix (by
  refine wR 3 100 ?_
  refine bC hv3 (fun hc4 hv3 => ?_) (fun hc4 hv3 => ?_)
  ·refine wI 5 hc4 ?_
   refine wR 8 100 ?_
   have hv3 := sI hv3
   subst hv3
   exact fS [] [2]
  refine wI 5 hc4 ?_
  refine wR 4 100 ?_
  refine bC hv3 (fun hc5 hv3 => ?_) (fun hc5 hv3 => ?_)
  ·refine wI 9 hc5 ?_
   refine wR 4 100 ?_
   have hv3 := sI hv3
   subst hv3
   exact fS [] [2]
  refine wI 9 hc5 ?_
  refine wR 4 100 ?_
  have hv3 := sI hv3
  subst hv3
  exact fS [] [2]
  ) ?_
 refine CO.ret ?_
 have h := sI h
 subst h
 exact eG [] (.inr rfl) (RetV.one rfl (oT (t := 2) (r := V.b y1)))

theorem mi_isItem_ok (a0 : Int) {r : Bool} (h : mi_isItem a0 = some r) :
    AC Tryz.prog (GS []) 110 [V.i a0] [] (V.b r) [] := by
 rw [mi_isItem] at h
 refine AC.enter Tryz.func110 rfl ?_
 refine cU 1 100 (tl 5 [(0, V.i a0)]) [] ?_
 refine bB h fun r2 hx2 h => ?_
 refine CO.cutR (tl 5 [(2, V.b r2)]) [] mix (by
  refine wR 1 100 ?_
  refine W.call0 (mi_within_ok a0 40 44 hx2) cok55 rfl (by kernel_rfl) ?_
  refine wR 1 100 ?_
  exact fI
  ) ?_
 refine CO.ret ?_
 have h := sI h
 subst h
 exact eG [] (.inr rfl) (RetV.one rfl (oT (t := 2) (r := V.b r2)))

theorem mi_kidOk_ok (a0 : SNode) (a1 : Int) (a2 : Int) {r : Bool} (h : mi_kidOk a0 a1 a2 = some r) :
    AC Tryz.prog (GS []) 77 [.agg [V.i a0.Kind, V.i a0.Op, V.s a0.Text, V.s a0.Other, .sl false false (a0.Kids.map encI)], V.i a1, V.i a2] [] (V.b r) [] := by
 rw [mi_kidOk] at h
 refine AC.enter Tryz.func77 rfl ?_
 refine cU 2 100 (tl 99 [(1, V.i a1), (2, V.i a2), (3, .loc 100 0)]) [(100, .cells 48 [V.i a0.Kind, V.i a0.Op, V.s a0.Text, V.s a0.Other, .sl false false (a0.Kids.map encI)])] ?_
 refine CO.cutR (tl 99 [(1, V.i a1), (2, V.i a2), (3, .loc 100 0), (7, V.b (a1 == (IntKind.wrap .i64 ((a0.Kids.length : Int) - 1))))]) [(100, .cells 48 [V.i a0.Kind, V.i a0.Op, V.s a0.Text, V.s a0.Other, .sl false false (a0.Kids.map encI)])] mix (by
  refine wR 3 101 ?_
  refine W.len Dk encI a0.Kids [] (by kernel_rfl) (by kernel_rfl) ?_
  refine wR 3 101 ?_
  exact fI
  ) ?_
 refine cU 1 101 (tl 99 [(1, V.i a1), (2, V.i a2), (3, .loc 100 0), (7, V.b (a1 == (IntKind.wrap .i64 ((a0.Kids.length : Int) - 1)))), (8, V.b false)]) [(100, .cells 48 [V.i a0.Kind, V.i a0.Op, V.s a0.Text, V.s a0.Other, .sl false false (a0.Kids.map encI)])] ?_
 refine CO.join (fun (⟨a2, y22⟩ : (Int × Bool)) => ⟨tl 99 [(2, V.i a2), (8, V.b y22)], []⟩) (fun i => mi_kidOk_k1 i = some r) ?_ ?_
 · rintro ⟨a2, y22⟩ h66
   rw [mi_kidOk_k1] at h66
   refine CO.seq' ?_
   refine cU 1 101 (tl 99 [(2, V.i a2), (94, V.b y22)]) [] ?_
   refine bC h66 (fun hc68 h66 => ?_) (fun hc68 h66 => ?_)
   ·refine iT hc68 ?_
    refine cU 3 101 (tl 99 [(6, V.b (a2 == 33))]) [] ?_
    refine CO.ret ?_
    have h66 := sI h66
    subst h66
    exact eG [] (.inr rfl) (RetV.one rfl (oT (t := 6) (r := V.b (a2 == 33))))
   refine iF hc68 ?_
   refine CO.skip ?_
   refine bB h66 fun r24 hx70 h66 => ?_
   refine CO.cutR (tl 99 [(6, V.b r24)]) [] mix (by
    refine wR 1 101 ?_
    refine W.call0 (mi_IsExpr_ok a2 hx70) cok46 rfl (by kernel_rfl) ?_
    refine wR 1 101 ?_
    exact fI
    ) ?_
   refine CO.ret ?_
   have h66 := sI h66
   subst h66
   exact eG [] (.inr rfl) (RetV.one rfl (oT (t := 6) (r := V.b r24)))
 intro hk71
 refine cU 2 101 (tl 99 [(1, V.i a1), (2, V.i a2), (3, .loc 100 0), (7, V.b (a1 == (IntKind.wrap .i64 ((a0.Kids.length : Int) - 1)))), (8, V.b false), (16, V.i a0.Kind)]) [(100, .cells 48 [V.i a0.Kind, V.i a0.Op, V.s a0.Text, V.s a0.Other, .sl false false (a0.Kids.map encI)])] ?_
 refine CO.block' ?_
 refine CO.join (fun (⟨a1, a2, a0, y25⟩ : (Int × Int × SNode × Bool)) => ⟨tl 99 [(1, V.i a1), (2, V.i a2), (3, .loc 100 0), (7, V.b (a1 == (IntKind.wrap .i64 ((a0.Kids.length : Int) - 1)))), (8, V.b false), (16, V.i a0.Kind), (17, V.b y25)], [(100, .cells 48 [V.i a0.Kind, V.i a0.Op, V.s a0.Text, V.s a0.Other, .sl false false (a0.Kids.map encI)])]⟩) (fun i => mi_kidOk_k2 i = some r) ?_ ?_
 · rintro ⟨a1, a2, a0, y25⟩ h73
   rw [mi_kidOk_k2] at h73
   refine bC h73 (fun hc74 h73 => ?_) (fun hc74 h73 => ?_)
   ·refine iT hc74 ?_
    refine bB h73 fun r27 hx76 h73 => ?_
    refine CO.cutR (tl 99 [(6, V.b r27)]) [] mix (by
     refine wR 1 101 ?_
     refine W.call0 (mi_IsLvalue_ok a2 hx76) cok109 rfl (by kernel_rfl) ?_
     refine wR 1 101 ?_
     exact fI
     ) ?_
    refine CO.ret ?_
    have h73 := sI h73
    subst h73
    exact eG [] (.inr rfl) (RetV.one rfl (oT (t := 6) (r := V.b r27)))
   refine iF hc74 ?_
   refine cU 2 101 (tl 99 [(1, V.i a1), (2, V.i a2), (3, .loc 100 0), (7, V.b (a1 == (IntKind.wrap .i64 ((a0.Kids.length : Int) - 1)))), (8, V.b false), (16, V.i a0.Kind), (22, V.b (a0.Kind == 15))]) [(100, .cells 48 [V.i a0.Kind, V.i a0.Op, V.s a0.Text, V.s a0.Other, .sl false false (a0.Kids.map encI)])] ?_
   refine bC h73 (fun hc77 h73 => ?_) (fun hc77 h73 => ?_)
   ·refine iT hc77 ?_
    refine bB h73 fun y31 hv85 h73 => ?_
    refine CO.cutR (tl 99 [(6, V.b y31)]) [] mix (by
     refine wR 3 101 ?_
     refine bC hv85 (fun hc86 hv85 => ?_) (fun hc86 hv85 => ?_)
     ·refine wI 26 hc86 ?_
      refine wR 1 101 ?_
      refine bB hv85 fun r32 hx87 hv85 => ?_
      refine W.call0 (mi_IsLvalue_ok a2 hx87) cok109 rfl (by kernel_rfl) ?_
      refine wR 2 101 ?_
      refine bC hv85 (fun hc88 hv85 => ?_) (fun hc88 hv85 => ?_)
      ·refine wI 30 hc88 ?_
       refine wR 8 101 ?_
       have hv85 := sI hv85
       subst hv85
       exact fS [] [6]
      refine wI 30 hc88 ?_
      refine wR 3 101 ?_
      refine bC hv85 (fun hc89 hv85 => ?_) (fun hc89 hv85 => ?_)
      ·refine wI 33 hc89 ?_
       refine wR 1 101 ?_
       refine bB hv85 fun r33 hx90 hv85 => ?_
       refine W.call0 (mi_IsExpr_ok a2 hx90) cok46 rfl (by kernel_rfl) ?_
       refine wR 3 101 ?_
       have hv85 := sI hv85
       subst hv85
       exact fS [] [6]
      refine wI 33 hc89 ?_
      refine wR 5 101 ?_
      have hv85 := sI hv85
      subst hv85
      exact fS [] [6]
     refine wI 26 hc86 ?_
     refine wR 7 101 ?_
     refine bC hv85 (fun hc91 hv85 => ?_) (fun hc91 hv85 => ?_)
     ·refine wI 33 hc91 ?_
      refine wR 1 101 ?_
      refine bB hv85 fun r34 hx92 hv85 => ?_
      refine W.call0 (mi_IsExpr_ok a2 hx92) cok46 rfl (by kernel_rfl) ?_
      refine wR 3 101 ?_
      have hv85 := sI hv85
      subst hv85
      exact fS [] [6]
     refine wI 33 hc91 ?_
     refine wR 5 101 ?_
     have hv85 := sI hv85
     subst hv85
     exact fS [] [6]
     ) ?_
    refine CO.ret ?_
    have h73 := sI h73
    subst h73
    exact eG [] (.inr rfl) (RetV.one rfl (oT (t := 6) (r := V.b y31)))
   refine iF hc77 ?_
   refine CO.join (fun (⟨a1, a2, a0, y35⟩ : (Int × Int × SNode × Bool)) => ⟨tl 99 [(1, V.i a1), (2, V.i a2), (3, .loc 100 0), (7, V.b (a1 == (IntKind.wrap .i64 ((a0.Kids.length : Int) - 1)))), (8, V.b false), (16, V.i a0.Kind), (38, V.b y35)], [(100, .cells 48 [V.i a0.Kind, V.i a0.Op, V.s a0.Text, V.s a0.Other, .sl false false (a0.Kids.map encI)])]⟩) (fun i => mi_kidOk_k3 i = some r) ?_ ?_
   · rintro ⟨a1, a2, a0, y35⟩ h94
     rw [mi_kidOk_k3] at h94
     refine bC h94 (fun hc95 h94 => ?_) (fun hc95 h94 => ?_)
     ·refine iT hc95 ?_
      refine cE 3 101 (tl 99 [(2, V.i a2), (8, V.b (decide (a1 > 0)))]) [] (fun st hw => ?_)
      exact hk71 (a2, (decide (a1 > 0))) h94 _ (hw.trans (wS [] [2, 8]))
     refine iF hc95 ?_
     refine cU 2 101 (tl 99 [(1, V.i a1), (2, V.i a2), (3, .loc 100 0), (7, V.b (a1 == (IntKind.wrap .i64 ((a0.Kids.length : Int) - 1)))), (8, V.b false), (16, V.i a0.Kind), (43, V.b (a0.Kind == 31))]) [(100, .cells 48 [V.i a0.Kind, V.i a0.Op, V.s a0.Text, V.s a0.Other, .sl false false (a0.Kids.map encI)])] ?_
     refine bC h94 (fun hc96 h94 => ?_) (fun hc96 h94 => ?_)
     ·refine iT hc96 ?_
      refine CO.seq' ?_
      refine bB h94 fun y37 hv102 h94 => ?_
      refine CO.cutR (tl 99 [(2, V.i a2), (7, V.b (a1 == (IntKind.wrap .i64 ((a0.Kids.length : Int) - 1)))), (50, V.b y37)]) [] mix (by
       refine wR 3 101 ?_
       refine bC hv102 (fun hc103 hv102 => ?_) (fun hc103 hv102 => ?_)
       ·refine wI 47 hc103 ?_
        refine wR 3 101 ?_
        have hv102 := sI hv102
        subst hv102
        exact fS [] [2, 7, 50]
       refine wI 47 hc103 ?_
       refine wR 3 101 ?_
       have hv102 := sI hv102
       subst hv102
       exact fS [] [2, 7, 50]
       ) ?_
      refine bC h94 (fun hc104 h94 => ?_) (fun hc104 h94 => ?_)
      ·refine iT hc104 ?_
       refine cU 1 101 (tl 99 [(6, V.b true)]) [] ?_
       refine CO.ret ?_
       have h94 := sI h94
       subst h94
       exact eG [] (.inr rfl) (RetV.one rfl (oT (t := 6) (r := V.b true)))
      refine iF hc104 ?_
      refine CO.skip ?_
      refine cE 2 101 (tl 99 [(2, V.i a2), (8, V.b (a1 == (IntKind.wrap .i64 ((a0.Kids.length : Int) - 1))))]) [] (fun st hw => ?_)
      exact hk71 (a2, (a1 == (IntKind.wrap .i64 ((a0.Kids.length : Int) - 1)))) h94 _ (hw.trans (wS [] [2, 8]))
     refine iF hc96 ?_
     refine cU 2 101 (tl 99 [(1, V.i a1), (2, V.i a2), (3, .loc 100 0), (7, V.b (a1 == (IntKind.wrap .i64 ((a0.Kids.length : Int) - 1)))), (8, V.b false), (16, V.i a0.Kind), (52, V.b (a0.Kind == 30))]) [(100, .cells 48 [V.i a0.Kind, V.i a0.Op, V.s a0.Text, V.s a0.Other, .sl false false (a0.Kids.map encI)])] ?_
     refine bC h94 (fun hc105 h94 => ?_) (fun hc105 h94 => ?_)
     ·refine iT hc105 ?_
      refine cE 3 101 (tl 99 [(2, V.i a2), (8, V.b (a1 == 0))]) [] (fun st hw => ?_)
      exact hk71 (a2, (a1 == 0)) h94 _ (hw.trans (wS [] [2, 8]))
     refine iF hc105 ?_
     refine CO.join (fun (⟨a2, a1, a0, y38⟩ : (Int × Int × SNode × Bool)) => ⟨tl 99 [(2, V.i a2), (3, .loc 100 0), (7, V.b (a1 == (IntKind.wrap .i64 ((a0.Kids.length : Int) - 1)))), (8, V.b false), (16, V.i a0.Kind), (56, V.b y38)], [(100, .cells 48 [V.i a0.Kind, V.i a0.Op, V.s a0.Text, V.s a0.Other, .sl false false (a0.Kids.map encI)])]⟩) (fun i => mi_kidOk_k4 i = some r) ?_ ?_
     · rintro ⟨a2, a1, a0, y38⟩ h108
       rw [mi_kidOk_k4] at h108
       refine bC h108 (fun hc109 h108 => ?_) (fun hc109 h108 => ?_)
       ·refine iT hc109 ?_
        refine cE 1 101 (tl 99 [(2, V.i a2), (8, V.b true)]) [] (fun st hw => ?_)
        exact hk71 (a2, true) h108 _ (hw.trans (wS [] [2, 8]))
       refine iF hc109 ?_
       refine cU 2 101 (tl 99 [(2, V.i a2), (3, .loc 100 0), (7, V.b (a1 == (IntKind.wrap .i64 ((a0.Kids.length : Int) - 1)))), (8, V.b false), (16, V.i a0.Kind), (60, V.b (a0.Kind == 33))]) [(100, .cells 48 [V.i a0.Kind, V.i a0.Op, V.s a0.Text, V.s a0.Other, .sl false false (a0.Kids.map encI)])] ?_
       refine bC h108 (fun hc110 h108 => ?_) (fun hc110 h108 => ?_)
       ·refine iT hc110 ?_
        refine bB h108 fun r40 hx112 h108 => ?_
        refine CO.cutR (tl 99 [(6, V.b r40)]) [] mix (by
         refine wR 1 101 ?_
         refine W.call0 (mi_IsStmt_ok a2 hx112) cok106 rfl (by kernel_rfl) ?_
         refine wR 1 101 ?_
         exact fI
         ) ?_
        refine CO.ret ?_
        have h108 := sI h108
        subst h108
        exact eG [] (.inr rfl) (RetV.one rfl (oT (t := 6) (r := V.b r40)))
       refine iF hc110 ?_
       refine cU 2 101 (tl 99 [(2, V.i a2), (3, .loc 100 0), (7, V.b (a1 == (IntKind.wrap .i64 ((a0.Kids.length : Int) - 1)))), (8, V.b false), (16, V.i a0.Kind), (64, V.b (a0.Kind == 42))]) [(100, .cells 48 [V.i a0.Kind, V.i a0.Op, V.s a0.Text, V.s a0.Other, .sl false false (a0.Kids.map encI)])] ?_
       refine bC h108 (fun hc113 h108 => ?_) (fun hc113 h108 => ?_)
       ·refine iT hc113 ?_
        refine bB h108 fun y41 hv115 h108 => ?_
        refine CO.endR (tl 99 [(2, V.i a2), (8, V.b y41)]) [] mix (by
         refine wR 2 101 ?_
         refine bC hv115 (fun hc116 hv115 => ?_) (fun hc116 hv115 => ?_)
         ·refine wI 67 hc116 ?_
          refine wR 5 101 ?_
          have hv115 := sI hv115
          subst hv115
          exact fS [] [2, 8]
         refine wI 67 hc116 ?_
         refine wR 5 101 ?_
         have hv115 := sI hv115
         subst hv115
         exact fS [] [2, 8]
         ) (fun st hw => ?_)
        exact hk71 (a2, y41) h108 _ (hw.trans (wS [] [2, 8]))
       refine iF hc113 ?_
       refine cU 2 101 (tl 99 [(2, V.i a2), (3, .loc 100 0), (7, V.b (a1 == (IntKind.wrap .i64 ((a0.Kids.length : Int) - 1)))), (8, V.b false), (16, V.i a0.Kind), (72, V.b (a0.Kind == 43))]) [(100, .cells 48 [V.i a0.Kind, V.i a0.Op, V.s a0.Text, V.s a0.Other, .sl false false (a0.Kids.map encI)])] ?_
       refine bC h108 (fun hc117 h108 => ?_) (fun hc117 h108 => ?_)
       ·refine iT hc117 ?_
        refine bB h108 fun y42 hv119 h108 => ?_
        refine CO.endR (tl 99 [(2, V.i a2), (8, V.b y42)]) [] mix (by
         refine wR 2 101 ?_
         refine bC hv119 (fun hc120 hv119 => ?_) (fun hc120 hv119 => ?_)
         ·refine wI 75 hc120 ?_
          refine wR 5 101 ?_
          have hv119 := sI hv119
          subst hv119
          exact fS [] [2, 8]
         refine wI 75 hc120 ?_
         refine wR 5 101 ?_
         have hv119 := sI hv119
         subst hv119
         exact fS [] [2, 8]
         ) (fun st hw => ?_)
        exact hk71 (a2, y42) h108 _ (hw.trans (wS [] [2, 8]))
       refine iF hc117 ?_
       refine cU 2 101 (tl 99 [(2, V.i a2), (7, V.b (a1 == (IntKind.wrap .i64 ((a0.Kids.length : Int) - 1)))), (8, V.b false), (16, V.i a0.Kind), (80, V.b (a0.Kind == 44))]) [] ?_
       refine bC h108 (fun hc121 h108 => ?_) (fun hc121 h108 => ?_)
       ·refine iT hc121 ?_
        refine CO.seq' ?_
        refine cU 2 101 (tl 99 [(2, V.i a2), (83, V.b (!(a1 == (IntKind.wrap .i64 ((a0.Kids.length : Int) - 1)))))]) [] ?_
        refine bC h108 (fun hc123 h108 => ?_) (fun hc123 h108 => ?_)
        ·refine iT hc123 ?_
         refine cU 3 101 (tl 99 [(6, V.b (a2 == 1))]) [] ?_
         refine CO.ret ?_
         have h108 := sI h108
         subst h108
         exact eG [] (.inr rfl) (RetV.one rfl (oT (t := 6) (r := V.b (a2 == 1))))
        refine iF hc123 ?_
        refine CO.skip ?_
        refine cE 1 101 (tl 99 [(2, V.i a2), (8, V.b true)]) [] (fun st hw => ?_)
        exact hk71 (a2, true) h108 _ (hw.trans (wS [] [2, 8]))
       refine iF hc121 ?_
       refine cU 2 101 (tl 99 [(2, V.i a2), (8, V.b false), (86, V.b (a0.Kind == 45))]) [] ?_
       refine bC h108 (fun hc124 h108 => ?_) (fun hc124 h108 => ?_)
       ·refine iT hc124 ?_
        refine bB h108 fun y44 hv127 h108 => ?_
        refine CO.cutR (tl 99 [(6, V.b y44)]) [] mix (by
         refine wR 1 101 ?_
         refine bB hv127 fun r45 hx128 hv127 => ?_
         refine W.call0 (mi_isItem_ok a2 hx128) cok110 rfl (by kernel_rfl) ?_
         refine wR 1 101 ?_
         refine bC hv127 (fun hc129 hv127 => ?_) (fun hc129 hv127 => ?_)
         ·refine wI 90 hc129 ?_
          refine wR 4 101 ?_
          have hv127 := sI hv127
          subst hv127
          exact fS [] [6]
         refine wI 90 hc129 ?_
         refine wR 4 101 ?_
         have hv127 := sI hv127
         subst hv127
         exact fS [] [6]
         ) ?_
        refine CO.ret ?_
        have h108 := sI h108
        subst h108
        exact eG [] (.inr rfl) (RetV.one rfl (oT (t := 6) (r := V.b y44)))
       refine iF hc124 ?_
       refine CO.skip ?_
       exact hk71 (a2, false) h108 _ (wS [] [2, 8])
     intro hk130
     refine cU 2 101 (tl 99 [(2, V.i a2), (3, .loc 100 0), (7, V.b (a1 == (IntKind.wrap .i64 ((a0.Kids.length : Int) - 1)))), (8, V.b false), (16, V.i a0.Kind), (56, V.b (a0.Kind == 32))]) [(100, .cells 48 [V.i a0.Kind, V.i a0.Op, V.s a0.Text, V.s a0.Other, .sl false false (a0.Kids.map encI)])] ?_
     refine bC h94 (fun hc131 h94 => ?_) (fun hc131 h94 => ?_)
     ·refine iT hc131 ?_
      refine CO.skip ?_
      exact hk130 (a2, a1, a0, (a0.Kind == 32)) h94 _ (wS [(100, 100)] [2, 3, 7, 8, 16, 56])
     refine iF hc131 ?_
     refine cU 2 101 (tl 99 [(2, V.i a2), (3, .loc 100 0), (7, V.b (a1 == (IntKind.wrap .i64 ((a0.Kids.length : Int) - 1)))), (8, V.b false), (16, V.i a0.Kind), (56, V.b (a0.Kind == 40))]) [(100, .cells 48 [V.i a0.Kind, V.i a0.Op, V.s a0.Text, V.s a0.Other, .sl false false (a0.Kids.map encI)])] ?_
     refine bC h94 (fun hc132 h94 => ?_) (fun hc132 h94 => ?_)
     ·refine iT hc132 ?_
      refine CO.skip ?_
      exact hk130 (a2, a1, a0, (a0.Kind == 40)) h94 _ (wS [(100, 100)] [2, 3, 7, 8, 16, 56])
     refine iF hc132 ?_
     refine cE 2 101 (tl 99 [(2, V.i a2), (3, .loc 100 0), (7, V.b (a1 == (IntKind.wrap .i64 ((a0.Kids.length : Int) - 1)))), (8, V.b false), (16, V.i a0.Kind), (56, V.b (a0.Kind == 41))]) [(100, .cells 48 [V.i a0.Kind, V.i a0.Op, V.s a0.Text, V.s a0.Other, .sl false false (a0.Kids.map encI)])] (fun st hw => ?_)
     exact hk130 (a2, a1, a0, (a0.Kind == 41)) h94 _ (hw.trans (wS [(100, 100)] [2, 3, 7, 8, 16, 56]))
   intro hk133
   refine cU 2 101 (tl 99 [(1, V.i a1), (2, V.i a2), (3, .loc 100 0), (7, V.b (a1 == (IntKind.wrap .i64 ((a0.Kids.length : Int) - 1)))), (8, V.b false), (16, V.i a0.Kind), (38, V.b (a0.Kind == 28))]) [(100, .cells 48 [V.i a0.Kind, V.i a0.Op, V.s a0.Text, V.s a0.Other, .sl false false (a0.Kids.map encI)])] ?_
   refine bC h73 (fun hc134 h73 => ?_) (fun hc134 h73 => ?_)
   ·refine iT hc134 ?_
    refine CO.skip ?_
    exact hk133 (a1, a2, a0, (a0.Kind == 28)) h73 _ (wS [(100, 100)] [1, 2, 3, 7, 8, 16, 38])
   refine iF hc134 ?_
   refine cE 2 101 (tl 99 [(1, V.i a1), (2, V.i a2), (3, .loc 100 0), (7, V.b (a1 == (IntKind.wrap .i64 ((a0.Kids.length : Int) - 1)))), (8, V.b false), (16, V.i a0.Kind), (38, V.b (a0.Kind == 29))]) [(100, .cells 48 [V.i a0.Kind, V.i a0.Op, V.s a0.Text, V.s a0.Other, .sl false false (a0.Kids.map encI)])] (fun st hw => ?_)
   exact hk133 (a1, a2, a0, (a0.Kind == 29)) h73 _ (hw.trans (wS [(100, 100)] [1, 2, 3, 7, 8, 16, 38]))
 intro hk135
 refine cU 2 101 (tl 99 [(1, V.i a1), (2, V.i a2), (3, .loc 100 0), (7, V.b (a1 == (IntKind.wrap .i64 ((a0.Kids.length : Int) - 1)))), (8, V.b false), (16, V.i a0.Kind), (17, V.b (a0.Kind == 9))]) [(100, .cells 48 [V.i a0.Kind, V.i a0.Op, V.s a0.Text, V.s a0.Other, .sl false false (a0.Kids.map encI)])] ?_
 refine bC h (fun hc136 h => ?_) (fun hc136 h => ?_)
 ·refine iT hc136 ?_
  refine CO.skip ?_
  exact hk135 (a1, a2, a0, (a0.Kind == 9)) h _ (wS [(100, 100)] [1, 2, 3, 7, 8, 16, 17])
 refine iF hc136 ?_
 refine cE 2 101 (tl 99 [(1, V.i a1), (2, V.i a2), (3, .loc 100 0), (7, V.b (a1 == (IntKind.wrap .i64 ((a0.Kids.length : Int) - 1)))), (8, V.b false), (16, V.i a0.Kind), (17, V.b (a0.Kind == 10))]) [(100, .cells 48 [V.i a0.Kind, V.i a0.Op, V.s a0.Text, V.s a0.Other, .sl false false (a0.Kids.map encI)])] (fun st hw => ?_)
 exact hk135 (a1, a2, a0, (a0.Kind == 10)) h _ (hw.trans (wS [(100, 100)] [1, 2, 3, 7, 8, 16, 17]))

structure RecOk2 (R : Rec2) : Prop where
  mi_treeAt : ∀ (a0 : List SNode) (a1 : Int) (r : STree), R.mi_treeAt a0 a1 = some r → AC Tryz.prog (GS []) 48 [.sl false false (a0.map (eSN false)), V.i a1] [] (.agg [V.i r.kind, V.i r.op, V.s r.text, V.s r.other, .sl false false (r.kids.map eST)]) []

theorem mi_treeAt_F_ok (N : Nat) (R : Rec2) (HR : RecOk2 R) (a0 : List SNode) (a1 : Int) {r : STree} (h : mi_treeAt_F N R a0 a1 = some r) :
    AC Tryz.prog (GS []) 48 [.sl false false (a0.map (eSN false)), V.i a1] [] (.agg [V.i r.kind, V.i r.op, V.s r.text, V.s r.other, .sl false false (r.kids.map eST)]) [] := by
 rw [mi_treeAt_F] at h
 refine AC.enter Tryz.func48 rfl ?_
 refine cU 1 100 (tl 39 [(0, .sl false false (a0.map (eSN false))), (1, V.i a1), (4, .loc 100 0)]) [(100, .cells 68 [V.i 0, V.i 0, V.s [], V.s [], .c (.slice none 0 0)])] ?_
 refine bB h fun e2 hx2 h => ?_
 refine CO.cutR (tl 39 [(0, .sl false false (a0.map (eSN false))), (4, .loc 100 0), (5, .loc 101 0)]) [(101, .cells 48 [V.i e2.Kind, V.i e2.Op, V.s e2.Text, V.s e2.Other, .sl false false (e2.Kids.map encI)]), (100, .cells 68 [V.i 0, V.i 0, V.s [], V.s [], .c (.slice none 0 0)])] mix (by
  refine wR 2 101 ?_
  refine W.ixD Dk (eSN false) hx2 5 (by kernel_rfl) (by kernel_rfl) ?_
  refine wR 3 101 ?_
  exact fI
  ) ?_
 refine cU 11 102 (tl 39 [(0, .sl false false (a0.map (eSN false))), (4, .loc 100 0), (5, .loc 101 0), (6, .loc 102 0)]) [(102, .cells 68 [V.i e2.Kind, V.i e2.Op, V.s e2.Text, V.s e2.Other, .c (.slice none 0 0)]), (101, .cells 48 [V.i e2.Kind, V.i e2.Op, V.s e2.Text, V.s e2.Other, .sl false false (e2.Kids.map encI)]), (100, .cells 68 [V.i 0, V.i 0, V.s [], V.s [], .c (.slice none 0 0)])] ?_
 refine CO.seq' ?_
 refine CO.cutR (tl 39 [(0, .sl false false (a0.map (eSN false))), (4, .loc 100 0), (6, .loc 102 0), (23, .sl false false (e2.Kids.map encI)), (24, V.i (e2.Kids.length : Int)), (25, V.i 0)]) [(102, .cells 68 [V.i e2.Kind, V.i e2.Op, V.s e2.Text, V.s e2.Other, .c (.slice none 0 0)]), (100, .cells 68 [V.i 0, V.i 0, V.s [], V.s [], .c (.slice none 0 0)])] mix (by
  refine wR 2 103 ?_
  refine W.len Dk encI e2.Kids [] (by kernel_rfl) (by kernel_rfl) ?_
  refine wR 1 103 ?_
  exact fI
  ) ?_
 refine CO.block' ?_
 refine CO.loopJ (fun (⟨a0, e2, y63, y64⟩ : ((List SNode) × SNode × Int × (List STree))) => ⟨tl 39 [(0, .sl false false (a0.map (eSN false))), (4, .loc 100 0), (6, .loc 101 0), (23, .sl false false (e2.Kids.map encI)), (24, V.i (e2.Kids.length : Int)), (25, V.i y63)], [(100, .cells 68 [V.i 0, V.i 0, V.s [], V.s [], .c (.slice none 0 0)]), (101, .cells 68 [V.i e2.Kind, V.i e2.Op, V.s e2.Text, V.s e2.Other, .own 102]), (102, .vec false 68 5 (y64.map eST))]⟩) (fun n i => mi_treeAt_l1 N R n i = some r) (n0 := N) (i0 := (a0, e2, 0, [])) ((Weak.nilCell 102 4 103 68 5 (ety := 68) (cs := [V.i e2.Kind, V.i e2.Op, V.s e2.Text, V.s e2.Other, .c (.slice none 0 0)]) (by kernel_rfl) (by kernel_rfl) (by kernel_rfl)).trans (wS [(100, 100), (102, 101), (103, 102)] [0, 4, 6, 23, 24, 25])) h (fun i h => by simp [mi_treeAt_l1] at h) ?_
 rintro n1 ⟨a0, e2, y63, y64⟩ h83 ih84
 rw [mi_treeAt_l1] at h83
 refine cU 1 168 (tl 39 [(0, .sl false false (a0.map (eSN false))), (4, .loc 100 0), (6, .loc 101 0), (23, .sl false false (e2.Kids.map encI)), (24, V.i (e2.Kids.length : Int)), (25, V.i y63), (26, V.b (decide (y63 < (e2.Kids.length : Int))))]) [(100, .cells 68 [V.i 0, V.i 0, V.s [], V.s [], .c (.slice none 0 0)]), (101, .cells 68 [V.i e2.Kind, V.i e2.Op, V.s e2.Text, V.s e2.Other, .own 102]), (102, .vec false 68 5 (y64.map eST))] ?_
 refine CO.seq' ?_
 refine bC h83 (fun hc86 h83 => ?_) (fun hc86 h83 => ?_)
 ·refine iT hc86 ?_
  refine CO.skip ?_
  refine CO.seq' ?_
  refine CO.block' ?_
  refine bB h83 fun e86 hx94 h83 => ?_
  refine CO.cutR (tl 39 [(0, .sl false false (a0.map (eSN false))), (4, .loc 100 0), (6, .loc 101 0), (8, V.i e86), (23, .sl false false (e2.Kids.map encI)), (24, V.i (e2.Kids.length : Int)), (25, V.i y63)]) [(100, .cells 68 [V.i 0, V.i 0, V.s [], V.s [], .c (.slice none 0 0)]), (101, .cells 68 [V.i e2.Kind, V.i e2.Op, V.s e2.Text, V.s e2.Other, .own 102]), (102, .vec false 68 5 (y64.map eST))] mix (by
   refine W.ixD Dk encI hx94 1 (by kernel_rfl) (by kernel_rfl) ?_
   refine wR 2 168 ?_
   exact fI
   ) ?_
  refine bB h83 fun r89 hx97 h83 => ?_
  refine bB h83 fun x90 hx98 h83 => ?_
  refine CO.endR (tl 39 [(0, .sl false false (a0.map (eSN false))), (4, .loc 100 0), (6, .loc 101 0), (23, .sl false false (e2.Kids.map encI)), (24, V.i (e2.Kids.length : Int)), (25, V.i y63)]) [(101, .cells 68 [V.i e2.Kind, V.i e2.Op, V.s e2.Text, V.s e2.Other, .own 169]), (169, .vec false 68 5 (x90.map eST)), (100, .cells 68 [V.i 0, V.i 0, V.s [], V.s [], .c (.slice none 0 0)])] mix (by
   refine wR 4 168 ?_
   refine W.call0 (HR.mi_treeAt a0 e86 _ hx97) cok48 rfl (by kernel_rfl) ?_
   refine W.layop Dk (show LayOk _ [] from trivial) (by kernel_rfl) 168 { v := .own 168, R := [], new := [(168, .vec true 68 5 [[V.i r89.kind, V.i r89.op, V.s r89.text, V.s r89.other, .sl false false (r89.kids.map eST)]])], N := [168] } (by kernel_rfl) ?_
   refine W.vecEq 168 (nn := true) (e := 68) (k := 5) (rows := [[V.i r89.kind, V.i r89.op, V.s r89.text, V.s r89.other, .sl false false (r89.kids.map eST)]]) (rows' := [r89].map eST) (by kernel_rfl) (by simp only [List.map_cons, List.map_nil, encSTree_eq]) ?_
   refine W.appO Dk eST (a := 102) (c := 168) (el := 68) (sz := 5) 72 hx98 rfl 169 (by kernel_rfl) ?_
   refine wR 2 170 ?_
   exact fI
   ) (fun st hw => ?_)
  refine CO.weak hw ?_
  refine cE 2 170 (tl 39 [(0, .sl false false (a0.map (eSN false))), (4, .loc 100 0), (6, .loc 101 0), (23, .sl false false (e2.Kids.map encI)), (24, V.i (e2.Kids.length : Int)), (25, V.i (IntKind.wrap .i64 (y63 + 1)))]) [(101, .cells 68 [V.i e2.Kind, V.i e2.Op, V.s e2.Text, V.s e2.Other, .own 169]), (169, .vec false 68 5 (x90.map eST)), (100, .cells 68 [V.i 0, V.i 0, V.s [], V.s [], .c (.slice none 0 0)])] (fun st hw => ?_)
  exact ih84 (a0, e2, (IntKind.wrap .i64 (y63 + 1)), x90) h83 _ (hw.trans (wS [(100, 100), (101, 101), (169, 102)] [0, 4, 6, 23, 24, 25]))
 refine iF hc86 ?_
 refine CO.exit ?_
 refine cU 2 168 (tl 39 [(4, .loc 100 0)]) [(100, .cells 68 [V.i e2.Kind, V.i e2.Op, V.s e2.Text, V.s e2.Other, .own 102]), (102, .vec false 68 5 (y64.map eST))] ?_
 refine CO.lay (tl 39 [(4, .loc 100 0)]) [(100, .cells 68 [V.i e2.Kind, V.i e2.Op, V.s e2.Text, V.s e2.Other, .sl false false (y64.map eST)])] (LayOk.cons (j := 102) eST eST y64 (by kernel_rfl) (share_encSTree) (show LayOk _ [] from trivial)) (by kernel_rfl) (by kernel_rfl) (by kernel_rfl) ?_
 refine CO.ret ?_
 have h83 := sI h83
 subst h83
 exact eG [] (.inr rfl) (RetV.one rfl (OneR.cell Dk (r := .agg [V.i e2.Kind, V.i e2.Op, V.s e2.Text, V.s e2.Other, .sl false false (y64.map eST)]) (i := 100) (ety := 68) (cs := [V.i e2.Kind, V.i e2.Op, V.s e2.Text, V.s e2.Other, .sl false false (y64.map eST)]) (by kernel_rfl) (by kernel_rfl) (by kernel_rfl)))

theorem scc2_ok : ∀ N, RecOk2 (scc2 N)
  | 0 => ⟨fun _ _ _ h => (by cases h)⟩
  | N + 1 => ⟨fun a0 a1 _ h => mi_treeAt_F_ok N (scc2 N) (scc2_ok N) a0 a1 h⟩

theorem mi_treeAt_ok (N : Nat) (a0 : List SNode) (a1 : Int) {r : STree} (h : mi_treeAt N a0 a1 = some r) :
    AC Tryz.prog (GS []) 48 [.sl false false (a0.map (eSN false)), V.i a1] [] (.agg [V.i r.kind, V.i r.op, V.s r.text, V.s r.other, .sl false false (r.kids.map eST)]) [] :=
  (scc2_ok N).mi_treeAt a0 a1 r h

theorem mi_rootOf_ok (N : Nat) (a0 : List SNode) {r : STree} (h : mi_rootOf N a0 = some r) :
    AC Tryz.prog (GS []) 45 [.sl false false (a0.map (eSN false))] [] (.agg [V.i r.kind, V.i r.op, V.s r.text, V.s r.other, .sl false false (r.kids.map eST)]) [] := by
 rw [mi_rootOf] at h
 refine AC.enter Tryz.func45 rfl ?_
 refine cU 1 100 (tl 8 [(0, .sl false false (a0.map (eSN false))), (2, .loc 100 0)]) [(100, .cells 68 [V.i 0, V.i 0, V.s [], V.s [], .c (.slice none 0 0)])] ?_
 refine bB h fun r2 hx2 h => ?_
 refine CO.cutR (tl 8 [(2, .loc 100 0)]) [(100, .cells 68 [V.i r2.kind, V.i r2.op, V.s r2.text, V.s r2.other, .sl false false (r2.kids.map eST)])] mix (by
  refine wR 2 101 ?_
  refine W.len Dk (eSN false) a0 [] (by kernel_rfl) (by kernel_rfl) ?_
  refine wR 1 101 ?_
  refine W.call0 (mi_treeAt_ok N a0 (IntKind.wrap .i64 ((a0.length : Int) - 1)) hx2) cok48 rfl (by kernel_rfl) ?_
  refine wR 1 101 ?_
  exact fI
  ) ?_
 refine CO.ret ?_
 have h := sI h
 subst h
 exact eG [] (.inr rfl) (RetV.one rfl (OneR.cell Dk (r := .agg [V.i r2.kind, V.i r2.op, V.s r2.text, V.s r2.other, .sl false false (r2.kids.map eST)]) (i := 100) (ety := 68) (cs := [V.i r2.kind, V.i r2.op, V.s r2.text, V.s r2.other, .sl false false (r2.kids.map eST)]) (by kernel_rfl) (by kernel_rfl) (by kernel_rfl)))

structure RecOk3 (R : Rec3) : Prop where
  mi_tree__depth : ∀ (a0 : STree) (r : Int), R.mi_tree__depth a0 = some r → AC Tryz.prog (GS []) 78 [.agg [V.i a0.kind, V.i a0.op, V.s a0.text, V.s a0.other, .sl false false (a0.kids.map eST)]] [] (V.i r) []

theorem mi_tree__depth_F_ok (N : Nat) (R : Rec3) (HR : RecOk3 R) (a0 : STree) {r : Int} (h : mi_tree__depth_F N R a0 = some r) :
    AC Tryz.prog (GS []) 78 [.agg [V.i a0.kind, V.i a0.op, V.s a0.text, V.s a0.other, .sl false false (a0.kids.map eST)]] [] (V.i r) [] := by
 rw [mi_tree__depth_F] at h
 refine AC.enter Tryz.func78 rfl ?_
 refine cU 2 100 (tl 20 [(1, .loc 100 0)]) [(100, .cells 68 [V.i a0.kind, V.i a0.op, V.s a0.text, V.s a0.other, .sl false false (a0.kids.map eST)])] ?_
 refine cU 1 101 (tl 20 [(1, .loc 100 0), (3, V.i 0)]) [(100, .cells 68 [V.i a0.kind, V.i a0.op, V.s a0.text, V.s a0.other, .sl false false (a0.kids.map eST)])] ?_
 refine CO.seq' ?_
 refine CO.cutR (tl 20 [(3, V.i 0), (7, .sl false false (a0.kids.map eST)), (8, V.i (a0.kids.length : Int)), (9, V.i 0)]) [] mix (by
  refine wR 2 101 ?_
  refine W.len Dk eST a0.kids [] (by kernel_rfl) (by kernel_rfl) ?_
  refine wR 1 101 ?_
  exact fI
  ) ?_
 refine CO.block' ?_
 refine CO.loopJ (fun (⟨a0, y37, y38⟩ : (STree × Int × Int)) => ⟨tl 20 [(3, V.i y37), (7, .sl false false (a0.kids.map eST)), (8, V.i (a0.kids.length : Int)), (9, V.i y38)], []⟩) (fun n i => mi_tree__depth_l1 N R n i = some r) (n0 := N) (i0 := (a0, 0, 0)) (wS [] [3, 7, 8, 9]) h (fun i h => by simp [mi_tree__depth_l1] at h) ?_
 rintro n1 ⟨a0, y37, y38⟩ h53 ih54
 rw [mi_tree__depth_l1] at h53
 refine cU 1 163 (tl 20 [(3, V.i y37), (7, .sl false false (a0.kids.map eST)), (8, V.i (a0.kids.length : Int)), (9, V.i y38), (10, V.b (decide (y38 < (a0.kids.length : Int))))]) [] ?_
 refine CO.seq' ?_
 refine bC h53 (fun hc56 h53 => ?_) (fun hc56 h53 => ?_)
 ·refine iT hc56 ?_
  refine CO.skip ?_
  refine CO.seq' ?_
  refine CO.block' ?_
  refine bB h53 fun e54 hx62 h53 => ?_
  refine CO.cutR (tl 20 [(3, V.i y37), (5, .loc 163 0), (7, .sl false false (a0.kids.map eST)), (8, V.i (a0.kids.length : Int)), (9, V.i y38)]) [(163, .cells 68 [V.i e54.kind, V.i e54.op, V.s e54.text, V.s e54.other, .sl false false (e54.kids.map eST)])] mix (by
   refine W.ixDr Dk eST hx62 5 (by kernel_rfl) (encSTree_eq e54) (by kernel_rfl) ?_
   refine wR 3 163 ?_
   exact fI
   ) ?_
  refine bB h53 fun r56 hx64 h53 => ?_
  refine CO.endR (tl 20 [(3, V.i (if r56 > y37 then r56 else y37)), (7, .sl false false (a0.kids.map eST)), (8, V.i (a0.kids.length : Int)), (9, V.i y38)]) [] mix (by
   refine wR 2 164 ?_
   refine W.call0 (HR.mi_tree__depth e54 _ hx64) cok78 rfl (by kernel_rfl) ?_
   refine wR 2 164 ?_
   exact fI
   ) (fun st hw => ?_)
  refine CO.weak hw ?_
  refine cE 2 164 (tl 20 [(3, V.i (if r56 > y37 then r56 else y37)), (7, .sl false false (a0.kids.map eST)), (8, V.i (a0.kids.length : Int)), (9, V.i (IntKind.wrap .i64 (y38 + 1)))]) [] (fun st hw => ?_)
  exact ih54 (a0, (if r56 > y37 then r56 else y37), (IntKind.wrap .i64 (y38 + 1))) h53 _ (hw.trans (wS [] [3, 7, 8, 9]))
 refine iF hc56 ?_
 refine CO.exit ?_
 refine cU 3 163 (tl 20 [(2, V.i (IntKind.wrap .i64 (y37 + 1)))]) [] ?_
 refine CO.ret ?_
 have h53 := sI h53
 subst h53
 exact eG [] (.inr rfl) (RetV.one rfl (oT (t := 2) (r := V.i (IntKind.wrap .i64 (y37 + 1)))))

theorem scc3_ok : ∀ N, RecOk3 (scc3 N)
  | 0 => ⟨fun _ _ h => (by cases h)⟩
  | N + 1 => ⟨fun a0 _ h => mi_tree__depth_F_ok N (scc3 N) (scc3_ok N) a0 h⟩

theorem mi_tree__depth_ok (N : Nat) (a0 : STree) {r : Int} (h : mi_tree__depth N a0 = some r) :
    AC Tryz.prog (GS []) 78 [.agg [V.i a0.kind, V.i a0.op, V.s a0.text, V.s a0.other, .sl false false (a0.kids.map eST)]] [] (V.i r) [] :=
  (scc3_ok N).mi_tree__depth a0 r h

theorem mi_TreeOk_ok (N : Nat) (a0 : List SNode) {r : Bool} (h : mi_TreeOk N a0 = some r) :
    AC Tryz.prog (GS [0, 1, 2]) 36 [.sl false false (a0.map (eSN false))] [] (V.b r) [] := by
 rw [mi_TreeOk] at h
 refine AC.enter Tryz.func36 rfl ?_
 refine cU 1 100 (tl 42 [(0, .sl false false (a0.map (eSN false)))]) [] ?_
 refine CO.seq' ?_
 refine bB h fun r4 hx5 h => ?_
 refine CO.cutR (tl 42 [(0, .sl false false (a0.map (eSN false))), (9, V.b (!r4))]) [] mix (by
  refine wR 1 100 ?_
  refine W.call0 (AC.gs (mi_ShapeOk_ok N a0 hx5) (by decide)) cok75 rfl (by kernel_rfl) ?_
  refine wR 1 100 ?_
  exact fI
  ) ?_
 refine bC h (fun hc6 h => ?_) (fun hc6 h => ?_)
 ·refine iT hc6 ?_
  refine cU 1 100 (tl 42 [(2, V.b false)]) [] ?_
  refine CO.ret ?_
  have h := sI h
  subst h
  exact eG [] (.inr rfl) (RetV.one rfl (oT (t := 2) (r := V.b false)))
 refine iF hc6 ?_
 refine CO.skip ?_
 refine CO.seq' ?_
 refine CO.cutR (tl 42 [(0, .sl false false (a0.map (eSN false))), (10, .sl false false (a0.map (eSN false))), (11, V.i (a0.length : Int)), (12, V.i 0)]) [] mix (by
  refine wR 1 100 ?_
  refine W.len Dk (eSN false) a0 [] (by kernel_rfl) (by kernel_rfl) ?_
  refine wR 1 100 ?_
  exact fI
  ) ?_
 refine CO.block' ?_
 refine CO.loopJ (fun (⟨a0, y359⟩ : ((List SNode) × Int)) => ⟨tl 42 [(0, .sl false false (a0.map (eSN false))), (10, .sl false false (a0.map (eSN false))), (11, V.i (a0.length : Int)), (12, V.i y359)], []⟩) (fun n i => mi_TreeOk_l1 N n i = some r) (n0 := N) (i0 := (a0, 0)) (wS [] [0, 10, 11, 12]) h (fun i h => by simp [mi_TreeOk_l1] at h) ?_
 rintro n1 ⟨a0, y359⟩ h599 ih600
 rw [mi_TreeOk_l1] at h599
 refine cU 1 282 (tl 42 [(0, .sl false false (a0.map (eSN false))), (10, .sl false false (a0.map (eSN false))), (11, V.i (a0.length : Int)), (12, V.i y359), (13, V.b (decide (y359 < (a0.length : Int))))]) [] ?_
 refine CO.seq' ?_
 refine bC h599 (fun hc602 h599 => ?_) (fun hc602 h599 => ?_)
 ·refine iT hc602 ?_
  refine CO.skip ?_
  refine CO.seq' ?_
  refine CO.block' ?_
  refine bB h599 fun e494 hx662 h599 => ?_
  refine CO.cutR (tl 42 [(0, .sl false false (a0.map (eSN false))), (4, .loc 282 0), (10, .sl false false (a0.map (eSN false))), (11, V.i (a0.length : Int)), (12, V.i y359)]) [(282, .cells 48 [V.i e494.Kind, V.i e494.Op, V.s e494.Text, V.s e494.Other, .sl false false (e494.Kids.map encI)])] mix (by
   refine W.ixD Dk (eSN false) hx662 5 (by kernel_rfl) (by kernel_rfl) ?_
   refine wR 3 282 ?_
   exact fI
   ) ?_
  refine CO.seq' ?_
  refine bB h599 fun r498 hx667 h599 => ?_
  refine CO.cutR (tl 42 [(0, .sl false false (a0.map (eSN false))), (4, .loc 282 0), (10, .sl false false (a0.map (eSN false))), (11, V.i (a0.length : Int)), (12, V.i y359), (18, V.b (!r498))]) [(282, .cells 48 [V.i e494.Kind, V.i e494.Op, V.s e494.Text, V.s e494.Other, .sl false false (e494.Kids.map encI)])] mix (by
   refine wR 1 283 ?_
   refine W.call0 (mi_FieldsOk_ok N e494 hx667) cok76 rfl (by kernel_rfl) ?_
   refine wR 1 283 ?_
   exact fI
   ) ?_
  refine bC h599 (fun hc668 h599 => ?_) (fun hc668 h599 => ?_)
  ·refine iT hc668 ?_
   refine cU 1 283 (tl 42 [(2, V.b false)]) [] ?_
   refine CO.ret ?_
   have h599 := sI h599
   subst h599
   exact eG [] (.inr rfl) (RetV.one rfl (oT (t := 2) (r := V.b false)))
  refine iF hc668 ?_
  refine CO.skip ?_
  refine CO.cutR (tl 42 [(0, .sl false false (a0.map (eSN false))), (4, .loc 282 0), (10, .sl false false (a0.map (eSN false))), (11, V.i (a0.length : Int)), (12, V.i y359), (20, .sl false false (e494.Kids.map encI)), (21, V.i (e494.Kids.length : Int)), (22, V.i 0)]) [(282, .cells 48 [V.i e494.Kind, V.i e494.Op, V.s e494.Text, V.s e494.Other, .sl false false (e494.Kids.map encI)])] mix (by
   refine wR 2 283 ?_
   refine W.len Dk encI e494.Kids [] (by kernel_rfl) (by kernel_rfl) ?_
   refine wR 1 283 ?_
   exact fI
   ) ?_
  refine CO.block' ?_
  refine CO.loopJ (fun (⟨a0, y359, e494, y511⟩ : ((List SNode) × Int × SNode × Int)) => ⟨tl 42 [(0, .sl false false (a0.map (eSN false))), (4, .loc 100 0), (10, .sl false false (a0.map (eSN false))), (11, V.i (a0.length : Int)), (12, V.i y359), (20, .sl false false (e494.Kids.map encI)), (21, V.i (e494.Kids.length : Int)), (22, V.i y511)], [(100, .cells 48 [V.i e494.Kind, V.i e494.Op, V.s e494.Text, V.s e494.Other, .sl false false (e494.Kids.map encI)])]⟩) (fun n i => mi_TreeOk_l2 N (mi_TreeOk_l1 N n1) n i = some r) (n0 := N) (i0 := (a0, y359, e494, 0)) (wS [(282, 100)] [0, 4, 10, 11, 12, 20, 21, 22]) h599 (fun i h => by simp [mi_TreeOk_l2] at h) ?_
  rintro n2 ⟨a0, y359, e494, y511⟩ h701 ih702
  rw [mi_TreeOk_l2] at h701
  refine cU 1 343 (tl 42 [(0, .sl false false (a0.map (eSN false))), (4, .loc 100 0), (10, .sl false false (a0.map (eSN false))), (11, V.i (a0.length : Int)), (12, V.i y359), (20, .sl false false (e494.Kids.map encI)), (21, V.i (e494.Kids.length : Int)), (22, V.i y511), (23, V.b (decide (y511 < (e494.Kids.length : Int))))]) [(100, .cells 48 [V.i e494.Kind, V.i e494.Op, V.s e494.Text, V.s e494.Other, .sl false false (e494.Kids.map encI)])] ?_
  refine CO.seq' ?_
  refine bC h701 (fun hc704 h701 => ?_) (fun hc704 h701 => ?_)
  ·refine iT hc704 ?_
   refine CO.skip ?_
   refine CO.seq' ?_
   refine CO.block' ?_
   refine bB h701 fun e532 hx713 h701 => ?_
   refine CO.cutR (tl 42 [(0, .sl false false (a0.map (eSN false))), (4, .loc 100 0), (5, V.i y511), (6, V.i e532), (10, .sl false false (a0.map (eSN false))), (11, V.i (a0.length : Int)), (12, V.i y359), (20, .sl false false (e494.Kids.map encI)), (21, V.i (e494.Kids.length : Int)), (22, V.i y511)]) [(100, .cells 48 [V.i e494.Kind, V.i e494.Op, V.s e494.Text, V.s e494.Other, .sl false false (e494.Kids.map encI)])] mix (by
    refine wR 1 343 ?_
    refine W.ixD Dk encI hx713 1 (by kernel_rfl) (by kernel_rfl) ?_
    refine wR 3 343 ?_
    exact fI
    ) ?_
   refine bB h701 fun e535 hx716 h701 => ?_
   refine bB h701 fun r536 hx717 h701 => ?_
   refine CO.cutR (tl 42 [(0, .sl false false (a0.map (eSN false))), (4, .loc 100 0), (10, .sl false false (a0.map (eSN false))), (11, V.i (a0.length : Int)), (12, V.i y359), (20, .sl false false (e494.Kids.map encI)), (21, V.i (e494.Kids.length : Int)), (22, V.i y511), (35, V.b (!r536))]) [(100, .cells 48 [V.i e494.Kind, V.i e494.Op, V.s e494.Text, V.s e494.Other, .sl false false (e494.Kids.map encI)])] mix (by
    refine wR 4 343 ?_
    refine W.ixD Dk (eSN false) hx716 5 (by kernel_rfl) (by kernel_rfl) ?_
    refine wR 2 343 ?_
    refine W.call0 (AC.gs (mi_kidOk_ok e494 y511 e535.Kind hx717) (by decide)) cok77 rfl (by kernel_rfl) ?_
    refine wR 1 343 ?_
    exact fI
    ) ?_
   refine bC h701 (fun hc718 h701 => ?_) (fun hc718 h701 => ?_)
   ·refine iT hc718 ?_
    refine cU 1 343 (tl 42 [(2, V.b false)]) [] ?_
    refine CO.ret ?_
    have h701 := sI h701
    subst h701
    exact eG [] (.inr rfl) (RetV.one rfl (oT (t := 2) (r := V.b false)))
   refine iF hc718 ?_
   refine CO.skip ?_
   refine cE 2 343 (tl 42 [(0, .sl false false (a0.map (eSN false))), (4, .loc 100 0), (10, .sl false false (a0.map (eSN false))), (11, V.i (a0.length : Int)), (12, V.i y359), (20, .sl false false (e494.Kids.map encI)), (21, V.i (e494.Kids.length : Int)), (22, V.i (IntKind.wrap .i64 (y511 + 1)))]) [(100, .cells 48 [V.i e494.Kind, V.i e494.Op, V.s e494.Text, V.s e494.Other, .sl false false (e494.Kids.map encI)])] (fun st hw => ?_)
   exact ih702 (a0, y359, e494, (IntKind.wrap .i64 (y511 + 1))) h701 _ (hw.trans (wS [(100, 100)] [0, 4, 10, 11, 12, 20, 21, 22]))
  refine iF hc704 ?_
  refine CO.exit ?_
  refine cE 2 343 (tl 42 [(0, .sl false false (a0.map (eSN false))), (10, .sl false false (a0.map (eSN false))), (11, V.i (a0.length : Int)), (12, V.i (IntKind.wrap .i64 (y359 + 1)))]) [] (fun st hw => ?_)
  exact ih600 (a0, (IntKind.wrap .i64 (y359 + 1))) h701 _ (hw.trans (wS [] [0, 10, 11, 12]))
 refine iF hc602 ?_
 refine CO.exit ?_
 refine bB h599 fun r539 hx721 h599 => ?_
 refine bB h599 fun r540 hx722 h599 => ?_
 refine CO.cutR (tl 42 [(2, V.b (decide (r540 ≤ 40)))]) [] mix (by
  refine wR 1 282 ?_
  refine W.call0 (AC.gs (mi_rootOf_ok N a0 hx721) (by decide)) cok45 rfl (by kernel_rfl) ?_
  refine W.call0 (AC.gs (mi_tree__depth_ok N r539 hx722) (by decide)) cok78 rfl (by kernel_rfl) ?_
  refine wR 2 282 ?_
  exact fI
  ) ?_
 refine CO.ret ?_
 have h599 := sI h599
 subst h599
 exact eG [] (.inr rfl) (RetV.one rfl (oT (t := 2) (r := V.b (decide (r540 ≤ 40)))))

theorem m_slices_Clone_int_nil : AC Tryz.prog (GS []) 92 [.c (.slice none 0 0)] [] (.own 100) [(100, .vec false 3 1 (([] : List Int).map encI))] := by
  refine AC.enter Tryz.func92 rfl ?_
  refine CO.cutR (tl 8 [(0, .c (.slice none 0 0))]) [] mix (by
      refine wR 1 100 ?_
      exact W.fin (by decide) (by kernel_rfl) (wS [] [0])
      ) ?_
  refine CO.seq' ?_
  refine CO.cutR (tl 8 [(0, .c (.slice none 0 0)), (4, V.b true)]) [] mix (by
      refine wR 1 100 ?_
      refine W.nilEq Dk true (by kernel_rfl) ?_
      exact W.fin (by decide) (by kernel_rfl) (wS [] [0, 4])
      ) ?_
  refine CO.ifT (c := true) rfl (by kernel_rfl) ?_
  refine CO.cutR (tl 8 [(2, .c (.slice none 0 0))]) [] mix (by
      refine wR 1 100 ?_
      exact W.fin (by decide) (by kernel_rfl) (wS [] [2])
      ) ?_
  refine CO.weak (Weak.nil 2 101 3 1 (by kernel_rfl) (by kernel_rfl)) ?_
  refine CO.ret ?_
  exact eG [(101, 100)] (.inr rfl) (RetV.one rfl (oT (t := 2) (r := .own 101)))

theorem m_slices_Clone_int_nn (a0 : List Int) {r : (List Int)} (hx2 : app 8 [] a0 = some r) :
    AC Tryz.prog (GS []) 92 [.sl true false (a0.map encI)] [] (.own 100) [(100, .vec false 3 1 (r.map encI))] := by
  refine AC.enter Tryz.func92 rfl ?_
  refine CO.cutR (tl 8 [(0, .sl true false (a0.map encI))]) [] mix (by
      refine wR 1 100 ?_
      exact W.fin (by decide) (by kernel_rfl) (wS [] [0])
      ) ?_
  refine CO.seq' ?_
  refine CO.cutR (tl 8 [(0, .sl true false (a0.map encI)), (4, V.b false)]) [] mix (by
      refine wR 1 100 ?_
      refine W.nilEq Dk false (by kernel_rfl) ?_
      exact W.fin (by decide) (by kernel_rfl) (wS [] [0, 4])
      ) ?_
  refine CO.ifF (c := false) rfl (by kernel_rfl) ?_
  refine CO.skip ?_
  refine CO.weak (st' := ⟨tl 8 [(0, .sl true false (a0.map encI)), (4, V.b false)], []⟩) (Weak.refl _) ?_
  refine CO.cutR (tl 8 [(2, .own 101)]) [(101, .vec false 3 1 (r.map encI))] mix (by
      refine wR 2 100 ?_
      refine W.appD Dk encI (a := 100) (el := 3) 8 hx2 rfl 101 1 (fun _ => by first | rfl | kernel_rfl) (by kernel_rfl) ?_
      refine wR 1 102 ?_
      exact W.fin (by decide) (by kernel_rfl) (wS [(101, 101)] [2])
      ) ?_
  refine CO.ret ?_
  exact eG [(101, 100)] (.inr rfl) (RetV.one rfl (oT (t := 2) (r := .own 101)))

theorem m_slices_Clone_int_ok (a0 : List Int) {r : (List Int)} (h : m_slices_Clone_int a0 = some r) :
    AC Tryz.prog (GS []) 92 [.sl false false (a0.map encI)] [] (.own 100) [(100, .vec false 3 1 (r.map encI))] := by
  rw [m_slices_Clone_int] at h
  obtain ⟨x2, h2, h⟩ := bind_some h
  have h := sI h
  subst h
  refine AC.slCase (fun h0 => ?_) (m_slices_Clone_int_nn a0 h2)
  have ha : a0 = [] := by simpa using h0
  subst ha
  have hr : x2 = [] := by
    rw [app_some (by simp)] at h2
    simpa using h2.symm
  subst hr
  exact m_slices_Clone_int_nil

theorem mi_copyNodes_ok (N : Nat) (a0 : List SNode) {r : (List SNode)} (h : mi_copyNodes N a0 = some r) :
    AC Tryz.prog (GS []) 56 [.sl false false (a0.map (eSN false))] [] (.own 100) [(100, .vec false 48 5 (r.map (eSN true)))] := by
 rw [mi_copyNodes] at h
 refine AC.enter Tryz.func56 rfl ?_
 refine cU 1 100 (tl 23 [(0, .sl false false (a0.map (eSN false)))]) [] ?_
 refine cU 2 100 (tl 23 [(0, .sl false false (a0.map (eSN false))), (3, .own 100)]) [(100, .vec false 48 5 ([].map (eSN true)))] ?_
 refine CO.seq' ?_
 refine CO.cutR (tl 23 [(3, .own 100), (7, .sl false false (a0.map (eSN false))), (8, V.i (a0.length : Int)), (9, V.i 0)]) [(100, .vec false 48 5 ([].map (eSN true)))] mix (by
  refine wR 1 101 ?_
  refine W.len Dk (eSN false) a0 [] (by kernel_rfl) (by kernel_rfl) ?_
  refine wR 1 101 ?_
  exact fI
  ) ?_
 refine CO.block' ?_
 refine CO.loopJ (fun (⟨a0, y53, y54⟩ : ((List SNode) × Int × (List SNode))) => ⟨tl 23 [(3, .own 100), (7, .sl false false (a0.map (eSN false))), (8, V.i (a0.length : Int)), (9, V.i y53)], [(100, .vec false 48 5 (y54.map (eSN true)))]⟩) (fun n i => mi_copyNodes_l1 N n i = some r) (n0 := N) (i0 := (a0, 0, [])) (wS [(100, 100)] [3, 7, 8, 9]) h (fun i h => by simp [mi_copyNodes_l1] at h) ?_
 rintro n1 ⟨a0, y53, y54⟩ h73 ih74
 rw [mi_copyNodes_l1] at h73
 refine cU 1 169 (tl 23 [(3, .own 100), (7, .sl false false (a0.map (eSN false))), (8, V.i (a0.length : Int)), (9, V.i y53), (10, V.b (decide (y53 < (a0.length : Int))))]) [(100, .vec false 48 5 (y54.map (eSN true)))] ?_
 refine CO.seq' ?_
 refine bC h73 (fun hc76 h73 => ?_) (fun hc76 h73 => ?_)
 ·refine iT hc76 ?_
  refine CO.skip ?_
  refine CO.seq' ?_
  refine CO.block' ?_
  refine bB h73 fun e76 hx84 h73 => ?_
  refine CO.cutR (tl 23 [(3, .own 100), (5, .loc 169 0), (7, .sl false false (a0.map (eSN false))), (8, V.i (a0.length : Int)), (9, V.i y53)]) [(169, .cells 48 [V.i e76.Kind, V.i e76.Op, V.s e76.Text, V.s e76.Other, .sl false false (e76.Kids.map encI)]), (100, .vec false 48 5 (y54.map (eSN true)))] mix (by
   refine W.ixD Dk (eSN false) hx84 5 (by kernel_rfl) (by kernel_rfl) ?_
   refine wR 3 169 ?_
   exact fI
   ) ?_
  refine bB h73 fun r78 hx86 h73 => ?_
  refine CO.cutR (tl 23 [(3, .own 100), (5, .loc 169 0), (7, .sl false false (a0.map (eSN false))), (8, V.i (a0.length : Int)), (9, V.i y53)]) [(169, .cells 48 [V.i e76.Kind, V.i e76.Op, V.s e76.Text, V.s e76.Other, .own 170]), (170, .vec false 3 1 (r78.map encI)), (100, .vec false 48 5 (y54.map (eSN true)))] mix (by
   refine wR 2 170 ?_
   refine W.call (m_slices_Clone_int_ok e76.Kids hx86) cok92 [] [(100, 170)] [170] (show LayOk _ [] from trivial) (by kernel_rfl) (by kernel_rfl) ?_
   refine wR 2 171 ?_
   exact fI
   ) ?_
  refine bB h73 fun x80 hx88 h73 => ?_
  refine CO.endR (tl 23 [(3, .own 172), (7, .sl false false (a0.map (eSN false))), (8, V.i (a0.length : Int)), (9, V.i y53)]) [(172, .vec false 48 5 (x80.map (eSN true)))] mix (by
   refine wR 3 171 ?_
   refine W.appO Dk (eSN true) (a := 100) (c := 171) (el := 48) (sz := 5) 72 hx88 rfl 172 (by kernel_rfl) ?_
   refine wR 1 173 ?_
   exact fI
   ) (fun st hw => ?_)
  refine CO.weak hw ?_
  refine cE 2 173 (tl 23 [(3, .own 172), (7, .sl false false (a0.map (eSN false))), (8, V.i (a0.length : Int)), (9, V.i (IntKind.wrap .i64 (y53 + 1)))]) [(172, .vec false 48 5 (x80.map (eSN true)))] (fun st hw => ?_)
  exact ih74 (a0, (IntKind.wrap .i64 (y53 + 1)), x80) h73 _ (hw.trans (wS [(172, 100)] [3, 7, 8, 9]))
 refine iF hc76 ?_
 refine CO.exit ?_
 refine cU 2 169 (tl 23 [(2, .own 100)]) [(100, .vec false 48 5 (y54.map (eSN true)))] ?_
 refine CO.ret ?_
 have h73 := sI h73
 subst h73
 exact eG [(100, 100)] (.inr rfl) (RetV.one rfl (oT (t := 2) (r := .own 100)))

theorem m_slices_Clone_tree_nil : AC Tryz.prog (GS []) 60 [.c (.slice none 0 0)] [] (.own 100) [(100, .vec false 68 5 (([] : List STree).map eST))] := by
  refine AC.enter Tryz.func60 rfl ?_
  refine CO.cutR (tl 8 [(0, .c (.slice none 0 0))]) [] mix (by
      refine wR 1 100 ?_
      exact W.fin (by decide) (by kernel_rfl) (wS [] [0])
      ) ?_
  refine CO.seq' ?_
  refine CO.cutR (tl 8 [(0, .c (.slice none 0 0)), (4, V.b true)]) [] mix (by
      refine wR 1 100 ?_
      refine W.nilEq Dk true (by kernel_rfl) ?_
      exact W.fin (by decide) (by kernel_rfl) (wS [] [0, 4])
      ) ?_
  refine CO.ifT (c := true) rfl (by kernel_rfl) ?_
  refine CO.cutR (tl 8 [(2, .c (.slice none 0 0))]) [] mix (by
      refine wR 1 100 ?_
      exact W.fin (by decide) (by kernel_rfl) (wS [] [2])
      ) ?_
  refine CO.weak (Weak.nil 2 101 68 5 (by kernel_rfl) (by kernel_rfl)) ?_
  refine CO.ret ?_
  exact eG [(101, 100)] (.inr rfl) (RetV.one rfl (oT (t := 2) (r := .own 101)))

theorem m_slices_Clone_tree_nn (a0 : List STree) {r : (List STree)} (hx2 : app 72 [] a0 = some r) :
    AC Tryz.prog (GS []) 60 [.sl true false (a0.map eST)] [] (.own 100) [(100, .vec false 68 5 (r.map eST))] := by
  refine AC.enter Tryz.func60 rfl ?_
  refine CO.cutR (tl 8 [(0, .sl true false (a0.map eST))]) [] mix (by
      refine wR 1 100 ?_
      exact W.fin (by decide) (by kernel_rfl) (wS [] [0])
      ) ?_
  refine CO.seq' ?_
  refine CO.cutR (tl 8 [(0, .sl true false (a0.map eST)), (4, V.b false)]) [] mix (by
      refine wR 1 100 ?_
      refine W.nilEq Dk false (by kernel_rfl) ?_
      exact W.fin (by decide) (by kernel_rfl) (wS [] [0, 4])
      ) ?_
  refine CO.ifF (c := false) rfl (by kernel_rfl) ?_
  refine CO.skip ?_
  refine CO.weak (st' := ⟨tl 8 [(0, .sl true false (a0.map eST)), (4, V.b false)], []⟩) (Weak.refl _) ?_
  refine CO.cutR (tl 8 [(2, .own 101)]) [(101, .vec false 68 5 (r.map eST))] mix (by
      refine wR 2 100 ?_
      refine W.appD Dk eST (a := 100) (el := 68) 72 hx2 rfl 101 5 (fun x => by rw [encSTree_eq]; rfl) (by kernel_rfl) ?_
      refine wR 1 102 ?_
      exact W.fin (by decide) (by kernel_rfl) (wS [(101, 101)] [2])
      ) ?_
  refine CO.ret ?_
  exact eG [(101, 100)] (.inr rfl) (RetV.one rfl (oT (t := 2) (r := .own 101)))

theorem m_slices_Clone_tree_ok (a0 : List STree) {r : (List STree)} (h : m_slices_Clone_tree a0 = some r) :
    AC Tryz.prog (GS []) 60 [.sl false false (a0.map eST)] [] (.own 100) [(100, .vec false 68 5 (r.map eST))] := by
  rw [m_slices_Clone_tree] at h
  obtain ⟨x2, h2, h⟩ := bind_some h
  have h := sI h
  subst h
  refine AC.slCase (fun h0 => ?_) (m_slices_Clone_tree_nn a0 h2)
  have ha : a0 = [] := by simpa using h0
  subst ha
  have hr : x2 = [] := by
    rw [app_some (by simp)] at h2
    simpa using h2.symm
  subst hr
  exact m_slices_Clone_tree_nil

theorem m_slices_Insert_tree_copy_k {P : Program} (w : World) (dT sT ty elem : TypeId) (g o dLen dCap : Nat) (a : Addr) (sLen sCap k : Nat) (cur : Array Value) (t : TypeId) (cs : List Value)
    (hu : P.underlying dT = some (.slice elem)) (hs : (P.info? elem).map (·.size) = some k)
    (hg : w.heap[g]? = some (.cells cur t (0, 0))) (hn : cs.length = Nat.min sLen dLen * k)
    (hsrc : ∀ j v, cs[j]? = some v → w.cell? (a.add j) = some v) (hfit : o + cs.length ≤ cur.size) (h1 : ∀ v ∈ cs, v.oneCell' = true) :
    (Builtin.copy_ #[dT, sT] ty #[.slice (some ⟨g, o, none⟩) dLen dCap, .slice (some a) sLen sCap]).run P w =
      .ok (goInt (Nat.min sLen dLen)) (w.setRow g (cur.toList.take o ++ cs ++ cur.toList.drop (o + cs.length)).toArray) := by
  have hl := run_loadCells_list (P := P) w a cs hsrc
  have hst := run_storeCells_at P g o t cs 0 cur w hg (by simpa using hfit) h1
  cases hq : P.info? elem with
  | none => simp [hq] at hs
  | some i =>
    have hi : i.size = k := by simpa [hq] using hs
    simp [Builtin.copy_, run_underlying hu, Builtin.lenOf, Builtin.firstCells, sizeOf, typeInfo, hq, hi, ← hn, hl, hst]

theorem m_slices_Insert_tree_mixIns : Tryz.prog.follows .mixedOrders = true := by kernel_rfl
theorem m_slices_Insert_tree_sizIns : (Tryz.prog.info? 68).map (·.size) = some 5 := by kernel_rfl

theorem m_slices_Insert_tree_ins_shift (g n c i vb m vc : Nat) (cur varr : Array Value) (w : World) (hi : i < n) (hm : 0 < m) (hroom : n + m ≤ c) (hc63 : c ≤ maxLen) (hvb : vb ≠ g)
    (hg : w.heap[g]? = some (.cells cur 68 (0, 0))) (hcs : cur.size = c * 5) (h1 : ∀ v, v ∈ cur.toList.take (n * 5) → v.oneCell' = true)
    (hv : w.heap[vb]? = some (.cells varr 68 (0, 0))) (hvs : varr.size = vc * 5) (hmv : m ≤ vc) (h1v : ∀ v, v ∈ varr.toList.take (m * 5) → v.oneCell' = true) :
    Calls Tryz.prog 59 #[.slice (some ⟨g, 0, none⟩) n c, .int .i64 i, .slice (some ⟨vb, 0, none⟩) m vc] w
      (Ins 68 5 w (some g) n m ((cur.toList.take (n * 5)).take (i * 5) ++ varr.toList.take (m * 5) ++ (cur.toList.take (n * 5)).drop (i * 5))) := by
  have uS := run_underlying Tryz.underlying66
  have hz1 : ¬ ((m : Int) = 0) := by omega
  have hz2 : ¬ ((i : Int) = (n : Int)) := by omega
  have mixed := m_slices_Insert_tree_mixIns
  have hc63' : c ≤ 9223372036854775807 := by simpa only [maxLen] using hc63
  have hw1 : IntKind.i64.wrap ((i : Int) + (m : Int)) = (i : Int) + (m : Int) := by rw [IntKind.wrap_i64]; omega
  have hb1 : (0 : Int) ≤ (i : Int) + (m : Int) := by omega
  have hin : i ≤ n := by omega
  have htn : ((i : Int) + (m : Int)).toNat = i + m := by omega
  have hb2 : ¬ (c = i + m) := by omega
  have hb3 : (i : Int) ≤ (n : Int) + (m : Int) := by omega
  have hb4 : ¬ (c = i) := by omega
  have hov : ∀ lb cb, (callFunc 94 #[.slice (some ⟨vb, 0, none⟩) m vc, .slice (some ⟨g, (i + m) * 5, none⟩) lb cb]).run Tryz.prog w = .ok (.value (.bool false)) w := fun lb cb => by
    rw [run_callFunc_extern Tryz.func94 (by kernel_rfl) (by kernel_rfl) (by kernel_rfl) (e := Extern.SlicesOverlaps.overlaps #[66, 66] #[4]) (by kernel_rfl),
      Lib.run_overlaps_apart w 66 4 68 Tryz.underlying66 5 (fun w => ty68.sizeOf w) ⟨vb, 0, none⟩ ⟨g, (i + m) * 5, none⟩ m vc lb cb hvb 68 68 varr.size cur.size (by simp [World.shape?, hv]) (by simp [World.shape?, hg]) (by omega) (frozen_of_row w vb _ varr 68 hv) (frozen_of_row w vb _ varr 68 hv)]
    rfl
  obtain ⟨mid, hmid⟩ : ∃ mid : List Value, mid = (cur.toList.take (n * 5)).drop (i * 5) := ⟨_, rfl⟩
  have hml : mid.length = (n - i) * 5 := by subst hmid; simp; omega
  obtain ⟨row1, hrow1⟩ : ∃ row1 : Array Value, row1 = (cur.toList.take ((i + m) * 5) ++ mid ++ cur.toList.drop ((i + m) * 5 + mid.length)).toArray := ⟨_, rfl⟩
  have hcp1 : ∀ ty dc sc, (Builtin.copy_ #[66, 66] ty #[.slice (some ⟨g, (i + m) * 5, none⟩) (n + m - (i + m)) dc, .slice (some ⟨g, i * 5, none⟩) (n + m - i) sc]).run Tryz.prog w.drew = .ok (goInt ((n - i : Nat) : Int)) (w.drew.setRow g row1) := fun ty dc sc => by
    have hmin : Nat.min (n + m - i) (n + m - (i + m)) = n - i := by show min _ _ = _; rw [Nat.min_def]; split <;> omega
    have := m_slices_Insert_tree_copy_k w.drew 66 66 ty 68 g ((i + m) * 5) (n + m - (i + m)) dc ⟨g, i * 5, none⟩ (n + m - i) sc 5 cur 68 mid Tryz.underlying66 m_slices_Insert_tree_sizIns hg (by rw [hmin, hml])
      (fun j v hj => by
        rw [Addr.add_lit, cell_of_row w.drew g _ cur 68 (0, 0) hg]
        rw [hmid, List.getElem?_drop, List.getElem?_take] at hj
        split at hj
        · simpa using hj
        · cases hj) (by rw [hml, hcs]; omega) (fun v hv => h1 v (by rw [hmid] at hv; exact List.mem_of_mem_drop hv))
    rw [hmin, ← hrow1] at this
    exact this
  have hrl : row1.size = cur.size := by rw [hrow1]; simp [hml]; omega
  obtain ⟨W1, hW1⟩ : ∃ W1, W1 = w.drew.setRow g row1 := ⟨_, rfl⟩
  have hg1 : W1.heap[g]? = some (.cells row1 68 (0, 0)) := by rw [hW1]; exact setRow_heap w.drew g cur _ 68 _ hg
  have hv1 : W1.heap[vb]? = some (.cells varr 68 (0, 0)) := by rw [hW1, setRow_other w.drew g vb _ hvb]; exact hv
  obtain ⟨row2, hrow2⟩ : ∃ row2 : Array Value, row2 = (row1.toList.take (i * 5) ++ varr.toList.take (m * 5) ++ row1.toList.drop (i * 5 + (varr.toList.take (m * 5)).length)).toArray := ⟨_, rfl⟩
  have hvl : (varr.toList.take (m * 5)).length = m * 5 := by simp; omega
  have hcp2 : ∀ (W : World), W.heap = W1.heap → ∀ ty dc, (Builtin.copy_ #[66, 66] ty #[.slice (some ⟨g, i * 5, none⟩) (n + m - i) dc, .slice (some ⟨vb, 0, none⟩) m vc]).run Tryz.prog W = .ok (goInt m) (W.setRow g row2) := fun W hW ty dc => by
    have hmin : Nat.min m (n + m - i) = m := by show min _ _ = _; rw [Nat.min_def]; split <;> omega
    have := m_slices_Insert_tree_copy_k W 66 66 ty 68 g (i * 5) (n + m - i) dc ⟨vb, 0, none⟩ m vc 5 row1 68 (varr.toList.take (m * 5)) Tryz.underlying66 m_slices_Insert_tree_sizIns (by rw [hW]; exact hg1) (by rw [hmin, hvl])
      (fun j v hj => by
        rw [Addr.add_lit, Nat.zero_add, cell_of_row W vb _ varr 68 (0, 0) (by rw [hW]; exact hv1)]
        rw [List.getElem?_take] at hj
        split at hj
        · simpa using hj
        · cases hj) (by rw [hvl, hrl, hcs]; omega) h1v
    rw [hmin, ← hrow2] at this
    exact this
  rw [← hW1] at hcp1
  have hfin : Ins 68 5 w (some g) n m ((cur.toList.take (n * 5)).take (i * 5) ++ varr.toList.take (m * 5) ++ (cur.toList.take (n * 5)).drop (i * 5)) (.returned (.slice (some ⟨g, 0, none⟩) (n + m) c)) (W1.setRow g row2) := by
    have hgl : g < w.heap.size := (Array.getElem?_eq_some_iff.1 hg).1
    have hr2 : row2.size = cur.size := by rw [hrow2]; simp [hrl]; omega
    refine ⟨g, c, row2, rfl, ⟨?_, ?_, ?_, ?_, fun k hk hne => ?_⟩, setRow_heap W1 g row1 _ 68 _ hg1, hroom, hc63, by rw [hr2, hcs], ?_, .inl rfl, ?_⟩
    · rw [hW1]; rfl
    · rw [hW1]; rfl
    · rw [hW1]; rfl
    · rw [hW1]; simp
    · have hkg : k ≠ g := fun e => hne (by rw [e])
      rw [setRow_other W1 g k _ hkg, hW1, setRow_other w.drew g k _ hkg]; rfl
    · have e1 : row1.toList.take (i * 5) = (cur.toList.take (n * 5)).take (i * 5) := by
        rw [hrow1]
        simp only []
        rw [List.append_assoc, List.take_append_of_le_length (by simp; omega), List.take_take, List.take_take]
        congr 1; omega
      have e2 : (row1.toList.drop (i * 5 + m * 5)).take ((n - i) * 5) = mid := by
        rw [hrow1]
        simp only []
        rw [show i * 5 + m * 5 = (cur.toList.take ((i + m) * 5)).length by simp; omega, List.append_assoc, List.drop_left, ← hml, List.take_left]
      rw [hrow2]
      simp only []
      have hA : ((cur.toList.take (n * 5)).take (i * 5)).length = i * 5 := by
        rw [List.length_take, List.length_take, Array.length_toList]; omega
      rw [e1, hvl, ← hmid]
      generalize (cur.toList.take (n * 5)).take (i * 5) = A at hA ⊢
      generalize varr.toList.take (m * 5) = B at hvl ⊢
      rw [show (n + m) * 5 = (A ++ B).length + (n - i) * 5 by rw [List.length_append, hA, hvl]; omega, List.take_length_add_append, e2]
    · rw [hW1]; simpa using hgl
  clear hrow1 hrow2 hmid hW1 hg1 hv1 hvl hml hrl hcs hvs hv h1 h1v
  go_enter Tryz.func59, Tryz.ntmps59
  go_wp2_with (simp only [hov])
  go_region_law_o (refine step_copy_runI rfl _ _ 66 66 rfl _ _ (by simp [Act.eval, Act.put]) (by simp [Act.eval, Act.put]) (hcp1 _ _ _) ?_)
  go_wp2_with (at_builtin; refine wpList_copy_runI _ rfl _ _ 66 66 rfl _ _ rfl rfl (hcp2 _ rfl _ _) ?_)
  go_ret
  exact hfin

theorem m_slices_Insert_tree_ins_end (s : Value) (n vb m vc : Nat) (olds : List Value) (varr : Array Value) (w : World) (hm : 0 < m)
    (hs : (s = .slice none 0 0 ∧ n = 0 ∧ olds = []) ∨ ∃ g c cur, s = .slice (some ⟨g, 0, none⟩) n c ∧ w.heap[g]? = some (.cells cur 68 (0, 0)) ∧ n ≤ c ∧ c ≤ maxLen ∧ cur.size = c * 5 ∧ olds = cur.toList.take (n * 5))
    (hv : w.heap[vb]? = some (.cells varr 68 (0, 0))) (hvs : varr.size = vc * 5) (hmv : m ≤ vc) (h1v : ∀ v, v ∈ varr.toList.take (m * 5) → v.oneCell' = true) (hb : (n + m) * 72 ≤ 140737488355328) :
    Calls Tryz.prog 59 #[s, .int .i64 n, .slice (some ⟨vb, 0, none⟩) m vc] w
      (Ins 68 5 w s.ownBlock n m (olds ++ varr.toList.take (m * 5))) := by
  have uS := run_underlying Tryz.underlying66
  have hz1 : ¬ ((m : Int) = 0) := by omega
  have mixed := m_slices_Insert_tree_mixIns
  have hol : olds.length = n * 5 := by
    rcases hs with ⟨_, rfl, rfl⟩ | ⟨g, c, cur, _, _, hnc, _, hsz, rfl⟩
    · rfl
    · simp; omega
  have hvl : (varr.toList.take (m * 5)).length = m * 5 := by simp; omega
  have hsrc : Src Tryz.prog 5 66 (.slice (some ⟨vb, 0, none⟩) m vc) m (varr.toList.take (m * 5)) w := Src.ofSlice w Tryz.underlying66 ⟨vb, 0, none⟩ m vc _ (by rw [hvl])
    (fun j v hj => by
      rw [Addr.add_lit, Nat.zero_add, cell_of_row w vb _ varr 68 (0, 0) hv]
      rw [List.getElem?_take] at hj
      split at hj
      · simpa using hj
      · cases hj) h1v
  obtain ⟨inf, z, e1, e2, e3, e4, e5⟩ : ∃ inf z, Tryz.prog.info? 68 = some inf ∧ inf.size = 5 ∧ inf.bytes = 72 ∧ inf.zero = some z ∧ z.cells.size = 5 := ⟨Tryz.t68, _, by kernel_rfl, rfl, rfl, rfl, rfl⟩
  have hv' : (s = .slice none 0 0 ∧ n = 0) ∨ ∃ g cap arr, s = .slice (some ⟨g, 0, none⟩) n cap ∧ w.heap[g]? = some (.cells arr 68 (0, 0)) ∧ n ≤ cap ∧ cap ≤ maxLen ∧ arr.size = cap * inf.size ∧ ∀ p, p < n * inf.size → arr[p]? = olds[p]? := by
    rcases hs with ⟨h1, h2, _⟩ | ⟨g, c, cur, h1, h2, h3, h4, h5, rfl⟩
    · exact .inl ⟨h1, h2⟩
    · refine .inr ⟨g, c, cur, h1, h2, h3, h4, by rw [e2]; exact h5, fun p hp => ?_⟩
      rw [e2] at hp
      rw [List.getElem?_take, if_pos hp]
      simp
  obtain ⟨v', w', hrun, hgb, hres⟩ := run_append_vec (ty := 66) w 66 66 68 inf z Tryz.underlying66 e1 e4 (by rw [e5, e2]) s n _ m _ (by rw [e2]; exact hsrc) (fun p => olds[p]?) hv' (by simp only [maxLen]; omega) (by rw [e3]; exact hb)
  obtain ⟨g', cap', arr', rfl, h1, h2, h3, h4, h5, h6, h7, h8⟩ := hres.resolve_left (fun h => by omega)
  have hfin : Ins 68 5 w s.ownBlock n m (olds ++ varr.toList.take (m * 5)) (.returned (.slice (some ⟨g', 0, none⟩) (n + m) cap')) w' := by
    rw [e2] at h4 h5 h6
    refine ⟨g', cap', arr', rfl, hgb, h1, h2, h3, h4, ?_, h7, h8⟩
    apply List.ext_getElem?
    intro p
    rw [List.getElem?_take]
    split
    · by_cases hp : p < n * 5
      · rw [List.getElem?_append_left (by omega)]
        simpa using h5 p hp
      · rw [List.getElem?_append_right (by omega), hol]
        have := h6 (p - n * 5) (by omega)
        rw [show n * 5 + (p - n * 5) = p by omega] at this
        simpa using this
    · rw [List.getElem?_eq_none]
      rw [List.length_append, hol, hvl]; omega
  clear h1 h2 h3 h4 h5 h6 h7 h8 hgb hv' hsrc hvl hol h1v hvs hv e1 e2 e3 e4 e5
  rcases hs with ⟨rfl, rfl, rfl⟩ | ⟨g, c, cur, rfl, hg, hnc, hcm, hsz, rfl⟩
  · go_enter Tryz.func59, Tryz.ntmps59
    go_wp2_with (at_builtin; refine Lib.wpList_append_run _ rfl _ _ _ _ rfl _ _ rfl rfl _ _ hrun ?_)
    go_ret
    simp only [Nat.zero_add, List.nil_append] at hfin
    exact hfin
  · clear hg hsz hcm
    go_enter Tryz.func59, Tryz.ntmps59
    go_wp2_with (at_builtin; refine Lib.wpList_append_run _ rfl _ _ _ _ rfl _ _ rfl rfl _ _ hrun ?_)
    all_goals (go_ret; exact hfin)

theorem m_slices_Insert_tree_ins_grow (g n c i vb m vc : Nat) (cur varr : Array Value) (w : World) (hi : i < n) (hm : 0 < m) (hnc : n ≤ c) (hroom : c < n + m) (hc63 : c ≤ maxLen) (hb : (n + m) * 72 ≤ 140737488355328)
    (hg : w.heap[g]? = some (.cells cur 68 (0, 0))) (hcs : cur.size = c * 5) (h1 : ∀ v, v ∈ cur.toList.take (n * 5) → v.oneCell' = true)
    (hv : w.heap[vb]? = some (.cells varr 68 (0, 0))) (hvs : varr.size = vc * 5) (hmv : m ≤ vc) (h1v : ∀ v, v ∈ varr.toList.take (m * 5) → v.oneCell' = true) :
    Calls Tryz.prog 59 #[.slice (some ⟨g, 0, none⟩) n c, .int .i64 i, .slice (some ⟨vb, 0, none⟩) m vc] w
      (Ins 68 5 w (some g) n m ((cur.toList.take (n * 5)).take (i * 5) ++ varr.toList.take (m * 5) ++ (cur.toList.take (n * 5)).drop (i * 5))) := by
  have uS := run_underlying Tryz.underlying66
  have hz1 : ¬ ((m : Int) = 0) := by omega
  have hz2 : ¬ ((i : Int) = (n : Int)) := by omega
  have hz3 : (c : Int) < (n : Int) + (m : Int) := by omega
  have mixed := m_slices_Insert_tree_mixIns
  have hc63' : c ≤ 9223372036854775807 := by simpa only [maxLen] using hc63
  have hgl : g < w.heap.size := (Array.getElem?_eq_some_iff.1 hg).1
  have hvw : vb < w.heap.size := (Array.getElem?_eq_some_iff.1 hv).1
  have hkk : (n : Int) + (m : Int) - (i : Int) = ((n + m - i : Nat) : Int) := by omega
  have hik : i + (n + m - i) = n + m := by omega
  have hvl : (varr.toList.take (m * 5)).length = m * 5 := by simp; omega
  obtain ⟨inf, z, e1, e2, e3, e4, e5⟩ : ∃ inf z, Tryz.prog.info? 68 = some inf ∧ inf.size = 5 ∧ inf.bytes = 72 ∧ inf.zero = some z ∧ z.cells.size = 5 := ⟨Tryz.t68, _, by kernel_rfl, rfl, rfl, rfl, rfl⟩
  obtain ⟨fro, hfro⟩ : ∃ fro : List Value, fro = (cur.toList.take (n * 5)).take (i * 5) := ⟨_, rfl⟩
  have hfl : fro.length = i * 5 := by rw [hfro, List.length_take, List.length_take, Array.length_toList]; omega
  have hold : (Builtin.firstCells inf.size i (.slice (some ⟨g, 0, none⟩) i c)).run Tryz.prog w.drew = .ok fro.toArray w.drew := by
    rw [e2]
    exact run_firstCells_some w.drew 5 i ⟨g, 0, none⟩ i c fro hfl (fun j v hj => by
      rw [Addr.add_lit, Nat.zero_add, cell_of_row w.drew g _ cur 68 (0, 0) hg]
      rw [hfro, List.getElem?_take, List.getElem?_take] at hj
      split at hj
      · split at hj
        · simpa using hj
        · cases hj
      · cases hj)
  obtain ⟨G, hG⟩ : ∃ G, G = grownCap w (n + m) c 68 := ⟨_, rfl⟩
  obtain ⟨ROW, hROW⟩ : ∃ ROW : Array Value, ROW = fro.toArray ++ Builtin.zeroCells z.cells (n + m - i) ++ Builtin.zeroCells z.cells (G - (n + m)) := ⟨_, rfl⟩
  have hrz : ∀ ty, (Builtin.append_ #[66, 3] ty #[.slice (some ⟨g, 0, none⟩) i c, .int .i64 ((n : Int) + (m : Int) - (i : Int))]).run Tryz.prog w =
      .ok (.slice (some ⟨w.heap.size, 0, none⟩) (n + m) G) (w.drew.alloc (.cells ROW 68)) := fun ty => by
    have h := Lib.run_append_grow_zeros w 66 3 ty 68 inf z .i64 .i64 Tryz.underlying66 Tryz.underlying3 e1 e4 (some ⟨g, 0, none⟩) i c fro hold (n + m - i) (by omega) (by omega) (by omega) (by omega) (by rw [e3]; omega) (by rw [e3, hik]; exact growslice_fits hroom hb)
    rw [hik, ← hG, ← hROW] at h
    rw [hkk]
    exact h
  have hGn : n + m ≤ G := by rw [hG]; exact grownCap_ge w _ _ _
  have hGm : G ≤ maxLen := by rw [hG]; exact grownCap_le_maxLen w (n + m) c 68 (by unfold maxLen; omega)
  have hG63 : G ≤ 9223372036854775807 := by simpa only [maxLen] using hGm
  have hRs : ROW.size = G * 5 := by
    rw [hROW]
    simp only [Array.size_append, List.size_toArray, size_zeroCells, e5, hfl]
    omega
  have hGi : ¬ (G = i) := by omega
  have hGim : ¬ (G = i + m) := by omega
  have hci : ¬ (c = i) := by omega
  have hgN : g ≠ w.heap.size := by omega
  have hvN : vb ≠ w.heap.size := by omega
  obtain ⟨W1, hW1⟩ : ∃ W1, W1 = w.drew.alloc (.cells ROW 68) := ⟨_, rfl⟩
  have hN1 : W1.heap[w.heap.size]? = some (.cells ROW 68 (0, 0)) := by rw [hW1]; exact heap_alloc_new w.drew _
  have hg1 : W1.heap[g]? = some (.cells cur 68 (0, 0)) := by rw [hW1, heap_alloc_old w.drew _ hgl]; exact hg
  have hv1 : W1.heap[vb]? = some (.cells varr 68 (0, 0)) := by rw [hW1, heap_alloc_old w.drew _ hvw]; exact hv
  have hk1 : ∀ k, k < w.heap.size → W1.heap[k]? = w.heap[k]? := fun k hk => by rw [hW1, heap_alloc_old w.drew _ hk]; rfl
  have hs1 : W1.heap.size = w.heap.size + 1 := by rw [hW1]; simp
  have ho1 : W1.os = w.os ∧ W1.tape = w.tape ∧ W1.output = w.output := by rw [hW1]; exact ⟨rfl, rfl, rfl⟩
  obtain ⟨row1, hrow1⟩ : ∃ row1 : Array Value, row1 = (ROW.toList.take (i * 5) ++ varr.toList.take (m * 5) ++ ROW.toList.drop (i * 5 + (varr.toList.take (m * 5)).length)).toArray := ⟨_, rfl⟩
  have hcpA : ∀ (W : World), W.heap = W1.heap → ∀ ty dc, (Builtin.copy_ #[66, 66] ty #[.slice (some ⟨w.heap.size, i * 5, none⟩) (n + m - i) dc, .slice (some ⟨vb, 0, none⟩) m vc]).run Tryz.prog W = .ok (goInt m) (W.setRow w.heap.size row1) := fun W hW ty dc => by
    have hmin : Nat.min m (n + m - i) = m := by show min _ _ = _; rw [Nat.min_def]; split <;> omega
    have := m_slices_Insert_tree_copy_k W 66 66 ty 68 w.heap.size (i * 5) (n + m - i) dc ⟨vb, 0, none⟩ m vc 5 ROW 68 (varr.toList.take (m * 5)) Tryz.underlying66 m_slices_Insert_tree_sizIns (by rw [hW]; exact hN1) (by rw [hmin, hvl])
      (fun j v hj => by
        rw [Addr.add_lit, Nat.zero_add, cell_of_row W vb _ varr 68 (0, 0) (by rw [hW]; exact hv1)]
        rw [List.getElem?_take] at hj
        split at hj
        · simpa using hj
        · cases hj) (by rw [hvl, hRs]; omega) h1v
    rw [hmin, ← hrow1] at this
    exact this
  have hrl : row1.size = ROW.size := by rw [hrow1]; simp [hvl]; omega
  obtain ⟨mid, hmid⟩ : ∃ mid : List Value, mid = (cur.toList.take (n * 5)).drop (i * 5) := ⟨_, rfl⟩
  have hml : mid.length = (n - i) * 5 := by subst hmid; simp; omega
  obtain ⟨row2, hrow2⟩ : ∃ row2 : Array Value, row2 = (row1.toList.take ((i + m) * 5) ++ mid ++ row1.toList.drop ((i + m) * 5 + mid.length)).toArray := ⟨_, rfl⟩
  obtain ⟨W2, hW2⟩ : ∃ W2, W2 = W1.setRow w.heap.size row1 := ⟨_, rfl⟩
  have hN2 : W2.heap[w.heap.size]? = some (.cells row1 68 (0, 0)) := by rw [hW2]; exact setRow_heap W1 _ ROW _ 68 _ hN1
  have hg2 : W2.heap[g]? = some (.cells cur 68 (0, 0)) := by rw [hW2, setRow_other W1 _ g _ hgN]; exact hg1
  have hcpB : ∀ (W : World), W.heap = W2.heap → ∀ ty dc sc, (Builtin.copy_ #[66, 66] ty #[.slice (some ⟨w.heap.size, (i + m) * 5, none⟩) (n + m - (i + m)) dc, .slice (some ⟨g, i * 5, none⟩) (n - i) sc]).run Tryz.prog W = .ok (goInt ((n - i : Nat) : Int)) (W.setRow w.heap.size row2) := fun W hW ty dc sc => by
    have hmin : Nat.min (n - i) (n + m - (i + m)) = n - i := by show min _ _ = _; rw [Nat.min_def]; split <;> omega
    have := m_slices_Insert_tree_copy_k W 66 66 ty 68 w.heap.size ((i + m) * 5) (n + m - (i + m)) dc ⟨g, i * 5, none⟩ (n - i) sc 5 row1 68 mid Tryz.underlying66 m_slices_Insert_tree_sizIns (by rw [hW]; exact hN2) (by rw [hmin, hml])
      (fun j v hj => by
        rw [Addr.add_lit, cell_of_row W g _ cur 68 (0, 0) (by rw [hW]; exact hg2)]
        rw [hmid, List.getElem?_drop, List.getElem?_take] at hj
        split at hj
        · simpa using hj
        · cases hj) (by rw [hml, hrl, hRs]; omega) (fun v hv => h1 v (by rw [hmid] at hv; exact List.mem_of_mem_drop hv))
    rw [hmin, ← hrow2] at this
    exact this
  have hfin : ∀ W' : World, W'.heap = (W2.setRow w.heap.size row2).heap → W'.os = w.os → W'.tape = w.tape → W'.output = w.output →
      Ins 68 5 w (some g) n m (fro ++ varr.toList.take (m * 5) ++ mid) (.returned (.slice (some ⟨w.heap.size, 0, none⟩) (n + m) G)) W' := by
    intro W' hh h1 h2 h3
    have hr2 : row2.size = ROW.size := by rw [hrow2]; simp [hrl, hml]; omega
    refine ⟨w.heap.size, G, row2, rfl, ⟨h1, h2, h3, ?_, fun k hk hne => ?_⟩, by rw [hh]; exact setRow_heap W2 _ row1 _ 68 _ hN2, hGn, hGm, by rw [hr2, hRs], ?_, .inr (Nat.le_refl _), ?_⟩
    · rw [hh, hW2]; simp [hs1]
    · have hkg : k ≠ w.heap.size := by omega
      rw [hh, setRow_other W2 _ k _ hkg, hW2, setRow_other W1 _ k _ hkg]; exact hk1 k hk
    · have e0 : ROW.toList.take (i * 5) = fro := by
        rw [hROW, ← hfl]
        simp
      have e1 : row1.toList.take ((i + m) * 5) = fro ++ varr.toList.take (m * 5) := by
        rw [hrow1]
        simp only []
        rw [e0, show (i + m) * 5 = (fro ++ varr.toList.take (m * 5)).length by rw [List.length_append, hfl, hvl]; omega, List.take_left]
      rw [hrow2]
      simp only []
      rw [e1, show (n + m) * 5 = (fro ++ varr.toList.take (m * 5) ++ mid).length by rw [List.length_append, List.length_append, hfl, hvl, hml]; omega, List.take_left]
    · rw [hh, hW2]; simp [hs1]
  rw [← hmid, ← hfro]
  have hb1 : (0 : Int) ≤ (i : Int) + (m : Int) := by omega
  have hw1 : IntKind.i64.wrap ((i : Int) + (m : Int)) = (i : Int) + (m : Int) := by rw [IntKind.wrap_i64]; omega
  have hin : i ≤ n := by omega
  have htn : ((i : Int) + (m : Int)).toNat = i + m := by omega
  have hb3 : (i : Int) ≤ (n : Int) := by omega
  subst hW2
  subst hW1
  have hE : ((w.alloc (.cells ROW 68)).drew).heap = (w.drew.alloc (.cells ROW 68)).heap := rfl
  have hF : ∀ (W : World), W.heap = (w.drew.alloc (.cells ROW 68)).heap → (W.setRow w.heap.size row1).drew.heap = ((w.drew.alloc (.cells ROW 68)).setRow w.heap.size row1).heap := fun W h => by
    show (W.setRow w.heap.size row1).heap = _
    simp only [World.setRow, h]
  clear hkk hik hold hROW hG hRs hrow1 hrow2 hmid hfro hN1 hg1 hv1 hk1 hs1 ho1 hN2 hg2 hrl hml hvl hfl e1 e2 e3 e4 e5 hg hv h1 h1v hcs hvs
  go_enter Tryz.func59, Tryz.ntmps59
  go_wp2_with (first
    | (at_builtin; refine Lib.wpList_append_run _ rfl _ _ _ _ rfl _ _ rfl rfl _ _ (hrz _) ?_)
    | (at_builtin; refine wpList_copy_runI _ rfl _ _ 66 66 rfl _ _ rfl rfl (hcpA _ hE _ _) ?_))
  go_region_law_o (refine step_copy_runI rfl _ _ 66 66 rfl (.slice (some ⟨w.heap.size, (i + m) * 5, none⟩) (n + m - (i + m)) (G - (i + m))) (.slice (some ⟨g, i * 5, none⟩) (n - i) (c - i)) (by simp [Act.eval, Act.put]) (by simp [Act.eval, Act.put]) (hcpB _ (hF _ hE) 3 (G - (i + m)) (c - i)) ?_)
  go_wp2
  go_ret
  exact hfin _ rfl rfl rfl rfl

theorem m_slices_Insert_tree_mem (s : Value) (i n vb m vc : Nat) (olds : List Value) (varr : Array Value) (w : World) (hm : 0 < m) (hi : i ≤ n) (hs : OwnAt 68 5 w s n olds) (h1 : ∀ v, v ∈ olds → v.oneCell' = true)
    (hv : w.heap[vb]? = some (.cells varr 68 (0, 0))) (hvs : varr.size = vc * 5) (hmv : m ≤ vc) (h1v : ∀ v, v ∈ varr.toList.take (m * 5) → v.oneCell' = true) (hne : s.ownBlock ≠ some vb) (hb : (n + m) * 72 ≤ 140737488355328) :
    Calls Tryz.prog 59 #[s, .int .i64 i, .slice (some ⟨vb, 0, none⟩) m vc] w (Ins 68 5 w s.ownBlock n m (olds.take (i * 5) ++ varr.toList.take (m * 5) ++ olds.drop (i * 5))) := by
  by_cases hin : i = n
  · subst hin
    have ho : olds.length = i * 5 := by
      rcases hs with ⟨_, rfl, rfl⟩ | ⟨g, c, cur, _, _, hnc, _, hsz, rfl⟩
      · simp
      · rw [List.length_take, Array.length_toList, hsz]; omega
    rw [List.take_of_length_le (by omega), List.drop_eq_nil_of_le (by omega), List.append_nil]
    exact m_slices_Insert_tree_ins_end s i vb m vc olds varr w hm hs hv hvs hmv h1v hb
  · rcases hs with ⟨_, rfl, _⟩ | ⟨g, c, cur, rfl, hg, hnc, hcm, hsz, rfl⟩
    · omega
    · have hvb : vb ≠ g := fun e => hne (by rw [e]; rfl)
      by_cases hroom : n + m ≤ c
      · exact m_slices_Insert_tree_ins_shift g n c i vb m vc cur varr w (by omega) hm hroom hcm hvb hg hsz h1 hv hvs hmv h1v
      · exact m_slices_Insert_tree_ins_grow g n c i vb m vc cur varr w (by omega) hm hnc (by omega) hcm hb hg hsz h1 hv hvs hmv h1v

theorem m_slices_Insert_tree_ok (a1 : Int) (p0 : List STree) (p1 : List STree) {r : (List STree)} (h : m_slices_Insert_tree a1 p0 p1 = some r) :
    AC Tryz.prog (GS []) 59 [.own 0, V.i a1, .own 1] [(0, .vec false 68 5 (p0.map eST)), (1, .vec false 68 5 (p1.map eST))] (.own 100) [(100, .vec false 68 5 (r.map eST))] :=
  AC.insO (bytes := 72) eST h (fun i nn nn1 rows rows1 => AC.insert m_slices_Insert_tree_mem i nn nn1 rows rows1)


theorem mi_Insert_1_ok (N : Nat) (a0 : Int) (a1 : STree) (p0_0 : Int) (p1_0 : Int) (p2_0 : List SNode) {r : (List STree)} (h : mi_Insert_1 N a0 a1 p0_0 p1_0 p2_0 = some r) :
    AC Tryz.prog (GS []) 58 [V.i a0, .agg [V.i a1.kind, V.i a1.op, V.s a1.text, V.s a1.other, .sl false false (a1.kids.map eST)], .loc 0 0, .loc 1 0, .loc 2 0] [(0, .cells 3 [V.i p0_0]), (1, .cells 3 [V.i p1_0]), (2, .cells 22 [.sl false false (p2_0.map (eSN false))])] (.own 100) [(0, .cells 3 [V.i p0_0]), (1, .cells 3 [V.i p1_0]), (2, .cells 22 [.sl false false (p2_0.map (eSN false))]), (100, .vec false 68 5 (r.map eST))] := by
 rw [mi_Insert_1] at h
 refine AC.enter Tryz.func58 rfl ?_
 refine cU 2 100 (tl 22 [(0, V.i a0), (2, .loc 0 0), (3, .loc 1 0), (4, .loc 2 0), (6, .loc 100 0)]) [(100, .cells 68 [V.i a1.kind, V.i a1.op, V.s a1.text, V.s a1.other, .sl false false (a1.kids.map eST)]), (0, .cells 3 [V.i p0_0]), (1, .cells 3 [V.i p1_0]), (2, .cells 22 [.sl false false (p2_0.map (eSN false))])] ?_
 refine CO.join (fun (⟨a1, y7⟩ : (STree × (List STree))) => ⟨tl 22 [(6, .loc 100 0)], [(100, .cells 68 [V.i a1.kind, V.i a1.op, V.s a1.text, V.s a1.other, .sl false false (y7.map eST)]), (0, .cells 3 [V.i p0_0]), (1, .cells 3 [V.i p1_0]), (2, .cells 22 [.sl false false (p2_0.map (eSN false))])]⟩) (fun i => mi_Insert_1_k1 N p0_0 p1_0 p2_0 i = some r) ?_ ?_
 · rintro ⟨a1, y7⟩ h8
   rw [mi_Insert_1_k1] at h8
   refine CO.cutR (tl 22 [(7, .own 104)]) [(104, .vec false 68 5 ([(⟨a1.kind, a1.op, a1.text, a1.other, y7⟩ : STree)].map eST)), (0, .cells 3 [V.i p0_0]), (1, .cells 3 [V.i p1_0]), (2, .cells 22 [.sl false false (p2_0.map (eSN false))])] mix (by
    refine wR 1 104 ?_
    refine W.layop Dk (show LayOk _ [] from trivial) (by kernel_rfl) 104 { v := .own 104, R := [], new := [(104, .vec true 68 5 [[V.i a1.kind, V.i a1.op, V.s a1.text, V.s a1.other, .sl false false (y7.map eST)]])], N := [104] } (by kernel_rfl) ?_
    refine W.vecEq 104 (nn := true) (e := 68) (k := 5) (rows := [[V.i a1.kind, V.i a1.op, V.s a1.text, V.s a1.other, .sl false false (y7.map eST)]]) (rows' := [(⟨a1.kind, a1.op, a1.text, a1.other, y7⟩ : STree)].map eST) (by kernel_rfl) (by simp only [List.map_cons, List.map_nil, encSTree_eq]) ?_
    refine wR 1 105 ?_
    exact fI
    ) ?_
   refine CO.ret ?_
   have h8 := sI h8
   subst h8
   exact eG [(0, 0), (1, 1), (2, 2), (104, 100)] (.inr rfl) (RetV.one rfl (oT (t := 7) (r := .own 104)))
 intro hk9
 refine cU 3 101 (tl 22 [(3, .loc 1 0), (4, .loc 2 0), (6, .loc 100 0), (10, V.b (a0 == p0_0))]) [(100, .cells 68 [V.i a1.kind, V.i a1.op, V.s a1.text, V.s a1.other, .sl false false (a1.kids.map eST)]), (0, .cells 3 [V.i p0_0]), (1, .cells 3 [V.i p1_0]), (2, .cells 22 [.sl false false (p2_0.map (eSN false))])] ?_
 refine bC h (fun hc10 h => ?_) (fun hc10 h => ?_)
 ·refine iT hc10 ?_
  refine bB h fun r11 hx14 h => ?_
  refine bB h fun r12 hx15 h => ?_
  refine bB h fun r13 hx16 h => ?_
  refine CO.endR (tl 22 [(6, .loc 100 0)]) [(100, .cells 68 [V.i a1.kind, V.i a1.op, V.s a1.text, V.s a1.other, .own 103]), (103, .vec false 68 5 (r13.map eST)), (0, .cells 3 [V.i p0_0]), (1, .cells 3 [V.i p1_0]), (2, .cells 22 [.sl false false (p2_0.map (eSN false))])] mix (by
   refine wR 2 101 ?_
   refine W.call (m_slices_Clone_tree_ok a1.kids hx14) cok60 [] [(100, 101)] [101] (show LayOk _ [] from trivial) (by kernel_rfl) (by kernel_rfl) ?_
   refine wR 2 102 ?_
   refine W.call0 (mi_rootOf_ok N p2_0 hx15) cok45 rfl (by kernel_rfl) ?_
   refine W.layop Dk (show LayOk _ [] from trivial) (by kernel_rfl) 102 { v := .own 102, R := [], new := [(102, .vec true 68 5 [[V.i r12.kind, V.i r12.op, V.s r12.text, V.s r12.other, .sl false false (r12.kids.map eST)]])], N := [102] } (by kernel_rfl) ?_
   refine W.vecEq 102 (nn := true) (e := 68) (k := 5) (rows := [[V.i r12.kind, V.i r12.op, V.s r12.text, V.s r12.other, .sl false false (r12.kids.map eST)]]) (rows' := [r12].map eST) (by kernel_rfl) (by simp only [List.map_cons, List.map_nil, encSTree_eq]) ?_
   refine W.call (m_slices_Insert_tree_ok p1_0 r11 [r12] hx16) cok59 [(101, 0), (102, 1)] [(100, 103)] [103] (show LayOk _ [] from trivial) (by kernel_rfl) (by kernel_rfl) ?_
   refine wR 2 104 ?_
   exact fI
   ) (fun st hw => ?_)
  exact hk9 (a1, r13) h _ (hw.trans ((Weak.lay (LayOk.cons (j := 103) eST eST r13 (by kernel_rfl) (share_encSTree) (show LayOk _ [] from trivial)) (by kernel_rfl)).trans (wS [(100, 100), (0, 0), (1, 1), (2, 2)] [6])))
 refine iF hc10 ?_
 refine CO.skip ?_
 exact hk9 (a1, a1.kids) h _ (wS [(100, 100), (0, 0), (1, 1), (2, 2)] [6])

structure RecOk4 (R : Rec4) : Prop where
  mi_edited : ∀ (a0 : List SNode) (a1 : Int) (p0_0 : Int) (p1_0 : Int) (p2_0 : List SNode) (r : (List STree)), R.mi_edited a0 a1 p0_0 p1_0 p2_0 = some r → AC Tryz.prog (GS []) 93 [.sl false false (a0.map (eSN false)), V.i a1, .fn 58 [.loc 0 0, .loc 1 0, .loc 2 0]] [(0, .cells 3 [V.i p0_0]), (1, .cells 3 [V.i p1_0]), (2, .cells 22 [.sl false false (p2_0.map (eSN false))])] (.own 100) [(0, .cells 3 [V.i p0_0]), (1, .cells 3 [V.i p1_0]), (2, .cells 22 [.sl false false (p2_0.map (eSN false))]), (100, .vec false 68 5 (r.map eST))]

theorem mi_edited_F_ok (N : Nat) (R : Rec4) (HR : RecOk4 R) (a0 : List SNode) (a1 : Int) (p0_0 : Int) (p1_0 : Int) (p2_0 : List SNode) {r : (List STree)} (h : mi_edited_F N R a0 a1 p0_0 p1_0 p2_0 = some r) :
    AC Tryz.prog (GS []) 93 [.sl false false (a0.map (eSN false)), V.i a1, .fn 58 [.loc 0 0, .loc 1 0, .loc 2 0]] [(0, .cells 3 [V.i p0_0]), (1, .cells 3 [V.i p1_0]), (2, .cells 22 [.sl false false (p2_0.map (eSN false))])] (.own 100) [(0, .cells 3 [V.i p0_0]), (1, .cells 3 [V.i p1_0]), (2, .cells 22 [.sl false false (p2_0.map (eSN false))]), (100, .vec false 68 5 (r.map eST))] := by
 rw [mi_edited_F] at h
 refine AC.enter Tryz.func93 rfl ?_
 refine cU 1 100 (tl 44 [(0, .sl false false (a0.map (eSN false))), (1, V.i a1), (2, .fn 58 [.loc 0 0, .loc 1 0, .loc 2 0])]) [(0, .cells 3 [V.i p0_0]), (1, .cells 3 [V.i p1_0]), (2, .cells 22 [.sl false false (p2_0.map (eSN false))])] ?_
 refine bB h fun e2 hx2 h => ?_
 refine CO.cutR (tl 44 [(0, .sl false false (a0.map (eSN false))), (1, V.i a1), (2, .fn 58 [.loc 0 0, .loc 1 0, .loc 2 0]), (7, .loc 100 0)]) [(100, .cells 48 [V.i e2.Kind, V.i e2.Op, V.s e2.Text, V.s e2.Other, .sl false false (e2.Kids.map encI)]), (0, .cells 3 [V.i p0_0]), (1, .cells 3 [V.i p1_0]), (2, .cells 22 [.sl false false (p2_0.map (eSN false))])] mix (by
  refine wR 2 100 ?_
  refine W.ixD Dk (eSN false) hx2 5 (by kernel_rfl) (by kernel_rfl) ?_
  refine wR 3 100 ?_
  exact fI
  ) ?_
 refine cU 11 101 (tl 44 [(0, .sl false false (a0.map (eSN false))), (1, V.i a1), (2, .fn 58 [.loc 0 0, .loc 1 0, .loc 2 0]), (7, .loc 100 0), (8, .loc 101 0)]) [(101, .cells 68 [V.i e2.Kind, V.i e2.Op, V.s e2.Text, V.s e2.Other, .c (.slice none 0 0)]), (100, .cells 48 [V.i e2.Kind, V.i e2.Op, V.s e2.Text, V.s e2.Other, .sl false false (e2.Kids.map encI)]), (0, .cells 3 [V.i p0_0]), (1, .cells 3 [V.i p1_0]), (2, .cells 22 [.sl false false (p2_0.map (eSN false))])] ?_
 refine CO.seq' ?_
 refine CO.cutR (tl 44 [(0, .sl false false (a0.map (eSN false))), (1, V.i a1), (2, .fn 58 [.loc 0 0, .loc 1 0, .loc 2 0]), (8, .loc 101 0), (25, .sl false false (e2.Kids.map encI)), (26, V.i (e2.Kids.length : Int)), (27, V.i 0)]) [(101, .cells 68 [V.i e2.Kind, V.i e2.Op, V.s e2.Text, V.s e2.Other, .c (.slice none 0 0)]), (0, .cells 3 [V.i p0_0]), (1, .cells 3 [V.i p1_0]), (2, .cells 22 [.sl false false (p2_0.map (eSN false))])] mix (by
  refine wR 2 102 ?_
  refine W.len Dk encI e2.Kids [] (by kernel_rfl) (by kernel_rfl) ?_
  refine wR 1 102 ?_
  exact fI
  ) ?_
 refine CO.block' ?_
 refine CO.loopJ (fun (⟨a0, a1, e2, y63, y64⟩ : ((List SNode) × Int × SNode × Int × (List STree))) => ⟨tl 44 [(0, .sl false false (a0.map (eSN false))), (1, V.i a1), (2, .fn 58 [.loc 0 0, .loc 1 0, .loc 2 0]), (8, .loc 100 0), (25, .sl false false (e2.Kids.map encI)), (26, V.i (e2.Kids.length : Int)), (27, V.i y63)], [(0, .cells 3 [V.i p0_0]), (1, .cells 3 [V.i p1_0]), (2, .cells 22 [.sl false false (p2_0.map (eSN false))]), (100, .cells 68 [V.i e2.Kind, V.i e2.Op, V.s e2.Text, V.s e2.Other, .own 101]), (101, .vec false 68 5 (y64.map eST))]⟩) (fun n i => mi_edited_l1 N R p0_0 p1_0 p2_0 n i = some r) (n0 := N) (i0 := (a0, a1, e2, 0, [])) ((Weak.nilCell 101 4 102 68 5 (ety := 68) (cs := [V.i e2.Kind, V.i e2.Op, V.s e2.Text, V.s e2.Other, .c (.slice none 0 0)]) (by kernel_rfl) (by kernel_rfl) (by kernel_rfl)).trans (wS [(0, 0), (1, 1), (2, 2), (101, 100), (102, 101)] [0, 1, 2, 8, 25, 26, 27])) h (fun i h => by simp [mi_edited_l1] at h) ?_
 rintro n1 ⟨a0, a1, e2, y63, y64⟩ h83 ih84
 rw [mi_edited_l1] at h83
 refine cU 1 167 (tl 44 [(0, .sl false false (a0.map (eSN false))), (1, V.i a1), (2, .fn 58 [.loc 0 0, .loc 1 0, .loc 2 0]), (8, .loc 100 0), (25, .sl false false (e2.Kids.map encI)), (26, V.i (e2.Kids.length : Int)), (27, V.i y63), (28, V.b (decide (y63 < (e2.Kids.length : Int))))]) [(0, .cells 3 [V.i p0_0]), (1, .cells 3 [V.i p1_0]), (2, .cells 22 [.sl false false (p2_0.map (eSN false))]), (100, .cells 68 [V.i e2.Kind, V.i e2.Op, V.s e2.Text, V.s e2.Other, .own 101]), (101, .vec false 68 5 (y64.map eST))] ?_
 refine CO.seq' ?_
 refine bC h83 (fun hc86 h83 => ?_) (fun hc86 h83 => ?_)
 ·refine iT hc86 ?_
  refine CO.skip ?_
  refine CO.seq' ?_
  refine CO.block' ?_
  refine bB h83 fun e86 hx94 h83 => ?_
  refine CO.cutR (tl 44 [(0, .sl false false (a0.map (eSN false))), (1, V.i a1), (2, .fn 58 [.loc 0 0, .loc 1 0, .loc 2 0]), (8, .loc 100 0), (10, V.i e86), (25, .sl false false (e2.Kids.map encI)), (26, V.i (e2.Kids.length : Int)), (27, V.i y63)]) [(0, .cells 3 [V.i p0_0]), (1, .cells 3 [V.i p1_0]), (2, .cells 22 [.sl false false (p2_0.map (eSN false))]), (100, .cells 68 [V.i e2.Kind, V.i e2.Op, V.s e2.Text, V.s e2.Other, .own 101]), (101, .vec false 68 5 (y64.map eST))] mix (by
   refine W.ixD Dk encI hx94 1 (by kernel_rfl) (by kernel_rfl) ?_
   refine wR 2 167 ?_
   exact fI
   ) ?_
  refine bB h83 fun r89 hx97 h83 => ?_
  refine bB h83 fun x90 hx98 h83 => ?_
  refine CO.endR (tl 44 [(0, .sl false false (a0.map (eSN false))), (1, V.i a1), (2, .fn 58 [.loc 0 0, .loc 1 0, .loc 2 0]), (8, .loc 100 0), (25, .sl false false (e2.Kids.map encI)), (26, V.i (e2.Kids.length : Int)), (27, V.i y63)]) [(100, .cells 68 [V.i e2.Kind, V.i e2.Op, V.s e2.Text, V.s e2.Other, .own 168]), (168, .vec false 68 5 (x90.map eST)), (0, .cells 3 [V.i p0_0]), (1, .cells 3 [V.i p1_0]), (2, .cells 22 [.sl false false (p2_0.map (eSN false))])] mix (by
   refine wR 5 167 ?_
   refine W.call (HR.mi_edited a0 e86 p0_0 p1_0 p2_0 _ hx97) cok93 [(0, 0), (1, 1), (2, 2)] [(0, 0), (1, 1), (2, 2), (100, 167)] [167] (show LayOk _ [] from trivial) (by kernel_rfl) (by kernel_rfl) ?_
   refine W.appO Dk eST (a := 101) (c := 167) (el := 68) (sz := 5) 72 hx98 rfl 168 (by kernel_rfl) ?_
   refine wR 2 169 ?_
   exact fI
   ) (fun st hw => ?_)
  refine CO.weak hw ?_
  refine cE 2 169 (tl 44 [(0, .sl false false (a0.map (eSN false))), (1, V.i a1), (2, .fn 58 [.loc 0 0, .loc 1 0, .loc 2 0]), (8, .loc 100 0), (25, .sl false false (e2.Kids.map encI)), (26, V.i (e2.Kids.length : Int)), (27, V.i (IntKind.wrap .i64 (y63 + 1)))]) [(100, .cells 68 [V.i e2.Kind, V.i e2.Op, V.s e2.Text, V.s e2.Other, .own 168]), (168, .vec false 68 5 (x90.map eST)), (0, .cells 3 [V.i p0_0]), (1, .cells 3 [V.i p1_0]), (2, .cells 22 [.sl false false (p2_0.map (eSN false))])] (fun st hw => ?_)
  exact ih84 (a0, a1, e2, (IntKind.wrap .i64 (y63 + 1)), x90) h83 _ (hw.trans (wS [(0, 0), (1, 1), (2, 2), (100, 100), (168, 101)] [0, 1, 2, 8, 25, 26, 27]))
 refine iF hc86 ?_
 refine CO.exit ?_
 refine bB h83 fun r92 hx100 h83 => ?_
 refine CO.cutR (tl 44 [(6, .own 167)]) [(167, .vec false 68 5 (r92.map eST)), (0, .cells 3 [V.i p0_0]), (1, .cells 3 [V.i p1_0]), (2, .cells 22 [.sl false false (p2_0.map (eSN false))])] mix (by
  refine wR 3 167 ?_
  refine W.call (mi_Insert_1_ok N a1 (⟨e2.Kind, e2.Op, e2.Text, e2.Other, y64⟩ : STree) p0_0 p1_0 p2_0 hx100) cok58 [(0, 0), (1, 1), (2, 2)] [(0, 0), (1, 1), (2, 2), (100, 167)] [167] (LayOk.cons (j := 101) eST eST y64 (by kernel_rfl) (share_encSTree) (show LayOk _ [] from trivial)) (by kernel_rfl) (by kernel_rfl) ?_
  refine wR 1 168 ?_
  exact fI
  ) ?_
 refine CO.ret ?_
 have h83 := sI h83
 subst h83
 exact eG [(0, 0), (1, 1), (2, 2), (167, 100)] (.inr rfl) (RetV.one rfl (oT (t := 6) (r := .own 167)))

theorem scc4_ok : ∀ N, RecOk4 (scc4 N)
  | 0 => ⟨fun _ _ _ _ _ _ h => (by cases h)⟩
  | N + 1 => ⟨fun a0 a1 p0_0 p1_0 p2_0 _ h => mi_edited_F_ok N (scc4 N) (scc4_ok N) a0 a1 p0_0 p1_0 p2_0 h⟩

theorem mi_edited_ok (N : Nat) (a0 : List SNode) (a1 : Int) (p0_0 : Int) (p1_0 : Int) (p2_0 : List SNode) {r : (List STree)} (h : mi_edited N a0 a1 p0_0 p1_0 p2_0 = some r) :
    AC Tryz.prog (GS []) 93 [.sl false false (a0.map (eSN false)), V.i a1, .fn 58 [.loc 0 0, .loc 1 0, .loc 2 0]] [(0, .cells 3 [V.i p0_0]), (1, .cells 3 [V.i p1_0]), (2, .cells 22 [.sl false false (p2_0.map (eSN false))])] (.own 100) [(0, .cells 3 [V.i p0_0]), (1, .cells 3 [V.i p1_0]), (2, .cells 22 [.sl false false (p2_0.map (eSN false))]), (100, .vec false 68 5 (r.map eST))] :=
  (scc4_ok N).mi_edited a0 a1 p0_0 p1_0 p2_0 r h

structure RecOk5 (R : Rec5) : Prop where
  mi_tree__add : ∀ (a0 : STree) (p0 : List SNode) (r : (List SNode)), R.mi_tree__add a0 p0 = some r → AC Tryz.prog (GS []) 89 [.agg [V.i a0.kind, V.i a0.op, V.s a0.text, V.s a0.other, .sl false false (a0.kids.map eST)], .own 0] [(0, .vec false 48 5 (p0.map (eSN true)))] (.own 100) [(100, .vec false 48 5 (r.map (eSN true)))]

theorem mi_tree__add_F_ok (N : Nat) (R : Rec5) (HR : RecOk5 R) (a0 : STree) (p0 : List SNode) {r : (List SNode)} (h : mi_tree__add_F N R a0 p0 = some r) :
    AC Tryz.prog (GS []) 89 [.agg [V.i a0.kind, V.i a0.op, V.s a0.text, V.s a0.other, .sl false false (a0.kids.map eST)], .own 0] [(0, .vec false 48 5 (p0.map (eSN true)))] (.own 100) [(100, .vec false 48 5 (r.map (eSN true)))] := by
 rw [mi_tree__add_F] at h
 refine AC.enter Tryz.func89 rfl ?_
 refine cU 2 100 (tl 40 [(1, .own 0), (2, .loc 100 0)]) [(100, .cells 68 [V.i a0.kind, V.i a0.op, V.s a0.text, V.s a0.other, .sl false false (a0.kids.map eST)]), (0, .vec false 48 5 (p0.map (eSN true)))] ?_
 refine cU 11 101 (tl 40 [(1, .own 0), (2, .loc 100 0), (5, .loc 101 0)]) [(101, .cells 48 [V.i a0.kind, V.i a0.op, V.s a0.text, V.s a0.other, .c (.slice none 0 0)]), (100, .cells 68 [V.i a0.kind, V.i a0.op, V.s a0.text, V.s a0.other, .sl false false (a0.kids.map eST)]), (0, .vec false 48 5 (p0.map (eSN true)))] ?_
 refine CO.seq' ?_
 refine CO.cutR (tl 40 [(1, .own 0), (5, .loc 101 0), (18, .sl false false (a0.kids.map eST)), (19, V.i (a0.kids.length : Int)), (20, V.i 0)]) [(101, .cells 48 [V.i a0.kind, V.i a0.op, V.s a0.text, V.s a0.other, .c (.slice none 0 0)]), (0, .vec false 48 5 (p0.map (eSN true)))] mix (by
  refine wR 2 102 ?_
  refine W.len Dk eST a0.kids [] (by kernel_rfl) (by kernel_rfl) ?_
  refine wR 1 102 ?_
  exact fI
  ) ?_
 refine CO.block' ?_
 refine CO.loopJ (fun (⟨a0, y59, y60, y61⟩ : (STree × Int × (List SNode) × (List Int))) => ⟨tl 40 [(1, .own 100), (5, .loc 101 0), (18, .sl false false (a0.kids.map eST)), (19, V.i (a0.kids.length : Int)), (20, V.i y59)], [(100, .vec false 48 5 (y60.map (eSN true))), (101, .cells 48 [V.i a0.kind, V.i a0.op, V.s a0.text, V.s a0.other, .own 102]), (102, .vec false 3 1 (y61.map encI))]⟩) (fun n i => mi_tree__add_l1 N R n i = some r) (n0 := N) (i0 := (a0, 0, p0, [])) ((Weak.nilCell 101 4 102 3 1 (ety := 48) (cs := [V.i a0.kind, V.i a0.op, V.s a0.text, V.s a0.other, .c (.slice none 0 0)]) (by kernel_rfl) (by kernel_rfl) (by kernel_rfl)).trans (wS [(0, 100), (101, 101), (102, 102)] [1, 5, 18, 19, 20])) h (fun i h => by simp [mi_tree__add_l1] at h) ?_
 rintro n1 ⟨a0, y59, y60, y61⟩ h77 ih78
 rw [mi_tree__add_l1] at h77
 refine cU 1 171 (tl 40 [(1, .own 100), (5, .loc 101 0), (18, .sl false false (a0.kids.map eST)), (19, V.i (a0.kids.length : Int)), (20, V.i y59), (21, V.b (decide (y59 < (a0.kids.length : Int))))]) [(100, .vec false 48 5 (y60.map (eSN true))), (101, .cells 48 [V.i a0.kind, V.i a0.op, V.s a0.text, V.s a0.other, .own 102]), (102, .vec false 3 1 (y61.map encI))] ?_
 refine CO.seq' ?_
 refine bC h77 (fun hc80 h77 => ?_) (fun hc80 h77 => ?_)
 ·refine iT hc80 ?_
  refine CO.skip ?_
  refine CO.seq' ?_
  refine CO.block' ?_
  refine bB h77 fun e84 hx88 h77 => ?_
  refine CO.cutR (tl 40 [(1, .own 100), (5, .loc 101 0), (7, .loc 171 0), (18, .sl false false (a0.kids.map eST)), (19, V.i (a0.kids.length : Int)), (20, V.i y59)]) [(171, .cells 68 [V.i e84.kind, V.i e84.op, V.s e84.text, V.s e84.other, .sl false false (e84.kids.map eST)]), (100, .vec false 48 5 (y60.map (eSN true))), (101, .cells 48 [V.i a0.kind, V.i a0.op, V.s a0.text, V.s a0.other, .own 102]), (102, .vec false 3 1 (y61.map encI))] mix (by
   refine W.ixDr Dk eST hx88 5 (by kernel_rfl) (encSTree_eq e84) (by kernel_rfl) ?_
   refine wR 3 171 ?_
   exact fI
   ) ?_
  refine bB h77 fun r86 hx90 h77 => ?_
  refine CO.cutR (tl 40 [(1, .own 172), (5, .loc 101 0), (18, .sl false false (a0.kids.map eST)), (19, V.i (a0.kids.length : Int)), (20, V.i y59)]) [(172, .vec false 48 5 (r86.map (eSN true))), (101, .cells 48 [V.i a0.kind, V.i a0.op, V.s a0.text, V.s a0.other, .own 102]), (102, .vec false 3 1 (y61.map encI))] mix (by
   refine wR 2 172 ?_
   refine W.call (HR.mi_tree__add e84 y60 _ hx90) cok89 [(100, 0)] [(100, 172)] [172] (show LayOk _ [] from trivial) (by kernel_rfl) (by kernel_rfl) ?_
   refine wR 1 173 ?_
   exact fI
   ) ?_
  refine bB h77 fun x88 hx92 h77 => ?_
  refine CO.endR (tl 40 [(1, .own 172), (5, .loc 101 0), (18, .sl false false (a0.kids.map eST)), (19, V.i (a0.kids.length : Int)), (20, V.i y59)]) [(101, .cells 48 [V.i a0.kind, V.i a0.op, V.s a0.text, V.s a0.other, .own 174]), (174, .vec false 3 1 (x88.map encI)), (172, .vec false 48 5 (r86.map (eSN true)))] mix (by
   refine wR 3 173 ?_
   refine W.len Dk (eSN true) r86 [172] (by kernel_rfl) (by kernel_rfl) ?_
   refine wR 2 173 ?_
   refine W.appO Dk encI (a := 102) (c := 173) (el := 3) (sz := 1) 8 hx92 rfl 174 (by kernel_rfl) ?_
   refine wR 2 175 ?_
   exact fI
   ) (fun st hw => ?_)
  refine CO.weak hw ?_
  refine cE 2 175 (tl 40 [(1, .own 172), (5, .loc 101 0), (18, .sl false false (a0.kids.map eST)), (19, V.i (a0.kids.length : Int)), (20, V.i (IntKind.wrap .i64 (y59 + 1)))]) [(101, .cells 48 [V.i a0.kind, V.i a0.op, V.s a0.text, V.s a0.other, .own 174]), (174, .vec false 3 1 (x88.map encI)), (172, .vec false 48 5 (r86.map (eSN true)))] (fun st hw => ?_)
  exact ih78 (a0, (IntKind.wrap .i64 (y59 + 1)), r86, x88) h77 _ (hw.trans (wS [(172, 100), (101, 101), (174, 102)] [1, 5, 18, 19, 20]))
 refine iF hc80 ?_
 refine CO.exit ?_
 refine bB h77 fun x90 hx94 h77 => ?_
 refine CO.cutR (tl 40 [(4, .own 172)]) [(172, .vec false 48 5 (x90.map (eSN true)))] mix (by
  refine wR 3 171 ?_
  refine W.appO Dk (eSN true) (a := 100) (c := 171) (el := 48) (sz := 5) 72 hx94 rfl 172 (by kernel_rfl) ?_
  refine wR 1 173 ?_
  exact fI
  ) ?_
 refine CO.ret ?_
 have h77 := sI h77
 subst h77
 exact eG [(172, 100)] (.inr rfl) (RetV.one rfl (oT (t := 4) (r := .own 172)))

theorem scc5_ok : ∀ N, RecOk5 (scc5 N)
  | 0 => ⟨fun _ _ _ h => (by cases h)⟩
  | N + 1 => ⟨fun a0 p0 _ h => mi_tree__add_F_ok N (scc5 N) (scc5_ok N) a0 p0 h⟩

theorem mi_tree__add_ok (N : Nat) (a0 : STree) (p0 : List SNode) {r : (List SNode)} (h : mi_tree__add N a0 p0 = some r) :
    AC Tryz.prog (GS []) 89 [.agg [V.i a0.kind, V.i a0.op, V.s a0.text, V.s a0.other, .sl false false (a0.kids.map eST)], .own 0] [(0, .vec false 48 5 (p0.map (eSN true)))] (.own 100) [(100, .vec false 48 5 (r.map (eSN true)))] :=
  (scc5_ok N).mi_tree__add a0 p0 r h

theorem mi_tree__list_ok (N : Nat) (a0 : STree) {r : (List SNode)} (h : mi_tree__list N a0 = some r) :
    AC Tryz.prog (GS []) 49 [.agg [V.i a0.kind, V.i a0.op, V.s a0.text, V.s a0.other, .sl false false (a0.kids.map eST)]] [] (.own 100) [(100, .vec false 48 5 (r.map (eSN true)))] := by
 rw [mi_tree__list] at h
 refine AC.enter Tryz.func49 rfl ?_
 refine cU 2 100 (tl 5 [(1, .loc 100 0)]) [(100, .cells 68 [V.i a0.kind, V.i a0.op, V.s a0.text, V.s a0.other, .sl false false (a0.kids.map eST)])] ?_
 refine bB h fun r2 hx2 h => ?_
 refine CO.cutR (tl 5 [(2, .own 101)]) [(101, .vec false 48 5 (r2.map (eSN true)))] mix (by
  refine wR 1 101 ?_
  refine W.callK (AC.nilArg 1 0 48 5 (mi_tree__add_ok N a0 [] hx2) (by kernel_rfl) (by kernel_rfl) (by kernel_rfl) (by kernel_rfl) rfl) cok89 [] [(100, 101)] [1] [101] (show LayOk _ [] from trivial) (by kernel_rfl) (by kernel_rfl) ?_
  refine wR 1 102 ?_
  exact fI
  ) ?_
 refine CO.ret ?_
 have h := sI h
 subst h
 exact eG [(101, 100)] (.inr rfl) (RetV.one rfl (oT (t := 2) (r := .own 101)))

theorem mi_edit_ok (N : Nat) (a0 : List SNode) (a1 : Int) (p0_0 : Int) (p1_0 : Int) (p2_0 : List SNode) {r : ((List SNode) × Bool)} (h : mi_edit N a0 a1 p0_0 p1_0 p2_0 = some r) :
    AC Tryz.prog (GS [0, 1, 2]) 57 [.sl false false (a0.map (eSN false)), V.i a1, .fn 58 [.loc 0 0, .loc 1 0, .loc 2 0]] [(0, .cells 3 [V.i p0_0]), (1, .cells 3 [V.i p1_0]), (2, .cells 22 [.sl false false (p2_0.map (eSN false))])] (.tup [.own 100, V.b r.2]) [(0, .cells 3 [V.i p0_0]), (1, .cells 3 [V.i p1_0]), (2, .cells 22 [.sl false false (p2_0.map (eSN false))]), (100, .vec false 48 5 (r.1.map (eSN true)))] := by
 rw [mi_edit] at h
 refine AC.enter Tryz.func57 rfl ?_
 refine cU 2 100 (tl 44 [(0, .sl false false (a0.map (eSN false))), (1, V.i a1), (2, .fn 58 [.loc 0 0, .loc 1 0, .loc 2 0])]) [(0, .cells 3 [V.i p0_0]), (1, .cells 3 [V.i p1_0]), (2, .cells 22 [.sl false false (p2_0.map (eSN false))])] ?_
 refine CO.seq' ?_
 refine bB h fun y10 hv14 h => ?_
 refine CO.cutR (tl 44 [(0, .sl false false (a0.map (eSN false))), (2, .fn 58 [.loc 0 0, .loc 1 0, .loc 2 0]), (20, V.b y10)]) [(0, .cells 3 [V.i p0_0]), (1, .cells 3 [V.i p1_0]), (2, .cells 22 [.sl false false (p2_0.map (eSN false))])] mix (by
  refine wR 1 100 ?_
  refine bB hv14 fun r11 hx15 hv14 => ?_
  refine W.call0 (mi_TreeOk_ok N a0 hx15) cok36 rfl (by kernel_rfl) ?_
  refine wR 2 100 ?_
  refine bC hv14 (fun hc16 hv14 => ?_) (fun hc16 hv14 => ?_)
  ·refine wI 13 hc16 ?_
   refine wR 7 100 ?_
   have hv14 := sI hv14
   subst hv14
   exact fS [(0, 0), (1, 1), (2, 2)] [0, 2, 20]
  refine wI 13 hc16 ?_
  refine wR 2 100 ?_
  refine W.len Dk (eSN false) a0 [] (by kernel_rfl) (by kernel_rfl) ?_
  refine wR 1 100 ?_
  refine bB hv14 fun r12 hx17 hv14 => ?_
  refine W.call0 (AC.gs (mi_within_ok a1 0 (IntKind.wrap .i64 ((a0.length : Int) - 1)) hx17) (by decide)) cok55 rfl (by kernel_rfl) ?_
  refine wR 2 100 ?_
  have hv14 := sI hv14
  subst hv14
  exact fS [(0, 0), (1, 1), (2, 2)] [0, 2, 20]
  ) ?_
 refine bC h (fun hc18 h => ?_) (fun hc18 h => ?_)
 ·refine iT hc18 ?_
  refine bB h fun r14 hx20 h => ?_
  refine CO.cutR (tl 44 [(6, .own 100), (7, V.b false)]) [(100, .vec false 48 5 (r14.map (eSN true))), (0, .cells 3 [V.i p0_0]), (1, .cells 3 [V.i p1_0]), (2, .cells 22 [.sl false false (p2_0.map (eSN false))])] mix (by
   refine wR 1 100 ?_
   refine W.call (AC.gs (mi_copyNodes_ok N a0 hx20) (by decide)) cok56 [] [(100, 100)] [100] (show LayOk _ [] from trivial) (by kernel_rfl) (by kernel_rfl) ?_
   refine wR 2 101 ?_
   exact fI
   ) ?_
  refine CO.ret ?_
  have h := sI h
  subst h
  exact eG [(0, 0), (1, 1), (2, 2), (100, 100)] (.inr rfl) (RetV.two rfl (oT (t := 6) (r := .own 100)) (oT (t := 7) (r := V.b false)))
 refine iF hc18 ?_
 refine CO.skip ?_
 refine bB h fun r16 hx22 h => ?_
 refine CO.cutR (tl 44 [(0, .sl false false (a0.map (eSN false))), (8, .own 100)]) [(100, .vec false 68 5 (r16.map eST)), (0, .cells 3 [V.i p0_0]), (1, .cells 3 [V.i p1_0]), (2, .cells 22 [.sl false false (p2_0.map (eSN false))])] mix (by
  refine wR 2 100 ?_
  refine W.len Dk (eSN false) a0 [] (by kernel_rfl) (by kernel_rfl) ?_
  refine wR 2 100 ?_
  refine W.call (AC.gs (mi_edited_ok N a0 (IntKind.wrap .i64 ((a0.length : Int) - 1)) p0_0 p1_0 p2_0 hx22) (by decide)) cok93 [(0, 0), (1, 1), (2, 2)] [(0, 0), (1, 1), (2, 2), (100, 100)] [100] (show LayOk _ [] from trivial) (by kernel_rfl) (by kernel_rfl) ?_
  refine wR 1 101 ?_
  exact fI
  ) ?_
 refine CO.seq' ?_
 refine CO.cutR (tl 44 [(0, .sl false false (a0.map (eSN false))), (8, .own 100), (31, V.b ((r16.length : Int) != 1))]) [(100, .vec false 68 5 (r16.map eST)), (0, .cells 3 [V.i p0_0]), (1, .cells 3 [V.i p1_0]), (2, .cells 22 [.sl false false (p2_0.map (eSN false))])] mix (by
  refine wR 1 101 ?_
  refine W.len Dk eST r16 [100] (by kernel_rfl) (by kernel_rfl) ?_
  refine wR 1 101 ?_
  exact fI
  ) ?_
 refine bC h (fun hc26 h => ?_) (fun hc26 h => ?_)
 ·refine iT hc26 ?_
  refine bB h fun r20 hx28 h => ?_
  refine CO.cutR (tl 44 [(6, .own 101), (7, V.b false)]) [(101, .vec false 48 5 (r20.map (eSN true))), (0, .cells 3 [V.i p0_0]), (1, .cells 3 [V.i p1_0]), (2, .cells 22 [.sl false false (p2_0.map (eSN false))])] mix (by
   refine wR 1 101 ?_
   refine W.call (AC.gs (mi_copyNodes_ok N a0 hx28) (by decide)) cok56 [] [(100, 101)] [101] (show LayOk _ [] from trivial) (by kernel_rfl) (by kernel_rfl) ?_
   refine wR 2 102 ?_
   exact fI
   ) ?_
  refine CO.ret ?_
  have h := sI h
  subst h
  exact eG [(0, 0), (1, 1), (2, 2), (101, 100)] (.inr rfl) (RetV.two rfl (oT (t := 6) (r := .own 101)) (oT (t := 7) (r := V.b false)))
 refine iF hc26 ?_
 refine CO.skip ?_
 refine CO.lay (tl 44 [(0, .sl false false (a0.map (eSN false))), (8, .sl false false (r16.map eST)), (31, V.b ((r16.length : Int) != 1))]) [(0, .cells 3 [V.i p0_0]), (1, .cells 3 [V.i p1_0]), (2, .cells 22 [.sl false false (p2_0.map (eSN false))])] (LayOk.cons (j := 100) eST eST r16 (by kernel_rfl) (share_encSTree) (show LayOk _ [] from trivial)) (by kernel_rfl) (by kernel_rfl) (by kernel_rfl) ?_
 refine bB h fun e25 hx33 h => ?_
 refine bB h fun r26 hx34 h => ?_
 refine CO.cutR (tl 44 [(0, .sl false false (a0.map (eSN false))), (9, .own 101)]) [(101, .vec false 48 5 (r26.map (eSN true))), (0, .cells 3 [V.i p0_0]), (1, .cells 3 [V.i p1_0]), (2, .cells 22 [.sl false false (p2_0.map (eSN false))])] mix (by
  refine wR 1 101 ?_
  refine W.ixDr Dk eST hx33 5 (by kernel_rfl) (encSTree_eq e25) (by kernel_rfl) ?_
  refine wR 1 101 ?_
  refine W.call (AC.gs (mi_tree__list_ok N e25 hx34) (by decide)) cok49 [] [(100, 101)] [101] (show LayOk _ [] from trivial) (by kernel_rfl) (by kernel_rfl) ?_
  refine wR 1 102 ?_
  exact fI
  ) ?_
 refine CO.seq' ?_
 refine bB h fun r32 hx41 h => ?_
 refine CO.cutR (tl 44 [(0, .sl false false (a0.map (eSN false))), (9, .own 101), (40, V.b (!r32))]) [(101, .vec false 48 5 (r26.map (eSN true))), (0, .cells 3 [V.i p0_0]), (1, .cells 3 [V.i p1_0]), (2, .cells 22 [.sl false false (p2_0.map (eSN false))])] mix (by
  refine wR 1 102 ?_
  refine W.lend (mi_TreeOk_ok N r26 hx41) cok36 [] [] (LayOk.cons (j := 101) (eSN true) (eSN false) r26 (by kernel_rfl) (sh_eSN _) (show LayOk _ [] from trivial)) (.c _) .nil (by kernel_rfl) (by kernel_rfl) ?_
  refine wR 1 102 ?_
  exact fI
  ) ?_
 refine bC h (fun hc42 h => ?_) (fun hc42 h => ?_)
 ·refine iT hc42 ?_
  refine bB h fun r34 hx44 h => ?_
  refine CO.cutR (tl 44 [(6, .own 102), (7, V.b false)]) [(102, .vec false 48 5 (r34.map (eSN true))), (0, .cells 3 [V.i p0_0]), (1, .cells 3 [V.i p1_0]), (2, .cells 22 [.sl false false (p2_0.map (eSN false))])] mix (by
   refine wR 1 102 ?_
   refine W.call (AC.gs (mi_copyNodes_ok N a0 hx44) (by decide)) cok56 [] [(100, 102)] [102] (show LayOk _ [] from trivial) (by kernel_rfl) (by kernel_rfl) ?_
   refine wR 2 103 ?_
   exact fI
   ) ?_
  refine CO.ret ?_
  have h := sI h
  subst h
  exact eG [(0, 0), (1, 1), (2, 2), (102, 100)] (.inr rfl) (RetV.two rfl (oT (t := 6) (r := .own 102)) (oT (t := 7) (r := V.b false)))
 refine iF hc42 ?_
 refine CO.skip ?_
 refine cU 3 102 (tl 44 [(6, .own 101), (7, V.b true)]) [(101, .vec false 48 5 (r26.map (eSN true))), (0, .cells 3 [V.i p0_0]), (1, .cells 3 [V.i p1_0]), (2, .cells 22 [.sl false false (p2_0.map (eSN false))])] ?_
 refine CO.ret ?_
 have h := sI h
 subst h
 exact eG [(0, 0), (1, 1), (2, 2), (101, 100)] (.inr rfl) (RetV.two rfl (oT (t := 6) (r := .own 101)) (oT (t := 7) (r := V.b true)))

theorem mi_Insert_ok (N : Nat) (a0 : List SNode) (a1 : Int) (a2 : Int) (a3 : List SNode) {r : ((List SNode) × Bool)} (h : mi_Insert N a0 a1 a2 a3 = some r) :
    AC Tryz.prog (GS [0, 1, 2]) 26 [.sl false false (a0.map (eSN false)), V.i a1, V.i a2, .sl false false (a3.map (eSN false))] [] (.tup [.own 100, V.b r.2]) [(100, .vec false 48 5 (r.1.map (eSN true)))] := by
 rw [mi_Insert] at h
 refine AC.enter Tryz.func26 rfl ?_
 refine cU 5 100 (tl 40 [(0, .sl false false (a0.map (eSN false))), (5, .loc 100 0), (6, .loc 101 0), (7, .loc 102 0)]) [(102, .cells 22 [.sl false false (a3.map (eSN false))]), (101, .cells 3 [V.i a2]), (100, .cells 3 [V.i a1])] ?_
 refine CO.seq' ?_
 refine bB h fun y16 hv23 h => ?_
 refine CO.cutR (tl 40 [(0, .sl false false (a0.map (eSN false))), (5, .loc 100 0), (6, .loc 101 0), (7, .loc 102 0), (31, V.b y16)]) [(100, .cells 3 [V.i a1]), (101, .cells 3 [V.i a2]), (102, .cells 22 [.sl false false (a3.map (eSN false))])] mix (by
  refine wR 1 103 ?_
  refine bB hv23 fun r17 hx24 hv23 => ?_
  refine W.call0 (mi_TreeOk_ok N a3 hx24) cok36 rfl (by kernel_rfl) ?_
  refine wR 2 103 ?_
  refine bC hv23 (fun hc25 hv23 => ?_) (fun hc25 hv23 => ?_)
  ·refine wI 13 hc25 ?_
   refine wR 18 103 ?_
   have hv23 := sI hv23
   subst hv23
   exact fS [(100, 100), (101, 101), (102, 102)] [0, 5, 6, 7, 31]
  refine wI 13 hc25 ?_
  refine wR 2 103 ?_
  refine W.len Dk (eSN false) a0 [] (by kernel_rfl) (by kernel_rfl) ?_
  refine wR 1 103 ?_
  refine bB hv23 fun r18 hx26 hv23 => ?_
  refine W.call0 (AC.gs (mi_within_ok a1 0 (IntKind.wrap .i64 ((a0.length : Int) - 1)) hx26) (by decide)) cok55 rfl (by kernel_rfl) ?_
  refine wR 3 103 ?_
  refine bC hv23 (fun hc27 hv23 => ?_) (fun hc27 hv23 => ?_)
  ·refine wI 21 hc27 ?_
   refine wR 10 103 ?_
   have hv23 := sI hv23
   subst hv23
   exact fS [(100, 100), (101, 101), (102, 102)] [0, 5, 6, 7, 31]
  refine wI 21 hc27 ?_
  refine wR 3 103 ?_
  refine bB hv23 fun e19 hx28 hv23 => ?_
  refine W.ixD Dk (eSN false) hx28 5 (by kernel_rfl) (by kernel_rfl) ?_
  refine wR 2 103 ?_
  refine W.len Dk encI e19.Kids [] (by kernel_rfl) (by kernel_rfl) ?_
  refine bB hv23 fun r20 hx29 hv23 => ?_
  refine W.call0 (AC.gs (mi_within_ok a2 0 (e19.Kids.length : Int) hx29) (by decide)) cok55 rfl (by kernel_rfl) ?_
  refine wR 2 103 ?_
  have hv23 := sI hv23
  subst hv23
  exact fS [(100, 100), (101, 101), (102, 102)] [0, 5, 6, 7, 31]
  ) ?_
 refine bC h (fun hc30 h => ?_) (fun hc30 h => ?_)
 ·refine iT hc30 ?_
  refine bB h fun r22 hx32 h => ?_
  refine CO.cutR (tl 40 [(8, .own 103), (9, V.b false)]) [(103, .vec false 48 5 (r22.map (eSN true)))] mix (by
   refine wR 1 103 ?_
   refine W.call (AC.gs (mi_copyNodes_ok N a0 hx32) (by decide)) cok56 [] [(100, 103)] [103] (show LayOk _ [] from trivial) (by kernel_rfl) (by kernel_rfl) ?_
   refine wR 2 104 ?_
   exact fI
   ) ?_
  refine CO.ret ?_
  have h := sI h
  subst h
  exact eG [(103, 100)] (.inr rfl) (RetV.two rfl (oT (t := 8) (r := .own 103)) (oT (t := 9) (r := V.b false)))
 refine iF hc30 ?_
 refine CO.skip ?_
 refine bB h fun r24 hx34 h => ?_
 refine CO.cutR (tl 40 [(8, .own 103), (9, V.b r24.2)]) [(103, .vec false 48 5 (r24.1.map (eSN true)))] mix (by
  refine wR 3 103 ?_
  refine W.call (mi_edit_ok N a0 a1 a1 a2 a3 hx34) cok57 [(100, 0), (101, 1), (102, 2)] [(0, 100), (1, 101), (2, 102), (100, 103)] [103] (show LayOk _ [] from trivial) (by kernel_rfl) (by kernel_rfl) ?_
  refine wR 4 104 ?_
  exact fI
  ) ?_
 refine CO.ret ?_
 have h := sI h
 subst h
 exact eG [(103, 100)] (.inr rfl) (RetV.two rfl (oT (t := 8) (r := .own 103)) (oT (t := 9) (r := V.b r24.2)))

theorem ml_eqIntS_ok (N : Nat) (a0 : List Int) (a1 : List Int) {r : Bool} (h : ml_eqIntS N a0 a1 = some r) :
    AC Tryz.prog (GS []) 17 [.sl false false (a0.map encI), .sl false false (a1.map encI)] [] (V.b r) [] := by
 rw [ml_eqIntS] at h
 refine AC.enter Tryz.func17 rfl ?_
 refine cU 1 100 (tl 26 [(0, .sl false false (a0.map encI)), (1, .sl false false (a1.map encI))]) [] ?_
 refine CO.seq' ?_
 refine CO.cutR (tl 26 [(0, .sl false false (a0.map encI)), (1, .sl false false (a1.map encI)), (10, V.b ((a0.length : Int) != (a1.length : Int)))]) [] mix (by
  refine wR 1 100 ?_
  refine W.len Dk encI a0 [] (by kernel_rfl) (by kernel_rfl) ?_
  refine wR 1 100 ?_
  refine W.len Dk encI a1 [] (by kernel_rfl) (by kernel_rfl) ?_
  refine wR 1 100 ?_
  exact fI
  ) ?_
 refine bC h (fun hc2 h => ?_) (fun hc2 h => ?_)
 ·refine iT hc2 ?_
  refine cU 1 100 (tl 26 [(4, V.b false)]) [] ?_
  refine CO.ret ?_
  have h := sI h
  subst h
  exact eG [] (.inr rfl) (RetV.one rfl (oT (t := 4) (r := V.b false)))
 refine iF hc2 ?_
 refine CO.skip ?_
 refine CO.seq' ?_
 refine cU 1 100 (tl 26 [(0, .sl false false (a0.map encI)), (1, .sl false false (a1.map encI)), (5, V.i 0)]) [] ?_
 refine CO.block' ?_
 refine CO.loopJ (fun (⟨a0, a1, y35⟩ : ((List Int) × (List Int) × Int)) => ⟨tl 26 [(0, .sl false false (a0.map encI)), (1, .sl false false (a1.map encI)), (5, V.i y35)], []⟩) (fun n i => ml_eqIntS_l1 N n i = some r) (n0 := N) (i0 := (a0, a1, 0)) (wS [] [0, 1, 5]) h (fun i h => by simp [ml_eqIntS_l1] at h) ?_
 rintro n1 ⟨a0, a1, y35⟩ h65 ih66
 rw [ml_eqIntS_l1] at h65
 refine CO.seq' ?_
 refine CO.cutR (tl 26 [(0, .sl false false (a0.map encI)), (1, .sl false false (a1.map encI)), (5, V.i y35), (14, V.b (decide (y35 < (a0.length : Int))))]) [] mix (by
  refine wR 2 160 ?_
  refine W.len Dk encI a0 [] (by kernel_rfl) (by kernel_rfl) ?_
  refine wR 1 160 ?_
  exact fI
  ) ?_
 refine bC h65 (fun hc68 h65 => ?_) (fun hc68 h65 => ?_)
 ·refine iT hc68 ?_
  refine CO.skip ?_
  refine CO.seq' ?_
  refine CO.block' ?_
  refine bB h65 fun e51 hx76 h65 => ?_
  refine bB h65 fun e52 hx77 h65 => ?_
  refine CO.cutR (tl 26 [(0, .sl false false (a0.map encI)), (1, .sl false false (a1.map encI)), (5, V.i y35), (25, V.b (e51 != e52))]) [] mix (by
   refine wR 2 160 ?_
   refine W.ixD Dk encI hx76 1 (by kernel_rfl) (by kernel_rfl) ?_
   refine wR 3 160 ?_
   refine W.ixD Dk encI hx77 1 (by kernel_rfl) (by kernel_rfl) ?_
   refine wR 2 160 ?_
   exact fI
   ) ?_
  refine bC h65 (fun hc78 h65 => ?_) (fun hc78 h65 => ?_)
  ·refine iT hc78 ?_
   refine cU 1 160 (tl 26 [(4, V.b false)]) [] ?_
   refine CO.ret ?_
   have h65 := sI h65
   subst h65
   exact eG [] (.inr rfl) (RetV.one rfl (oT (t := 4) (r := V.b false)))
  refine iF hc78 ?_
  refine CO.skip ?_
  refine cE 3 160 (tl 26 [(0, .sl false false (a0.map encI)), (1, .sl false false (a1.map encI)), (5, V.i (IntKind.wrap .i64 (y35 + 1)))]) [] (fun st hw => ?_)
  exact ih66 (a0, a1, (IntKind.wrap .i64 (y35 + 1))) h65 _ (hw.trans (wS [] [0, 1, 5]))
 refine iF hc68 ?_
 refine CO.exit ?_
 refine cU 1 160 (tl 26 [(4, V.b true)]) [] ?_
 refine CO.ret ?_
 have h65 := sI h65
 subst h65
 exact eG [] (.inr rfl) (RetV.one rfl (oT (t := 4) (r := V.b true)))

theorem ml_eqNode_ok (N : Nat) (a0 : SNode) (a1 : SNode) {r : Bool} (h : ml_eqNode N a0 a1 = some r) :
    AC Tryz.prog (GS []) 38 [.agg [V.i a0.Kind, V.i a0.Op, V.s a0.Text, V.s a0.Other, .sl false false (a0.Kids.map encI)], .agg [V.i a1.Kind, V.i a1.Op, V.s a1.Text, V.s a1.Other, .sl false false (a1.Kids.map encI)]] [] (V.b r) [] := by
 rw [ml_eqNode] at h
 refine AC.enter Tryz.func38 rfl ?_
 refine cU 3 100 (tl 31 [(2, .loc 100 0), (3, .loc 101 0)]) [(101, .cells 48 [V.i a1.Kind, V.i a1.Op, V.s a1.Text, V.s a1.Other, .sl false false (a1.Kids.map encI)]), (100, .cells 48 [V.i a0.Kind, V.i a0.Op, V.s a0.Text, V.s a0.Other, .sl false false (a0.Kids.map encI)])] ?_
 refine CO.seq' ?_
 refine cU 5 102 (tl 31 [(2, .loc 100 0), (3, .loc 101 0), (9, V.b (a0.Kind != a1.Kind))]) [(101, .cells 48 [V.i a1.Kind, V.i a1.Op, V.s a1.Text, V.s a1.Other, .sl false false (a1.Kids.map encI)]), (100, .cells 48 [V.i a0.Kind, V.i a0.Op, V.s a0.Text, V.s a0.Other, .sl false false (a0.Kids.map encI)])] ?_
 refine bC h (fun hc2 h => ?_) (fun hc2 h => ?_)
 ·refine iT hc2 ?_
  refine cU 1 102 (tl 31 [(4, V.b false)]) [] ?_
  refine CO.ret ?_
  have h := sI h
  subst h
  exact eG [] (.inr rfl) (RetV.one rfl (oT (t := 4) (r := V.b false)))
 refine iF hc2 ?_
 refine CO.skip ?_
 refine CO.seq' ?_
 refine cU 5 102 (tl 31 [(2, .loc 100 0), (3, .loc 101 0), (14, V.b (a0.Op != a1.Op))]) [(101, .cells 48 [V.i a1.Kind, V.i a1.Op, V.s a1.Text, V.s a1.Other, .sl false false (a1.Kids.map encI)]), (100, .cells 48 [V.i a0.Kind, V.i a0.Op, V.s a0.Text, V.s a0.Other, .sl false false (a0.Kids.map encI)])] ?_
 refine bC h (fun hc4 h => ?_) (fun hc4 h => ?_)
 ·refine iT hc4 ?_
  refine cU 1 102 (tl 31 [(4, V.b false)]) [] ?_
  refine CO.ret ?_
  have h := sI h
  subst h
  exact eG [] (.inr rfl) (RetV.one rfl (oT (t := 4) (r := V.b false)))
 refine iF hc4 ?_
 refine CO.skip ?_
 refine CO.seq' ?_
 refine cU 5 102 (tl 31 [(2, .loc 100 0), (3, .loc 101 0), (19, V.b (!(a0.Text == a1.Text)))]) [(101, .cells 48 [V.i a1.Kind, V.i a1.Op, V.s a1.Text, V.s a1.Other, .sl false false (a1.Kids.map encI)]), (100, .cells 48 [V.i a0.Kind, V.i a0.Op, V.s a0.Text, V.s a0.Other, .sl false false (a0.Kids.map encI)])] ?_
 refine bC h (fun hc6 h => ?_) (fun hc6 h => ?_)
 ·refine iT hc6 ?_
  refine cU 1 102 (tl 31 [(4, V.b false)]) [] ?_
  refine CO.ret ?_
  have h := sI h
  subst h
  exact eG [] (.inr rfl) (RetV.one rfl (oT (t := 4) (r := V.b false)))
 refine iF hc6 ?_
 refine CO.skip ?_
 refine CO.seq' ?_
 refine cU 5 102 (tl 31 [(2, .loc 100 0), (3, .loc 101 0), (24, V.b (!(a0.Other == a1.Other)))]) [(101, .cells 48 [V.i a1.Kind, V.i a1.Op, V.s a1.Text, V.s a1.Other, .sl false false (a1.Kids.map encI)]), (100, .cells 48 [V.i a0.Kind, V.i a0.Op, V.s a0.Text, V.s a0.Other, .sl false false (a0.Kids.map encI)])] ?_
 refine bC h (fun hc8 h => ?_) (fun hc8 h => ?_)
 ·refine iT hc8 ?_
  refine cU 1 102 (tl 31 [(4, V.b false)]) [] ?_
  refine CO.ret ?_
  have h := sI h
  subst h
  exact eG [] (.inr rfl) (RetV.one rfl (oT (t := 4) (r := V.b false)))
 refine iF hc8 ?_
 refine CO.skip ?_
 refine CO.seq' ?_
 refine bB h fun r4 hx13 h => ?_
 refine CO.cutR (tl 31 [(30, V.b (!r4))]) [] mix (by
  refine wR 4 102 ?_
  refine W.call0 (ml_eqIntS_ok N a0.Kids a1.Kids hx13) cok17 rfl (by kernel_rfl) ?_
  refine wR 1 102 ?_
  exact fI
  ) ?_
 refine bC h (fun hc14 h => ?_) (fun hc14 h => ?_)
 ·refine iT hc14 ?_
  refine cU 1 102 (tl 31 [(4, V.b false)]) [] ?_
  refine CO.ret ?_
  have h := sI h
  subst h
  exact eG [] (.inr rfl) (RetV.one rfl (oT (t := 4) (r := V.b false)))
 refine iF hc14 ?_
 refine CO.skip ?_
 refine cU 1 102 (tl 31 [(4, V.b true)]) [] ?_
 refine CO.ret ?_
 have h := sI h
 subst h
 exact eG [] (.inr rfl) (RetV.one rfl (oT (t := 4) (r := V.b true)))

end Go.Proofs.Tryz
