/-
 The walks that show that the code computes the models, part 3.
-/
import Derived.Test.YtjlakgfgicjffaaGreatDoorFiSW2
import Derived.Shelf.Sort.Plain
import Derived.Shelf.Slices.In.SortNone
import Derived.Shelf.Slices.CompactS
namespace Go.Proofs.Tryz
open Go.Av
set_option maxRecDepth 100000
set_option maxHeartbeats 8000000
set_option linter.unusedSimpArgs false
set_option linter.unusedVariables false

theorem mi_exprForm_ok (N : Nat) (a0 : SNode) {r : SForm} (h : mi_exprForm N a0 = some r) :
    AC Tryz.prog (GS [0, 1, 2]) 77 [.agg [V.i a0.Kind, V.i a0.Op, V.s a0.Text, V.s a0.Other, .sl false false (a0.Kids.map eNI)]] [] (.agg [V.b r.op, V.b r.text, V.b r.other, V.i r.least, V.i r.most]) [] := by
 rw [mi_exprForm] at h
 refine AC.enter Tryz.func77 rfl (cV 100 (CO.seq' (cV 102 (CO.block' (cV 102 ?_)))))
 refine cI h (fun _ h => ?_) (fun _ h => ?_)
 ·refine bB h fun r22 hx48 h => (cC 5 102 (AC.gs (mi_NameOk_ok N a0.Text hx48) (by decide)) cok91 (CO.ret ?_))
  have h := sI h
  subst h
  exact eG [] (.inr rfl) (RetV.one rfl (OneR.cell Dk (r := .agg [V.b (a0.Op == 0), V.b r22, V.b false, V.i 0, V.i 0]) (i := 101) (ety := 102) (cs := [V.b (a0.Op == 0), V.b r22, V.b false, V.i 0, V.i 0]) (by kernel_rfl) (by kernel_rfl) (by kernel_rfl)))
 refine CO.join (fun (⟨a0, y23⟩ : (SNode × Bool)) => ⟨tl 123 [(1, .loc 100 0), (2, .loc 101 0), (4, V.i a0.Kind), (14, V.b y23)], [(100, .cells 45 [V.i a0.Kind, V.i a0.Op, V.s a0.Text, V.s a0.Other, .sl false false (a0.Kids.map eNI)]), (101, .cells 102 [V.b false, V.b false, V.b false, V.i 0, V.i 0])]⟩) (fun i => mi_exprForm_k1 N i = some r) ?_ ?_
 · rintro ⟨a0, y23⟩ h51
   rw [mi_exprForm_k1] at h51
   refine cI h51 (fun _ h51 => ?_) (fun _ h51 => ?_)
   ·refine bB h51 fun e26 hx55 h51 => (bB h51 fun r27 hx56 h51 => (CO.sw mix (wR 7 102 (W.ixA Dk V.i hx55 (by kernel_rfl) (wR 3 102 (W.call0 (mi_TokenOk_ok N (⟨e26, a0.Text, 0⟩ : SToken) hx56) cok92 rfl (by kernel_rfl) (wR 2 102 (wF ?_))))))))
    refine CO.ret ?_
    have h51 := sI h51
    subst h51
    exact eG [] (.inr rfl) (RetV.one rfl (OneR.cell Dk (r := .agg [V.b (a0.Op == 0), V.b r27, V.b false, V.i 0, V.i 0]) (i := 101) (ety := 102) (cs := [V.b (a0.Op == 0), V.b r27, V.b false, V.i 0, V.i 0]) (by kernel_rfl) (by kernel_rfl) (by kernel_rfl)))
   refine CO.join (fun (⟨a0, y28⟩ : (SNode × Bool)) => ⟨tl 123 [(1, .loc 100 0), (2, .loc 101 0), (4, V.i a0.Kind), (31, V.b y28)], [(100, .cells 45 [V.i a0.Kind, V.i a0.Op, V.s a0.Text, V.s a0.Other, .sl false false (a0.Kids.map eNI)]), (101, .cells 102 [V.b false, V.b false, V.b false, V.i 0, V.i 0])]⟩) (fun i => mi_exprForm_k2 N i = some r) ?_ ?_
   · rintro ⟨a0, y28⟩ h58
     rw [mi_exprForm_k2] at h58
     refine cI h58 (fun _ h58 => ?_) (fun _ h58 => ?_)
     ·refine bB h58 fun r30 hx61 h58 => (cC 5 102 (AC.gs (mi_NameOk_ok N a0.Text hx61) (by decide)) cok91 (CO.ret ?_))
      have h58 := sI h58
      subst h58
      exact eG [] (.inr rfl) (RetV.one rfl (OneR.cell Dk (r := .agg [V.b (a0.Op == 0), V.b r30, V.b false, V.i 1, V.i 6]) (i := 101) (ety := 102) (cs := [V.b (a0.Op == 0), V.b r30, V.b false, V.i 1, V.i 6]) (by kernel_rfl) (by kernel_rfl) (by kernel_rfl)))
     refine cV 102 ?_
     refine cI h58 (fun _ h58 => ?_) (fun _ h58 => ?_)
     ·refine cV 102 (CO.ret ?_)
      have h58 := sI h58
      subst h58
      exact eG [] (.inr rfl) (RetV.one rfl (OneR.cell Dk (r := .agg [V.b (a0.Op == 0), V.b (a0.Text == []), V.b false, V.i 1, V.i 1]) (i := 101) (ety := 102) (cs := [V.b (a0.Op == 0), V.b (a0.Text == []), V.b false, V.i 1, V.i 1]) (by kernel_rfl) (by kernel_rfl) (by kernel_rfl)))
     refine cV 102 ?_
     refine cI h58 (fun _ h58 => ?_) (fun _ h58 => ?_)
     ·refine bB h58 fun r32 hx65 h58 => (cC 5 102 (AC.gs (mi_NameOk_ok N a0.Text hx65) (by decide)) cok91 (CO.ret ?_))
      have h58 := sI h58
      subst h58
      exact eG [] (.inr rfl) (RetV.one rfl (OneR.cell Dk (r := .agg [V.b (a0.Op == 0), V.b r32, V.b false, V.i 0, V.i 6]) (i := 101) (ety := 102) (cs := [V.b (a0.Op == 0), V.b r32, V.b false, V.i 0, V.i 6]) (by kernel_rfl) (by kernel_rfl) (by kernel_rfl)))
     refine cV 102 ?_
     refine cI h58 (fun _ h58 => ?_) (fun _ h58 => ?_)
     ·refine bB h58 fun r34 hx68 h58 => (cC 5 102 (AC.gs (mi_IsBuiltin_ok N a0.Text hx68) (by decide)) cok93 (CO.ret ?_))
      have h58 := sI h58
      subst h58
      exact eG [] (.inr rfl) (RetV.one rfl (OneR.cell Dk (r := .agg [V.b (a0.Op == 0), V.b r34, V.b false, V.i 0, V.i 6]) (i := 101) (ety := 102) (cs := [V.b (a0.Op == 0), V.b r34, V.b false, V.i 0, V.i 6]) (by kernel_rfl) (by kernel_rfl) (by kernel_rfl)))
     refine CO.join (fun (⟨a0, y35⟩ : (SNode × Bool)) => ⟨tl 123 [(1, .loc 100 0), (2, .loc 101 0), (4, V.i a0.Kind), (68, V.b y35)], [(100, .cells 45 [V.i a0.Kind, V.i a0.Op, V.s a0.Text, V.s a0.Other, .sl false false (a0.Kids.map eNI)]), (101, .cells 102 [V.b false, V.b false, V.b false, V.i 0, V.i 0])]⟩) (fun i => mi_exprForm_k3 N i = some r) ?_ ?_
     · rintro ⟨a0, y35⟩ h70
       rw [mi_exprForm_k3] at h70
       refine cI h70 (fun _ h70 => ?_) (fun _ h70 => ?_)
       ·refine bB h70 fun r37 hx73 h70 => (cC 2 102 (AC.gs (mi_isStep_ok a0.Op hx73) (by decide)) cok94 (CO.ret ?_))
        have h70 := sI h70
        subst h70
        exact eG [] (.inr rfl) (RetV.one rfl (OneR.cell Dk (r := .agg [V.b r37, V.b (a0.Text == []), V.b false, V.i 1, V.i 1]) (i := 101) (ety := 102) (cs := [V.b r37, V.b (a0.Text == []), V.b false, V.i 1, V.i 1]) (by kernel_rfl) (by kernel_rfl) (by kernel_rfl)))
       refine cV 102 ?_
       refine cI h70 (fun _ h70 => ?_) (fun _ h70 => ?_)
       ·refine bB h70 fun y38 hv77 h70 => ?_
        refine CO.cutR (tl 123 [(2, .loc 100 0)]) [(100, .cells 102 [V.b y38, V.b (a0.Text == []), V.b false, V.i 1, V.i 1])] mix (by
         refine wR 4 102 ?_
         refine wJ 83 hv77 (fun hv77 => ?_) (fun hv77 => ?_)
         ·refine wR 14 102 ?_
          cases hv77
          exact fS [(101, 100)] [2]
         refine wR 5 102 ?_
         refine wJ 88 hv77 (fun hv77 => ?_) (fun hv77 => ?_)
         ·refine wR 9 102 ?_
          cases hv77
          exact fS [(101, 100)] [2]
         refine wR 9 102 ?_
         cases hv77
         exact fS [(101, 100)] [2]
         ) ?_
        refine CO.ret ?_
        have h70 := sI h70
        subst h70
        exact eG [] (.inr rfl) (RetV.one rfl (OneR.cell Dk (r := .agg [V.b y38, V.b (a0.Text == []), V.b false, V.i 1, V.i 1]) (i := 100) (ety := 102) (cs := [V.b y38, V.b (a0.Text == []), V.b false, V.i 1, V.i 1]) (by kernel_rfl) (by kernel_rfl) (by kernel_rfl)))
       refine cV 102 ?_
       refine cI h70 (fun _ h70 => ?_) (fun _ h70 => ?_)
       ·refine bB h70 fun r40 hx82 h70 => (cC 2 102 (AC.gs (mi_OpLevel_ok a0.Op hx82) (by decide)) cok95 (CO.ret ?_))
        have h70 := sI h70
        subst h70
        exact eG [] (.inr rfl) (RetV.one rfl (OneR.cell Dk (r := .agg [V.b (r40 != 0), V.b (a0.Text == []), V.b false, V.i 2, V.i 2]) (i := 101) (ety := 102) (cs := [V.b (r40 != 0), V.b (a0.Text == []), V.b false, V.i 2, V.i 2]) (by kernel_rfl) (by kernel_rfl) (by kernel_rfl)))
       refine cV 102 ?_
       refine cI h70 (fun _ h70 => ?_) (fun _ h70 => ?_)
       ·refine cV 102 (CO.ret ?_)
        have h70 := sI h70
        subst h70
        exact eG [] (.inr rfl) (RetV.one rfl (OneR.cell Dk (r := .agg [V.b (a0.Op == 0), V.b (a0.Text == []), V.b false, V.i 3, V.i 3]) (i := 101) (ety := 102) (cs := [V.b (a0.Op == 0), V.b (a0.Text == []), V.b false, V.i 3, V.i 3]) (by kernel_rfl) (by kernel_rfl) (by kernel_rfl)))
       refine CO.skip (bB h70 fun r42 hx85 h70 => (cC 2 102 (AC.gs (mi_isAssign_ok a0.Op hx85) (by decide)) cok96 (CO.ret ?_)))
       have h70 := sI h70
       subst h70
       exact eG [] (.inr rfl) (RetV.one rfl (OneR.cell Dk (r := .agg [V.b r42, V.b (a0.Text == []), V.b false, V.i 2, V.i 2]) (i := 101) (ety := 102) (cs := [V.b r42, V.b (a0.Text == []), V.b false, V.i 2, V.i 2]) (by kernel_rfl) (by kernel_rfl) (by kernel_rfl)))
     intro hk86
     refine cV 102 ?_
     refine cI h58 (fun _ h58 => ?_) (fun _ h58 => ?_)
     ·exact sK hk86 (a0, (a0.Kind == 9)) h58 [(100, 100), (101, 101)] [1, 2, 4, 68]
     exact cK 102 hk86 (a0, (a0.Kind == 10)) h58 [(100, 100), (101, 101)] [1, 2, 4, 68]
   intro hk88
   refine cV 102 ?_
   refine cI h51 (fun _ h51 => ?_) (fun _ h51 => ?_)
   ·exact sK hk88 (a0, (a0.Kind == 5)) h51 [(100, 100), (101, 101)] [1, 2, 4, 31]
   exact cK 102 hk88 (a0, (a0.Kind == 13)) h51 [(100, 100), (101, 101)] [1, 2, 4, 31]
 intro hk90
 refine cV 102 ?_
 refine cI h (fun _ h => ?_) (fun _ h => ?_)
 ·exact sK hk90 (a0, (a0.Kind == 2)) h [(100, 100), (101, 101)] [1, 2, 4, 14]
 refine cV 102 ?_
 refine cI h (fun _ h => ?_) (fun _ h => ?_)
 ·exact sK hk90 (a0, (a0.Kind == 3)) h [(100, 100), (101, 101)] [1, 2, 4, 14]
 exact cK 102 hk90 (a0, (a0.Kind == 4)) h [(100, 100), (101, 101)] [1, 2, 4, 14]

theorem mi_IsStmt_ok (a0 : Int) {r : Bool} (h : mi_IsStmt a0 = some r) :
    AC Tryz.prog (GS []) 78 [V.i a0] [] (V.b r) [] := by
 rw [mi_IsStmt] at h
 refine AC.enter Tryz.func78 rfl (cV 100 (bB h fun r2 hx2 h => (cC 1 100 (mi_within_ok a0 20 34 hx2) cok72 ?_)))
 cases h
 exact e1 2 id

theorem mi_stmtForm_ok (N : Nat) (a0 : SNode) {r : SForm} (h : mi_stmtForm N a0 = some r) :
    AC Tryz.prog (GS [0, 1, 2]) 79 [.agg [V.i a0.Kind, V.i a0.Op, V.s a0.Text, V.s a0.Other, .sl false false (a0.Kids.map eNI)]] [] (.agg [V.b r.op, V.b r.text, V.b r.other, V.i r.least, V.i r.most]) [] := by
 rw [mi_stmtForm] at h
 refine AC.enter Tryz.func79 rfl (cV 100 (cV 102 ?_))
 refine CO.join (fun (⟨y14, y15, y16, y17, y18⟩ : (Bool × Bool × Bool × Int × Int)) => ⟨tl 98 [(2, .loc 100 0), (3, .loc 101 0)], [(100, .cells 102 [V.b false, V.b false, V.b false, V.i 0, V.i 0]), (101, .cells 102 [V.b y14, V.b y15, V.b y16, V.i y17, V.i y18])]⟩) (fun i => mi_stmtForm_k1 N i = some r) ?_ ?_
 · rintro ⟨y14, y15, y16, y17, y18⟩ h33
   rw [mi_stmtForm_k1] at h33
   refine cV 104 (CO.ret ?_)
   have h33 := sI h33
   subst h33
   exact eG [] (.inr rfl) (RetV.one rfl (OneR.cell Dk (r := .agg [V.b y14, V.b y15, V.b y16, V.i y17, V.i y18]) (i := 100) (ety := 102) (cs := [V.b y14, V.b y15, V.b y16, V.i y17, V.i y18]) (by kernel_rfl) (by kernel_rfl) (by kernel_rfl)))
 intro hk34
 refine cV 103 (CO.block' (cV 103 ?_))
 refine cI h (fun _ h => ?_) (fun _ h => ?_)
 ·exact cK 103 hk34 ((a0.Op == 0), (a0.Text == []), (a0.Other == []), 1, 1) h [(101, 100), (102, 101)] [2, 3]
 refine cV 103 ?_
 refine cI h (fun _ h => ?_) (fun _ h => ?_)
 ·refine bB h fun y19 hv38 h => ?_
  refine CO.cutR (tl 98 [(1, .loc 100 0), (2, .loc 101 0), (3, .loc 102 0)]) [(100, .cells 45 [V.i a0.Kind, V.i a0.Op, V.s a0.Text, V.s a0.Other, .sl false false (a0.Kids.map eNI)]), (101, .cells 102 [V.b false, V.b false, V.b false, V.i 0, V.i 0]), (102, .cells 102 [V.b y19, V.b (a0.Text == []), V.b (a0.Other == []), V.i 0, V.i 0])] mix (by
   refine wR 4 103 ?_
   refine wJ 25 hv38 (fun hv38 => ?_) (fun hv38 => ?_)
   ·refine wR 6 103 ?_
    cases hv38
    exact fS [(100, 100), (101, 101), (102, 102)] [1, 2, 3]
   refine wR 6 103 ?_
   cases hv38
   exact fS [(100, 100), (101, 101), (102, 102)] [1, 2, 3]
   ) ?_
  refine bB h fun r21 hx41 h => (CO.sw mix (wR 3 103 (W.lend (AC.gs (m_slices_Contains_string_ok N [[], [62], [62, 62], [124]] a0.Other hx41) (by decide)) cok24 [] [] (LayOk.cons (j := 103) eNS eNS ([[], [62], [62, 62], [124]] : List (List UInt8)) (by kernel_rfl) (fun _ => rfl) (show LayOk _ [] from trivial)) (.c _) .nil (by kernel_rfl) (by kernel_rfl) (wR 2 104 (wF (cV 104 (cV 104 ?_)))))))
  refine cI h (fun _ h => ?_) (fun _ h => ?_)
  ·exact cK 104 hk34 (y19, (a0.Text == []), r21, (IntKind.wrap .i64 (a0.Op + 1)), 7) h [(101, 100), (102, 101)] [2, 3]
  exact sK hk34 (y19, (a0.Text == []), r21, a0.Op, 6) h [(101, 100), (102, 101)] [2, 3]
 refine CO.join (fun (⟨a0, y22⟩ : (SNode × Bool)) => ⟨tl 98 [(1, .loc 100 0), (2, .loc 101 0), (3, .loc 102 0), (15, V.i a0.Kind), (51, V.b y22)], [(100, .cells 45 [V.i a0.Kind, V.i a0.Op, V.s a0.Text, V.s a0.Other, .sl false false (a0.Kids.map eNI)]), (101, .cells 102 [V.b false, V.b false, V.b false, V.i 0, V.i 0]), (102, .cells 102 [V.b (a0.Op == 0), V.b (a0.Text == []), V.b (a0.Other == []), V.i 0, V.i 0])]⟩) (fun i => mi_stmtForm_k2 N i = some r) ?_ ?_
 · rintro ⟨a0, y22⟩ h44
   rw [mi_stmtForm_k2] at h44
   refine cI h44 (fun _ h44 => ?_) (fun _ h44 => ?_)
   ·exact cK 103 hk34 ((a0.Op == 0), (a0.Text == []), (a0.Other == []), 0, 1) h44 [(101, 100), (102, 101)] [2, 3]
   refine cV 103 ?_
   refine cI h44 (fun _ h44 => ?_) (fun _ h44 => ?_)
   ·refine bB h44 fun r24 hx48 h44 => (CO.w mix (wR 2 103 (W.call0 (AC.gs (mi_NameOk_ok N a0.Text hx48) (by decide)) cok91 rfl (by kernel_rfl) (wR 4 103 ?_))))
    exact wK hk34 ((a0.Op == 0), r24, (a0.Other == []), 0, 6) h44 [(101, 100), (102, 101)] [2, 3]
   refine cV 103 ?_
   refine cI h44 (fun _ h44 => ?_) (fun _ h44 => ?_)
   ·exact cK 103 hk34 ((a0.Op == 0), (a0.Text == []), (a0.Other == []), 2, 3) h44 [(101, 100), (102, 101)] [2, 3]
   refine CO.join (fun (⟨a0, y25⟩ : (SNode × Bool)) => ⟨tl 98 [(1, .loc 100 0), (2, .loc 101 0), (3, .loc 102 0), (15, V.i a0.Kind), (66, V.b y25)], [(100, .cells 45 [V.i a0.Kind, V.i a0.Op, V.s a0.Text, V.s a0.Other, .sl false false (a0.Kids.map eNI)]), (101, .cells 102 [V.b false, V.b false, V.b false, V.i 0, V.i 0]), (102, .cells 102 [V.b (a0.Op == 0), V.b (a0.Text == []), V.b (a0.Other == []), V.i 0, V.i 0])]⟩) (fun i => mi_stmtForm_k3 N i = some r) ?_ ?_
   · rintro ⟨a0, y25⟩ h51
     rw [mi_stmtForm_k3] at h51
     refine cI h51 (fun _ h51 => ?_) (fun _ h51 => ?_)
     ·exact cK 103 hk34 ((a0.Op == 0), (a0.Text == []), (a0.Other == []), 2, 2) h51 [(101, 100), (102, 101)] [2, 3]
     refine cV 103 ?_
     refine cI h51 (fun _ h51 => ?_) (fun _ h51 => ?_)
     ·exact cK 103 hk34 ((a0.Op == 0), (a0.Text == []), (a0.Other == []), 4, 4) h51 [(101, 100), (102, 101)] [2, 3]
     refine cV 103 ?_
     refine cI h51 (fun _ h51 => ?_) (fun _ h51 => ?_)
     ·refine bB h51 fun r28 hx57 h51 => (bB h51 fun r29 hx58 h51 => (CO.w mix (wR 2 103 (W.call0 (AC.gs (mi_NameOk_ok N a0.Text hx57) (by decide)) cok91 rfl (by kernel_rfl) (wR 2 103 (W.call0 (AC.gs (mi_NameOk_ok N a0.Other hx58) (by decide)) cok91 rfl (by kernel_rfl) (wR 8 103 ?_)))))))
      exact wK hk34 ((a0.Op == 0), r28, r29, 1, 1) h51 [(101, 100), (102, 101)] [2, 3]
     refine cV 103 ?_
     refine cI h51 (fun _ h51 => ?_) (fun _ h51 => ?_)
     ·exact cK 103 hk34 ((a0.Op == 0), (a0.Text == []), (a0.Other == []), 0, 400) h51 [(101, 100), (102, 101)] [2, 3]
     refine cV 103 ?_
     refine cI h51 (fun _ h51 => ?_) (fun _ h51 => ?_)
     ·refine bB h51 fun r31 hx62 h51 => (CO.w mix (wR 3 103 (W.call0 (mi_TokenOk_ok N (⟨2, a0.Text, 0⟩ : SToken) hx62) cok92 rfl (by kernel_rfl) (wR 2 103 ?_))))
      exact wK hk34 ((a0.Op == 0), r31, (a0.Other == []), 0, 0) h51 [(101, 100), (102, 101)] [2, 3]
     exact sK hk34 ((a0.Op == 0), (a0.Text == []), (a0.Other == []), 0, 0) h51 [(101, 100), (102, 101)] [2, 3]
   intro hk63
   refine cV 103 ?_
   refine cI h44 (fun _ h44 => ?_) (fun _ h44 => ?_)
   ·exact sK hk63 (a0, (a0.Kind == 29)) h44 [(100, 100), (101, 101), (102, 102)] [1, 2, 3, 15, 66]
   exact cK 103 hk63 (a0, (a0.Kind == 30)) h44 [(100, 100), (101, 101), (102, 102)] [1, 2, 3, 15, 66]
 intro hk65
 refine cV 103 ?_
 refine cI h (fun _ h => ?_) (fun _ h => ?_)
 ·exact sK hk65 (a0, (a0.Kind == 23)) h [(100, 100), (101, 101), (102, 102)] [1, 2, 3, 15, 51]
 exact cK 103 hk65 (a0, (a0.Kind == 24)) h [(100, 100), (101, 101), (102, 102)] [1, 2, 3, 15, 51]

theorem mi_itemForm_ok (N : Nat) (a0 : SNode) {r : SForm} (h : mi_itemForm N a0 = some r) :
    AC Tryz.prog (GS [0, 1]) 80 [.agg [V.i a0.Kind, V.i a0.Op, V.s a0.Text, V.s a0.Other, .sl false false (a0.Kids.map eNI)]] [] (.agg [V.b r.op, V.b r.text, V.b r.other, V.i r.least, V.i r.most]) [] := by
 rw [mi_itemForm] at h
 refine AC.enter Tryz.func80 rfl (cV 100 (cV 102 ?_))
 refine CO.join (fun (⟨a0, y9, y10, y11, y12⟩ : (SNode × Bool × Bool × Int × Int)) => ⟨tl 64 [(2, .loc 100 0), (3, .loc 101 0)], [(100, .cells 102 [V.b false, V.b false, V.b false, V.i 0, V.i 0]), (101, .cells 102 [V.b y9, V.b y10, V.b (a0.Other == []), V.i y11, V.i y12])]⟩) (fun i => mi_itemForm_k1 N i = some r) ?_ ?_
 · rintro ⟨a0, y9, y10, y11, y12⟩ h24
   rw [mi_itemForm_k1] at h24
   refine cV 103 (CO.ret ?_)
   have h24 := sI h24
   subst h24
   exact eG [] (.inr rfl) (RetV.one rfl (OneR.cell Dk (r := .agg [V.b y9, V.b y10, V.b (a0.Other == []), V.i y11, V.i y12]) (i := 100) (ety := 102) (cs := [V.b y9, V.b y10, V.b (a0.Other == []), V.i y11, V.i y12]) (by kernel_rfl) (by kernel_rfl) (by kernel_rfl)))
 intro hk25
 refine cV 103 (CO.block' ?_)
 refine CO.join (fun (⟨a0, y13⟩ : (SNode × Bool)) => ⟨tl 64 [(1, .loc 100 0), (2, .loc 101 0), (3, .loc 102 0), (15, V.i a0.Kind), (17, V.b y13)], [(100, .cells 45 [V.i a0.Kind, V.i a0.Op, V.s a0.Text, V.s a0.Other, .sl false false (a0.Kids.map eNI)]), (101, .cells 102 [V.b false, V.b false, V.b false, V.i 0, V.i 0]), (102, .cells 102 [V.b (a0.Op == 0), V.b (a0.Text == []), V.b (a0.Other == []), V.i 0, V.i 0])]⟩) (fun i => mi_itemForm_k2 N i = some r) ?_ ?_
 · rintro ⟨a0, y13⟩ h27
   rw [mi_itemForm_k2] at h27
   refine cI h27 (fun _ h27 => ?_) (fun _ h27 => ?_)
   ·exact cK 103 hk25 (a0, (a0.Op == 0), (a0.Text == []), 1, 1) h27 [(101, 100), (102, 101)] [2, 3]
   refine cV 103 ?_
   refine cI h27 (fun _ h27 => ?_) (fun _ h27 => ?_)
   ·refine bB h27 fun r15 hx31 h27 => (cC 2 103 (AC.gs (mi_within_ok a0.Op 1 3 hx31) (by decide)) cok72 ?_)
    refine CO.join (fun (⟨r15, a0, y16⟩ : (Bool × SNode × Int)) => ⟨tl 64 [(2, .loc 100 0), (3, .loc 101 0)], [(100, .cells 102 [V.b false, V.b false, V.b false, V.i 0, V.i 0]), (101, .cells 102 [V.b r15, V.b (a0.Text == []), V.b (a0.Other == []), V.i y16, V.i 0])]⟩) (fun i => mi_itemForm_k3 N i = some r) ?_ ?_
    · rintro ⟨r15, a0, y16⟩ h33
      rw [mi_itemForm_k3] at h33
      exact cK 103 hk25 (a0, r15, (a0.Text == []), y16, y16) h33 [(100, 100), (101, 101)] [2, 3]
    intro hk34
    refine cV 103 ?_
    refine cI h27 (fun _ h27 => ?_) (fun _ h27 => ?_)
    ·exact cK 103 hk34 (r15, a0, 2) h27 [(101, 100), (102, 101)] [2, 3]
    exact sK hk34 (r15, a0, 1) h27 [(101, 100), (102, 101)] [2, 3]
   refine cV 103 ?_
   refine cI h27 (fun _ h27 => ?_) (fun _ h27 => ?_)
   ·refine bB h27 fun y17 hv38 h27 => ?_
    refine CO.cutR (tl 64 [(1, .loc 100 0), (2, .loc 101 0), (3, .loc 102 0)]) [(100, .cells 45 [V.i a0.Kind, V.i a0.Op, V.s a0.Text, V.s a0.Other, .sl false false (a0.Kids.map eNI)]), (101, .cells 102 [V.b false, V.b false, V.b false, V.i 0, V.i 0]), (102, .cells 102 [V.b y17, V.b (a0.Text == []), V.b (a0.Other == []), V.i 2, V.i 0])] mix (by
     refine wR 4 103 ?_
     refine wJ 41 hv38 (fun hv38 => ?_) (fun hv38 => ?_)
     ·refine wR 8 103 ?_
      cases hv38
      exact fS [(100, 100), (101, 101), (102, 102)] [1, 2, 3]
     refine wR 8 103 ?_
     cases hv38
     exact fS [(100, 100), (101, 101), (102, 102)] [1, 2, 3]
     ) ?_
    refine CO.join (fun (⟨y17, a0, y18⟩ : (Bool × SNode × Int)) => ⟨tl 64 [(2, .loc 100 0), (3, .loc 101 0)], [(100, .cells 102 [V.b false, V.b false, V.b false, V.i 0, V.i 0]), (101, .cells 102 [V.b y17, V.b (a0.Text == []), V.b (a0.Other == []), V.i y18, V.i 0])]⟩) (fun i => mi_itemForm_k4 N i = some r) ?_ ?_
    · rintro ⟨y17, a0, y18⟩ h41
      rw [mi_itemForm_k4] at h41
      exact cK 103 hk25 (a0, y17, (a0.Text == []), y18, y18) h41 [(100, 100), (101, 101)] [2, 3]
    intro hk42
    refine cV 103 ?_
    refine cI h27 (fun _ h27 => ?_) (fun _ h27 => ?_)
    ·exact cK 103 hk42 (y17, a0, 3) h27 [(101, 100), (102, 101)] [2, 3]
    exact sK hk42 (y17, a0, 2) h27 [(101, 100), (102, 101)] [2, 3]
   refine cV 103 ?_
   refine cI h27 (fun _ h27 => ?_) (fun _ h27 => ?_)
   ·refine bB h27 fun r20 hx46 h27 => (CO.w mix (wR 2 103 (W.call0 (mi_NameOk_ok N a0.Text hx46) cok91 rfl (by kernel_rfl) (wR 6 103 ?_))))
    exact wK hk25 (a0, (a0.Op == 0), r20, 1, 7) h27 [(101, 100), (102, 101)] [2, 3]
   exact cK 103 hk25 (a0, (a0.Op == 0), (a0.Text == []), 0, 400) h27 [(101, 100), (102, 101)] [2, 3]
 intro hk47
 refine cV 103 ?_
 refine cI h (fun _ h => ?_) (fun _ h => ?_)
 ·exact sK hk47 (a0, (a0.Kind == 40)) h [(100, 100), (101, 101), (102, 102)] [1, 2, 3, 15, 17]
 exact cK 103 hk47 (a0, (a0.Kind == 41)) h [(100, 100), (101, 101), (102, 102)] [1, 2, 3, 15, 17]

theorem mi_FieldsOk_ok (N : Nat) (a0 : SNode) {r : Bool} (h : mi_FieldsOk N a0 = some r) :
    AC Tryz.prog (GS [0, 1, 2]) 60 [.agg [V.i a0.Kind, V.i a0.Op, V.s a0.Text, V.s a0.Other, .sl false false (a0.Kids.map eNI)]] [] (V.b r) [] := by
 rw [mi_FieldsOk] at h
 refine AC.enter Tryz.func60 rfl (cV 100 (cV 101 ?_))
 refine CO.join (fun (⟨a0, y13, y14, y15, y16, y17⟩ : (SNode × Bool × Bool × Bool × Int × Int)) => ⟨tl 61 [(1, .loc 100 0), (3, .loc 101 0)], [(100, .cells 45 [V.i a0.Kind, V.i a0.Op, V.s a0.Text, V.s a0.Other, .sl false false (a0.Kids.map eNI)]), (101, .cells 102 [V.b y13, V.b y14, V.b y15, V.i y16, V.i y17])]⟩) (fun i => mi_FieldsOk_k1 N i = some r) ?_ ?_
 · rintro ⟨a0, y13, y14, y15, y16, y17⟩ h17
   rw [mi_FieldsOk_k1] at h17
   refine bB h17 fun y19 hv22 h17 => ?_
   refine CO.cutR (tl 61 [(2, V.b y19)]) [] mix (by
    refine wR 3 102 ?_
    refine wJ 43 hv22 (fun hv22 => ?_) (fun hv22 => ?_)
    ·refine wR 4 102 ?_
     refine wJ 47 hv22 (fun hv22 => ?_) (fun hv22 => ?_)
     ·refine wR 4 102 ?_
      refine wJ 51 hv22 (fun hv22 => ?_) (fun hv22 => ?_)
      ·refine wR 2 102 (W.len Dk eNI a0.Kids [] (by kernel_rfl) (by kernel_rfl) (wR 4 102 (bB hv22 fun r20 hx26 hv22 => (W.call0 (AC.gs (mi_within_ok (a0.Kids.length : Int) y16 y17 hx26) (by decide)) cok72 rfl (by kernel_rfl) (wR 2 102 ?_)))))
       cases hv22
       exact fS [] [2]
      refine wR 10 102 ?_
      cases hv22
      exact fS [] [2]
     refine wR 14 102 ?_
     cases hv22
     exact fS [] [2]
    refine wR 18 102 ?_
    cases hv22
    exact fS [] [2]
    ) ?_
   cases h17
   exact e1 2 id
 intro hk27
 refine CO.block' (bB h fun r22 hx29 h => (cC 2 102 (AC.gs (mi_IsExpr_ok a0.Kind hx29) (by decide)) cok47 ?_))
 refine cI h (fun _ h => ?_) (fun _ h => ?_)
 ·refine bB h fun r24 hx32 h => (cC 1 102 (mi_exprForm_ok N a0 hx32) cok77 ?_)
  exact cK 102 hk27 (a0, r24.op, r24.text, (a0.Other == []), r24.least, r24.most) h [(100, 100), (101, 101)] [1, 3]
 refine cV 102 ?_
 refine cI h (fun _ h => ?_) (fun _ h => ?_)
 ·exact cK 102 hk27 (a0, (a0.Op == 0), (a0.Text == []), (a0.Other == []), 0, 0) h [(100, 100), (101, 101)] [1, 3]
 refine bB h fun r26 hx35 h => (cC 2 102 (AC.gs (mi_IsStmt_ok a0.Kind hx35) (by decide)) cok78 ?_)
 refine cI h (fun _ h => ?_) (fun _ h => ?_)
 ·refine bB h fun r28 hx38 h => (CO.w mix (wR 1 102 (W.call0 (mi_stmtForm_ok N a0 hx38) cok79 rfl (by kernel_rfl) (wR 1 102 ?_))))
  exact wK hk27 (a0, r28.op, r28.text, r28.other, r28.least, r28.most) h [(100, 100), (101, 101)] [1, 3]
 refine bB h fun r30 hx40 h => (cC 2 102 (AC.gs (mi_within_ok a0.Kind 40 45 hx40) (by decide)) cok72 ?_)
 refine cI h (fun _ h => ?_) (fun _ h => ?_)
 ·refine bB h fun r32 hx43 h => (CO.w mix (wR 1 102 (W.call0 (AC.gs (mi_itemForm_ok N a0 hx43) (by decide)) cok80 rfl (by kernel_rfl) (wR 1 102 ?_))))
  exact wK hk27 (a0, r32.op, r32.text, r32.other, r32.least, r32.most) h [(100, 100), (101, 101)] [1, 3]
 refine cV 102 ?_
 cases h
 exact e1 2 id

theorem mi_IsLvalue_ok (a0 : Int) {r : Bool} (h : mi_IsLvalue a0 = some r) :
    AC Tryz.prog (GS []) 81 [V.i a0] [] (V.b r) [] := by
 rw [mi_IsLvalue] at h
 refine AC.enter Tryz.func81 rfl (cV 100 (bB h fun y1 hv3 h => ?_))
 refine CO.cutR (tl 13 [(2, V.b y1)]) [] mix (by
  refine wR 3 100 ?_
  refine wJ 5 hv3 (fun hv3 => ?_) (fun hv3 => ?_)
  ·refine wR 8 100 ?_
   cases hv3
   exact fS [] [2]
  refine wR 4 100 ?_
  refine wJ 9 hv3 (fun hv3 => ?_) (fun hv3 => ?_)
  ·refine wR 4 100 ?_
   cases hv3
   exact fS [] [2]
  refine wR 4 100 ?_
  cases hv3
  exact fS [] [2]
  ) ?_
 cases h
 exact e1 2 id

theorem mi_isItem_ok (a0 : Int) {r : Bool} (h : mi_isItem a0 = some r) :
    AC Tryz.prog (GS []) 82 [V.i a0] [] (V.b r) [] := by
 rw [mi_isItem] at h
 refine AC.enter Tryz.func82 rfl (cV 100 (bB h fun r2 hx2 h => (cC 1 100 (mi_within_ok a0 40 44 hx2) cok72 ?_)))
 cases h
 exact e1 2 id

theorem mi_kidOk_ok (a0 : SNode) (a1 : Int) (a2 : Int) {r : Bool} (h : mi_kidOk a0 a1 a2 = some r) :
    AC Tryz.prog (GS []) 61 [.agg [V.i a0.Kind, V.i a0.Op, V.s a0.Text, V.s a0.Other, .sl false false (a0.Kids.map eNI)], V.i a1, V.i a2] [] (V.b r) [] := by
 rw [mi_kidOk] at h
 refine AC.enter Tryz.func61 rfl (cV 100 (CO.sw mix (wR 3 101 (W.len Dk eNI a0.Kids [] (by kernel_rfl) (by kernel_rfl) (wR 3 101 (wF (cV 101 ?_)))))))
 refine CO.join (fun (⟨a2, y22⟩ : (Int × Bool)) => ⟨tl 99 [(2, V.i a2), (8, V.b y22)], []⟩) (fun i => mi_kidOk_k1 i = some r) ?_ ?_
 · rintro ⟨a2, y22⟩ h66
   rw [mi_kidOk_k1] at h66
   refine CO.seq' (cV 101 ?_)
   refine cI h66 (fun _ h66 => ?_) (fun _ h66 => ?_)
   ·refine cV 101 ?_
    cases h66
    exact e1 6 id
   refine CO.skip (bB h66 fun r24 hx70 h66 => (cC 1 101 (mi_IsExpr_ok a2 hx70) cok47 ?_))
   cases h66
   exact e1 6 id
 intro hk71
 refine cV 101 (CO.block' ?_)
 refine CO.join (fun (⟨a1, a2, a0, y25⟩ : (Int × Int × SNode × Bool)) => ⟨tl 99 [(1, V.i a1), (2, V.i a2), (3, .loc 100 0), (7, V.b (a1 == (IntKind.wrap .i64 ((a0.Kids.length : Int) - 1)))), (8, V.b false), (16, V.i a0.Kind), (17, V.b y25)], [(100, .cells 45 [V.i a0.Kind, V.i a0.Op, V.s a0.Text, V.s a0.Other, .sl false false (a0.Kids.map eNI)])]⟩) (fun i => mi_kidOk_k2 i = some r) ?_ ?_
 · rintro ⟨a1, a2, a0, y25⟩ h73
   rw [mi_kidOk_k2] at h73
   refine cI h73 (fun _ h73 => ?_) (fun _ h73 => ?_)
   ·refine bB h73 fun r27 hx76 h73 => (cC 1 101 (mi_IsLvalue_ok a2 hx76) cok81 ?_)
    cases h73
    exact e1 6 id
   refine cV 101 ?_
   refine cI h73 (fun _ h73 => ?_) (fun _ h73 => ?_)
   ·refine bB h73 fun y31 hv85 h73 => ?_
    refine CO.cutR (tl 99 [(6, V.b y31)]) [] mix (by
     refine wR 3 101 ?_
     refine wJ 26 hv85 (fun hv85 => ?_) (fun hv85 => ?_)
     ·refine wR 1 101 (bB hv85 fun r32 hx87 hv85 => (W.call0 (mi_IsLvalue_ok a2 hx87) cok81 rfl (by kernel_rfl) (wR 2 101 ?_)))
      refine wJ 30 hv85 (fun hv85 => ?_) (fun hv85 => ?_)
      ·refine wR 8 101 ?_
       cases hv85
       exact fS [] [6]
      refine wR 3 101 ?_
      refine wJ 33 hv85 (fun hv85 => ?_) (fun hv85 => ?_)
      ·refine wR 1 101 (bB hv85 fun r33 hx90 hv85 => (W.call0 (mi_IsExpr_ok a2 hx90) cok47 rfl (by kernel_rfl) (wR 3 101 ?_)))
       cases hv85
       exact fS [] [6]
      refine wR 5 101 ?_
      cases hv85
      exact fS [] [6]
     refine wR 7 101 ?_
     refine wJ 33 hv85 (fun hv85 => ?_) (fun hv85 => ?_)
     ·refine wR 1 101 (bB hv85 fun r34 hx92 hv85 => (W.call0 (mi_IsExpr_ok a2 hx92) cok47 rfl (by kernel_rfl) (wR 3 101 ?_)))
      cases hv85
      exact fS [] [6]
     refine wR 5 101 ?_
     cases hv85
     exact fS [] [6]
     ) ?_
    cases h73
    exact e1 6 id
   refine CO.join (fun (⟨a1, a2, a0, y35⟩ : (Int × Int × SNode × Bool)) => ⟨tl 99 [(1, V.i a1), (2, V.i a2), (3, .loc 100 0), (7, V.b (a1 == (IntKind.wrap .i64 ((a0.Kids.length : Int) - 1)))), (8, V.b false), (16, V.i a0.Kind), (38, V.b y35)], [(100, .cells 45 [V.i a0.Kind, V.i a0.Op, V.s a0.Text, V.s a0.Other, .sl false false (a0.Kids.map eNI)])]⟩) (fun i => mi_kidOk_k3 i = some r) ?_ ?_
   · rintro ⟨a1, a2, a0, y35⟩ h94
     rw [mi_kidOk_k3] at h94
     refine cI h94 (fun _ h94 => ?_) (fun _ h94 => ?_)
     ·exact cK 101 hk71 (a2, (decide (a1 > 0))) h94 [] [2, 8]
     refine cV 101 ?_
     refine cI h94 (fun _ h94 => ?_) (fun _ h94 => ?_)
     ·refine CO.seq' (bB h94 fun y37 hv102 h94 => ?_)
      refine CO.cutR (tl 99 [(2, V.i a2), (7, V.b (a1 == (IntKind.wrap .i64 ((a0.Kids.length : Int) - 1)))), (50, V.b y37)]) [] mix (by
       refine wR 3 101 ?_
       refine wJ 47 hv102 (fun hv102 => ?_) (fun hv102 => ?_)
       ·refine wR 3 101 ?_
        cases hv102
        exact fS [] [2, 7, 50]
       refine wR 3 101 ?_
       cases hv102
       exact fS [] [2, 7, 50]
       ) ?_
      refine cI h94 (fun _ h94 => ?_) (fun _ h94 => ?_)
      ·refine cV 101 ?_
       cases h94
       exact e1 6 id
      refine CO.skip ?_
      exact cK 101 hk71 (a2, (a1 == (IntKind.wrap .i64 ((a0.Kids.length : Int) - 1)))) h94 [] [2, 8]
     refine cV 101 ?_
     refine cI h94 (fun _ h94 => ?_) (fun _ h94 => ?_)
     ·exact cK 101 hk71 (a2, (a1 == 0)) h94 [] [2, 8]
     refine CO.join (fun (⟨a2, a1, a0, y38⟩ : (Int × Int × SNode × Bool)) => ⟨tl 99 [(2, V.i a2), (3, .loc 100 0), (7, V.b (a1 == (IntKind.wrap .i64 ((a0.Kids.length : Int) - 1)))), (8, V.b false), (16, V.i a0.Kind), (56, V.b y38)], [(100, .cells 45 [V.i a0.Kind, V.i a0.Op, V.s a0.Text, V.s a0.Other, .sl false false (a0.Kids.map eNI)])]⟩) (fun i => mi_kidOk_k4 i = some r) ?_ ?_
     · rintro ⟨a2, a1, a0, y38⟩ h108
       rw [mi_kidOk_k4] at h108
       refine cI h108 (fun _ h108 => ?_) (fun _ h108 => ?_)
       ·exact cK 101 hk71 (a2, true) h108 [] [2, 8]
       refine cV 101 ?_
       refine cI h108 (fun _ h108 => ?_) (fun _ h108 => ?_)
       ·refine bB h108 fun r40 hx112 h108 => (cC 1 101 (mi_IsStmt_ok a2 hx112) cok78 ?_)
        cases h108
        exact e1 6 id
       refine cV 101 ?_
       refine cI h108 (fun _ h108 => ?_) (fun _ h108 => ?_)
       ·refine bB h108 fun y41 hv115 h108 => ?_
        refine CO.endR (tl 99 [(2, V.i a2), (8, V.b y41)]) [] mix (by
         refine wR 2 101 ?_
         refine wJ 67 hv115 (fun hv115 => ?_) (fun hv115 => ?_)
         ·refine wR 5 101 ?_
          cases hv115
          exact fS [] [2, 8]
         refine wR 5 101 ?_
         cases hv115
         exact fS [] [2, 8]
         ) (fun st hw => ?_)
        exact hk71 (a2, y41) h108 _ (hw.trans (wS [] [2, 8]))
       refine cV 101 ?_
       refine cI h108 (fun _ h108 => ?_) (fun _ h108 => ?_)
       ·refine bB h108 fun y42 hv119 h108 => ?_
        refine CO.endR (tl 99 [(2, V.i a2), (8, V.b y42)]) [] mix (by
         refine wR 2 101 ?_
         refine wJ 75 hv119 (fun hv119 => ?_) (fun hv119 => ?_)
         ·refine wR 5 101 ?_
          cases hv119
          exact fS [] [2, 8]
         refine wR 5 101 ?_
         cases hv119
         exact fS [] [2, 8]
         ) (fun st hw => ?_)
        exact hk71 (a2, y42) h108 _ (hw.trans (wS [] [2, 8]))
       refine cV 101 ?_
       refine cI h108 (fun _ h108 => ?_) (fun _ h108 => ?_)
       ·refine CO.seq' (cV 101 ?_)
        refine cI h108 (fun _ h108 => ?_) (fun _ h108 => ?_)
        ·refine cV 101 ?_
         cases h108
         exact e1 6 id
        refine CO.skip ?_
        exact cK 101 hk71 (a2, true) h108 [] [2, 8]
       refine cV 101 ?_
       refine cI h108 (fun _ h108 => ?_) (fun _ h108 => ?_)
       ·refine bB h108 fun y44 hv127 h108 => ?_
        refine CO.cutR (tl 99 [(6, V.b y44)]) [] mix (by
         refine wR 1 101 (bB hv127 fun r45 hx128 hv127 => (W.call0 (mi_isItem_ok a2 hx128) cok82 rfl (by kernel_rfl) (wR 1 101 ?_)))
         refine wJ 90 hv127 (fun hv127 => ?_) (fun hv127 => ?_)
         ·refine wR 4 101 ?_
          cases hv127
          exact fS [] [6]
         refine wR 4 101 ?_
         cases hv127
         exact fS [] [6]
         ) ?_
        cases h108
        exact e1 6 id
       exact sK hk71 (a2, false) h108 [] [2, 8]
     intro hk130
     refine cV 101 ?_
     refine cI h94 (fun _ h94 => ?_) (fun _ h94 => ?_)
     ·exact sK hk130 (a2, a1, a0, (a0.Kind == 32)) h94 [(100, 100)] [2, 3, 7, 8, 16, 56]
     refine cV 101 ?_
     refine cI h94 (fun _ h94 => ?_) (fun _ h94 => ?_)
     ·exact sK hk130 (a2, a1, a0, (a0.Kind == 40)) h94 [(100, 100)] [2, 3, 7, 8, 16, 56]
     exact cK 101 hk130 (a2, a1, a0, (a0.Kind == 41)) h94 [(100, 100)] [2, 3, 7, 8, 16, 56]
   intro hk133
   refine cV 101 ?_
   refine cI h73 (fun _ h73 => ?_) (fun _ h73 => ?_)
   ·exact sK hk133 (a1, a2, a0, (a0.Kind == 28)) h73 [(100, 100)] [1, 2, 3, 7, 8, 16, 38]
   exact cK 101 hk133 (a1, a2, a0, (a0.Kind == 29)) h73 [(100, 100)] [1, 2, 3, 7, 8, 16, 38]
 intro hk135
 refine cV 101 ?_
 refine cI h (fun _ h => ?_) (fun _ h => ?_)
 ·exact sK hk135 (a1, a2, a0, (a0.Kind == 9)) h [(100, 100)] [1, 2, 3, 7, 8, 16, 17]
 exact cK 101 hk135 (a1, a2, a0, (a0.Kind == 10)) h [(100, 100)] [1, 2, 3, 7, 8, 16, 17]

structure RecOk2 (R : Rec2) : Prop where
 mi_treeAt : ∀ (a0 : List SNode) (a1 : Int) (r : STree), R.mi_treeAt a0 a1 = some r → AC Tryz.prog (GS []) 56 [.sl false false (a0.map (eSN false)), V.i a1] [] (.agg [V.i r.kind, V.i r.op, V.s r.text, V.s r.other, .sl false false (r.kids.map eST)]) []

theorem mi_treeAt_F_ok (N : Nat) (R : Rec2) (HR : RecOk2 R) (a0 : List SNode) (a1 : Int) {r : STree} (h : mi_treeAt_F N R a0 a1 = some r) :
    AC Tryz.prog (GS []) 56 [.sl false false (a0.map (eSN false)), V.i a1] [] (.agg [V.i r.kind, V.i r.op, V.s r.text, V.s r.other, .sl false false (r.kids.map eST)]) [] := by
 rw [mi_treeAt_F] at h
 refine AC.enter Tryz.func56 rfl (cV 100 (bB h fun e2 hx2 h => (CO.sw mix (wR 2 101 (W.ixD Dk (eSN false) hx2 5 (by kernel_rfl) (by kernel_rfl) (wR 3 101 (wF (cV 102 ?_))))))))
 refine CO.seq' (CO.sw mix (wR 2 103 (W.len Dk eNI e2.Kids [] (by kernel_rfl) (by kernel_rfl) (wR 1 103 (wF (CO.block' (CO.loopJ (fun (⟨a0, e2, y63, y64⟩ : ((List SNode) × SNode × Int × (List STree))) => ⟨tl 39 [(0, .sl false false (a0.map (eSN false))), (4, .loc 100 0), (6, .loc 101 0), (23, .sl false false (e2.Kids.map eNI)), (24, V.i (e2.Kids.length : Int)), (25, V.i y63)], [(100, .cells 57 [V.i 0, V.i 0, V.s [], V.s [], .c (.slice none 0 0)]), (101, .cells 57 [V.i e2.Kind, V.i e2.Op, V.s e2.Text, V.s e2.Other, .own 102]), (102, .vec false 57 5 (y64.map eST))]⟩) (fun n i => mi_treeAt_l1 N R n i = some r) (n0 := N) (i0 := (a0, e2, 0, [])) ((Weak.nilCell 102 4 103 57 5 (ety := 57) (cs := [V.i e2.Kind, V.i e2.Op, V.s e2.Text, V.s e2.Other, .c (.slice none 0 0)]) (by kernel_rfl) (by kernel_rfl) (by kernel_rfl)).trans (wS [(100, 100), (102, 101), (103, 102)] [0, 4, 6, 23, 24, 25])) h (fun i h => by simp [mi_treeAt_l1] at h) ?_)))))))
 rintro n1 ⟨a0, e2, y63, y64⟩ h83 ih84
 rw [mi_treeAt_l1] at h83
 refine cV 168 (CO.seq' ?_)
 refine cI h83 (fun _ h83 => ?_) (fun _ h83 => ?_)
 ·refine CO.skip (CO.seq' (CO.block' (bB h83 fun e86 hx94 h83 => (CO.sw mix (W.ixD Dk eNI hx94 1 (by kernel_rfl) (by kernel_rfl) (wR 2 168 (wF (bB h83 fun r89 hx97 h83 => ?_))))))))
  refine bB h83 fun x90 hx98 h83 => ?_
  refine CO.endR (tl 39 [(0, .sl false false (a0.map (eSN false))), (4, .loc 100 0), (6, .loc 101 0), (23, .sl false false (e2.Kids.map eNI)), (24, V.i (e2.Kids.length : Int)), (25, V.i y63)]) [(101, .cells 57 [V.i e2.Kind, V.i e2.Op, V.s e2.Text, V.s e2.Other, .own 169]), (169, .vec false 57 5 (x90.map eST)), (100, .cells 57 [V.i 0, V.i 0, V.s [], V.s [], .c (.slice none 0 0)])] mix (by
   refine wR 4 168 (W.call0 (HR.mi_treeAt a0 e86 _ hx97) cok56 rfl (by kernel_rfl) (W.layop Dk (show LayOk _ [] from trivial) (by kernel_rfl) 168 { v := .own 168, R := [], new := [(168, .vec true 57 5 [[V.i r89.kind, V.i r89.op, V.s r89.text, V.s r89.other, .sl false false (r89.kids.map eST)]])], N := [168] } (by kernel_rfl) (W.vecEq 168 (nn := true) (e := 57) (k := 5) (rows := [[V.i r89.kind, V.i r89.op, V.s r89.text, V.s r89.other, .sl false false (r89.kids.map eST)]]) (rows' := [r89].map eST) (by kernel_rfl) (by simp only [List.map_cons, List.map_nil, encSTree_eq]) (W.appO Dk eST (a := 102) (c := 168) (el := 57) (sz := 5) 72 hx98 rfl 169 (by kernel_rfl) (wR 2 170 ?_)))))
   exact fI
   ) (fun st hw => ?_)
  refine CO.weak hw ?_
  exact cK 170 ih84 (a0, e2, (IntKind.wrap .i64 (y63 + 1)), x90) h83 [(100, 100), (101, 101), (169, 102)] [0, 4, 6, 23, 24, 25]
 refine CO.exit (cU 2 168 (tl 39 [(4, .loc 100 0)]) [(100, .cells 57 [V.i e2.Kind, V.i e2.Op, V.s e2.Text, V.s e2.Other, .own 102]), (102, .vec false 57 5 (y64.map eST))] (CO.lay (tl 39 [(4, .loc 100 0)]) [(100, .cells 57 [V.i e2.Kind, V.i e2.Op, V.s e2.Text, V.s e2.Other, .sl false false (y64.map eST)])] (LayOk.cons (j := 102) eST eST y64 (by kernel_rfl) (share_encSTree) (show LayOk _ [] from trivial)) (by kernel_rfl) (by kernel_rfl) (by kernel_rfl) (CO.ret ?_)))
 have h83 := sI h83
 subst h83
 exact eG [] (.inr rfl) (RetV.one rfl (OneR.cell Dk (r := .agg [V.i e2.Kind, V.i e2.Op, V.s e2.Text, V.s e2.Other, .sl false false (y64.map eST)]) (i := 100) (ety := 57) (cs := [V.i e2.Kind, V.i e2.Op, V.s e2.Text, V.s e2.Other, .sl false false (y64.map eST)]) (by kernel_rfl) (by kernel_rfl) (by kernel_rfl)))

theorem scc2_ok : ∀ N, RecOk2 (scc2 N)
 | 0 => ⟨fun _ _ _ h => (by cases h)⟩
 | N + 1 => ⟨fun a0 a1 _ h => mi_treeAt_F_ok N (scc2 N) (scc2_ok N) a0 a1 h⟩

theorem mi_treeAt_ok (N : Nat) (a0 : List SNode) (a1 : Int) {r : STree} (h : mi_treeAt N a0 a1 = some r) :
  AC Tryz.prog (GS []) 56 [.sl false false (a0.map (eSN false)), V.i a1] [] (.agg [V.i r.kind, V.i r.op, V.s r.text, V.s r.other, .sl false false (r.kids.map eST)]) [] :=
 (scc2_ok N).mi_treeAt a0 a1 r h

theorem mi_rootOf_ok (N : Nat) (a0 : List SNode) {r : STree} (h : mi_rootOf N a0 = some r) :
    AC Tryz.prog (GS []) 27 [.sl false false (a0.map (eSN false))] [] (.agg [V.i r.kind, V.i r.op, V.s r.text, V.s r.other, .sl false false (r.kids.map eST)]) [] := by
 rw [mi_rootOf] at h
 refine AC.enter Tryz.func27 rfl (cV 100 (bB h fun r2 hx2 h => (CO.sw mix (wR 2 101 (W.len Dk (eSN false) a0 [] (by kernel_rfl) (by kernel_rfl) (wR 1 101 (W.call0 (mi_treeAt_ok N a0 (IntKind.wrap .i64 ((a0.length : Int) - 1)) hx2) cok56 rfl (by kernel_rfl) (wR 1 101 ?_))))))))
 refine wF (CO.ret ?_)
 have h := sI h
 subst h
 exact eG [] (.inr rfl) (RetV.one rfl (OneR.cell Dk (r := .agg [V.i r2.kind, V.i r2.op, V.s r2.text, V.s r2.other, .sl false false (r2.kids.map eST)]) (i := 100) (ety := 57) (cs := [V.i r2.kind, V.i r2.op, V.s r2.text, V.s r2.other, .sl false false (r2.kids.map eST)]) (by kernel_rfl) (by kernel_rfl) (by kernel_rfl)))

structure RecOk3 (R : Rec3) : Prop where
 mi_tree__depth : ∀ (a0 : STree) (r : Int), R.mi_tree__depth a0 = some r → AC Tryz.prog (GS []) 62 [.agg [V.i a0.kind, V.i a0.op, V.s a0.text, V.s a0.other, .sl false false (a0.kids.map eST)]] [] (V.i r) []

theorem mi_tree__depth_F_ok (N : Nat) (R : Rec3) (HR : RecOk3 R) (a0 : STree) {r : Int} (h : mi_tree__depth_F N R a0 = some r) :
    AC Tryz.prog (GS []) 62 [.agg [V.i a0.kind, V.i a0.op, V.s a0.text, V.s a0.other, .sl false false (a0.kids.map eST)]] [] (V.i r) [] := by
 rw [mi_tree__depth_F] at h
 refine AC.enter Tryz.func62 rfl (cV 100 (cV 101 (CO.seq' (CO.sw mix (wR 2 101 (W.len Dk eST a0.kids [] (by kernel_rfl) (by kernel_rfl) (wR 1 101 (wF ?_))))))))
 refine CO.block' (CO.loopJ (fun (⟨a0, y37, y38⟩ : (STree × Int × Int)) => ⟨tl 20 [(3, V.i y37), (7, .sl false false (a0.kids.map eST)), (8, V.i (a0.kids.length : Int)), (9, V.i y38)], []⟩) (fun n i => mi_tree__depth_l1 N R n i = some r) (n0 := N) (i0 := (a0, 0, 0)) (wS [] [3, 7, 8, 9]) h (fun i h => by simp [mi_tree__depth_l1] at h) ?_)
 rintro n1 ⟨a0, y37, y38⟩ h53 ih54
 rw [mi_tree__depth_l1] at h53
 refine cV 163 (CO.seq' ?_)
 refine cI h53 (fun _ h53 => ?_) (fun _ h53 => ?_)
 ·refine CO.skip (CO.seq' (CO.block' (bB h53 fun e54 hx62 h53 => (CO.sw mix (W.ixDr Dk eST hx62 5 (by kernel_rfl) (encSTree_eq e54) (by kernel_rfl) (wR 3 163 (wF (bB h53 fun r56 hx64 h53 => ?_))))))))
  refine CO.endR (tl 20 [(3, V.i (if r56 > y37 then r56 else y37)), (7, .sl false false (a0.kids.map eST)), (8, V.i (a0.kids.length : Int)), (9, V.i y38)]) [] mix (by
   refine wR 2 164 (W.call0 (HR.mi_tree__depth e54 _ hx64) cok62 rfl (by kernel_rfl) (wR 2 164 ?_))
   exact fI
   ) (fun st hw => ?_)
  refine CO.weak hw ?_
  exact cK 164 ih54 (a0, (if r56 > y37 then r56 else y37), (IntKind.wrap .i64 (y38 + 1))) h53 [] [3, 7, 8, 9]
 refine CO.exit (cV 163 ?_)
 cases h53
 exact e1 2 id

theorem scc3_ok : ∀ N, RecOk3 (scc3 N)
 | 0 => ⟨fun _ _ h => (by cases h)⟩
 | N + 1 => ⟨fun a0 _ h => mi_tree__depth_F_ok N (scc3 N) (scc3_ok N) a0 h⟩

theorem mi_tree__depth_ok (N : Nat) (a0 : STree) {r : Int} (h : mi_tree__depth N a0 = some r) :
  AC Tryz.prog (GS []) 62 [.agg [V.i a0.kind, V.i a0.op, V.s a0.text, V.s a0.other, .sl false false (a0.kids.map eST)]] [] (V.i r) [] :=
 (scc3_ok N).mi_tree__depth a0 r h

theorem mi_TreeOk_ok (N : Nat) (a0 : List SNode) {r : Bool} (h : mi_TreeOk N a0 = some r) :
    AC Tryz.prog (GS [0, 1, 2]) 30 [.sl false false (a0.map (eSN false))] [] (V.b r) [] := by
 rw [mi_TreeOk] at h
 refine AC.enter Tryz.func30 rfl (cV 100 (CO.seq' (bB h fun r4 hx5 h => (cC 1 100 (AC.gs (mi_ShapeOk_ok N a0 hx5) (by decide)) cok25 ?_))))
 refine cI h (fun _ h => ?_) (fun _ h => ?_)
 ·refine cV 100 ?_
  cases h
  exact e1 2 id
 refine CO.skip (CO.seq' (CO.sw mix (wR 1 100 (W.len Dk (eSN false) a0 [] (by kernel_rfl) (by kernel_rfl) (wR 1 100 (wF (CO.block' (CO.loopJ (fun (⟨a0, y359⟩ : ((List SNode) × Int)) => ⟨tl 42 [(0, .sl false false (a0.map (eSN false))), (10, .sl false false (a0.map (eSN false))), (11, V.i (a0.length : Int)), (12, V.i y359)], []⟩) (fun n i => mi_TreeOk_l1 N n i = some r) (n0 := N) (i0 := (a0, 0)) (wS [] [0, 10, 11, 12]) h (fun i h => by simp [mi_TreeOk_l1] at h) ?_))))))))
 rintro n1 ⟨a0, y359⟩ h599 ih600
 rw [mi_TreeOk_l1] at h599
 refine cV 282 (CO.seq' ?_)
 refine cI h599 (fun _ h599 => ?_) (fun _ h599 => ?_)
 ·refine CO.skip (CO.seq' (CO.block' (bB h599 fun e494 hx662 h599 => (CO.sw mix (W.ixD Dk (eSN false) hx662 5 (by kernel_rfl) (by kernel_rfl) (wR 3 282 (wF (CO.seq' ?_))))))))
  refine bB h599 fun r498 hx667 h599 => (cC 1 283 (mi_FieldsOk_ok N e494 hx667) cok60 ?_)
  refine cI h599 (fun _ h599 => ?_) (fun _ h599 => ?_)
  ·refine cV 283 ?_
   cases h599
   exact e1 2 id
  refine CO.skip (CO.sw mix (wR 2 283 (W.len Dk eNI e494.Kids [] (by kernel_rfl) (by kernel_rfl) (wR 1 283 (wF (CO.block' (CO.loopJ (fun (⟨a0, y359, e494, y511⟩ : ((List SNode) × Int × SNode × Int)) => ⟨tl 42 [(0, .sl false false (a0.map (eSN false))), (4, .loc 100 0), (10, .sl false false (a0.map (eSN false))), (11, V.i (a0.length : Int)), (12, V.i y359), (20, .sl false false (e494.Kids.map eNI)), (21, V.i (e494.Kids.length : Int)), (22, V.i y511)], [(100, .cells 45 [V.i e494.Kind, V.i e494.Op, V.s e494.Text, V.s e494.Other, .sl false false (e494.Kids.map eNI)])]⟩) (fun n i => mi_TreeOk_l2 N (mi_TreeOk_l1 N n1) n i = some r) (n0 := N) (i0 := (a0, y359, e494, 0)) (wS [(282, 100)] [0, 4, 10, 11, 12, 20, 21, 22]) h599 (fun i h => by simp [mi_TreeOk_l2] at h) ?_)))))))
  rintro n2 ⟨a0, y359, e494, y511⟩ h701 ih702
  rw [mi_TreeOk_l2] at h701
  refine cV 343 (CO.seq' ?_)
  refine cI h701 (fun _ h701 => ?_) (fun _ h701 => ?_)
  ·refine CO.skip (CO.seq' (CO.block' (bB h701 fun e532 hx713 h701 => (CO.sw mix (wR 1 343 (W.ixD Dk eNI hx713 1 (by kernel_rfl) (by kernel_rfl) (wR 3 343 (wF ?_))))))))
   refine bB h701 fun e535 hx716 h701 => (bB h701 fun r536 hx717 h701 => (CO.sw mix (wR 4 343 (W.ixD Dk (eSN false) hx716 5 (by kernel_rfl) (by kernel_rfl) (wR 2 343 (W.call0 (AC.gs (mi_kidOk_ok e494 y511 e535.Kind hx717) (by decide)) cok61 rfl (by kernel_rfl) (wR 1 343 (wF ?_))))))))
   refine cI h701 (fun _ h701 => ?_) (fun _ h701 => ?_)
   ·refine cV 343 ?_
    cases h701
    exact e1 2 id
   refine CO.skip ?_
   exact cK 343 ih702 (a0, y359, e494, (IntKind.wrap .i64 (y511 + 1))) h701 [(100, 100)] [0, 4, 10, 11, 12, 20, 21, 22]
  refine CO.exit ?_
  exact cK 343 ih600 (a0, (IntKind.wrap .i64 (y359 + 1))) h701 [] [0, 10, 11, 12]
 refine CO.exit (bB h599 fun r539 hx721 h599 => (bB h599 fun r540 hx722 h599 => (CO.sw mix (wR 1 282 (W.call0 (AC.gs (mi_rootOf_ok N a0 hx721) (by decide)) cok27 rfl (by kernel_rfl) (W.call0 (AC.gs (mi_tree__depth_ok N r539 hx722) (by decide)) cok62 rfl (by kernel_rfl) (wR 2 282 (wF ?_))))))))
 cases h599
 exact e1 2 id

theorem mi_ExprOk_ok (N : Nat) (a0 : List SNode) {r : Bool} (h : mi_ExprOk N a0 = some r) :
    AC Tryz.prog (GS [0, 1, 2]) 22 [.sl false false (a0.map (eSN false))] [] (V.b r) [] := by
 rw [mi_ExprOk] at h
 refine AC.enter Tryz.func22 rfl (cV 100 (bB h fun y4 hv5 h => ?_))
 refine CO.cutR (tl 15 [(2, V.b y4)]) [] mix (by
  refine wR 1 100 (bB hv5 fun r5 hx6 hv5 => (W.call0 (mi_TreeOk_ok N a0 hx6) cok30 rfl (by kernel_rfl) (wR 1 100 ?_)))
  refine wJ 5 hv5 (fun hv5 => ?_) (fun hv5 => ?_)
  ·refine wR 2 100 (W.len Dk (eSN false) a0 [] (by kernel_rfl) (by kernel_rfl) (wR 1 100 (bB hv5 fun e6 hx8 hv5 => (W.ixD Dk (eSN false) hx8 5 (by kernel_rfl) (by kernel_rfl) (wR 2 100 (bB hv5 fun r7 hx9 hv5 => (W.call0 (AC.gs (mi_IsExpr_ok e6.Kind hx9) (by decide)) cok47 rfl (by kernel_rfl) (wR 2 100 ?_))))))))
   cases hv5
   exact fS [] [2]
  refine wR 10 100 ?_
  cases hv5
  exact fS [] [2]
  ) ?_
 cases h
 exact e1 2 id

theorem mi_NamesOf_1_ok (p0_0 : Int) (p0_1 : Int) (p0_2 : List UInt8) (p0_3 : List UInt8) (p0_4 : List Int) (p2 : List (List UInt8)) {r : (List (List UInt8))} (h : mi_NamesOf_1 p0_0 p0_1 p0_2 p0_3 p0_4 p2 = some r) :
    AC Tryz.prog (GS []) 49 [.loc 0 2, .loc 1 0] [(0, .cells 45 [V.i p0_0, V.i p0_1, V.s p0_2, V.s p0_3, .sl false false (p0_4.map eNI)]), (1, .cells 51 [.own 2]), (2, .vec false 9 1 (p2.map eNS))] (.tup []) [(0, .cells 45 [V.i p0_0, V.i p0_1, V.s p0_2, V.s p0_3, .sl false false (p0_4.map eNI)]), (1, .cells 51 [.own 100]), (100, .vec false 9 1 (r.map eNS))] := by
 rw [mi_NamesOf_1] at h
 refine AC.enter Tryz.func49 rfl (bB h fun x2 hx2 h => ?_)
 refine CO.cutE (tl 9 []) [(1, .cells 51 [.own 101]), (101, .vec false 9 1 (x2.map eNS)), (0, .cells 45 [V.i p0_0, V.i p0_1, V.s p0_2, V.s p0_3, .sl false false (p0_4.map eNI)])] mix (by
  refine wR 5 100 (W.appO Dk eNS (a := 2) (c := 100) (el := 9) (sz := 1) 16 hx2 rfl 101 (by kernel_rfl) (wR 1 102 ?_))
  exact fI
  ) ?_
 cases h
 exact eG [(0, 0), (1, 1), (101, 100)] (.inl rfl) (RetV.none rfl)

theorem mi_NamesOf_1_v2_ok (p0_0 : Int) (p0_1 : Int) (p0_2 : List UInt8) (p0_3 : List UInt8) (p0_4 : List Int) (p2 : List (List UInt8)) {r : (List (List UInt8))} (h : mi_NamesOf_1_v2 p0_0 p0_1 p0_2 p0_3 p0_4 p2 = some r) :
    AC Tryz.prog (GS []) 49 [.loc 0 3, .loc 1 0] [(0, .cells 45 [V.i p0_0, V.i p0_1, V.s p0_2, V.s p0_3, .sl false false (p0_4.map eNI)]), (1, .cells 51 [.own 2]), (2, .vec false 9 1 (p2.map eNS))] (.tup []) [(0, .cells 45 [V.i p0_0, V.i p0_1, V.s p0_2, V.s p0_3, .sl false false (p0_4.map eNI)]), (1, .cells 51 [.own 100]), (100, .vec false 9 1 (r.map eNS))] := by
 rw [mi_NamesOf_1_v2] at h
 refine AC.enter Tryz.func49 rfl (bB h fun x2 hx2 h => ?_)
 refine CO.cutE (tl 9 []) [(1, .cells 51 [.own 101]), (101, .vec false 9 1 (x2.map eNS)), (0, .cells 45 [V.i p0_0, V.i p0_1, V.s p0_2, V.s p0_3, .sl false false (p0_4.map eNI)])] mix (by
  refine wR 5 100 (W.appO Dk eNS (a := 2) (c := 100) (el := 9) (sz := 1) 16 hx2 rfl 101 (by kernel_rfl) (wR 1 102 ?_))
  exact fI
  ) ?_
 cases h
 exact eG [(0, 0), (1, 1), (101, 100)] (.inl rfl) (RetV.none rfl)

theorem mi_namesIn_ok (p0_0 : Int) (p0_1 : Int) (p0_2 : List UInt8) (p0_3 : List UInt8) (p0_4 : List Int) (p2 : List (List UInt8)) {r : (List (List UInt8))} (h : mi_namesIn p0_0 p0_1 p0_2 p0_3 p0_4 p2 = some r) :
    AC Tryz.prog (GS []) 48 [.loc 0 0, .fn 49 [.loc 1 0]] [(0, .cells 45 [V.i p0_0, V.i p0_1, V.s p0_2, V.s p0_3, .sl false false (p0_4.map eNI)]), (1, .cells 51 [.own 2]), (2, .vec false 9 1 (p2.map eNS))] (.tup []) [(0, .cells 45 [V.i p0_0, V.i p0_1, V.s p0_2, V.s p0_3, .sl false false (p0_4.map eNI)]), (1, .cells 51 [.own 100]), (100, .vec false 9 1 (r.map eNS))] := by
 rw [mi_namesIn] at h
 refine AC.enter Tryz.func48 rfl ?_
 refine CO.join (fun (y4 : (List (List UInt8))) => ⟨tl 29 [(0, .loc 0 0), (1, .fn 49 [.loc 1 0])], [(0, .cells 45 [V.i p0_0, V.i p0_1, V.s p0_2, V.s p0_3, .sl false false (p0_4.map eNI)]), (1, .cells 51 [.own 100]), (100, .vec false 9 1 (y4.map eNS))]⟩) (fun i => mi_namesIn_k1 p0_0 p0_1 p0_2 p0_3 p0_4 i = some r) ?_ ?_
 · rintro y4 h14
   rw [mi_namesIn_k1] at h14
   refine cV 101 ?_
   refine cI h14 (fun _ h14 => ?_) (fun _ h14 => ?_)
   ·refine bB h14 fun r6 hx17 h14 => ?_
    refine CO.cutE (tl 29 []) [(101, .vec false 9 1 (r6.map eNS)), (0, .cells 45 [V.i p0_0, V.i p0_1, V.s p0_2, V.s p0_3, .sl false false (p0_4.map eNI)]), (1, .cells 51 [.own 101])] mix (by
     refine wR 4 101 (W.call (mi_NamesOf_1_v2_ok p0_0 p0_1 p0_2 p0_3 p0_4 y4 hx17) cok49 [(0, 0), (1, 1), (100, 2)] [(0, 0), (1, 1), (100, 101)] [101] (show LayOk _ [] from trivial) (by kernel_rfl) (by kernel_rfl) ?_)
     exact fI
     ) ?_
    cases h14
    exact eG [(0, 0), (1, 1), (101, 100)] (.inl rfl) (RetV.none rfl)
   refine CO.skip ?_
   cases h14
   exact eG [(0, 0), (1, 1), (100, 100)] (.inl rfl) (RetV.none rfl)
 intro hk18
 refine cV 100 (CO.block' ?_)
 refine CO.join (fun (⟨p2, y7⟩ : ((List (List UInt8)) × Bool)) => ⟨tl 29 [(0, .loc 0 0), (1, .fn 49 [.loc 1 0]), (8, V.b y7)], [(0, .cells 45 [V.i p0_0, V.i p0_1, V.s p0_2, V.s p0_3, .sl false false (p0_4.map eNI)]), (1, .cells 51 [.own 2]), (2, .vec false 9 1 (p2.map eNS))]⟩) (fun i => mi_namesIn_k2 p0_0 p0_1 p0_2 p0_3 p0_4 i = some r) ?_ ?_
 · rintro ⟨p2, y7⟩ h23
   rw [mi_namesIn_k2] at h23
   refine cI h23 (fun _ h23 => ?_) (fun _ h23 => ?_)
   ·refine bB h23 fun r9 hx26 h23 => (CO.w mix (wR 4 100 (W.call (mi_NamesOf_1_ok p0_0 p0_1 p0_2 p0_3 p0_4 p2 hx26) cok49 [(0, 0), (1, 1), (2, 2)] [(0, 0), (1, 1), (100, 100)] [100] (show LayOk _ [] from trivial) (by kernel_rfl) (by kernel_rfl) ?_)))
    exact wK hk18 r9 h23 [(0, 0), (1, 1), (100, 100)] [0, 1]
   exact sK hk18 p2 h23 [(0, 0), (1, 1), (2, 100)] [0, 1]
 intro hk27
 refine cV 100 ?_
 refine cI h (fun _ h => ?_) (fun _ h => ?_)
 ·exact sK hk27 (p2, (p0_0 == 1)) h [(0, 0), (1, 1), (2, 2)] [0, 1, 8]
 refine cV 100 ?_
 refine cI h (fun _ h => ?_) (fun _ h => ?_)
 ·exact sK hk27 (p2, (p0_0 == 5)) h [(0, 0), (1, 1), (2, 2)] [0, 1, 8]
 refine cV 100 ?_
 refine cI h (fun _ h => ?_) (fun _ h => ?_)
 ·exact sK hk27 (p2, (p0_0 == 13)) h [(0, 0), (1, 1), (2, 2)] [0, 1, 8]
 refine cV 100 ?_
 refine cI h (fun _ h => ?_) (fun _ h => ?_)
 ·exact sK hk27 (p2, (p0_0 == 27)) h [(0, 0), (1, 1), (2, 2)] [0, 1, 8]
 exact cK 100 hk27 (p2, (p0_0 == 32)) h [(0, 0), (1, 1), (2, 2)] [0, 1, 8]

def layStrs_ren : Go.Shelf.Ren := ⟨fun | 190 => 73 | 125 => 89 | 258 => 88 | 128 => 115 | 129 => 116 | 302 => 106 | 303 => 107 | 304 => 108 | 305 => 109 | 306 => 110 | 307 => 111 | 308 => 112 | 309 => 113 | 310 => 114 | 333 => 131 | 329 => 132 | 330 => 133 | 334 => 134 | 335 => 135 | 336 => 136 | 344 => 146 | n => n, fun | 31 => 51 | 9 => 9 | 3 => 3 | 46 => 110 | 0 => 0 | 51 => 127 | 53 => 129 | 4 => 4 | 183 => 119 | 182 => 118 | 131 => 124 | 5 => 5 | 218 => 132 | 222 => 136 | 228 => 141 | 229 => 94 | n => n, fun | n => n⟩
theorem layStrs : Go.Proofs.Lays.n190 Tryz.prog layStrs_ren where
 mixed := by kernel_rfl
 f125 := Tryz.func89.trans (congrArg some (by kernel_rfl))
 f128 := Tryz.func115.trans (congrArg some (by kernel_rfl))
 f129 := Tryz.func116.trans (congrArg some (by kernel_rfl))
 f190 := Tryz.func73.trans (congrArg some (by kernel_rfl))
 f258 := Tryz.func88.trans (congrArg some (by kernel_rfl))
 f302 := Tryz.func106.trans (congrArg some (by kernel_rfl))
 f303 := Tryz.func107.trans (congrArg some (by kernel_rfl))
 f304 := Tryz.func108.trans (congrArg some (by kernel_rfl))
 f305 := Tryz.func109.trans (congrArg some (by kernel_rfl))
 f306 := Tryz.func110.trans (congrArg some (by kernel_rfl))
 f307 := Tryz.func111.trans (congrArg some (by kernel_rfl))
 f308 := Tryz.func112.trans (congrArg some (by kernel_rfl))
 f309 := Tryz.func113.trans (congrArg some (by kernel_rfl))
 f310 := Tryz.func114.trans (congrArg some (by kernel_rfl))
 f329 := Tryz.func132.trans (congrArg some (by kernel_rfl))
 f330 := Tryz.func133.trans (congrArg some (by kernel_rfl))
 f333 := Tryz.func131.trans (congrArg some (by kernel_rfl))
 f334 := Tryz.func134.trans (congrArg some (by kernel_rfl))
 f335 := Tryz.func135.trans (congrArg some (by kernel_rfl))
 f336 := Tryz.func136.trans (congrArg some (by kernel_rfl))
 f344 := Tryz.func146.trans (congrArg some (by kernel_rfl))
 t0 := Tryz.underlying0
 a0 := Tryz.isAgg0
 z0 := Tryz.sizeOf0
 v0 := Tryz.zeroValue0
 t3 := Tryz.underlying3
 a3 := Tryz.isAgg3
 z3 := Tryz.sizeOf3
 v3 := Tryz.zeroValue3
 t4 := Tryz.underlying4
 a4 := Tryz.isAgg4
 z4 := Tryz.sizeOf4
 v4 := Tryz.zeroValue4
 t5 := Tryz.underlying5
 a5 := Tryz.isAgg5
 z5 := Tryz.sizeOf5
 v5 := Tryz.zeroValue5
 t9 := Tryz.underlying9
 a9 := Tryz.isAgg9
 z9 := Tryz.sizeOf9
 v9 := Tryz.zeroValue9
 t31 := Tryz.underlying51
 a31 := Tryz.isAgg51
 z31 := Tryz.sizeOf51
 v31 := Tryz.zeroValue51
 t46 := Tryz.underlying110
 a46 := Tryz.isAgg110
 z46 := Tryz.sizeOf110
 v46 := Tryz.zeroValue110
 t51 := Tryz.underlying127
 a51 := Tryz.isAgg127
 z51 := Tryz.sizeOf127
 v51 := Tryz.zeroValue127
 t53 := Tryz.underlying129
 a53 := Tryz.isAgg129
 z53 := Tryz.sizeOf129
 v53 := Tryz.zeroValue129
 t131 := Tryz.underlying124
 a131 := Tryz.isAgg124
 z131 := Tryz.sizeOf124
 v131 := Tryz.zeroValue124
 t182 := Tryz.underlying118
 a182 := Tryz.isAgg118
 z182 := Tryz.sizeOf118
 v182 := Tryz.zeroValue118
 t183 := Tryz.underlying119
 a183 := Tryz.isAgg119
 z183 := Tryz.sizeOf119
 v183 := Tryz.zeroValue119
 t218 := Tryz.underlying132
 a218 := Tryz.isAgg132
 z218 := Tryz.sizeOf132
 v218 := Tryz.zeroValue132
 t222 := Tryz.underlying136
 a222 := Tryz.isAgg136
 z222 := Tryz.sizeOf136
 v222 := Tryz.zeroValue136
 t228 := Tryz.underlying141
 a228 := Tryz.isAgg141
 z228 := Tryz.sizeOf141
 v228 := Tryz.zeroValue141
 t229 := Tryz.underlying94
 a229 := Tryz.isAgg94
 z229 := Tryz.sizeOf94
 v229 := Tryz.zeroValue94


theorem m_slices_Sort_string_mem : SortMemS Tryz.prog 73 :=
 ⟨fun blk cap zs w h1 h2 h3 => Any.slices_Sort_string layStrs blk 0 cap zs w h1 h2 h3, fun w => Any.slices_Sort_string_none layStrs none 0 w⟩

theorem m_slices_Sort_string_ok (p0 : List (List UInt8)) {r : List (List UInt8)} (h : m_slices_Sort_string p0 = some r) :
  AC Tryz.prog (GS []) 73 [.own 0] [(0, .vec false 9 1 (p0.map eNS))] (.tup []) [(0, .vec false 9 1 (r.map eNS))] := AC.sortSO m_slices_Sort_string_mem h


def layComp_ren : Go.Shelf.Ren := ⟨fun | 194 => 74 | n => n, fun | 31 => 51 | 9 => 9 | 3 => 3 | 4 => 4 | 0 => 0 | n => n, fun | n => n⟩
theorem layComp : Go.Proofs.Lays.n194 Tryz.prog layComp_ren where
 mixed := by kernel_rfl
 f194 := Tryz.func74.trans (congrArg some (by kernel_rfl))
 t0 := Tryz.underlying0
 a0 := Tryz.isAgg0
 z0 := Tryz.sizeOf0
 v0 := Tryz.zeroValue0
 t3 := Tryz.underlying3
 a3 := Tryz.isAgg3
 z3 := Tryz.sizeOf3
 v3 := Tryz.zeroValue3
 t4 := Tryz.underlying4
 a4 := Tryz.isAgg4
 z4 := Tryz.sizeOf4
 v4 := Tryz.zeroValue4
 t9 := Tryz.underlying9
 a9 := Tryz.isAgg9
 z9 := Tryz.sizeOf9
 v9 := Tryz.zeroValue9
 t31 := Tryz.underlying51
 a31 := Tryz.isAgg51
 z31 := Tryz.sizeOf51
 v31 := Tryz.zeroValue51


theorem m_slices_Compact_string_mem : CompMemS Tryz.prog 74 :=
 ⟨fun blk cap zs w h1 h2 h3 => Any.slices_Compact_string layComp blk 0 cap zs w h1 h2 h3, fun w => Any.slices_Compact_string_empty layComp none 0 w⟩

theorem m_slices_Compact_string_ok (p0 : List (List UInt8)) {r : List (List UInt8)} (h : m_slices_Compact_string p0 = some r) :
  AC Tryz.prog (GS []) 74 [.own 0] [(0, .vec false 9 1 (p0.map eNS))] (.own 100) [(100, .vec false 9 1 (r.map eNS))] := AC.compSO m_slices_Compact_string_mem h


theorem mi_once_ok (p0 : List (List UInt8)) {r : (List (List UInt8))} (h : mi_once p0 = some r) :
    AC Tryz.prog (GS []) 50 [.own 0] [(0, .vec false 9 1 (p0.map eNS))] (.own 100) [(100, .vec false 9 1 (r.map eNS))] := by
 rw [mi_once] at h
 refine AC.enter Tryz.func50 rfl (cV 100 (bB h fun r2 hx2 h => (CO.sw mix (wR 1 100 (W.call (m_slices_Sort_string_ok p0 hx2) cok73 [(0, 0)] [(0, 0)] [] (show LayOk _ [] from trivial) (by kernel_rfl) (by kernel_rfl) (wF (bB h fun r4 hx4 h => (CO.sw mix ?_))))))))
 refine wR 1 100 (W.call (m_slices_Compact_string_ok r2 hx4) cok74 [(0, 0)] [(100, 100)] [100] (show LayOk _ [] from trivial) (by kernel_rfl) (by kernel_rfl) (wR 1 101 (wF (CO.ret ?_))))
 cases h
 exact eG [(100, 100)] (.inr rfl) (RetV.one rfl (oT (t := 2) (r := .own 100)))

theorem mi_NamesOf_ok (N : Nat) (a0 : List SNode) {r : (List (List UInt8))} (h : mi_NamesOf N a0 = some r) :
    AC Tryz.prog (GS []) 23 [.sl false false (a0.map (eSN false))] [] (.own 100) [(100, .vec false 9 1 (r.map eNS))] := by
 rw [mi_NamesOf] at h
 refine AC.enter Tryz.func23 rfl (cV 100 (cV 100 (CO.seq' (CO.sw mix (wR 1 102 (W.len Dk (eSN false) a0 [] (by kernel_rfl) (by kernel_rfl) (wR 1 102 (wF ?_))))))))
 refine CO.block' (CO.loopJ (fun (⟨a0, y37, y38⟩ : ((List SNode) × Int × (List (List UInt8)))) => ⟨tl 18 [(3, .loc 100 0), (7, .sl false false (a0.map (eSN false))), (8, V.i (a0.length : Int)), (9, V.i y37)], [(100, .cells 51 [.own 101]), (101, .vec false 9 1 (y38.map eNS))]⟩) (fun n i => mi_NamesOf_l1 N n i = some r) (n0 := N) (i0 := (a0, 0, [])) (wS [(101, 100), (100, 101)] [3, 7, 8, 9]) h (fun i h => by simp [mi_NamesOf_l1] at h) ?_)
 rintro n1 ⟨a0, y37, y38⟩ h53 ih54
 rw [mi_NamesOf_l1] at h53
 refine cV 166 (CO.seq' ?_)
 refine cI h53 (fun _ h53 => ?_) (fun _ h53 => ?_)
 ·refine CO.skip (CO.seq' (CO.block' (bB h53 fun e54 hx62 h53 => (CO.sw mix (W.ixD Dk (eSN false) hx62 5 (by kernel_rfl) (by kernel_rfl) (wR 3 166 (wF (bB h53 fun r56 hx64 h53 => ?_))))))))
  refine CO.endR (tl 18 [(3, .loc 100 0), (7, .sl false false (a0.map (eSN false))), (8, V.i (a0.length : Int)), (9, V.i y37)]) [(167, .vec false 9 1 (r56.map eNS)), (100, .cells 51 [.own 167])] mix (by
   refine wR 1 167 (W.call (mi_namesIn_ok e54.Kind e54.Op e54.Text e54.Other e54.Kids y38 hx64) cok48 [(166, 0), (100, 1), (101, 2)] [(0, 166), (1, 100), (100, 167)] [167] (show LayOk _ [] from trivial) (by kernel_rfl) (by kernel_rfl) ?_)
   exact fI
   ) (fun st hw => ?_)
  refine CO.weak hw ?_
  exact cK 168 ih54 (a0, (IntKind.wrap .i64 (y37 + 1)), r56) h53 [(100, 100), (167, 101)] [3, 7, 8, 9]
 refine CO.exit (bB h53 fun r58 hx66 h53 => (CO.sw mix (wR 1 166 (W.call (mi_once_ok y38 hx66) cok50 [(101, 0)] [(100, 166)] [166] (show LayOk _ [] from trivial) (by kernel_rfl) (by kernel_rfl) (wR 1 167 (wF (CO.ret ?_)))))))
 cases h53
 exact eG [(166, 100)] (.inr rfl) (RetV.one rfl (oT (t := 2) (r := .own 166)))

theorem mi_IsHole_ok (a0 : SNode) {r : Bool} (h : mi_IsHole a0 = some r) :
    AC Tryz.prog (GS []) 55 [.agg [V.i a0.Kind, V.i a0.Op, V.s a0.Text, V.s a0.Other, .sl false false (a0.Kids.map eNI)]] [] (V.b r) [] := by
 rw [mi_IsHole] at h
 refine AC.enter Tryz.func55 rfl (cV 100 (bB h fun y3 hv6 h => ?_))
 refine CO.cutR (tl 24 [(2, V.b y3)]) [] mix (by
  refine wR 4 101 ?_
  refine wJ 6 hv6 (fun hv6 => ?_) (fun hv6 => ?_)
  ·refine wR 6 101 ?_
   refine wJ 12 hv6 (fun hv6 => ?_) (fun hv6 => ?_)
   ·refine wR 2 101 (bB hv6 fun b4 hx9 hv6 => (W.ixS Dk hx9 (by kernel_rfl) (wR 3 101 ?_)))
    refine wJ 18 hv6 (fun hv6 => ?_) (fun hv6 => ?_)
    ·refine wR 2 101 (bB hv6 fun b5 hx11 hv6 => (W.ixS Dk hx11 (by kernel_rfl) (wR 3 101 ?_)))
     cases hv6
     exact fS [] [2]
    refine wR 6 101 ?_
    cases hv6
    exact fS [] [2]
   refine wR 12 101 ?_
   cases hv6
   exact fS [] [2]
  refine wR 18 101 ?_
  cases hv6
  exact fS [] [2]
  ) ?_
 cases h
 exact e1 2 id

theorem mi_hasHole_1_ok (a0 : SNode) (p0_0 : List UInt8) {r : Bool} (h : mi_hasHole_1 a0 p0_0 = some r) :
    AC Tryz.prog (GS []) 54 [.agg [V.i a0.Kind, V.i a0.Op, V.s a0.Text, V.s a0.Other, .sl false false (a0.Kids.map eNI)], .loc 0 0] [(0, .cells 9 [V.s p0_0])] (V.b r) [(0, .cells 9 [V.s p0_0])] := by
 rw [mi_hasHole_1] at h
 refine AC.enter Tryz.func54 rfl (cV 100 (bB h fun y2 hv3 h => ?_))
 refine CO.cutR (tl 12 [(3, V.b y2)]) [(0, .cells 9 [V.s p0_0])] mix (by
  refine wR 1 101 (bB hv3 fun r3 hx4 hv3 => (W.call0 (mi_IsHole_ok a0 hx4) cok55 rfl (by kernel_rfl) (wR 1 101 ?_)))
  refine wJ 6 hv3 (fun hv3 => ?_) (fun hv3 => ?_)
  ·refine wR 6 101 ?_
   cases hv3
   exact fS [(0, 0)] [3]
  refine wR 6 101 ?_
  cases hv3
  exact fS [(0, 0)] [3]
  ) ?_
 refine CO.ret ?_
 have h := sI h
 subst h
 exact eG [(0, 0)] (.inr rfl) (RetV.one rfl (oT (t := 3) (r := V.b y2)))

theorem m_slices_IndexFunc_Node_ok (N : Nat) (a0 : List SNode) (p0_0 : List UInt8) {r : Int} (h : m_slices_IndexFunc_Node N a0 p0_0 = some r) :
    AC Tryz.prog (GS []) 76 [.sl false false (a0.map (eSN false)), .fn 54 [.loc 0 0]] [(0, .cells 9 [V.s p0_0])] (V.i r) [(0, .cells 9 [V.s p0_0])] := by
 rw [m_slices_IndexFunc_Node] at h
 refine AC.enter Tryz.func76 rfl (cV 100 (CO.seq' (CO.sw mix (wR 1 100 (W.len Dk (eSN false) a0 [] (by kernel_rfl) (by kernel_rfl) (wR 1 100 (wF (CO.block' ?_))))))))
 refine CO.loopJ (fun (⟨a0, y35⟩ : ((List SNode) × Int)) => ⟨tl 19 [(0, .sl false false (a0.map (eSN false))), (1, .fn 54 [.loc 0 0]), (7, V.i (a0.length : Int)), (8, V.i y35)], [(0, .cells 9 [V.s p0_0])]⟩) (fun n i => m_slices_IndexFunc_Node_l1 N p0_0 n i = some r) (n0 := N) (i0 := (a0, 0)) (wS [(0, 0)] [0, 1, 7, 8]) h (fun i h => by simp [m_slices_IndexFunc_Node_l1] at h) ?_
 rintro n1 ⟨a0, y35⟩ h63 ih64
 rw [m_slices_IndexFunc_Node_l1] at h63
 refine cV 160 (CO.seq' ?_)
 refine cI h63 (fun _ h63 => ?_) (fun _ h63 => ?_)
 ·refine CO.skip (CO.seq' (CO.block' (cV 160 (bB h63 fun e51 hx74 h63 => (bB h63 fun r52 hx75 h63 => (CO.sw mix (wR 3 160 (W.ixD Dk (eSN false) hx74 5 (by kernel_rfl) (by kernel_rfl) ?_))))))))
  refine wR 1 160 (W.call (mi_hasHole_1_ok e51 p0_0 hx75) cok54 [(0, 0)] [(0, 0)] [] (show LayOk _ [] from trivial) (by kernel_rfl) (by kernel_rfl) (wF ?_))
  refine cI h63 (fun _ h63 => ?_) (fun _ h63 => ?_)
  ·refine cV 160 (CO.ret ?_)
   have h63 := sI h63
   subst h63
   exact eG [(0, 0)] (.inr rfl) (RetV.one rfl (oT (t := 4) (r := V.i y35)))
  refine CO.skip ?_
  exact cK 160 ih64 (a0, (IntKind.wrap .i64 (y35 + 1))) h63 [(0, 0)] [0, 1, 7, 8]
 refine CO.exit (cV 160 (CO.ret ?_))
 cases h63
 exact eG [(0, 0)] (.inr rfl) (RetV.one rfl (oT (t := 4) (r := V.i (-1))))

theorem m_slices_ContainsFunc_Node_ok (N : Nat) (a0 : List SNode) (p0_0 : List UInt8) {r : Bool} (h : m_slices_ContainsFunc_Node N a0 p0_0 = some r) :
    AC Tryz.prog (GS []) 53 [.sl false false (a0.map (eSN false)), .fn 54 [.loc 0 0]] [(0, .cells 9 [V.s p0_0])] (V.b r) [(0, .cells 9 [V.s p0_0])] := by
 rw [m_slices_ContainsFunc_Node] at h
 refine AC.enter Tryz.func53 rfl (cV 100 (bB h fun r2 hx2 h => (CO.sw mix (wR 2 100 (W.call (m_slices_IndexFunc_Node_ok N a0 p0_0 hx2) cok76 [(0, 0)] [(0, 0)] [] (show LayOk _ [] from trivial) (by kernel_rfl) (by kernel_rfl) (wR 2 100 (wF (CO.ret ?_))))))))
 have h := sI h
 subst h
 exact eG [(0, 0)] (.inr rfl) (RetV.one rfl (oT (t := 4) (r := V.b (decide (r2 ≥ 0)))))

theorem mi_hasHole_ok (N : Nat) (a0 : List SNode) (a1 : List UInt8) {r : Bool} (h : mi_hasHole N a0 a1 = some r) :
    AC Tryz.prog (GS []) 26 [.sl false false (a0.map (eSN false)), V.s a1] [] (V.b r) [] := by
 rw [mi_hasHole] at h
 refine AC.enter Tryz.func26 rfl (cV 100 (bB h fun r2 hx2 h => (CO.sw mix (wR 2 101 (W.call (m_slices_ContainsFunc_Node_ok N a0 a1 hx2) cok53 [(100, 0)] [(0, 100)] [] (show LayOk _ [] from trivial) (by kernel_rfl) (by kernel_rfl) (wR 1 101 (wF ?_)))))))
 cases h
 exact e1 4 id

theorem mi_tree__isHole_ok (a0 : STree) {r : Bool} (h : mi_tree__isHole a0 = some r) :
    AC Tryz.prog (GS []) 57 [.agg [V.i a0.kind, V.i a0.op, V.s a0.text, V.s a0.other, .sl false false (a0.kids.map eST)]] [] (V.b r) [] := by
 rw [mi_tree__isHole] at h
 refine AC.enter Tryz.func57 rfl (cV 100 (bB h fun r2 hx2 h => (cC 5 101 (mi_IsHole_ok (⟨a0.kind, 0, a0.text, [], []⟩ : SNode) hx2) cok55 ?_)))
 cases h
 exact e1 2 id

theorem mi_tree__with_ok (a0 : STree) (a1 : List STree) {r : STree} (h : mi_tree__with a0 a1 = some r) :
    AC Tryz.prog (GS []) 58 [.agg [V.i a0.kind, V.i a0.op, V.s a0.text, V.s a0.other, .sl false false (a0.kids.map eST)], .sl false false (a1.map eST)] [] (.agg [V.i r.kind, V.i r.op, V.s r.text, V.s r.other, .sl false false (r.kids.map eST)]) [] := by
 rw [mi_tree__with] at h
 refine AC.enter Tryz.func58 rfl (cV 100 (cV 102 (cV 102 (CO.ret ?_))))
 have h := sI h
 subst h
 exact eG [] (.inr rfl) (RetV.one rfl (OneR.cell Dk (r := .agg [V.i a0.kind, V.i a0.op, V.s a0.text, V.s a0.other, .sl false false (a1.map eST)]) (i := 101) (ety := 57) (cs := [V.i a0.kind, V.i a0.op, V.s a0.text, V.s a0.other, .sl false false (a1.map eST)]) (by kernel_rfl) (by kernel_rfl) (by kernel_rfl)))

structure RecOk4 (R : Rec4) : Prop where
 mi_tree__filled : ∀ (a0 : STree) (a1 : List SFilling) (r : STree), R.mi_tree__filled a0 a1 = some r → AC Tryz.prog (GS []) 28 [.agg [V.i a0.kind, V.i a0.op, V.s a0.text, V.s a0.other, .sl false false (a0.kids.map eST)], .sl false false (a1.map encSFilling)] [] (.agg [V.i r.kind, V.i r.op, V.s r.text, V.s r.other, .sl false false (r.kids.map eST)]) []

theorem mi_tree__filled_F_ok (N : Nat) (R : Rec4) (HR : RecOk4 R) (a0 : STree) (a1 : List SFilling) {r : STree} (h : mi_tree__filled_F N R a0 a1 = some r) :
    AC Tryz.prog (GS []) 28 [.agg [V.i a0.kind, V.i a0.op, V.s a0.text, V.s a0.other, .sl false false (a0.kids.map eST)], .sl false false (a1.map encSFilling)] [] (.agg [V.i r.kind, V.i r.op, V.s r.text, V.s r.other, .sl false false (r.kids.map eST)]) [] := by
 rw [mi_tree__filled_F] at h
 refine AC.enter Tryz.func28 rfl (cV 100 (CO.seq' (bB h fun r32 hx57 h => (cC 1 102 (mi_tree__isHole_ok a0 hx57) cok57 ?_))))
 refine cI h (fun _ h => ?_) (fun _ h => ?_)
 ·refine CO.seq' (CO.sw mix (wR 1 102 (W.len Dk encSFilling a1 [] (by kernel_rfl) (by kernel_rfl) (wR 1 102 (wF (CO.block' (CO.loopJ (fun (⟨a1, a0, y51⟩ : ((List SFilling) × STree × Int)) => ⟨tl 45 [(2, .loc 100 0), (4, .loc 101 0), (12, .sl false false (a1.map encSFilling)), (13, V.i (a1.length : Int)), (14, V.i y51)], [(100, .cells 57 [V.i a0.kind, V.i a0.op, V.s a0.text, V.s a0.other, .sl false false (a0.kids.map eST)]), (101, .cells 57 [V.i 0, V.i 0, V.s [], V.s [], .c (.slice none 0 0)])]⟩) (fun n i => mi_tree__filled_l1 N R n i = some r) (n0 := N) (i0 := (a1, a0, 0)) (wS [(100, 100), (101, 101)] [2, 4, 12, 13, 14]) h (fun i h => by simp [mi_tree__filled_l1] at h) ?_)))))))
  rintro n1 ⟨a1, a0, y51⟩ h101 ih102
  rw [mi_tree__filled_l1] at h101
  refine cV 164 (CO.seq' ?_)
  refine cI h101 (fun _ h101 => ?_) (fun _ h101 => ?_)
  ·refine CO.skip (CO.seq' (CO.block' (bB h101 fun e60 hx109 h101 => (CO.sw mix (W.ixD Dk encSFilling hx109 6 (by kernel_rfl) (by kernel_rfl) (wR 3 164 (wF (cV 165 ?_))))))))
   refine cI h101 (fun _ h101 => ?_) (fun _ h101 => ?_)
   ·refine cV 165 (CO.ret ?_)
    have h101 := sI h101
    subst h101
    exact eG [] (.inr rfl) (RetV.one rfl (OneR.cell Dk (r := .agg [V.i e60.tree.kind, V.i e60.tree.op, V.s e60.tree.text, V.s e60.tree.other, .sl false false (e60.tree.kids.map eST)]) (i := 101) (ety := 57) (cs := [V.i e60.tree.kind, V.i e60.tree.op, V.s e60.tree.text, V.s e60.tree.other, .sl false false (e60.tree.kids.map eST)]) (by kernel_rfl) (by kernel_rfl) (by kernel_rfl)))
   refine CO.skip ?_
   exact cK 165 ih102 (a1, a0, (IntKind.wrap .i64 (y51 + 1))) h101 [(100, 100), (101, 101)] [2, 4, 12, 13, 14]
  refine CO.exit (cV 164 (CO.ret ?_))
  have h101 := sI h101
  subst h101
  exact eG [] (.inr rfl) (RetV.one rfl (OneR.cell Dk (r := .agg [V.i a0.kind, V.i a0.op, V.s a0.text, V.s a0.other, .sl false false (a0.kids.map eST)]) (i := 101) (ety := 57) (cs := [V.i a0.kind, V.i a0.op, V.s a0.text, V.s a0.other, .sl false false (a0.kids.map eST)]) (by kernel_rfl) (by kernel_rfl) (by kernel_rfl)))
 refine CO.skip (CO.sw mix (W.layop Dk (show LayOk _ [] from trivial) (by kernel_rfl) 102 { v := .own 102, R := [], new := [(102, .vec true 57 5 [])], N := [102] } (by kernel_rfl) (W.vecEq 102 (nn := true) (e := 57) (k := 5) (rows := []) (rows' := [].map eST) (by kernel_rfl) rfl (wR 1 103 (wF (CO.seq' (CO.sw mix (wR 2 103 ?_))))))))
 refine W.len Dk eST a0.kids [] (by kernel_rfl) (by kernel_rfl) (wR 1 103 (wF (CO.block' (CO.loopJ (fun (⟨a1, a0, y113, y114⟩ : ((List SFilling) × STree × Int × (List STree))) => ⟨tl 45 [(1, .sl false false (a1.map encSFilling)), (2, .loc 100 0), (4, .loc 101 0), (7, .own 102), (29, .sl false false (a0.kids.map eST)), (30, V.i (a0.kids.length : Int)), (31, V.i y113)], [(100, .cells 57 [V.i a0.kind, V.i a0.op, V.s a0.text, V.s a0.other, .sl false false (a0.kids.map eST)]), (101, .cells 57 [V.i 0, V.i 0, V.s [], V.s [], .c (.slice none 0 0)]), (102, .vec false 57 5 (y114.map eST))]⟩) (fun n i => mi_tree__filled_l2 N R n i = some r) (n0 := N) (i0 := (a1, a0, 0, [])) (wS [(100, 100), (101, 101), (102, 102)] [1, 2, 4, 7, 29, 30, 31]) h (fun i h => by simp [mi_tree__filled_l2] at h) ?_))))
 rintro n2 ⟨a1, a0, y113, y114⟩ h183 ih184
 rw [mi_tree__filled_l2] at h183
 refine cV 169 (CO.seq' ?_)
 refine cI h183 (fun _ h183 => ?_) (fun _ h183 => ?_)
 ·refine CO.skip (CO.seq' (CO.block' (bB h183 fun e136 hx194 h183 => (CO.sw mix (W.ixDr Dk eST hx194 5 (by kernel_rfl) (encSTree_eq e136) (by kernel_rfl) (wR 3 169 (wF (bB h183 fun r139 hx197 h183 => ?_))))))))
  refine bB h183 fun x140 hx198 h183 => ?_
  refine CO.endR (tl 45 [(1, .sl false false (a1.map encSFilling)), (2, .loc 100 0), (4, .loc 101 0), (7, .own 171), (29, .sl false false (a0.kids.map eST)), (30, V.i (a0.kids.length : Int)), (31, V.i y113)]) [(171, .vec false 57 5 (x140.map eST)), (100, .cells 57 [V.i a0.kind, V.i a0.op, V.s a0.text, V.s a0.other, .sl false false (a0.kids.map eST)]), (101, .cells 57 [V.i 0, V.i 0, V.s [], V.s [], .c (.slice none 0 0)])] mix (by
   refine wR 3 170 (W.call0 (HR.mi_tree__filled e136 a1 _ hx197) cok28 rfl (by kernel_rfl) (W.layop Dk (show LayOk _ [] from trivial) (by kernel_rfl) 170 { v := .own 170, R := [], new := [(170, .vec true 57 5 [[V.i r139.kind, V.i r139.op, V.s r139.text, V.s r139.other, .sl false false (r139.kids.map eST)]])], N := [170] } (by kernel_rfl) (W.vecEq 170 (nn := true) (e := 57) (k := 5) (rows := [[V.i r139.kind, V.i r139.op, V.s r139.text, V.s r139.other, .sl false false (r139.kids.map eST)]]) (rows' := [r139].map eST) (by kernel_rfl) (by simp only [List.map_cons, List.map_nil, encSTree_eq]) (W.appO Dk eST (a := 102) (c := 170) (el := 57) (sz := 5) 72 hx198 rfl 171 (by kernel_rfl) (wR 1 172 ?_)))))
   exact fI
   ) (fun st hw => ?_)
  refine CO.weak hw ?_
  exact cK 172 ih184 (a1, a0, (IntKind.wrap .i64 (y113 + 1)), x140) h183 [(100, 100), (101, 101), (171, 102)] [1, 2, 4, 7, 29, 30, 31]
 refine CO.exit (bB h183 fun r142 hx200 h183 => (CO.sw mix (wR 2 169 (W.call (mi_tree__with_ok a0 y114 hx200) cok58 [] [] [] (LayOk.cons (j := 102) eST eST y114 (by kernel_rfl) (share_encSTree) (show LayOk _ [] from trivial)) (by kernel_rfl) (by kernel_rfl) (wR 1 169 (wF (CO.ret ?_)))))))
 have h183 := sI h183
 subst h183
 exact eG [] (.inr rfl) (RetV.one rfl (OneR.cell Dk (r := .agg [V.i r142.kind, V.i r142.op, V.s r142.text, V.s r142.other, .sl false false (r142.kids.map eST)]) (i := 101) (ety := 57) (cs := [V.i r142.kind, V.i r142.op, V.s r142.text, V.s r142.other, .sl false false (r142.kids.map eST)]) (by kernel_rfl) (by kernel_rfl) (by kernel_rfl)))

theorem scc4_ok : ∀ N, RecOk4 (scc4 N)
 | 0 => ⟨fun _ _ _ h => (by cases h)⟩
 | N + 1 => ⟨fun a0 a1 _ h => mi_tree__filled_F_ok N (scc4 N) (scc4_ok N) a0 a1 h⟩

theorem mi_tree__filled_ok (N : Nat) (a0 : STree) (a1 : List SFilling) {r : STree} (h : mi_tree__filled N a0 a1 = some r) :
  AC Tryz.prog (GS []) 28 [.agg [V.i a0.kind, V.i a0.op, V.s a0.text, V.s a0.other, .sl false false (a0.kids.map eST)], .sl false false (a1.map encSFilling)] [] (.agg [V.i r.kind, V.i r.op, V.s r.text, V.s r.other, .sl false false (r.kids.map eST)]) [] :=
 (scc4_ok N).mi_tree__filled a0 a1 r h

structure RecOk5 (R : Rec5) : Prop where
 mi_tree__add : ∀ (a0 : STree) (p0 : List SNode) (r : (List SNode)), R.mi_tree__add a0 p0 = some r → AC Tryz.prog (GS []) 59 [.agg [V.i a0.kind, V.i a0.op, V.s a0.text, V.s a0.other, .sl false false (a0.kids.map eST)], .own 0] [(0, .vec false 45 5 (p0.map (eSN true)))] (.own 100) [(100, .vec false 45 5 (r.map (eSN true)))]

theorem mi_tree__add_F_ok (N : Nat) (R : Rec5) (HR : RecOk5 R) (a0 : STree) (p0 : List SNode) {r : (List SNode)} (h : mi_tree__add_F N R a0 p0 = some r) :
    AC Tryz.prog (GS []) 59 [.agg [V.i a0.kind, V.i a0.op, V.s a0.text, V.s a0.other, .sl false false (a0.kids.map eST)], .own 0] [(0, .vec false 45 5 (p0.map (eSN true)))] (.own 100) [(100, .vec false 45 5 (r.map (eSN true)))] := by
 rw [mi_tree__add_F] at h
 refine AC.enter Tryz.func59 rfl (cV 100 (cV 101 (CO.seq' (CO.sw mix (wR 2 102 (W.len Dk eST a0.kids [] (by kernel_rfl) (by kernel_rfl) (wR 1 102 (wF ?_))))))))
 refine CO.block' (CO.loopJ (fun (⟨a0, y59, y60, y61⟩ : (STree × Int × (List SNode) × (List Int))) => ⟨tl 40 [(1, .own 100), (5, .loc 101 0), (18, .sl false false (a0.kids.map eST)), (19, V.i (a0.kids.length : Int)), (20, V.i y59)], [(100, .vec false 45 5 (y60.map (eSN true))), (101, .cells 45 [V.i a0.kind, V.i a0.op, V.s a0.text, V.s a0.other, .own 102]), (102, .vec false 3 1 (y61.map eNI))]⟩) (fun n i => mi_tree__add_l1 N R n i = some r) (n0 := N) (i0 := (a0, 0, p0, [])) ((Weak.nilCell 101 4 102 3 1 (ety := 45) (cs := [V.i a0.kind, V.i a0.op, V.s a0.text, V.s a0.other, .c (.slice none 0 0)]) (by kernel_rfl) (by kernel_rfl) (by kernel_rfl)).trans (wS [(0, 100), (101, 101), (102, 102)] [1, 5, 18, 19, 20])) h (fun i h => by simp [mi_tree__add_l1] at h) ?_)
 rintro n1 ⟨a0, y59, y60, y61⟩ h77 ih78
 rw [mi_tree__add_l1] at h77
 refine cV 171 (CO.seq' ?_)
 refine cI h77 (fun _ h77 => ?_) (fun _ h77 => ?_)
 ·refine CO.skip (CO.seq' (CO.block' (bB h77 fun e84 hx88 h77 => (CO.sw mix (W.ixDr Dk eST hx88 5 (by kernel_rfl) (encSTree_eq e84) (by kernel_rfl) (wR 3 171 (wF (bB h77 fun r86 hx90 h77 => ?_))))))))
  refine CO.sw mix (wR 2 172 (W.call (HR.mi_tree__add e84 y60 _ hx90) cok59 [(100, 0)] [(100, 172)] [172] (show LayOk _ [] from trivial) (by kernel_rfl) (by kernel_rfl) (wR 1 173 (wF (bB h77 fun x88 hx92 h77 => ?_)))))
  refine CO.endR (tl 40 [(1, .own 172), (5, .loc 101 0), (18, .sl false false (a0.kids.map eST)), (19, V.i (a0.kids.length : Int)), (20, V.i y59)]) [(101, .cells 45 [V.i a0.kind, V.i a0.op, V.s a0.text, V.s a0.other, .own 174]), (174, .vec false 3 1 (x88.map eNI)), (172, .vec false 45 5 (r86.map (eSN true)))] mix (by
   refine wR 3 173 (W.len Dk (eSN true) r86 [172] (by kernel_rfl) (by kernel_rfl) (wR 2 173 (W.appO Dk eNI (a := 102) (c := 173) (el := 3) (sz := 1) 8 hx92 rfl 174 (by kernel_rfl) (wR 2 175 ?_))))
   exact fI
   ) (fun st hw => ?_)
  refine CO.weak hw ?_
  exact cK 175 ih78 (a0, (IntKind.wrap .i64 (y59 + 1)), r86, x88) h77 [(172, 100), (101, 101), (174, 102)] [1, 5, 18, 19, 20]
 refine CO.exit (bB h77 fun x90 hx94 h77 => (CO.sw mix (wR 3 171 (W.appO Dk (eSN true) (a := 100) (c := 171) (el := 45) (sz := 5) 72 hx94 rfl 172 (by kernel_rfl) (wR 1 173 (wF (CO.ret ?_)))))))
 cases h77
 exact eG [(172, 100)] (.inr rfl) (RetV.one rfl (oT (t := 4) (r := .own 172)))

theorem scc5_ok : ∀ N, RecOk5 (scc5 N)
 | 0 => ⟨fun _ _ _ h => (by cases h)⟩
 | N + 1 => ⟨fun a0 p0 _ h => mi_tree__add_F_ok N (scc5 N) (scc5_ok N) a0 p0 h⟩

theorem mi_tree__add_ok (N : Nat) (a0 : STree) (p0 : List SNode) {r : (List SNode)} (h : mi_tree__add N a0 p0 = some r) :
  AC Tryz.prog (GS []) 59 [.agg [V.i a0.kind, V.i a0.op, V.s a0.text, V.s a0.other, .sl false false (a0.kids.map eST)], .own 0] [(0, .vec false 45 5 (p0.map (eSN true)))] (.own 100) [(100, .vec false 45 5 (r.map (eSN true)))] :=
 (scc5_ok N).mi_tree__add a0 p0 r h

theorem mi_tree__list_ok (N : Nat) (a0 : STree) {r : (List SNode)} (h : mi_tree__list N a0 = some r) :
    AC Tryz.prog (GS []) 29 [.agg [V.i a0.kind, V.i a0.op, V.s a0.text, V.s a0.other, .sl false false (a0.kids.map eST)]] [] (.own 100) [(100, .vec false 45 5 (r.map (eSN true)))] := by
 rw [mi_tree__list] at h
 refine AC.enter Tryz.func29 rfl (cV 100 (bB h fun r2 hx2 h => (CO.sw mix (wR 1 101 (W.callK (AC.nilArg 1 0 45 5 (mi_tree__add_ok N a0 [] hx2) (by kernel_rfl) (by kernel_rfl) (by kernel_rfl) (by kernel_rfl) rfl) cok59 [] [(100, 101)] [1] [101] (show LayOk _ [] from trivial) (by kernel_rfl) (by kernel_rfl) (wR 1 102 (wF (CO.ret ?_))))))))
 cases h
 exact eG [(101, 100)] (.inr rfl) (RetV.one rfl (oT (t := 2) (r := .own 101)))

theorem mi_FillIn_ok (N : Nat) (a0 : List SNode) (a1 : List SHole) {r : (List SNode)} (h : mi_FillIn N a0 a1 = some r) :
    AC Tryz.prog (GS [0, 1, 2]) 9 [.sl false false (a0.map (eSN false)), .sl false false (a1.map (encSHole false))] [] (.own 100) [(100, .vec false 45 5 (r.map (eSN true)))] := by
 rw [mi_FillIn] at h
 refine AC.enter Tryz.func9 rfl (cV 100 (CO.seq' (bB h fun r4 hx5 h => (cC 1 100 (mi_ExprOk_ok N a0 hx5) cok22 ?_))))
 refine cI h (fun _ h => ?_) (fun _ h => ?_)
 ·refine cV 100 (CO.weak (Weak.nil 4 100 45 5 (by kernel_rfl) (by kernel_rfl)) (CO.ret ?_))
  cases h
  exact eG [(100, 100)] (.inr rfl) (RetV.one rfl (oT (t := 4) (r := .own 100)))
 refine CO.skip (CO.sw mix (W.layop Dk (show LayOk _ [] from trivial) (by kernel_rfl) 100 { v := .own 100, R := [], new := [(100, .vec true 60 6 [])], N := [100] } (by kernel_rfl) (W.vecEq 100 (nn := true) (e := 60) (k := 6) (rows := []) (rows' := [].map encSFilling) (by kernel_rfl) (by kernel_rfl) (wR 3 101 (wF (bB h fun r6 hx8 h => (CO.sw mix (wR 1 102 ?_))))))))
 refine W.call (AC.gs (mi_NamesOf_ok N a0 hx8) (by decide)) cok23 [] [(100, 102)] [102] (show LayOk _ [] from trivial) (by kernel_rfl) (by kernel_rfl) (wR 1 103 (wF (CO.seq' (CO.sw mix (wR 1 103 (W.len Dk (encSHole false) a1 [] (by kernel_rfl) (by kernel_rfl) (wR 1 103 (wF ?_))))))))
 refine CO.block' (CO.loopJ (fun (⟨a0, a1, r6, y261, y262, y263⟩ : ((List SNode) × (List SHole) × (List (List UInt8)) × Int × (List SFilling) × (List (List UInt8)))) => ⟨tl 71 [(0, .sl false false (a0.map (eSN false))), (5, .own 100), (6, .own 101), (7, .own 102), (18, .sl false false (a1.map (encSHole false))), (19, V.i (a1.length : Int)), (20, V.i y261)], [(100, .vec false 60 6 (y262.map encSFilling)), (101, .vec false 9 1 (y263.map eNS)), (102, .vec false 9 1 (r6.map eNS))]⟩) (fun n i => mi_FillIn_l1 N n i = some r) (n0 := N) (i0 := (a0, a1, r6, 0, [], [])) (wS [(100, 100), (101, 101), (102, 102)] [0, 5, 6, 7, 18, 19, 20]) h (fun i h => by simp [mi_FillIn_l1] at h) ?_)
 rintro n1 ⟨a0, a1, r6, y261, y262, y263⟩ h471 ih472
 rw [mi_FillIn_l1] at h471
 refine cV 173 (CO.seq' ?_)
 refine cI h471 (fun _ h471 => ?_) (fun _ h471 => ?_)
 ·refine CO.skip ?_
  refine CO.join (fun (⟨a0, a1, y261, r6, y359, y360⟩ : ((List SNode) × (List SHole) × Int × (List (List UInt8)) × (List SFilling) × (List (List UInt8)))) => ⟨tl 71 [(0, .sl false false (a0.map (eSN false))), (5, .own 100), (6, .own 101), (7, .own 102), (18, .sl false false (a1.map (encSHole false))), (19, V.i (a1.length : Int)), (20, V.i y261)], [(100, .vec false 60 6 (y359.map encSFilling)), (101, .vec false 9 1 (y360.map eNS)), (102, .vec false 9 1 (r6.map eNS))]⟩) (fun i => mi_FillIn_k2 N (mi_FillIn_l1 N n1) i = some r) ?_ ?_
  · rintro ⟨a0, a1, y261, r6, y359, y360⟩ h519
    rw [mi_FillIn_k2] at h519
    exact cK 178 ih472 (a0, a1, r6, (IntKind.wrap .i64 (y261 + 1)), y359, y360) h519 [(100, 100), (101, 101), (102, 102)] [0, 5, 6, 7, 18, 19, 20]
  intro hk520
  refine CO.block' (bB h471 fun e362 hx522 h471 => (CO.sw mix (W.ixD Dk (encSHole false) hx522 2 (by kernel_rfl) (by kernel_rfl) (wR 3 173 (wF (CO.seq' (bB h471 fun r366 hx527 h471 => (CO.sw mix ?_))))))))
  refine wR 3 174 (W.lend (AC.gs (m_slices_Contains_string_ok N y263 e362.Name hx527) (by decide)) cok24 [] [] (LayOk.cons (j := 101) eNS eNS y263 (by kernel_rfl) (fun _ => rfl) (show LayOk _ [] from trivial)) (.c _) .nil (by kernel_rfl) (by kernel_rfl) (wF ?_))
  refine cI h471 (fun _ h471 => ?_) (fun _ h471 => ?_)
  ·refine CO.exit ?_
   exact hk520 (a0, a1, y261, r6, y262, y263) h471 _ (wS [(100, 100), (101, 101), (102, 102)] [0, 5, 6, 7, 18, 19, 20])
  refine CO.skip (bB h471 fun x368 hx530 h471 => (CO.sw mix (wR 4 174 (W.appO Dk eNS (a := 101) (c := 174) (el := 9) (sz := 1) 16 hx530 rfl 175 (by kernel_rfl) (wR 1 176 (wF (CO.seq' (bB h471 fun y373 hv539 h471 => ?_))))))))
  refine CO.cutR (tl 71 [(0, .sl false false (a0.map (eSN false))), (5, .own 100), (6, .own 101), (7, .own 102), (9, .loc 103 0), (18, .sl false false (a1.map (encSHole false))), (19, V.i (a1.length : Int)), (20, V.i y261), (43, V.b y373)]) [(100, .vec false 60 6 (y262.map encSFilling)), (101, .vec false 9 1 (x368.map eNS)), (102, .vec false 9 1 (r6.map eNS)), (103, .cells 48 [V.s e362.Name, .sl false false (e362.Part.map (eSN false))])] mix (by
   refine wR 2 176 (W.len Dk (eSN false) e362.Part [] (by kernel_rfl) (by kernel_rfl) (wR 2 176 ?_))
   refine wJ 37 hv539 (fun hv539 => ?_) (fun hv539 => ?_)
   ·refine wR 6 176 ?_
    cases hv539
    exact fS [(100, 100), (175, 101), (102, 102), (173, 103)] [0, 5, 6, 7, 9, 18, 19, 20, 43]
   refine wR 3 176 (bB hv539 fun r374 hx541 hv539 => (W.lend (AC.gs (m_slices_Contains_string_ok N r6 e362.Name hx541) (by decide)) cok24 [] [] (LayOk.cons (j := 102) eNS eNS r6 (by kernel_rfl) (fun _ => rfl) (show LayOk _ [] from trivial)) (.c _) .nil (by kernel_rfl) (by kernel_rfl) (wR 2 176 ?_)))
   cases hv539
   exact fS [(100, 100), (175, 101), (102, 102), (173, 103)] [0, 5, 6, 7, 9, 18, 19, 20, 43]
   ) ?_
  refine cI h471 (fun _ h471 => ?_) (fun _ h471 => ?_)
  ·refine CO.exit ?_
   exact hk520 (a0, a1, y261, r6, y262, x368) h471 _ (wS [(100, 100), (101, 101), (102, 102)] [0, 5, 6, 7, 18, 19, 20])
  refine CO.skip (CO.seq' (bB h471 fun r382 hx553 h471 => (cC 2 176 (AC.gs (mi_ShapeOk_ok N e362.Part hx553) (by decide)) cok25 ?_)))
  refine cI h471 (fun _ h471 => ?_) (fun _ h471 => ?_)
  ·refine CO.seq' (bB h471 fun r386 hx559 h471 => (cC 3 176 (AC.gs (mi_hasHole_ok N a0 e362.Name hx559) (by decide)) cok26 ?_))
   refine cI h471 (fun _ h471 => ?_) (fun _ h471 => ?_)
   ·refine cV 176 (CO.weak (Weak.nil 4 176 45 5 (by kernel_rfl) (by kernel_rfl)) (CO.ret ?_))
    cases h471
    exact eG [(176, 100)] (.inr rfl) (RetV.one rfl (oT (t := 4) (r := .own 176)))
   refine CO.skip (CO.exit ?_)
   exact hk520 (a0, a1, y261, r6, y262, x368) h471 _ (wS [(100, 100), (101, 101), (102, 102)] [0, 5, 6, 7, 18, 19, 20])
  refine CO.skip (bB h471 fun r389 hx563 h471 => (bB h471 fun x390 hx564 h471 => (CO.w mix (wR 5 176 (W.call0 (AC.gs (mi_rootOf_ok N e362.Part hx563) (by decide)) cok27 rfl (by kernel_rfl) (wR 1 176 (W.layop Dk (show LayOk _ [] from trivial) (by kernel_rfl) 176 { v := .own 176, R := [], new := [(176, .vec true 60 6 [[V.s e362.Name, V.i r389.kind, V.i r389.op, V.s r389.text, V.s r389.other, .sl false false (r389.kids.map eST)]])], N := [176] } (by kernel_rfl) (W.vecEq 176 (nn := true) (e := 60) (k := 6) (rows := [[V.s e362.Name, V.i r389.kind, V.i r389.op, V.s r389.text, V.s r389.other, .sl false false (r389.kids.map eST)]]) (rows' := [(⟨e362.Name, r389⟩ : SFilling)].map encSFilling) (by kernel_rfl) (by kernel_rfl) ?_))))))))
  refine W.appO Dk encSFilling (a := 100) (c := 176) (el := 60) (sz := 6) 88 hx564 rfl 177 (by kernel_rfl) (wR 1 178 ?_)
  exact wK hk520 (a0, a1, y261, r6, x390, x368) h471 [(177, 100), (101, 101), (102, 102)] [0, 5, 6, 7, 18, 19, 20]
 refine CO.exit (bB h471 fun r394 hx568 h471 => (bB h471 fun r395 hx569 h471 => (bB h471 fun r396 hx570 h471 => (CO.sw mix (wR 1 173 (W.call0 (AC.gs (mi_rootOf_ok N a0 hx568) (by decide)) cok27 rfl (by kernel_rfl) (wR 1 173 (W.call (AC.gs (mi_tree__filled_ok N r394 y262 hx569) (by decide)) cok28 [] [] [] (LayOk.cons (j := 100) encSFilling encSFilling y262 (by kernel_rfl) (share_encSFilling) (show LayOk _ [] from trivial)) (by kernel_rfl) (by kernel_rfl) ?_))))))))
 refine W.call (AC.gs (mi_tree__list_ok N r395 hx570) (by decide)) cok29 [] [(100, 173)] [173] (show LayOk _ [] from trivial) (by kernel_rfl) (by kernel_rfl) (wR 1 174 (wF (CO.seq' (bB h471 fun r400 hx575 h471 => (CO.sw mix (wR 1 174 (W.lend (mi_TreeOk_ok N r396 hx575) cok30 [] [] (LayOk.cons (j := 173) (eSN true) (eSN false) r396 (by kernel_rfl) (sh_eSN _) (show LayOk _ [] from trivial)) (.c _) .nil (by kernel_rfl) (by kernel_rfl) (wR 1 174 ?_))))))))
 refine wF ?_
 refine cI h471 (fun _ h471 => ?_) (fun _ h471 => ?_)
 ·refine cV 174 (CO.weak (Weak.nil 4 174 45 5 (by kernel_rfl) (by kernel_rfl)) (CO.ret ?_))
  cases h471
  exact eG [(174, 100)] (.inr rfl) (RetV.one rfl (oT (t := 4) (r := .own 174)))
 refine CO.skip (cV 174 (CO.ret ?_))
 cases h471
 exact eG [(173, 100)] (.inr rfl) (RetV.one rfl (oT (t := 4) (r := .own 173)))

theorem ml_eqIntS_ok (N : Nat) (a0 : List Int) (a1 : List Int) {r : Bool} (h : ml_eqIntS N a0 a1 = some r) :
    AC Tryz.prog (GS []) 63 [.sl false false (a0.map eNI), .sl false false (a1.map eNI)] [] (V.b r) [] := by
 rw [ml_eqIntS] at h
 refine AC.enter Tryz.func63 rfl (cV 100 (CO.seq' (CO.sw mix (wR 1 100 (W.len Dk eNI a0 [] (by kernel_rfl) (by kernel_rfl) (wR 1 100 (W.len Dk eNI a1 [] (by kernel_rfl) (by kernel_rfl) (wR 1 100 ?_))))))))
 refine wF ?_
 refine cI h (fun _ h => ?_) (fun _ h => ?_)
 ·refine cV 100 ?_
  cases h
  exact e1 4 id
 refine CO.skip (CO.seq' (cV 100 (CO.block' (CO.loopJ (fun (⟨a0, a1, y35⟩ : ((List Int) × (List Int) × Int)) => ⟨tl 26 [(0, .sl false false (a0.map eNI)), (1, .sl false false (a1.map eNI)), (5, V.i y35)], []⟩) (fun n i => ml_eqIntS_l1 N n i = some r) (n0 := N) (i0 := (a0, a1, 0)) (wS [] [0, 1, 5]) h (fun i h => by simp [ml_eqIntS_l1] at h) ?_))))
 rintro n1 ⟨a0, a1, y35⟩ h65 ih66
 rw [ml_eqIntS_l1] at h65
 refine CO.seq' (CO.sw mix (wR 2 160 (W.len Dk eNI a0 [] (by kernel_rfl) (by kernel_rfl) (wR 1 160 (wF ?_)))))
 refine cI h65 (fun _ h65 => ?_) (fun _ h65 => ?_)
 ·refine CO.skip (CO.seq' (CO.block' (bB h65 fun e51 hx76 h65 => (bB h65 fun e52 hx77 h65 => (CO.sw mix (wR 2 160 (W.ixD Dk eNI hx76 1 (by kernel_rfl) (by kernel_rfl) (wR 3 160 ?_))))))))
  refine W.ixD Dk eNI hx77 1 (by kernel_rfl) (by kernel_rfl) (wR 2 160 (wF ?_))
  refine cI h65 (fun _ h65 => ?_) (fun _ h65 => ?_)
  ·refine cV 160 ?_
   cases h65
   exact e1 4 id
  refine CO.skip ?_
  exact cK 160 ih66 (a0, a1, (IntKind.wrap .i64 (y35 + 1))) h65 [] [0, 1, 5]
 refine CO.exit (cV 160 ?_)
 cases h65
 exact e1 4 id

end Go.Proofs.Tryz
