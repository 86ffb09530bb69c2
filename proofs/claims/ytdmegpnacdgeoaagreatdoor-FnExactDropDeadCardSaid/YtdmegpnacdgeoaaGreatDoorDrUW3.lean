/-
  The walks that show that the code computes the models, part 3.
-/
import Derived.Test.YtdmegpnacdgeoaaGreatDoorDrUW2
import Derived.Shelf.Sort.Plain
import Derived.Shelf.Slices.In.SortNone
namespace Go.Proofs.Tryz
open Go.Av
set_option maxRecDepth 100000
set_option maxHeartbeats 8000000
set_option linter.unusedSimpArgs false
set_option linter.unusedVariables false

theorem mi_stmtForm_ok (N : Nat) (a0 : SNode) {r : SForm} (h : mi_stmtForm N a0 = some r) :
    AC Tryz.prog (GS [0, 1, 2]) 95 [.agg [V.i a0.Kind, V.i a0.Op, V.s a0.Text, V.s a0.Other, .sl false false (a0.Kids.map eNI)]] [] (.agg [V.b r.op, V.b r.text, V.b r.other, V.i r.least, V.i r.most]) [] := by
 rw [mi_stmtForm] at h
 refine AC.enter Tryz.func95 rfl ?_
 refine cV 100 ?_
 refine cV 102 ?_
 refine CO.join (fun (⟨y14, y15, y16, y17, y18⟩ : (Bool × Bool × Bool × Int × Int)) => ⟨tl 98 [(2, .loc 100 0), (3, .loc 101 0)], [(100, .cells 110 [V.b false, V.b false, V.b false, V.i 0, V.i 0]), (101, .cells 110 [V.b y14, V.b y15, V.b y16, V.i y17, V.i y18])]⟩) (fun i => mi_stmtForm_k1 N i = some r) ?_ ?_
 · rintro ⟨y14, y15, y16, y17, y18⟩ h33
   rw [mi_stmtForm_k1] at h33
   refine cV 104 ?_
   refine CO.ret ?_
   have h33 := sI h33
   subst h33
   exact eG [] (.inr rfl) (RetV.one rfl (OneR.cell Dk (r := .agg [V.b y14, V.b y15, V.b y16, V.i y17, V.i y18]) (i := 100) (ety := 110) (cs := [V.b y14, V.b y15, V.b y16, V.i y17, V.i y18]) (by kernel_rfl) (by kernel_rfl) (by kernel_rfl)))
 intro hk34
 refine cV 103 ?_
 refine CO.block' ?_
 refine cV 103 ?_
 refine cI h (fun _ h => ?_) (fun _ h => ?_)
 ·exact cK 103 hk34 ((a0.Op == 0), (a0.Text == []), (a0.Other == []), 1, 1) h [(101, 100), (102, 101)] [2, 3]
 refine cV 103 ?_
 refine cI h (fun _ h => ?_) (fun _ h => ?_)
 ·refine bB h fun y19 hv38 h => ?_
  refine CO.cutR (tl 98 [(1, .loc 100 0), (2, .loc 101 0), (3, .loc 102 0)]) [(100, .cells 54 [V.i a0.Kind, V.i a0.Op, V.s a0.Text, V.s a0.Other, .sl false false (a0.Kids.map eNI)]), (101, .cells 110 [V.b false, V.b false, V.b false, V.i 0, V.i 0]), (102, .cells 110 [V.b y19, V.b (a0.Text == []), V.b (a0.Other == []), V.i 0, V.i 0])] mix (by
   refine wR 4 103 ?_
   refine wJ 25 hv38 (fun hv38 => ?_) (fun hv38 => ?_)
   ·refine wR 6 103 ?_
    cases hv38
    exact fS [(100, 100), (101, 101), (102, 102)] [1, 2, 3]
   refine wR 6 103 ?_
   cases hv38
   exact fS [(100, 100), (101, 101), (102, 102)] [1, 2, 3]
   ) ?_
  refine bB h fun r21 hx41 h => ?_
  refine CO.sw mix ?_
  refine wR 3 103 ?_
  refine W.lend (AC.gs (m_slices_Contains_string_ok N [[], [62], [62, 62], [124]] a0.Other hx41) (by decide)) cok127 [] [] (LayOk.cons (j := 103) eNS eNS ([[], [62], [62, 62], [124]] : List (List UInt8)) (by kernel_rfl) (fun _ => rfl) (show LayOk _ [] from trivial)) (.c _) .nil (by kernel_rfl) (by kernel_rfl) ?_
  refine wR 2 104 ?_
  refine wF ?_
  refine cV 104 ?_
  refine cV 104 ?_
  refine cI h (fun _ h => ?_) (fun _ h => ?_)
  ·exact cK 104 hk34 (y19, (a0.Text == []), r21, (IntKind.wrap .i64 (a0.Op + 1)), 7) h [(101, 100), (102, 101)] [2, 3]
  exact sK hk34 (y19, (a0.Text == []), r21, a0.Op, 6) h [(101, 100), (102, 101)] [2, 3]
 refine CO.join (fun (⟨a0, y22⟩ : (SNode × Bool)) => ⟨tl 98 [(1, .loc 100 0), (2, .loc 101 0), (3, .loc 102 0), (15, V.i a0.Kind), (51, V.b y22)], [(100, .cells 54 [V.i a0.Kind, V.i a0.Op, V.s a0.Text, V.s a0.Other, .sl false false (a0.Kids.map eNI)]), (101, .cells 110 [V.b false, V.b false, V.b false, V.i 0, V.i 0]), (102, .cells 110 [V.b (a0.Op == 0), V.b (a0.Text == []), V.b (a0.Other == []), V.i 0, V.i 0])]⟩) (fun i => mi_stmtForm_k2 N i = some r) ?_ ?_
 · rintro ⟨a0, y22⟩ h44
   rw [mi_stmtForm_k2] at h44
   refine cI h44 (fun _ h44 => ?_) (fun _ h44 => ?_)
   ·exact cK 103 hk34 ((a0.Op == 0), (a0.Text == []), (a0.Other == []), 0, 1) h44 [(101, 100), (102, 101)] [2, 3]
   refine cV 103 ?_
   refine cI h44 (fun _ h44 => ?_) (fun _ h44 => ?_)
   ·refine bB h44 fun r24 hx48 h44 => ?_
    refine CO.w mix ?_
    refine wR 2 103 ?_
    refine W.call0 (AC.gs (mi_NameOk_ok N a0.Text hx48) (by decide)) cok122 rfl (by kernel_rfl) ?_
    refine wR 4 103 ?_
    exact wK hk34 ((a0.Op == 0), r24, (a0.Other == []), 0, 6) h44 [(101, 100), (102, 101)] [2, 3]
   refine cV 103 ?_
   refine cI h44 (fun _ h44 => ?_) (fun _ h44 => ?_)
   ·exact cK 103 hk34 ((a0.Op == 0), (a0.Text == []), (a0.Other == []), 2, 3) h44 [(101, 100), (102, 101)] [2, 3]
   refine CO.join (fun (⟨a0, y25⟩ : (SNode × Bool)) => ⟨tl 98 [(1, .loc 100 0), (2, .loc 101 0), (3, .loc 102 0), (15, V.i a0.Kind), (66, V.b y25)], [(100, .cells 54 [V.i a0.Kind, V.i a0.Op, V.s a0.Text, V.s a0.Other, .sl false false (a0.Kids.map eNI)]), (101, .cells 110 [V.b false, V.b false, V.b false, V.i 0, V.i 0]), (102, .cells 110 [V.b (a0.Op == 0), V.b (a0.Text == []), V.b (a0.Other == []), V.i 0, V.i 0])]⟩) (fun i => mi_stmtForm_k3 N i = some r) ?_ ?_
   · rintro ⟨a0, y25⟩ h51
     rw [mi_stmtForm_k3] at h51
     refine cI h51 (fun _ h51 => ?_) (fun _ h51 => ?_)
     ·exact cK 103 hk34 ((a0.Op == 0), (a0.Text == []), (a0.Other == []), 2, 2) h51 [(101, 100), (102, 101)] [2, 3]
     refine cV 103 ?_
     refine cI h51 (fun _ h51 => ?_) (fun _ h51 => ?_)
     ·exact cK 103 hk34 ((a0.Op == 0), (a0.Text == []), (a0.Other == []), 4, 4) h51 [(101, 100), (102, 101)] [2, 3]
     refine cV 103 ?_
     refine cI h51 (fun _ h51 => ?_) (fun _ h51 => ?_)
     ·refine bB h51 fun r28 hx57 h51 => ?_
      refine bB h51 fun r29 hx58 h51 => ?_
      refine CO.w mix ?_
      refine wR 2 103 ?_
      refine W.call0 (AC.gs (mi_NameOk_ok N a0.Text hx57) (by decide)) cok122 rfl (by kernel_rfl) ?_
      refine wR 2 103 ?_
      refine W.call0 (AC.gs (mi_NameOk_ok N a0.Other hx58) (by decide)) cok122 rfl (by kernel_rfl) ?_
      refine wR 8 103 ?_
      exact wK hk34 ((a0.Op == 0), r28, r29, 1, 1) h51 [(101, 100), (102, 101)] [2, 3]
     refine cV 103 ?_
     refine cI h51 (fun _ h51 => ?_) (fun _ h51 => ?_)
     ·exact cK 103 hk34 ((a0.Op == 0), (a0.Text == []), (a0.Other == []), 0, 400) h51 [(101, 100), (102, 101)] [2, 3]
     refine cV 103 ?_
     refine cI h51 (fun _ h51 => ?_) (fun _ h51 => ?_)
     ·refine bB h51 fun r31 hx62 h51 => ?_
      refine CO.w mix ?_
      refine wR 3 103 ?_
      refine W.call0 (mi_TokenOk_ok N (⟨2, a0.Text, 0⟩ : SToken) hx62) cok123 rfl (by kernel_rfl) ?_
      refine wR 2 103 ?_
      exact wK hk34 ((a0.Op == 0), r31, (a0.Other == []), 0, 0) h51 [(101, 100), (102, 101)] [2, 3]
     exact sK hk34 ((a0.Op == 0), (a0.Text == []), (a0.Other == []), 0, 0) h51 [(101, 100), (102, 101)] [2, 3]
   intro hk63
   refine cV 103 ?_
   refine cI h44 (fun _ h44 => ?_) (fun _ h44 => ?_)
   ·exact sK hk63 (a0, (a0.Kind == 29)) h44 [(100, 100), (101, 101), (102, 102)] [1, 2, 3, 15, 66]
   exact cK 103 hk63 (a0, (a0.Kind == 30)) h44 [(100, 100), (101, 101), (102, 102)] [1, 2, 3, 15, 66]
 intro hk65
 refine cV 103 ?_
 refine cI h (fun _ h => ?_) (fun _ h => ?_)
 ·exact sK hk65 (a0, (a0.Kind == 23)) h [(100, 100), (101, 101), (102, 102)] [1, 2, 3, 15, 51]
 exact cK 103 hk65 (a0, (a0.Kind == 24)) h [(100, 100), (101, 101), (102, 102)] [1, 2, 3, 15, 51]

theorem mi_itemForm_ok (N : Nat) (a0 : SNode) {r : SForm} (h : mi_itemForm N a0 = some r) :
    AC Tryz.prog (GS [0, 2]) 96 [.agg [V.i a0.Kind, V.i a0.Op, V.s a0.Text, V.s a0.Other, .sl false false (a0.Kids.map eNI)]] [] (.agg [V.b r.op, V.b r.text, V.b r.other, V.i r.least, V.i r.most]) [] := by
 rw [mi_itemForm] at h
 refine AC.enter Tryz.func96 rfl ?_
 refine cV 100 ?_
 refine cV 102 ?_
 refine CO.join (fun (⟨a0, y9, y10, y11, y12⟩ : (SNode × Bool × Bool × Int × Int)) => ⟨tl 64 [(2, .loc 100 0), (3, .loc 101 0)], [(100, .cells 110 [V.b false, V.b false, V.b false, V.i 0, V.i 0]), (101, .cells 110 [V.b y9, V.b y10, V.b (a0.Other == []), V.i y11, V.i y12])]⟩) (fun i => mi_itemForm_k1 N i = some r) ?_ ?_
 · rintro ⟨a0, y9, y10, y11, y12⟩ h24
   rw [mi_itemForm_k1] at h24
   refine cV 103 ?_
   refine CO.ret ?_
   have h24 := sI h24
   subst h24
   exact eG [] (.inr rfl) (RetV.one rfl (OneR.cell Dk (r := .agg [V.b y9, V.b y10, V.b (a0.Other == []), V.i y11, V.i y12]) (i := 100) (ety := 110) (cs := [V.b y9, V.b y10, V.b (a0.Other == []), V.i y11, V.i y12]) (by kernel_rfl) (by kernel_rfl) (by kernel_rfl)))
 intro hk25
 refine cV 103 ?_
 refine CO.block' ?_
 refine CO.join (fun (⟨a0, y13⟩ : (SNode × Bool)) => ⟨tl 64 [(1, .loc 100 0), (2, .loc 101 0), (3, .loc 102 0), (15, V.i a0.Kind), (17, V.b y13)], [(100, .cells 54 [V.i a0.Kind, V.i a0.Op, V.s a0.Text, V.s a0.Other, .sl false false (a0.Kids.map eNI)]), (101, .cells 110 [V.b false, V.b false, V.b false, V.i 0, V.i 0]), (102, .cells 110 [V.b (a0.Op == 0), V.b (a0.Text == []), V.b (a0.Other == []), V.i 0, V.i 0])]⟩) (fun i => mi_itemForm_k2 N i = some r) ?_ ?_
 · rintro ⟨a0, y13⟩ h27
   rw [mi_itemForm_k2] at h27
   refine cI h27 (fun _ h27 => ?_) (fun _ h27 => ?_)
   ·exact cK 103 hk25 (a0, (a0.Op == 0), (a0.Text == []), 1, 1) h27 [(101, 100), (102, 101)] [2, 3]
   refine cV 103 ?_
   refine cI h27 (fun _ h27 => ?_) (fun _ h27 => ?_)
   ·refine bB h27 fun r15 hx31 h27 => ?_
    refine cC 2 103 (AC.gs (mi_within_ok a0.Op 1 3 hx31) (by decide)) cok59 ?_
    refine CO.join (fun (⟨r15, a0, y16⟩ : (Bool × SNode × Int)) => ⟨tl 64 [(2, .loc 100 0), (3, .loc 101 0)], [(100, .cells 110 [V.b false, V.b false, V.b false, V.i 0, V.i 0]), (101, .cells 110 [V.b r15, V.b (a0.Text == []), V.b (a0.Other == []), V.i y16, V.i 0])]⟩) (fun i => mi_itemForm_k3 N i = some r) ?_ ?_
    · rintro ⟨r15, a0, y16⟩ h33
      rw [mi_itemForm_k3] at h33
      exact cK 103 hk25 (a0, r15, (a0.Text == []), y16, y16) h33 [(100, 100), (101, 101)] [2, 3]
    intro hk34
    refine cV 103 ?_
    refine cI h27 (fun _ h27 => ?_) (fun _ h27 => ?_)
    ·exact cK 103 hk34 (r15, a0, 2) h27 [(101, 100), (102, 101)] [2, 3]
    exact sK hk34 (r15, a0, 1) h27 [(101, 100), (102, 101)] [2, 3]
   refine cV 103 ?_
   refine cI h27 (fun _ h27 => ?_) (fun _ h27 => ?_)
   ·refine bB h27 fun y17 hv38 h27 => ?_
    refine CO.cutR (tl 64 [(1, .loc 100 0), (2, .loc 101 0), (3, .loc 102 0)]) [(100, .cells 54 [V.i a0.Kind, V.i a0.Op, V.s a0.Text, V.s a0.Other, .sl false false (a0.Kids.map eNI)]), (101, .cells 110 [V.b false, V.b false, V.b false, V.i 0, V.i 0]), (102, .cells 110 [V.b y17, V.b (a0.Text == []), V.b (a0.Other == []), V.i 2, V.i 0])] mix (by
     refine wR 4 103 ?_
     refine wJ 41 hv38 (fun hv38 => ?_) (fun hv38 => ?_)
     ·refine wR 8 103 ?_
      cases hv38
      exact fS [(100, 100), (101, 101), (102, 102)] [1, 2, 3]
     refine wR 8 103 ?_
     cases hv38
     exact fS [(100, 100), (101, 101), (102, 102)] [1, 2, 3]
     ) ?_
    refine CO.join (fun (⟨y17, a0, y18⟩ : (Bool × SNode × Int)) => ⟨tl 64 [(2, .loc 100 0), (3, .loc 101 0)], [(100, .cells 110 [V.b false, V.b false, V.b false, V.i 0, V.i 0]), (101, .cells 110 [V.b y17, V.b (a0.Text == []), V.b (a0.Other == []), V.i y18, V.i 0])]⟩) (fun i => mi_itemForm_k4 N i = some r) ?_ ?_
    · rintro ⟨y17, a0, y18⟩ h41
      rw [mi_itemForm_k4] at h41
      exact cK 103 hk25 (a0, y17, (a0.Text == []), y18, y18) h41 [(100, 100), (101, 101)] [2, 3]
    intro hk42
    refine cV 103 ?_
    refine cI h27 (fun _ h27 => ?_) (fun _ h27 => ?_)
    ·exact cK 103 hk42 (y17, a0, 3) h27 [(101, 100), (102, 101)] [2, 3]
    exact sK hk42 (y17, a0, 2) h27 [(101, 100), (102, 101)] [2, 3]
   refine cV 103 ?_
   refine cI h27 (fun _ h27 => ?_) (fun _ h27 => ?_)
   ·refine bB h27 fun r20 hx46 h27 => ?_
    refine CO.w mix ?_
    refine wR 2 103 ?_
    refine W.call0 (mi_NameOk_ok N a0.Text hx46) cok122 rfl (by kernel_rfl) ?_
    refine wR 6 103 ?_
    exact wK hk25 (a0, (a0.Op == 0), r20, 1, 7) h27 [(101, 100), (102, 101)] [2, 3]
   exact cK 103 hk25 (a0, (a0.Op == 0), (a0.Text == []), 0, 400) h27 [(101, 100), (102, 101)] [2, 3]
 intro hk47
 refine cV 103 ?_
 refine cI h (fun _ h => ?_) (fun _ h => ?_)
 ·exact sK hk47 (a0, (a0.Kind == 40)) h [(100, 100), (101, 101), (102, 102)] [1, 2, 3, 15, 17]
 exact cK 103 hk47 (a0, (a0.Kind == 41)) h [(100, 100), (101, 101), (102, 102)] [1, 2, 3, 15, 17]

theorem mi_FieldsOk_ok (N : Nat) (a0 : SNode) {r : Bool} (h : mi_FieldsOk N a0 = some r) :
    AC Tryz.prog (GS [0, 1, 2]) 66 [.agg [V.i a0.Kind, V.i a0.Op, V.s a0.Text, V.s a0.Other, .sl false false (a0.Kids.map eNI)]] [] (V.b r) [] := by
 rw [mi_FieldsOk] at h
 refine AC.enter Tryz.func66 rfl ?_
 refine cV 100 ?_
 refine cV 101 ?_
 refine CO.join (fun (⟨a0, y13, y14, y15, y16, y17⟩ : (SNode × Bool × Bool × Bool × Int × Int)) => ⟨tl 61 [(1, .loc 100 0), (3, .loc 101 0)], [(100, .cells 54 [V.i a0.Kind, V.i a0.Op, V.s a0.Text, V.s a0.Other, .sl false false (a0.Kids.map eNI)]), (101, .cells 110 [V.b y13, V.b y14, V.b y15, V.i y16, V.i y17])]⟩) (fun i => mi_FieldsOk_k1 N i = some r) ?_ ?_
 · rintro ⟨a0, y13, y14, y15, y16, y17⟩ h17
   rw [mi_FieldsOk_k1] at h17
   refine bB h17 fun y19 hv22 h17 => ?_
   refine CO.cutR (tl 61 [(2, V.b y19)]) [] mix (by
    refine wR 3 102 ?_
    refine wJ 43 hv22 (fun hv22 => ?_) (fun hv22 => ?_)
    ·refine wR 4 102 ?_
     refine wJ 47 hv22 (fun hv22 => ?_) (fun hv22 => ?_)
     ·refine wR 4 102 ?_
      refine wJ 51 hv22 (fun hv22 => ?_) (fun hv22 => ?_)
      ·refine wR 2 102 ?_
       refine W.len Dk eNI a0.Kids [] (by kernel_rfl) (by kernel_rfl) ?_
       refine wR 4 102 ?_
       refine bB hv22 fun r20 hx26 hv22 => ?_
       refine W.call0 (AC.gs (mi_within_ok (a0.Kids.length : Int) y16 y17 hx26) (by decide)) cok59 rfl (by kernel_rfl) ?_
       refine wR 2 102 ?_
       cases hv22
       exact fS [] [2]
      refine wR 10 102 ?_
      cases hv22
      exact fS [] [2]
     refine wR 14 102 ?_
     cases hv22
     exact fS [] [2]
    refine wR 18 102 ?_
    cases hv22
    exact fS [] [2]
    ) ?_
   cases h17
   exact e1 2 id
 intro hk27
 refine CO.block' ?_
 refine bB h fun r22 hx29 h => ?_
 refine cC 2 102 (AC.gs (mi_IsExpr_ok a0.Kind hx29) (by decide)) cok74 ?_
 refine cI h (fun _ h => ?_) (fun _ h => ?_)
 ·refine bB h fun r24 hx32 h => ?_
  refine cC 1 102 (mi_exprForm_ok N a0 hx32) cok93 ?_
  exact cK 102 hk27 (a0, r24.op, r24.text, (a0.Other == []), r24.least, r24.most) h [(100, 100), (101, 101)] [1, 3]
 refine cV 102 ?_
 refine cI h (fun _ h => ?_) (fun _ h => ?_)
 ·exact cK 102 hk27 (a0, (a0.Op == 0), (a0.Text == []), (a0.Other == []), 0, 0) h [(100, 100), (101, 101)] [1, 3]
 refine bB h fun r26 hx35 h => ?_
 refine cC 2 102 (AC.gs (mi_IsStmt_ok a0.Kind hx35) (by decide)) cok94 ?_
 refine cI h (fun _ h => ?_) (fun _ h => ?_)
 ·refine bB h fun r28 hx38 h => ?_
  refine CO.w mix ?_
  refine wR 1 102 ?_
  refine W.call0 (mi_stmtForm_ok N a0 hx38) cok95 rfl (by kernel_rfl) ?_
  refine wR 1 102 ?_
  exact wK hk27 (a0, r28.op, r28.text, r28.other, r28.least, r28.most) h [(100, 100), (101, 101)] [1, 3]
 refine bB h fun r30 hx40 h => ?_
 refine cC 2 102 (AC.gs (mi_within_ok a0.Kind 40 45 hx40) (by decide)) cok59 ?_
 refine cI h (fun _ h => ?_) (fun _ h => ?_)
 ·refine bB h fun r32 hx43 h => ?_
  refine CO.w mix ?_
  refine wR 1 102 ?_
  refine W.call0 (AC.gs (mi_itemForm_ok N a0 hx43) (by decide)) cok96 rfl (by kernel_rfl) ?_
  refine wR 1 102 ?_
  exact wK hk27 (a0, r32.op, r32.text, r32.other, r32.least, r32.most) h [(100, 100), (101, 101)] [1, 3]
 refine cV 102 ?_
 cases h
 exact e1 2 id

theorem mi_IsLvalue_ok (a0 : Int) {r : Bool} (h : mi_IsLvalue a0 = some r) :
    AC Tryz.prog (GS []) 97 [V.i a0] [] (V.b r) [] := by
 rw [mi_IsLvalue] at h
 refine AC.enter Tryz.func97 rfl ?_
 refine cV 100 ?_
 refine bB h fun y1 hv3 h => ?_
 refine CO.cutR (tl 13 [(2, V.b y1)]) [] mix (by
  refine wR 3 100 ?_
  refine wJ 5 hv3 (fun hv3 => ?_) (fun hv3 => ?_)
  ·refine wR 8 100 ?_
   cases hv3
   exact fS [] [2]
  refine wR 4 100 ?_
  refine wJ 9 hv3 (fun hv3 => ?_) (fun hv3 => ?_)
  ·refine wR 4 100 ?_
   cases hv3
   exact fS [] [2]
  refine wR 4 100 ?_
  cases hv3
  exact fS [] [2]
  ) ?_
 cases h
 exact e1 2 id

theorem mi_isItem_ok (a0 : Int) {r : Bool} (h : mi_isItem a0 = some r) :
    AC Tryz.prog (GS []) 98 [V.i a0] [] (V.b r) [] := by
 rw [mi_isItem] at h
 refine AC.enter Tryz.func98 rfl ?_
 refine cV 100 ?_
 refine bB h fun r2 hx2 h => ?_
 refine cC 1 100 (mi_within_ok a0 40 44 hx2) cok59 ?_
 cases h
 exact e1 2 id

theorem mi_kidOk_ok (a0 : SNode) (a1 : Int) (a2 : Int) {r : Bool} (h : mi_kidOk a0 a1 a2 = some r) :
    AC Tryz.prog (GS []) 67 [.agg [V.i a0.Kind, V.i a0.Op, V.s a0.Text, V.s a0.Other, .sl false false (a0.Kids.map eNI)], V.i a1, V.i a2] [] (V.b r) [] := by
 rw [mi_kidOk] at h
 refine AC.enter Tryz.func67 rfl ?_
 refine cV 100 ?_
 refine CO.sw mix ?_
 refine wR 3 101 ?_
 refine W.len Dk eNI a0.Kids [] (by kernel_rfl) (by kernel_rfl) ?_
 refine wR 3 101 ?_
 refine wF ?_
 refine cV 101 ?_
 refine CO.join (fun (⟨a2, y22⟩ : (Int × Bool)) => ⟨tl 99 [(2, V.i a2), (8, V.b y22)], []⟩) (fun i => mi_kidOk_k1 i = some r) ?_ ?_
 · rintro ⟨a2, y22⟩ h66
   rw [mi_kidOk_k1] at h66
   refine CO.seq' ?_
   refine cV 101 ?_
   refine cI h66 (fun _ h66 => ?_) (fun _ h66 => ?_)
   ·refine cV 101 ?_
    cases h66
    exact e1 6 id
   refine CO.skip ?_
   refine bB h66 fun r24 hx70 h66 => ?_
   refine cC 1 101 (mi_IsExpr_ok a2 hx70) cok74 ?_
   cases h66
   exact e1 6 id
 intro hk71
 refine cV 101 ?_
 refine CO.block' ?_
 refine CO.join (fun (⟨a1, a2, a0, y25⟩ : (Int × Int × SNode × Bool)) => ⟨tl 99 [(1, V.i a1), (2, V.i a2), (3, .loc 100 0), (7, V.b (a1 == (IntKind.wrap .i64 ((a0.Kids.length : Int) - 1)))), (8, V.b false), (16, V.i a0.Kind), (17, V.b y25)], [(100, .cells 54 [V.i a0.Kind, V.i a0.Op, V.s a0.Text, V.s a0.Other, .sl false false (a0.Kids.map eNI)])]⟩) (fun i => mi_kidOk_k2 i = some r) ?_ ?_
 · rintro ⟨a1, a2, a0, y25⟩ h73
   rw [mi_kidOk_k2] at h73
   refine cI h73 (fun _ h73 => ?_) (fun _ h73 => ?_)
   ·refine bB h73 fun r27 hx76 h73 => ?_
    refine cC 1 101 (mi_IsLvalue_ok a2 hx76) cok97 ?_
    cases h73
    exact e1 6 id
   refine cV 101 ?_
   refine cI h73 (fun _ h73 => ?_) (fun _ h73 => ?_)
   ·refine bB h73 fun y31 hv85 h73 => ?_
    refine CO.cutR (tl 99 [(6, V.b y31)]) [] mix (by
     refine wR 3 101 ?_
     refine wJ 26 hv85 (fun hv85 => ?_) (fun hv85 => ?_)
     ·refine wR 1 101 ?_
      refine bB hv85 fun r32 hx87 hv85 => ?_
      refine W.call0 (mi_IsLvalue_ok a2 hx87) cok97 rfl (by kernel_rfl) ?_
      refine wR 2 101 ?_
      refine wJ 30 hv85 (fun hv85 => ?_) (fun hv85 => ?_)
      ·refine wR 8 101 ?_
       cases hv85
       exact fS [] [6]
      refine wR 3 101 ?_
      refine wJ 33 hv85 (fun hv85 => ?_) (fun hv85 => ?_)
      ·refine wR 1 101 ?_
       refine bB hv85 fun r33 hx90 hv85 => ?_
       refine W.call0 (mi_IsExpr_ok a2 hx90) cok74 rfl (by kernel_rfl) ?_
       refine wR 3 101 ?_
       cases hv85
       exact fS [] [6]
      refine wR 5 101 ?_
      cases hv85
      exact fS [] [6]
     refine wR 7 101 ?_
     refine wJ 33 hv85 (fun hv85 => ?_) (fun hv85 => ?_)
     ·refine wR 1 101 ?_
      refine bB hv85 fun r34 hx92 hv85 => ?_
      refine W.call0 (mi_IsExpr_ok a2 hx92) cok74 rfl (by kernel_rfl) ?_
      refine wR 3 101 ?_
      cases hv85
      exact fS [] [6]
     refine wR 5 101 ?_
     cases hv85
     exact fS [] [6]
     ) ?_
    cases h73
    exact e1 6 id
   refine CO.join (fun (⟨a1, a2, a0, y35⟩ : (Int × Int × SNode × Bool)) => ⟨tl 99 [(1, V.i a1), (2, V.i a2), (3, .loc 100 0), (7, V.b (a1 == (IntKind.wrap .i64 ((a0.Kids.length : Int) - 1)))), (8, V.b false), (16, V.i a0.Kind), (38, V.b y35)], [(100, .cells 54 [V.i a0.Kind, V.i a0.Op, V.s a0.Text, V.s a0.Other, .sl false false (a0.Kids.map eNI)])]⟩) (fun i => mi_kidOk_k3 i = some r) ?_ ?_
   · rintro ⟨a1, a2, a0, y35⟩ h94
     rw [mi_kidOk_k3] at h94
     refine cI h94 (fun _ h94 => ?_) (fun _ h94 => ?_)
     ·exact cK 101 hk71 (a2, (decide (a1 > 0))) h94 [] [2, 8]
     refine cV 101 ?_
     refine cI h94 (fun _ h94 => ?_) (fun _ h94 => ?_)
     ·refine CO.seq' ?_
      refine bB h94 fun y37 hv102 h94 => ?_
      refine CO.cutR (tl 99 [(2, V.i a2), (7, V.b (a1 == (IntKind.wrap .i64 ((a0.Kids.length : Int) - 1)))), (50, V.b y37)]) [] mix (by
       refine wR 3 101 ?_
       refine wJ 47 hv102 (fun hv102 => ?_) (fun hv102 => ?_)
       ·refine wR 3 101 ?_
        cases hv102
        exact fS [] [2, 7, 50]
       refine wR 3 101 ?_
       cases hv102
       exact fS [] [2, 7, 50]
       ) ?_
      refine cI h94 (fun _ h94 => ?_) (fun _ h94 => ?_)
      ·refine cV 101 ?_
       cases h94
       exact e1 6 id
      refine CO.skip ?_
      exact cK 101 hk71 (a2, (a1 == (IntKind.wrap .i64 ((a0.Kids.length : Int) - 1)))) h94 [] [2, 8]
     refine cV 101 ?_
     refine cI h94 (fun _ h94 => ?_) (fun _ h94 => ?_)
     ·exact cK 101 hk71 (a2, (a1 == 0)) h94 [] [2, 8]
     refine CO.join (fun (⟨a2, a1, a0, y38⟩ : (Int × Int × SNode × Bool)) => ⟨tl 99 [(2, V.i a2), (3, .loc 100 0), (7, V.b (a1 == (IntKind.wrap .i64 ((a0.Kids.length : Int) - 1)))), (8, V.b false), (16, V.i a0.Kind), (56, V.b y38)], [(100, .cells 54 [V.i a0.Kind, V.i a0.Op, V.s a0.Text, V.s a0.Other, .sl false false (a0.Kids.map eNI)])]⟩) (fun i => mi_kidOk_k4 i = some r) ?_ ?_
     · rintro ⟨a2, a1, a0, y38⟩ h108
       rw [mi_kidOk_k4] at h108
       refine cI h108 (fun _ h108 => ?_) (fun _ h108 => ?_)
       ·exact cK 101 hk71 (a2, true) h108 [] [2, 8]
       refine cV 101 ?_
       refine cI h108 (fun _ h108 => ?_) (fun _ h108 => ?_)
       ·refine bB h108 fun r40 hx112 h108 => ?_
        refine cC 1 101 (mi_IsStmt_ok a2 hx112) cok94 ?_
        cases h108
        exact e1 6 id
       refine cV 101 ?_
       refine cI h108 (fun _ h108 => ?_) (fun _ h108 => ?_)
       ·refine bB h108 fun y41 hv115 h108 => ?_
        refine CO.endR (tl 99 [(2, V.i a2), (8, V.b y41)]) [] mix (by
         refine wR 2 101 ?_
         refine wJ 67 hv115 (fun hv115 => ?_) (fun hv115 => ?_)
         ·refine wR 5 101 ?_
          cases hv115
          exact fS [] [2, 8]
         refine wR 5 101 ?_
         cases hv115
         exact fS [] [2, 8]
         ) (fun st hw => ?_)
        exact hk71 (a2, y41) h108 _ (hw.trans (wS [] [2, 8]))
       refine cV 101 ?_
       refine cI h108 (fun _ h108 => ?_) (fun _ h108 => ?_)
       ·refine bB h108 fun y42 hv119 h108 => ?_
        refine CO.endR (tl 99 [(2, V.i a2), (8, V.b y42)]) [] mix (by
         refine wR 2 101 ?_
         refine wJ 75 hv119 (fun hv119 => ?_) (fun hv119 => ?_)
         ·refine wR 5 101 ?_
          cases hv119
          exact fS [] [2, 8]
         refine wR 5 101 ?_
         cases hv119
         exact fS [] [2, 8]
         ) (fun st hw => ?_)
        exact hk71 (a2, y42) h108 _ (hw.trans (wS [] [2, 8]))
       refine cV 101 ?_
       refine cI h108 (fun _ h108 => ?_) (fun _ h108 => ?_)
       ·refine CO.seq' ?_
        refine cV 101 ?_
        refine cI h108 (fun _ h108 => ?_) (fun _ h108 => ?_)
        ·refine cV 101 ?_
         cases h108
         exact e1 6 id
        refine CO.skip ?_
        exact cK 101 hk71 (a2, true) h108 [] [2, 8]
       refine cV 101 ?_
       refine cI h108 (fun _ h108 => ?_) (fun _ h108 => ?_)
       ·refine bB h108 fun y44 hv127 h108 => ?_
        refine CO.cutR (tl 99 [(6, V.b y44)]) [] mix (by
         refine wR 1 101 ?_
         refine bB hv127 fun r45 hx128 hv127 => ?_
         refine W.call0 (mi_isItem_ok a2 hx128) cok98 rfl (by kernel_rfl) ?_
         refine wR 1 101 ?_
         refine wJ 90 hv127 (fun hv127 => ?_) (fun hv127 => ?_)
         ·refine wR 4 101 ?_
          cases hv127
          exact fS [] [6]
         refine wR 4 101 ?_
         cases hv127
         exact fS [] [6]
         ) ?_
        cases h108
        exact e1 6 id
       exact sK hk71 (a2, false) h108 [] [2, 8]
     intro hk130
     refine cV 101 ?_
     refine cI h94 (fun _ h94 => ?_) (fun _ h94 => ?_)
     ·exact sK hk130 (a2, a1, a0, (a0.Kind == 32)) h94 [(100, 100)] [2, 3, 7, 8, 16, 56]
     refine cV 101 ?_
     refine cI h94 (fun _ h94 => ?_) (fun _ h94 => ?_)
     ·exact sK hk130 (a2, a1, a0, (a0.Kind == 40)) h94 [(100, 100)] [2, 3, 7, 8, 16, 56]
     exact cK 101 hk130 (a2, a1, a0, (a0.Kind == 41)) h94 [(100, 100)] [2, 3, 7, 8, 16, 56]
   intro hk133
   refine cV 101 ?_
   refine cI h73 (fun _ h73 => ?_) (fun _ h73 => ?_)
   ·exact sK hk133 (a1, a2, a0, (a0.Kind == 28)) h73 [(100, 100)] [1, 2, 3, 7, 8, 16, 38]
   exact cK 101 hk133 (a1, a2, a0, (a0.Kind == 29)) h73 [(100, 100)] [1, 2, 3, 7, 8, 16, 38]
 intro hk135
 refine cV 101 ?_
 refine cI h (fun _ h => ?_) (fun _ h => ?_)
 ·exact sK hk135 (a1, a2, a0, (a0.Kind == 9)) h [(100, 100)] [1, 2, 3, 7, 8, 16, 17]
 exact cK 101 hk135 (a1, a2, a0, (a0.Kind == 10)) h [(100, 100)] [1, 2, 3, 7, 8, 16, 17]

structure RecOk2 (R : Rec2) : Prop where
  mi_treeAt : ∀ (a0 : List SNode) (a1 : Int) (r : STree), R.mi_treeAt a0 a1 = some r → AC Tryz.prog (GS []) 82 [.sl false false (a0.map (eSN false)), V.i a1] [] (.agg [V.i r.kind, V.i r.op, V.s r.text, V.s r.other, .sl false false (r.kids.map eST)]) []

theorem mi_treeAt_F_ok (N : Nat) (R : Rec2) (HR : RecOk2 R) (a0 : List SNode) (a1 : Int) {r : STree} (h : mi_treeAt_F N R a0 a1 = some r) :
    AC Tryz.prog (GS []) 82 [.sl false false (a0.map (eSN false)), V.i a1] [] (.agg [V.i r.kind, V.i r.op, V.s r.text, V.s r.other, .sl false false (r.kids.map eST)]) [] := by
 rw [mi_treeAt_F] at h
 refine AC.enter Tryz.func82 rfl ?_
 refine cV 100 ?_
 refine bB h fun e2 hx2 h => ?_
 refine CO.sw mix ?_
 refine wR 2 101 ?_
 refine W.ixD Dk (eSN false) hx2 5 (by kernel_rfl) (by kernel_rfl) ?_
 refine wR 3 101 ?_
 refine wF ?_
 refine cV 102 ?_
 refine CO.seq' ?_
 refine CO.sw mix ?_
 refine wR 2 103 ?_
 refine W.len Dk eNI e2.Kids [] (by kernel_rfl) (by kernel_rfl) ?_
 refine wR 1 103 ?_
 refine wF ?_
 refine CO.block' ?_
 refine CO.loopJ (fun (⟨a0, e2, y63, y64⟩ : ((List SNode) × SNode × Int × (List STree))) => ⟨tl 39 [(0, .sl false false (a0.map (eSN false))), (4, .loc 100 0), (6, .loc 101 0), (23, .sl false false (e2.Kids.map eNI)), (24, V.i (e2.Kids.length : Int)), (25, V.i y63)], [(100, .cells 69 [V.i 0, V.i 0, V.s [], V.s [], .c (.slice none 0 0)]), (101, .cells 69 [V.i e2.Kind, V.i e2.Op, V.s e2.Text, V.s e2.Other, .own 102]), (102, .vec false 69 5 (y64.map eST))]⟩) (fun n i => mi_treeAt_l1 N R n i = some r) (n0 := N) (i0 := (a0, e2, 0, [])) ((Weak.nilCell 102 4 103 69 5 (ety := 69) (cs := [V.i e2.Kind, V.i e2.Op, V.s e2.Text, V.s e2.Other, .c (.slice none 0 0)]) (by kernel_rfl) (by kernel_rfl) (by kernel_rfl)).trans (wS [(100, 100), (102, 101), (103, 102)] [0, 4, 6, 23, 24, 25])) h (fun i h => by simp [mi_treeAt_l1] at h) ?_
 rintro n1 ⟨a0, e2, y63, y64⟩ h83 ih84
 rw [mi_treeAt_l1] at h83
 refine cV 168 ?_
 refine CO.seq' ?_
 refine cI h83 (fun _ h83 => ?_) (fun _ h83 => ?_)
 ·refine CO.skip ?_
  refine CO.seq' ?_
  refine CO.block' ?_
  refine bB h83 fun e86 hx94 h83 => ?_
  refine CO.sw mix ?_
  refine W.ixD Dk eNI hx94 1 (by kernel_rfl) (by kernel_rfl) ?_
  refine wR 2 168 ?_
  refine wF ?_
  refine bB h83 fun r89 hx97 h83 => ?_
  refine bB h83 fun x90 hx98 h83 => ?_
  refine CO.endR (tl 39 [(0, .sl false false (a0.map (eSN false))), (4, .loc 100 0), (6, .loc 101 0), (23, .sl false false (e2.Kids.map eNI)), (24, V.i (e2.Kids.length : Int)), (25, V.i y63)]) [(101, .cells 69 [V.i e2.Kind, V.i e2.Op, V.s e2.Text, V.s e2.Other, .own 169]), (169, .vec false 69 5 (x90.map eST)), (100, .cells 69 [V.i 0, V.i 0, V.s [], V.s [], .c (.slice none 0 0)])] mix (by
   refine wR 4 168 ?_
   refine W.call0 (HR.mi_treeAt a0 e86 _ hx97) cok82 rfl (by kernel_rfl) ?_
   refine W.layop Dk (show LayOk _ [] from trivial) (by kernel_rfl) 168 { v := .own 168, R := [], new := [(168, .vec true 69 5 [[V.i r89.kind, V.i r89.op, V.s r89.text, V.s r89.other, .sl false false (r89.kids.map eST)]])], N := [168] } (by kernel_rfl) ?_
   refine W.vecEq 168 (nn := true) (e := 69) (k := 5) (rows := [[V.i r89.kind, V.i r89.op, V.s r89.text, V.s r89.other, .sl false false (r89.kids.map eST)]]) (rows' := [r89].map eST) (by kernel_rfl) (by simp only [List.map_cons, List.map_nil, encSTree_eq]) ?_
   refine W.appO Dk eST (a := 102) (c := 168) (el := 69) (sz := 5) 72 hx98 rfl 169 (by kernel_rfl) ?_
   refine wR 2 170 ?_
   exact fI
   ) (fun st hw => ?_)
  refine CO.weak hw ?_
  exact cK 170 ih84 (a0, e2, (IntKind.wrap .i64 (y63 + 1)), x90) h83 [(100, 100), (101, 101), (169, 102)] [0, 4, 6, 23, 24, 25]
 refine CO.exit ?_
 refine cU 2 168 (tl 39 [(4, .loc 100 0)]) [(100, .cells 69 [V.i e2.Kind, V.i e2.Op, V.s e2.Text, V.s e2.Other, .own 102]), (102, .vec false 69 5 (y64.map eST))] ?_
 refine CO.lay (tl 39 [(4, .loc 100 0)]) [(100, .cells 69 [V.i e2.Kind, V.i e2.Op, V.s e2.Text, V.s e2.Other, .sl false false (y64.map eST)])] (LayOk.cons (j := 102) eST eST y64 (by kernel_rfl) (share_encSTree) (show LayOk _ [] from trivial)) (by kernel_rfl) (by kernel_rfl) (by kernel_rfl) ?_
 refine CO.ret ?_
 have h83 := sI h83
 subst h83
 exact eG [] (.inr rfl) (RetV.one rfl (OneR.cell Dk (r := .agg [V.i e2.Kind, V.i e2.Op, V.s e2.Text, V.s e2.Other, .sl false false (y64.map eST)]) (i := 100) (ety := 69) (cs := [V.i e2.Kind, V.i e2.Op, V.s e2.Text, V.s e2.Other, .sl false false (y64.map eST)]) (by kernel_rfl) (by kernel_rfl) (by kernel_rfl)))

theorem scc2_ok : ∀ N, RecOk2 (scc2 N)
  | 0 => ⟨fun _ _ _ h => (by cases h)⟩
  | N + 1 => ⟨fun a0 a1 _ h => mi_treeAt_F_ok N (scc2 N) (scc2_ok N) a0 a1 h⟩

theorem mi_treeAt_ok (N : Nat) (a0 : List SNode) (a1 : Int) {r : STree} (h : mi_treeAt N a0 a1 = some r) :
    AC Tryz.prog (GS []) 82 [.sl false false (a0.map (eSN false)), V.i a1] [] (.agg [V.i r.kind, V.i r.op, V.s r.text, V.s r.other, .sl false false (r.kids.map eST)]) [] :=
  (scc2_ok N).mi_treeAt a0 a1 r h

theorem mi_rootOf_ok (N : Nat) (a0 : List SNode) {r : STree} (h : mi_rootOf N a0 = some r) :
    AC Tryz.prog (GS []) 53 [.sl false false (a0.map (eSN false))] [] (.agg [V.i r.kind, V.i r.op, V.s r.text, V.s r.other, .sl false false (r.kids.map eST)]) [] := by
 rw [mi_rootOf] at h
 refine AC.enter Tryz.func53 rfl ?_
 refine cV 100 ?_
 refine bB h fun r2 hx2 h => ?_
 refine CO.sw mix ?_
 refine wR 2 101 ?_
 refine W.len Dk (eSN false) a0 [] (by kernel_rfl) (by kernel_rfl) ?_
 refine wR 1 101 ?_
 refine W.call0 (mi_treeAt_ok N a0 (IntKind.wrap .i64 ((a0.length : Int) - 1)) hx2) cok82 rfl (by kernel_rfl) ?_
 refine wR 1 101 ?_
 refine wF ?_
 refine CO.ret ?_
 have h := sI h
 subst h
 exact eG [] (.inr rfl) (RetV.one rfl (OneR.cell Dk (r := .agg [V.i r2.kind, V.i r2.op, V.s r2.text, V.s r2.other, .sl false false (r2.kids.map eST)]) (i := 100) (ety := 69) (cs := [V.i r2.kind, V.i r2.op, V.s r2.text, V.s r2.other, .sl false false (r2.kids.map eST)]) (by kernel_rfl) (by kernel_rfl) (by kernel_rfl)))

structure RecOk3 (R : Rec3) : Prop where
  mi_tree__depth : ∀ (a0 : STree) (r : Int), R.mi_tree__depth a0 = some r → AC Tryz.prog (GS []) 68 [.agg [V.i a0.kind, V.i a0.op, V.s a0.text, V.s a0.other, .sl false false (a0.kids.map eST)]] [] (V.i r) []

theorem mi_tree__depth_F_ok (N : Nat) (R : Rec3) (HR : RecOk3 R) (a0 : STree) {r : Int} (h : mi_tree__depth_F N R a0 = some r) :
    AC Tryz.prog (GS []) 68 [.agg [V.i a0.kind, V.i a0.op, V.s a0.text, V.s a0.other, .sl false false (a0.kids.map eST)]] [] (V.i r) [] := by
 rw [mi_tree__depth_F] at h
 refine AC.enter Tryz.func68 rfl ?_
 refine cV 100 ?_
 refine cV 101 ?_
 refine CO.seq' ?_
 refine CO.sw mix ?_
 refine wR 2 101 ?_
 refine W.len Dk eST a0.kids [] (by kernel_rfl) (by kernel_rfl) ?_
 refine wR 1 101 ?_
 refine wF ?_
 refine CO.block' ?_
 refine CO.loopJ (fun (⟨a0, y37, y38⟩ : (STree × Int × Int)) => ⟨tl 20 [(3, V.i y37), (7, .sl false false (a0.kids.map eST)), (8, V.i (a0.kids.length : Int)), (9, V.i y38)], []⟩) (fun n i => mi_tree__depth_l1 N R n i = some r) (n0 := N) (i0 := (a0, 0, 0)) (wS [] [3, 7, 8, 9]) h (fun i h => by simp [mi_tree__depth_l1] at h) ?_
 rintro n1 ⟨a0, y37, y38⟩ h53 ih54
 rw [mi_tree__depth_l1] at h53
 refine cV 163 ?_
 refine CO.seq' ?_
 refine cI h53 (fun _ h53 => ?_) (fun _ h53 => ?_)
 ·refine CO.skip ?_
  refine CO.seq' ?_
  refine CO.block' ?_
  refine bB h53 fun e54 hx62 h53 => ?_
  refine CO.sw mix ?_
  refine W.ixDr Dk eST hx62 5 (by kernel_rfl) (encSTree_eq e54) (by kernel_rfl) ?_
  refine wR 3 163 ?_
  refine wF ?_
  refine bB h53 fun r56 hx64 h53 => ?_
  refine CO.endR (tl 20 [(3, V.i (if r56 > y37 then r56 else y37)), (7, .sl false false (a0.kids.map eST)), (8, V.i (a0.kids.length : Int)), (9, V.i y38)]) [] mix (by
   refine wR 2 164 ?_
   refine W.call0 (HR.mi_tree__depth e54 _ hx64) cok68 rfl (by kernel_rfl) ?_
   refine wR 2 164 ?_
   exact fI
   ) (fun st hw => ?_)
  refine CO.weak hw ?_
  exact cK 164 ih54 (a0, (if r56 > y37 then r56 else y37), (IntKind.wrap .i64 (y38 + 1))) h53 [] [3, 7, 8, 9]
 refine CO.exit ?_
 refine cV 163 ?_
 cases h53
 exact e1 2 id

theorem scc3_ok : ∀ N, RecOk3 (scc3 N)
  | 0 => ⟨fun _ _ h => (by cases h)⟩
  | N + 1 => ⟨fun a0 _ h => mi_tree__depth_F_ok N (scc3 N) (scc3_ok N) a0 h⟩

theorem mi_tree__depth_ok (N : Nat) (a0 : STree) {r : Int} (h : mi_tree__depth N a0 = some r) :
    AC Tryz.prog (GS []) 68 [.agg [V.i a0.kind, V.i a0.op, V.s a0.text, V.s a0.other, .sl false false (a0.kids.map eST)]] [] (V.i r) [] :=
  (scc3_ok N).mi_tree__depth a0 r h

theorem mi_TreeOk_ok (N : Nat) (a0 : List SNode) {r : Bool} (h : mi_TreeOk N a0 = some r) :
    AC Tryz.prog (GS [0, 1, 2]) 40 [.sl false false (a0.map (eSN false))] [] (V.b r) [] := by
 rw [mi_TreeOk] at h
 refine AC.enter Tryz.func40 rfl ?_
 refine cV 100 ?_
 refine CO.seq' ?_
 refine bB h fun r4 hx5 h => ?_
 refine cC 1 100 (AC.gs (mi_ShapeOk_ok N a0 hx5) (by decide)) cok65 ?_
 refine cI h (fun _ h => ?_) (fun _ h => ?_)
 ·refine cV 100 ?_
  cases h
  exact e1 2 id
 refine CO.skip ?_
 refine CO.seq' ?_
 refine CO.sw mix ?_
 refine wR 1 100 ?_
 refine W.len Dk (eSN false) a0 [] (by kernel_rfl) (by kernel_rfl) ?_
 refine wR 1 100 ?_
 refine wF ?_
 refine CO.block' ?_
 refine CO.loopJ (fun (⟨a0, y359⟩ : ((List SNode) × Int)) => ⟨tl 42 [(0, .sl false false (a0.map (eSN false))), (10, .sl false false (a0.map (eSN false))), (11, V.i (a0.length : Int)), (12, V.i y359)], []⟩) (fun n i => mi_TreeOk_l1 N n i = some r) (n0 := N) (i0 := (a0, 0)) (wS [] [0, 10, 11, 12]) h (fun i h => by simp [mi_TreeOk_l1] at h) ?_
 rintro n1 ⟨a0, y359⟩ h599 ih600
 rw [mi_TreeOk_l1] at h599
 refine cV 282 ?_
 refine CO.seq' ?_
 refine cI h599 (fun _ h599 => ?_) (fun _ h599 => ?_)
 ·refine CO.skip ?_
  refine CO.seq' ?_
  refine CO.block' ?_
  refine bB h599 fun e494 hx662 h599 => ?_
  refine CO.sw mix ?_
  refine W.ixD Dk (eSN false) hx662 5 (by kernel_rfl) (by kernel_rfl) ?_
  refine wR 3 282 ?_
  refine wF ?_
  refine CO.seq' ?_
  refine bB h599 fun r498 hx667 h599 => ?_
  refine cC 1 283 (mi_FieldsOk_ok N e494 hx667) cok66 ?_
  refine cI h599 (fun _ h599 => ?_) (fun _ h599 => ?_)
  ·refine cV 283 ?_
   cases h599
   exact e1 2 id
  refine CO.skip ?_
  refine CO.sw mix ?_
  refine wR 2 283 ?_
  refine W.len Dk eNI e494.Kids [] (by kernel_rfl) (by kernel_rfl) ?_
  refine wR 1 283 ?_
  refine wF ?_
  refine CO.block' ?_
  refine CO.loopJ (fun (⟨a0, y359, e494, y511⟩ : ((List SNode) × Int × SNode × Int)) => ⟨tl 42 [(0, .sl false false (a0.map (eSN false))), (4, .loc 100 0), (10, .sl false false (a0.map (eSN false))), (11, V.i (a0.length : Int)), (12, V.i y359), (20, .sl false false (e494.Kids.map eNI)), (21, V.i (e494.Kids.length : Int)), (22, V.i y511)], [(100, .cells 54 [V.i e494.Kind, V.i e494.Op, V.s e494.Text, V.s e494.Other, .sl false false (e494.Kids.map eNI)])]⟩) (fun n i => mi_TreeOk_l2 N (mi_TreeOk_l1 N n1) n i = some r) (n0 := N) (i0 := (a0, y359, e494, 0)) (wS [(282, 100)] [0, 4, 10, 11, 12, 20, 21, 22]) h599 (fun i h => by simp [mi_TreeOk_l2] at h) ?_
  rintro n2 ⟨a0, y359, e494, y511⟩ h701 ih702
  rw [mi_TreeOk_l2] at h701
  refine cV 343 ?_
  refine CO.seq' ?_
  refine cI h701 (fun _ h701 => ?_) (fun _ h701 => ?_)
  ·refine CO.skip ?_
   refine CO.seq' ?_
   refine CO.block' ?_
   refine bB h701 fun e532 hx713 h701 => ?_
   refine CO.sw mix ?_
   refine wR 1 343 ?_
   refine W.ixD Dk eNI hx713 1 (by kernel_rfl) (by kernel_rfl) ?_
   refine wR 3 343 ?_
   refine wF ?_
   refine bB h701 fun e535 hx716 h701 => ?_
   refine bB h701 fun r536 hx717 h701 => ?_
   refine CO.sw mix ?_
   refine wR 4 343 ?_
   refine W.ixD Dk (eSN false) hx716 5 (by kernel_rfl) (by kernel_rfl) ?_
   refine wR 2 343 ?_
   refine W.call0 (AC.gs (mi_kidOk_ok e494 y511 e535.Kind hx717) (by decide)) cok67 rfl (by kernel_rfl) ?_
   refine wR 1 343 ?_
   refine wF ?_
   refine cI h701 (fun _ h701 => ?_) (fun _ h701 => ?_)
   ·refine cV 343 ?_
    cases h701
    exact e1 2 id
   refine CO.skip ?_
   exact cK 343 ih702 (a0, y359, e494, (IntKind.wrap .i64 (y511 + 1))) h701 [(100, 100)] [0, 4, 10, 11, 12, 20, 21, 22]
  refine CO.exit ?_
  exact cK 343 ih600 (a0, (IntKind.wrap .i64 (y359 + 1))) h701 [] [0, 10, 11, 12]
 refine CO.exit ?_
 refine bB h599 fun r539 hx721 h599 => ?_
 refine bB h599 fun r540 hx722 h599 => ?_
 refine CO.sw mix ?_
 refine wR 1 282 ?_
 refine W.call0 (AC.gs (mi_rootOf_ok N a0 hx721) (by decide)) cok53 rfl (by kernel_rfl) ?_
 refine W.call0 (AC.gs (mi_tree__depth_ok N r539 hx722) (by decide)) cok68 rfl (by kernel_rfl) ?_
 refine wR 2 282 ?_
 refine wF ?_
 cases h599
 exact e1 2 id

theorem mi_Leaves_ok (a0 : SNode) {r : Bool} (h : mi_Leaves a0 = some r) :
    AC Tryz.prog (GS []) 41 [.agg [V.i a0.Kind, V.i a0.Op, V.s a0.Text, V.s a0.Other, .sl false false (a0.Kids.map eNI)]] [] (V.b r) [] := by
 rw [mi_Leaves] at h
 refine AC.enter Tryz.func41 rfl ?_
 refine cV 100 ?_
 refine CO.seq' ?_
 refine cV 101 ?_
 refine CO.block' ?_
 refine CO.join (fun (y2 : Bool) => ⟨tl 11 [(5, V.b y2)], []⟩) (fun i => mi_Leaves_k1 i = some r) ?_ ?_
 · rintro y2 h16
   rw [mi_Leaves_k1] at h16
   refine cI h16 (fun _ h16 => ?_) (fun _ h16 => ?_)
   ·refine cV 101 ?_
    cases h16
    exact e1 2 id
   refine CO.skip ?_
   refine cV 101 ?_
   cases h16
   exact e1 2 id
 intro hk18
 refine cV 101 ?_
 refine cI h (fun _ h => ?_) (fun _ h => ?_)
 ·exact sK hk18 (a0.Kind == 22) h [] [5]
 refine cV 101 ?_
 refine cI h (fun _ h => ?_) (fun _ h => ?_)
 ·exact sK hk18 (a0.Kind == 23) h [] [5]
 refine cV 101 ?_
 refine cI h (fun _ h => ?_) (fun _ h => ?_)
 ·exact sK hk18 (a0.Kind == 24) h [] [5]
 refine cV 101 ?_
 refine cI h (fun _ h => ?_) (fun _ h => ?_)
 ·exact sK hk18 (a0.Kind == 25) h [] [5]
 exact cK 101 hk18 (a0.Kind == 26) h [] [5]

def laySort_ren : Go.Shelf.Ren := ⟨fun | 189 => 42 | 125 => 70 | 257 => 69 | 128 => 108 | 129 => 109 | 294 => 99 | 295 => 100 | 296 => 101 | 297 => 102 | 298 => 103 | 299 => 104 | 216 => 105 | 300 => 106 | 301 => 107 | 328 => 128 | 329 => 129 | 330 => 130 | 331 => 131 | 332 => 132 | 215 => 133 | 343 => 154 | n => n, fun | 28 => 39 | 3 => 3 | 46 => 94 | 0 => 0 | 51 => 122 | 53 => 124 | 4 => 4 | 183 => 114 | 182 => 113 | 131 => 119 | 5 => 5 | 9 => 9 | 218 => 136 | 222 => 140 | 228 => 151 | 229 => 107 | n => n, fun | n => n⟩
theorem laySort : Go.Proofs.Lays.n189 Tryz.prog laySort_ren where
  mixed := by kernel_rfl
  f125 := Tryz.func70.trans (congrArg some (by kernel_rfl))
  f128 := Tryz.func108.trans (congrArg some (by kernel_rfl))
  f129 := Tryz.func109.trans (congrArg some (by kernel_rfl))
  f189 := Tryz.func42.trans (congrArg some (by kernel_rfl))
  f215 := Tryz.func133.trans (congrArg some (by kernel_rfl))
  f216 := Tryz.func105.trans (congrArg some (by kernel_rfl))
  f257 := Tryz.func69.trans (congrArg some (by kernel_rfl))
  f294 := Tryz.func99.trans (congrArg some (by kernel_rfl))
  f295 := Tryz.func100.trans (congrArg some (by kernel_rfl))
  f296 := Tryz.func101.trans (congrArg some (by kernel_rfl))
  f297 := Tryz.func102.trans (congrArg some (by kernel_rfl))
  f298 := Tryz.func103.trans (congrArg some (by kernel_rfl))
  f299 := Tryz.func104.trans (congrArg some (by kernel_rfl))
  f300 := Tryz.func106.trans (congrArg some (by kernel_rfl))
  f301 := Tryz.func107.trans (congrArg some (by kernel_rfl))
  f328 := Tryz.func128.trans (congrArg some (by kernel_rfl))
  f329 := Tryz.func129.trans (congrArg some (by kernel_rfl))
  f330 := Tryz.func130.trans (congrArg some (by kernel_rfl))
  f331 := Tryz.func131.trans (congrArg some (by kernel_rfl))
  f332 := Tryz.func132.trans (congrArg some (by kernel_rfl))
  f343 := Tryz.func154.trans (congrArg some (by kernel_rfl))
  t0 := Tryz.underlying0
  a0 := Tryz.isAgg0
  z0 := Tryz.sizeOf0
  v0 := Tryz.zeroValue0
  t3 := Tryz.underlying3
  a3 := Tryz.isAgg3
  z3 := Tryz.sizeOf3
  v3 := Tryz.zeroValue3
  t4 := Tryz.underlying4
  a4 := Tryz.isAgg4
  z4 := Tryz.sizeOf4
  v4 := Tryz.zeroValue4
  t5 := Tryz.underlying5
  a5 := Tryz.isAgg5
  z5 := Tryz.sizeOf5
  v5 := Tryz.zeroValue5
  t9 := Tryz.underlying9
  a9 := Tryz.isAgg9
  z9 := Tryz.sizeOf9
  v9 := Tryz.zeroValue9
  t28 := Tryz.underlying39
  a28 := Tryz.isAgg39
  z28 := Tryz.sizeOf39
  v28 := Tryz.zeroValue39
  t46 := Tryz.underlying94
  a46 := Tryz.isAgg94
  z46 := Tryz.sizeOf94
  v46 := Tryz.zeroValue94
  t51 := Tryz.underlying122
  a51 := Tryz.isAgg122
  z51 := Tryz.sizeOf122
  v51 := Tryz.zeroValue122
  t53 := Tryz.underlying124
  a53 := Tryz.isAgg124
  z53 := Tryz.sizeOf124
  v53 := Tryz.zeroValue124
  t131 := Tryz.underlying119
  a131 := Tryz.isAgg119
  z131 := Tryz.sizeOf119
  v131 := Tryz.zeroValue119
  t182 := Tryz.underlying113
  a182 := Tryz.isAgg113
  z182 := Tryz.sizeOf113
  v182 := Tryz.zeroValue113
  t183 := Tryz.underlying114
  a183 := Tryz.isAgg114
  z183 := Tryz.sizeOf114
  v183 := Tryz.zeroValue114
  t218 := Tryz.underlying136
  a218 := Tryz.isAgg136
  z218 := Tryz.sizeOf136
  v218 := Tryz.zeroValue136
  t222 := Tryz.underlying140
  a222 := Tryz.isAgg140
  z222 := Tryz.sizeOf140
  v222 := Tryz.zeroValue140
  t228 := Tryz.underlying151
  a228 := Tryz.isAgg151
  z228 := Tryz.sizeOf151
  v228 := Tryz.zeroValue151
  t229 := Tryz.underlying107
  a229 := Tryz.isAgg107
  z229 := Tryz.sizeOf107
  v229 := Tryz.zeroValue107


theorem m_slices_Sort_int_mem : SortMem Tryz.prog 42 :=
  ⟨fun blk cap zs w h1 h2 h3 => Any.slices_Sort_int laySort blk 0 cap zs w h1 h2 h3, fun w => Any.slices_Sort_int_none laySort none 0 w⟩

theorem m_slices_Sort_int_ok (p0 : List Int) {r : List Int} (h : m_slices_Sort_int p0 = some r) :
    AC Tryz.prog (GS []) 42 [.own 0] [(0, .vec false 3 1 (p0.map eNI))] (.tup []) [(0, .vec false 3 1 (r.map eNI))] := AC.sortO m_slices_Sort_int_mem h


theorem mi_DeadStmts_ok (N : Nat) (a0 : List SNode) {r : (List Int)} (h : mi_DeadStmts N a0 = some r) :
    AC Tryz.prog (GS [0, 1, 2]) 20 [.sl false false (a0.map (eSN false))] [] (.own 100) [(100, .vec false 3 1 (r.map eNI))] := by
 rw [mi_DeadStmts] at h
 refine AC.enter Tryz.func20 rfl ?_
 refine cV 100 ?_
 refine cV 100 ?_
 refine CO.seq' ?_
 refine bB h fun r4 hx5 h => ?_
 refine cC 1 101 (mi_TreeOk_ok N a0 hx5) cok40 ?_
 refine cI h (fun _ h => ?_) (fun _ h => ?_)
 ·refine cV 101 ?_
  refine CO.ret ?_
  cases h
  exact eG [(100, 100)] (.inr rfl) (RetV.one rfl (oT (t := 2) (r := .own 100)))
 refine CO.skip ?_
 refine CO.seq' ?_
 refine CO.sw mix ?_
 refine wR 1 101 ?_
 refine W.len Dk (eSN false) a0 [] (by kernel_rfl) (by kernel_rfl) ?_
 refine wR 1 101 ?_
 refine wF ?_
 refine CO.block' ?_
 refine CO.loopJ (fun (⟨a0, y1053, y1054⟩ : ((List SNode) × Int × (List Int))) => ⟨tl 56 [(0, .sl false false (a0.map (eSN false))), (3, .own 100), (14, .sl false false (a0.map (eSN false))), (15, V.i (a0.length : Int)), (16, V.i y1053)], [(100, .vec false 3 1 (y1054.map eNI))]⟩) (fun n i => mi_DeadStmts_l1 N n i = some r) (n0 := N) (i0 := (a0, 0, [])) (wS [(100, 100)] [0, 3, 14, 15, 16]) h (fun i h => by simp [mi_DeadStmts_l1] at h) ?_
 rintro n1 ⟨a0, y1053, y1054⟩ h1909 ih1910
 rw [mi_DeadStmts_l1] at h1909
 refine cV 331 ?_
 refine CO.seq' ?_
 refine cI h1909 (fun _ h1909 => ?_) (fun _ h1909 => ?_)
 ·refine CO.skip ?_
  refine CO.join (fun (⟨a0, y1053, y1448⟩ : ((List SNode) × Int × (List Int))) => ⟨tl 56 [(0, .sl false false (a0.map (eSN false))), (3, .own 100), (14, .sl false false (a0.map (eSN false))), (15, V.i (a0.length : Int)), (16, V.i y1053)], [(100, .vec false 3 1 (y1448.map eNI))]⟩) (fun i => mi_DeadStmts_k2 N (mi_DeadStmts_l1 N n1) i = some r) ?_ ?_
  · rintro ⟨a0, y1053, y1448⟩ h2101
    rw [mi_DeadStmts_k2] at h2101
    exact cK 416 ih1910 (a0, (IntKind.wrap .i64 (y1053 + 1)), y1448) h2101 [(100, 100)] [0, 3, 14, 15, 16]
  intro hk2102
  refine CO.block' ?_
  refine bB h1909 fun e1450 hx2104 h1909 => ?_
  refine CO.sw mix ?_
  refine W.ixD Dk (eSN false) hx2104 5 (by kernel_rfl) (by kernel_rfl) ?_
  refine wR 3 331 ?_
  refine wF ?_
  refine CO.seq' ?_
  refine cV 332 ?_
  refine cI h1909 (fun _ h1909 => ?_) (fun _ h1909 => ?_)
  ·refine CO.exit ?_
   exact hk2102 (a0, y1053, y1054) h1909 _ (wS [(100, 100)] [0, 3, 14, 15, 16])
  refine CO.skip ?_
  refine cV 332 ?_
  refine CO.sw mix ?_
  refine wR 2 332 ?_
  refine W.len Dk eNI e1450.Kids [] (by kernel_rfl) (by kernel_rfl) ?_
  refine wR 1 332 ?_
  refine wF ?_
  refine CO.block' ?_
  refine CO.loopJ (fun (⟨a0, y1053, e1450, y1501, y1502, y1503⟩ : ((List SNode) × Int × SNode × Bool × Int × (List Int))) => ⟨tl 56 [(0, .sl false false (a0.map (eSN false))), (3, .own 100), (6, V.b y1501), (14, .sl false false (a0.map (eSN false))), (15, V.i (a0.length : Int)), (16, V.i y1053), (24, .sl false false (e1450.Kids.map eNI)), (25, V.i (e1450.Kids.length : Int)), (26, V.i y1502)], [(100, .vec false 3 1 (y1503.map eNI))]⟩) (fun n i => mi_DeadStmts_l3 N (mi_DeadStmts_l1 N n1) n i = some r) (n0 := N) (i0 := (a0, y1053, e1450, false, 0, y1054)) (wS [(100, 100)] [0, 3, 6, 14, 15, 16, 24, 25, 26]) h1909 (fun i h => by simp [mi_DeadStmts_l3] at h) ?_
  rintro n3 ⟨a0, y1053, e1450, y1501, y1502, y1503⟩ h2233 ih2234
  rw [mi_DeadStmts_l3] at h2233
  refine cV 416 ?_
  refine CO.seq' ?_
  refine cI h2233 (fun _ h2233 => ?_) (fun _ h2233 => ?_)
  ·refine CO.skip ?_
   refine CO.seq' ?_
   refine CO.block' ?_
   refine bB h2233 fun e1562 hx2265 h2233 => ?_
   refine CO.sw mix ?_
   refine W.ixD Dk eNI hx2265 1 (by kernel_rfl) (by kernel_rfl) ?_
   refine wR 2 416 ?_
   refine wF ?_
   refine CO.join (fun (⟨a0, y1501, e1562, y1053, e1450, y1502, y1568⟩ : ((List SNode) × Bool × Int × Int × SNode × Int × (List Int))) => ⟨tl 56 [(0, .sl false false (a0.map (eSN false))), (3, .own 100), (6, V.b y1501), (8, V.i e1562), (14, .sl false false (a0.map (eSN false))), (15, V.i (a0.length : Int)), (16, V.i y1053), (24, .sl false false (e1450.Kids.map eNI)), (25, V.i (e1450.Kids.length : Int)), (26, V.i y1502)], [(100, .vec false 3 1 (y1568.map eNI))]⟩) (fun i => mi_DeadStmts_k4 N (mi_DeadStmts_l1 N n1) (mi_DeadStmts_l3 N (mi_DeadStmts_l1 N n1) n3) i = some r) ?_ ?_
   · rintro ⟨a0, y1501, e1562, y1053, e1450, y1502, y1568⟩ h2274
     rw [mi_DeadStmts_k4] at h2274
     refine bB h2274 fun y1571 hv2278 h2274 => ?_
     refine CO.endR (tl 56 [(0, .sl false false (a0.map (eSN false))), (3, .own 100), (6, V.b y1571), (14, .sl false false (a0.map (eSN false))), (15, V.i (a0.length : Int)), (16, V.i y1053), (24, .sl false false (e1450.Kids.map eNI)), (25, V.i (e1450.Kids.length : Int)), (26, V.i y1502)]) [(100, .vec false 3 1 (y1568.map eNI))] mix (by
      refine wR 2 418 ?_
      refine wJ 44 hv2278 (fun hv2278 => ?_) (fun hv2278 => ?_)
      ·refine wR 7 418 ?_
       cases hv2278
       exact fS [(100, 100)] [0, 3, 6, 14, 15, 16, 24, 25, 26]
      refine wR 2 418 ?_
      refine bB hv2278 fun e1572 hx2280 hv2278 => ?_
      refine W.ixD Dk (eSN false) hx2280 5 (by kernel_rfl) (by kernel_rfl) ?_
      refine wR 1 418 ?_
      refine bB hv2278 fun r1573 hx2281 hv2278 => ?_
      refine W.call0 (AC.gs (mi_Leaves_ok e1572 hx2281) (by decide)) cok41 rfl (by kernel_rfl) ?_
      refine wR 2 418 ?_
      cases hv2278
      exact fS [(100, 100)] [0, 3, 6, 14, 15, 16, 24, 25, 26]
      ) (fun st hw => ?_)
     refine CO.weak hw ?_
     exact cK 418 ih2234 (a0, y1053, e1450, y1571, (IntKind.wrap .i64 (y1502 + 1)), y1568) h2274 [(100, 100)] [0, 3, 6, 14, 15, 16, 24, 25, 26]
   intro hk2282
   refine bB h2233 fun y1575 hv2285 h2233 => ?_
   refine CO.cutR (tl 56 [(0, .sl false false (a0.map (eSN false))), (3, .own 100), (6, V.b y1501), (8, V.i e1562), (14, .sl false false (a0.map (eSN false))), (15, V.i (a0.length : Int)), (16, V.i y1053), (24, .sl false false (e1450.Kids.map eNI)), (25, V.i (e1450.Kids.length : Int)), (26, V.i y1502), (38, V.b y1575)]) [(100, .vec false 3 1 (y1503.map eNI))] mix (by
    refine wR 2 416 ?_
    refine wJ 31 hv2285 (fun hv2285 => ?_) (fun hv2285 => ?_)
    ·refine wR 2 416 ?_
     refine bB hv2285 fun e1576 hx2287 hv2285 => ?_
     refine W.ixD Dk (eSN false) hx2287 5 (by kernel_rfl) (by kernel_rfl) ?_
     refine wR 4 416 ?_
     cases hv2285
     exact fS [(100, 100)] [0, 3, 6, 8, 14, 15, 16, 24, 25, 26, 38]
    refine wR 7 416 ?_
    cases hv2285
    exact fS [(100, 100)] [0, 3, 6, 8, 14, 15, 16, 24, 25, 26, 38]
    ) ?_
   refine cI h2233 (fun _ h2233 => ?_) (fun _ h2233 => ?_)
   ·refine bB h2233 fun x1578 hx2290 h2233 => ?_
    refine CO.w mix ?_
    refine wR 3 416 ?_
    refine W.appO Dk eNI (a := 100) (c := 416) (el := 3) (sz := 1) 8 hx2290 rfl 417 (by kernel_rfl) ?_
    refine wR 1 418 ?_
    exact wK hk2282 (a0, y1501, e1562, y1053, e1450, y1502, x1578) h2233 [(417, 100)] [0, 3, 6, 8, 14, 15, 16, 24, 25, 26]
   exact sK hk2282 (a0, y1501, e1562, y1053, e1450, y1502, y1503) h2233 [(100, 100)] [0, 3, 6, 8, 14, 15, 16, 24, 25, 26]
  refine CO.exit ?_
  exact hk2102 (a0, y1053, y1503) h2233 _ (wS [(100, 100)] [0, 3, 14, 15, 16])
 refine CO.exit ?_
 refine bB h1909 fun r1580 hx2292 h1909 => ?_
 refine CO.sw mix ?_
 refine wR 1 331 ?_
 refine W.call (AC.gs (m_slices_Sort_int_ok y1054 hx2292) (by decide)) cok42 [(100, 0)] [(0, 100)] [] (show LayOk _ [] from trivial) (by kernel_rfl) (by kernel_rfl) ?_
 refine wF ?_
 refine cV 331 ?_
 refine CO.ret ?_
 cases h1909
 exact eG [(100, 100)] (.inr rfl) (RetV.one rfl (oT (t := 2) (r := .own 100)))

theorem m_slices_Clone_int_nil : AC Tryz.prog (GS []) 90 [.c (.slice none 0 0)] [] (.own 100) [(100, .vec false 3 1 (([] : List Int).map eNI))] := by
  refine AC.enter Tryz.func90 rfl ?_
  refine CO.cutR (tl 8 [(0, .c (.slice none 0 0))]) [] mix (by
      refine wR 1 100 ?_
      exact W.fin (by decide) (by kernel_rfl) (wS [] [0])
      ) ?_
  refine CO.seq' ?_
  refine CO.cutR (tl 8 [(0, .c (.slice none 0 0)), (4, V.b true)]) [] mix (by
      refine wR 1 100 ?_
      refine W.nilEq Dk true (by kernel_rfl) ?_
      exact W.fin (by decide) (by kernel_rfl) (wS [] [0, 4])
      ) ?_
  refine CO.ifT (c := true) rfl (by kernel_rfl) ?_
  refine CO.cutR (tl 8 [(2, .c (.slice none 0 0))]) [] mix (by
      refine wR 1 100 ?_
      exact W.fin (by decide) (by kernel_rfl) (wS [] [2])
      ) ?_
  refine CO.weak (Weak.nil 2 101 3 1 (by kernel_rfl) (by kernel_rfl)) ?_
  refine CO.ret ?_
  exact eG [(101, 100)] (.inr rfl) (RetV.one rfl (oT (t := 2) (r := .own 101)))

theorem m_slices_Clone_int_nn (a0 : List Int) {r : (List Int)} (hx2 : app 8 [] a0 = some r) :
    AC Tryz.prog (GS []) 90 [.sl true false (a0.map eNI)] [] (.own 100) [(100, .vec false 3 1 (r.map eNI))] := by
  refine AC.enter Tryz.func90 rfl ?_
  refine CO.cutR (tl 8 [(0, .sl true false (a0.map eNI))]) [] mix (by
      refine wR 1 100 ?_
      exact W.fin (by decide) (by kernel_rfl) (wS [] [0])
      ) ?_
  refine CO.seq' ?_
  refine CO.cutR (tl 8 [(0, .sl true false (a0.map eNI)), (4, V.b false)]) [] mix (by
      refine wR 1 100 ?_
      refine W.nilEq Dk false (by kernel_rfl) ?_
      exact W.fin (by decide) (by kernel_rfl) (wS [] [0, 4])
      ) ?_
  refine CO.ifF (c := false) rfl (by kernel_rfl) ?_
  refine CO.skip ?_
  refine CO.weak (st' := ⟨tl 8 [(0, .sl true false (a0.map eNI)), (4, V.b false)], []⟩) (Weak.refl _) ?_
  refine CO.cutR (tl 8 [(2, .own 101)]) [(101, .vec false 3 1 (r.map eNI))] mix (by
      refine wR 2 100 ?_
      refine W.appD Dk eNI (a := 100) (el := 3) 8 hx2 rfl 101 1 (fun _ => by first | rfl | kernel_rfl) (by kernel_rfl) ?_
      refine wR 1 102 ?_
      exact W.fin (by decide) (by kernel_rfl) (wS [(101, 101)] [2])
      ) ?_
  refine CO.ret ?_
  exact eG [(101, 100)] (.inr rfl) (RetV.one rfl (oT (t := 2) (r := .own 101)))

theorem m_slices_Clone_int_ok (a0 : List Int) {r : (List Int)} (h : m_slices_Clone_int a0 = some r) :
    AC Tryz.prog (GS []) 90 [.sl false false (a0.map eNI)] [] (.own 100) [(100, .vec false 3 1 (r.map eNI))] := by
  rw [m_slices_Clone_int] at h
  obtain ⟨x2, h2, h⟩ := bind_some h
  have h := sI h
  subst h
  refine AC.slCase (fun h0 => ?_) (m_slices_Clone_int_nn a0 h2)
  have ha : a0 = [] := by simpa using h0
  subst ha
  have hr : x2 = [] := by
    rw [app_some (by simp)] at h2
    simpa using h2.symm
  subst hr
  exact m_slices_Clone_int_nil

theorem mi_copyNodes_ok (N : Nat) (a0 : List SNode) {r : (List SNode)} (h : mi_copyNodes N a0 = some r) :
    AC Tryz.prog (GS []) 60 [.sl false false (a0.map (eSN false))] [] (.own 100) [(100, .vec false 54 5 (r.map (eSN true)))] := by
 rw [mi_copyNodes] at h
 refine AC.enter Tryz.func60 rfl ?_
 refine cV 100 ?_
 refine cV 100 ?_
 refine CO.seq' ?_
 refine CO.sw mix ?_
 refine wR 1 101 ?_
 refine W.len Dk (eSN false) a0 [] (by kernel_rfl) (by kernel_rfl) ?_
 refine wR 1 101 ?_
 refine wF ?_
 refine CO.block' ?_
 refine CO.loopJ (fun (⟨a0, y53, y54⟩ : ((List SNode) × Int × (List SNode))) => ⟨tl 23 [(3, .own 100), (7, .sl false false (a0.map (eSN false))), (8, V.i (a0.length : Int)), (9, V.i y53)], [(100, .vec false 54 5 (y54.map (eSN true)))]⟩) (fun n i => mi_copyNodes_l1 N n i = some r) (n0 := N) (i0 := (a0, 0, [])) (wS [(100, 100)] [3, 7, 8, 9]) h (fun i h => by simp [mi_copyNodes_l1] at h) ?_
 rintro n1 ⟨a0, y53, y54⟩ h73 ih74
 rw [mi_copyNodes_l1] at h73
 refine cV 169 ?_
 refine CO.seq' ?_
 refine cI h73 (fun _ h73 => ?_) (fun _ h73 => ?_)
 ·refine CO.skip ?_
  refine CO.seq' ?_
  refine CO.block' ?_
  refine bB h73 fun e76 hx84 h73 => ?_
  refine CO.sw mix ?_
  refine W.ixD Dk (eSN false) hx84 5 (by kernel_rfl) (by kernel_rfl) ?_
  refine wR 3 169 ?_
  refine wF ?_
  refine bB h73 fun r78 hx86 h73 => ?_
  refine CO.sw mix ?_
  refine wR 2 170 ?_
  refine W.call (m_slices_Clone_int_ok e76.Kids hx86) cok90 [] [(100, 170)] [170] (show LayOk _ [] from trivial) (by kernel_rfl) (by kernel_rfl) ?_
  refine wR 2 171 ?_
  refine wF ?_
  refine bB h73 fun x80 hx88 h73 => ?_
  refine CO.endR (tl 23 [(3, .own 172), (7, .sl false false (a0.map (eSN false))), (8, V.i (a0.length : Int)), (9, V.i y53)]) [(172, .vec false 54 5 (x80.map (eSN true)))] mix (by
   refine wR 3 171 ?_
   refine W.appO Dk (eSN true) (a := 100) (c := 171) (el := 54) (sz := 5) 72 hx88 rfl 172 (by kernel_rfl) ?_
   refine wR 1 173 ?_
   exact fI
   ) (fun st hw => ?_)
  refine CO.weak hw ?_
  exact cK 173 ih74 (a0, (IntKind.wrap .i64 (y53 + 1)), x80) h73 [(172, 100)] [3, 7, 8, 9]
 refine CO.exit ?_
 refine cV 169 ?_
 refine CO.ret ?_
 cases h73
 exact eG [(100, 100)] (.inr rfl) (RetV.one rfl (oT (t := 2) (r := .own 100)))

theorem m_slices_Index_int_ok (N : Nat) (a0 : List Int) (a1 : Int) {r : Int} (h : m_slices_Index_int N a0 a1 = some r) :
    AC Tryz.prog (GS []) 63 [.sl false false (a0.map eNI), V.i a1] [] (V.i r) [] := by
 rw [m_slices_Index_int] at h
 refine AC.enter Tryz.func63 rfl ?_
 refine cV 100 ?_
 refine CO.seq' ?_
 refine CO.sw mix ?_
 refine wR 1 100 ?_
 refine W.len Dk eNI a0 [] (by kernel_rfl) (by kernel_rfl) ?_
 refine wR 1 100 ?_
 refine wF ?_
 refine CO.block' ?_
 refine CO.loopJ (fun (⟨a0, a1, y19⟩ : ((List Int) × Int × Int)) => ⟨tl 19 [(0, .sl false false (a0.map eNI)), (1, V.i a1), (7, V.i (a0.length : Int)), (8, V.i y19)], []⟩) (fun n i => m_slices_Index_int_l1 N n i = some r) (n0 := N) (i0 := (a0, a1, 0)) (wS [] [0, 1, 7, 8]) h (fun i h => by simp [m_slices_Index_int_l1] at h) ?_
 rintro n1 ⟨a0, a1, y19⟩ h43 ih44
 rw [m_slices_Index_int_l1] at h43
 refine cV 160 ?_
 refine CO.seq' ?_
 refine cI h43 (fun _ h43 => ?_) (fun _ h43 => ?_)
 ·refine CO.skip ?_
  refine CO.seq' ?_
  refine CO.block' ?_
  refine cV 160 ?_
  refine bB h43 fun e28 hx51 h43 => ?_
  refine CO.sw mix ?_
  refine wR 3 160 ?_
  refine W.ixD Dk eNI hx51 1 (by kernel_rfl) (by kernel_rfl) ?_
  refine wR 2 160 ?_
  refine wF ?_
  refine cI h43 (fun _ h43 => ?_) (fun _ h43 => ?_)
  ·refine cV 160 ?_
   cases h43
   exact e1 4 id
  refine CO.skip ?_
  exact cK 160 ih44 (a0, a1, (IntKind.wrap .i64 (y19 + 1))) h43 [] [0, 1, 7, 8]
 refine CO.exit ?_
 refine cV 160 ?_
 cases h43
 exact e1 4 id

theorem m_slices_Contains_int_ok (N : Nat) (a0 : List Int) (a1 : Int) {r : Bool} (h : m_slices_Contains_int N a0 a1 = some r) :
    AC Tryz.prog (GS []) 37 [.sl false false (a0.map eNI), V.i a1] [] (V.b r) [] := by
 rw [m_slices_Contains_int] at h
 refine AC.enter Tryz.func37 rfl ?_
 refine cV 100 ?_
 refine bB h fun r2 hx2 h => ?_
 refine cC 2 100 (m_slices_Index_int_ok N a0 a1 hx2) cok63 ?_
 cases h
 exact e1 4 id

theorem mi_DropDead_1_ok (N : Nat) (a0 : Int) (a1 : STree) (p1 : List Int) {r : (List STree)} (h : mi_DropDead_1 N a0 a1 p1 = some r) :
    AC Tryz.prog (GS []) 36 [V.i a0, .agg [V.i a1.kind, V.i a1.op, V.s a1.text, V.s a1.other, .sl false false (a1.kids.map eST)], .loc 0 0] [(0, .cells 39 [.own 1]), (1, .vec false 3 1 (p1.map eNI))] (.own 100) [(0, .cells 39 [.own 1]), (1, .vec false 3 1 (p1.map eNI)), (100, .vec false 69 5 (r.map eST))] := by
 rw [mi_DropDead_1] at h
 refine AC.enter Tryz.func36 rfl ?_
 refine cV 100 ?_
 refine CO.seq' ?_
 refine bB h fun r4 hx5 h => ?_
 refine CO.sw mix ?_
 refine wR 2 101 ?_
 refine W.lend (m_slices_Contains_int_ok N p1 a0 hx5) cok37 [] [] (LayOk.cons (j := 1) eNI eNI p1 (by kernel_rfl) (fun _ => rfl) (show LayOk _ [] from trivial)) (.c _) .nil (by kernel_rfl) (by kernel_rfl) ?_
 refine wF ?_
 refine cI h (fun _ h => ?_) (fun _ h => ?_)
 ·refine cV 101 ?_
  refine CO.weak (Weak.nil 5 101 69 5 (by kernel_rfl) (by kernel_rfl)) ?_
  refine CO.ret ?_
  cases h
  exact eG [(0, 0), (1, 1), (101, 100)] (.inr rfl) (RetV.one rfl (oT (t := 5) (r := .own 101)))
 refine CO.skip ?_
 refine CO.sw mix ?_
 refine wR 1 101 ?_
 refine W.layop Dk (show LayOk _ [] from trivial) (by kernel_rfl) 101 { v := .own 101, R := [], new := [(101, .vec true 69 5 [[V.i a1.kind, V.i a1.op, V.s a1.text, V.s a1.other, .sl false false (a1.kids.map eST)]])], N := [101] } (by kernel_rfl) ?_
 refine W.vecEq 101 (nn := true) (e := 69) (k := 5) (rows := [[V.i a1.kind, V.i a1.op, V.s a1.text, V.s a1.other, .sl false false (a1.kids.map eST)]]) (rows' := [a1].map eST) (by kernel_rfl) (by simp only [List.map_cons, List.map_nil, encSTree_eq]) ?_
 refine wR 1 102 ?_
 refine wF ?_
 refine CO.ret ?_
 cases h
 exact eG [(0, 0), (1, 1), (101, 100)] (.inr rfl) (RetV.one rfl (oT (t := 5) (r := .own 101)))

structure RecOk4 (R : Rec4) : Prop where
  mi_edited : ∀ (a0 : List SNode) (a1 : Int) (p1 : List Int) (r : (List STree)), R.mi_edited a0 a1 p1 = some r → AC Tryz.prog (GS []) 61 [.sl false false (a0.map (eSN false)), V.i a1, .fn 36 [.loc 0 0]] [(0, .cells 39 [.own 1]), (1, .vec false 3 1 (p1.map eNI))] (.own 100) [(0, .cells 39 [.own 1]), (1, .vec false 3 1 (p1.map eNI)), (100, .vec false 69 5 (r.map eST))]

theorem mi_edited_F_ok (N : Nat) (R : Rec4) (HR : RecOk4 R) (a0 : List SNode) (a1 : Int) (p1 : List Int) {r : (List STree)} (h : mi_edited_F N R a0 a1 p1 = some r) :
    AC Tryz.prog (GS []) 61 [.sl false false (a0.map (eSN false)), V.i a1, .fn 36 [.loc 0 0]] [(0, .cells 39 [.own 1]), (1, .vec false 3 1 (p1.map eNI))] (.own 100) [(0, .cells 39 [.own 1]), (1, .vec false 3 1 (p1.map eNI)), (100, .vec false 69 5 (r.map eST))] := by
 rw [mi_edited_F] at h
 refine AC.enter Tryz.func61 rfl ?_
 refine cV 100 ?_
 refine bB h fun e2 hx2 h => ?_
 refine CO.sw mix ?_
 refine wR 2 100 ?_
 refine W.ixD Dk (eSN false) hx2 5 (by kernel_rfl) (by kernel_rfl) ?_
 refine wR 3 100 ?_
 refine wF ?_
 refine cV 101 ?_
 refine CO.seq' ?_
 refine CO.sw mix ?_
 refine wR 2 102 ?_
 refine W.len Dk eNI e2.Kids [] (by kernel_rfl) (by kernel_rfl) ?_
 refine wR 1 102 ?_
 refine wF ?_
 refine CO.block' ?_
 refine CO.loopJ (fun (⟨a0, a1, e2, y63, y64⟩ : ((List SNode) × Int × SNode × Int × (List STree))) => ⟨tl 44 [(0, .sl false false (a0.map (eSN false))), (1, V.i a1), (2, .fn 36 [.loc 0 0]), (8, .loc 100 0), (25, .sl false false (e2.Kids.map eNI)), (26, V.i (e2.Kids.length : Int)), (27, V.i y63)], [(0, .cells 39 [.own 1]), (100, .cells 69 [V.i e2.Kind, V.i e2.Op, V.s e2.Text, V.s e2.Other, .own 101]), (1, .vec false 3 1 (p1.map eNI)), (101, .vec false 69 5 (y64.map eST))]⟩) (fun n i => mi_edited_l1 N R p1 n i = some r) (n0 := N) (i0 := (a0, a1, e2, 0, [])) ((Weak.nilCell 101 4 102 69 5 (ety := 69) (cs := [V.i e2.Kind, V.i e2.Op, V.s e2.Text, V.s e2.Other, .c (.slice none 0 0)]) (by kernel_rfl) (by kernel_rfl) (by kernel_rfl)).trans (wS [(0, 0), (101, 100), (1, 1), (102, 101)] [0, 1, 2, 8, 25, 26, 27])) h (fun i h => by simp [mi_edited_l1] at h) ?_
 rintro n1 ⟨a0, a1, e2, y63, y64⟩ h83 ih84
 rw [mi_edited_l1] at h83
 refine cV 167 ?_
 refine CO.seq' ?_
 refine cI h83 (fun _ h83 => ?_) (fun _ h83 => ?_)
 ·refine CO.skip ?_
  refine CO.seq' ?_
  refine CO.block' ?_
  refine bB h83 fun e86 hx94 h83 => ?_
  refine CO.sw mix ?_
  refine W.ixD Dk eNI hx94 1 (by kernel_rfl) (by kernel_rfl) ?_
  refine wR 2 167 ?_
  refine wF ?_
  refine bB h83 fun r89 hx97 h83 => ?_
  refine bB h83 fun x90 hx98 h83 => ?_
  refine CO.endR (tl 44 [(0, .sl false false (a0.map (eSN false))), (1, V.i a1), (2, .fn 36 [.loc 0 0]), (8, .loc 100 0), (25, .sl false false (e2.Kids.map eNI)), (26, V.i (e2.Kids.length : Int)), (27, V.i y63)]) [(100, .cells 69 [V.i e2.Kind, V.i e2.Op, V.s e2.Text, V.s e2.Other, .own 168]), (168, .vec false 69 5 (x90.map eST)), (0, .cells 39 [.own 1]), (1, .vec false 3 1 (p1.map eNI))] mix (by
   refine wR 5 167 ?_
   refine W.call (HR.mi_edited a0 e86 p1 _ hx97) cok61 [(0, 0), (1, 1)] [(0, 0), (1, 1), (100, 167)] [167] (show LayOk _ [] from trivial) (by kernel_rfl) (by kernel_rfl) ?_
   refine W.appO Dk eST (a := 101) (c := 167) (el := 69) (sz := 5) 72 hx98 rfl 168 (by kernel_rfl) ?_
   refine wR 2 169 ?_
   exact fI
   ) (fun st hw => ?_)
  refine CO.weak hw ?_
  exact cK 169 ih84 (a0, a1, e2, (IntKind.wrap .i64 (y63 + 1)), x90) h83 [(0, 0), (100, 100), (1, 1), (168, 101)] [0, 1, 2, 8, 25, 26, 27]
 refine CO.exit ?_
 refine bB h83 fun r92 hx100 h83 => ?_
 refine CO.sw mix ?_
 refine wR 3 167 ?_
 refine W.call (mi_DropDead_1_ok N a1 (⟨e2.Kind, e2.Op, e2.Text, e2.Other, y64⟩ : STree) p1 hx100) cok36 [(0, 0), (1, 1)] [(0, 0), (1, 1), (100, 167)] [167] (LayOk.cons (j := 101) eST eST y64 (by kernel_rfl) (share_encSTree) (show LayOk _ [] from trivial)) (by kernel_rfl) (by kernel_rfl) ?_
 refine wR 1 168 ?_
 refine wF ?_
 refine CO.ret ?_
 cases h83
 exact eG [(0, 0), (1, 1), (167, 100)] (.inr rfl) (RetV.one rfl (oT (t := 6) (r := .own 167)))

theorem scc4_ok : ∀ N, RecOk4 (scc4 N)
  | 0 => ⟨fun _ _ _ _ h => (by cases h)⟩
  | N + 1 => ⟨fun a0 a1 p1 _ h => mi_edited_F_ok N (scc4 N) (scc4_ok N) a0 a1 p1 h⟩

theorem mi_edited_ok (N : Nat) (a0 : List SNode) (a1 : Int) (p1 : List Int) {r : (List STree)} (h : mi_edited N a0 a1 p1 = some r) :
    AC Tryz.prog (GS []) 61 [.sl false false (a0.map (eSN false)), V.i a1, .fn 36 [.loc 0 0]] [(0, .cells 39 [.own 1]), (1, .vec false 3 1 (p1.map eNI))] (.own 100) [(0, .cells 39 [.own 1]), (1, .vec false 3 1 (p1.map eNI)), (100, .vec false 69 5 (r.map eST))] :=
  (scc4_ok N).mi_edited a0 a1 p1 r h

structure RecOk5 (R : Rec5) : Prop where
  mi_tree__add : ∀ (a0 : STree) (p0 : List SNode) (r : (List SNode)), R.mi_tree__add a0 p0 = some r → AC Tryz.prog (GS []) 91 [.agg [V.i a0.kind, V.i a0.op, V.s a0.text, V.s a0.other, .sl false false (a0.kids.map eST)], .own 0] [(0, .vec false 54 5 (p0.map (eSN true)))] (.own 100) [(100, .vec false 54 5 (r.map (eSN true)))]

theorem mi_tree__add_F_ok (N : Nat) (R : Rec5) (HR : RecOk5 R) (a0 : STree) (p0 : List SNode) {r : (List SNode)} (h : mi_tree__add_F N R a0 p0 = some r) :
    AC Tryz.prog (GS []) 91 [.agg [V.i a0.kind, V.i a0.op, V.s a0.text, V.s a0.other, .sl false false (a0.kids.map eST)], .own 0] [(0, .vec false 54 5 (p0.map (eSN true)))] (.own 100) [(100, .vec false 54 5 (r.map (eSN true)))] := by
 rw [mi_tree__add_F] at h
 refine AC.enter Tryz.func91 rfl ?_
 refine cV 100 ?_
 refine cV 101 ?_
 refine CO.seq' ?_
 refine CO.sw mix ?_
 refine wR 2 102 ?_
 refine W.len Dk eST a0.kids [] (by kernel_rfl) (by kernel_rfl) ?_
 refine wR 1 102 ?_
 refine wF ?_
 refine CO.block' ?_
 refine CO.loopJ (fun (⟨a0, y59, y60, y61⟩ : (STree × Int × (List SNode) × (List Int))) => ⟨tl 40 [(1, .own 100), (5, .loc 101 0), (18, .sl false false (a0.kids.map eST)), (19, V.i (a0.kids.length : Int)), (20, V.i y59)], [(100, .vec false 54 5 (y60.map (eSN true))), (101, .cells 54 [V.i a0.kind, V.i a0.op, V.s a0.text, V.s a0.other, .own 102]), (102, .vec false 3 1 (y61.map eNI))]⟩) (fun n i => mi_tree__add_l1 N R n i = some r) (n0 := N) (i0 := (a0, 0, p0, [])) ((Weak.nilCell 101 4 102 3 1 (ety := 54) (cs := [V.i a0.kind, V.i a0.op, V.s a0.text, V.s a0.other, .c (.slice none 0 0)]) (by kernel_rfl) (by kernel_rfl) (by kernel_rfl)).trans (wS [(0, 100), (101, 101), (102, 102)] [1, 5, 18, 19, 20])) h (fun i h => by simp [mi_tree__add_l1] at h) ?_
 rintro n1 ⟨a0, y59, y60, y61⟩ h77 ih78
 rw [mi_tree__add_l1] at h77
 refine cV 171 ?_
 refine CO.seq' ?_
 refine cI h77 (fun _ h77 => ?_) (fun _ h77 => ?_)
 ·refine CO.skip ?_
  refine CO.seq' ?_
  refine CO.block' ?_
  refine bB h77 fun e84 hx88 h77 => ?_
  refine CO.sw mix ?_
  refine W.ixDr Dk eST hx88 5 (by kernel_rfl) (encSTree_eq e84) (by kernel_rfl) ?_
  refine wR 3 171 ?_
  refine wF ?_
  refine bB h77 fun r86 hx90 h77 => ?_
  refine CO.sw mix ?_
  refine wR 2 172 ?_
  refine W.call (HR.mi_tree__add e84 y60 _ hx90) cok91 [(100, 0)] [(100, 172)] [172] (show LayOk _ [] from trivial) (by kernel_rfl) (by kernel_rfl) ?_
  refine wR 1 173 ?_
  refine wF ?_
  refine bB h77 fun x88 hx92 h77 => ?_
  refine CO.endR (tl 40 [(1, .own 172), (5, .loc 101 0), (18, .sl false false (a0.kids.map eST)), (19, V.i (a0.kids.length : Int)), (20, V.i y59)]) [(101, .cells 54 [V.i a0.kind, V.i a0.op, V.s a0.text, V.s a0.other, .own 174]), (174, .vec false 3 1 (x88.map eNI)), (172, .vec false 54 5 (r86.map (eSN true)))] mix (by
   refine wR 3 173 ?_
   refine W.len Dk (eSN true) r86 [172] (by kernel_rfl) (by kernel_rfl) ?_
   refine wR 2 173 ?_
   refine W.appO Dk eNI (a := 102) (c := 173) (el := 3) (sz := 1) 8 hx92 rfl 174 (by kernel_rfl) ?_
   refine wR 2 175 ?_
   exact fI
   ) (fun st hw => ?_)
  refine CO.weak hw ?_
  exact cK 175 ih78 (a0, (IntKind.wrap .i64 (y59 + 1)), r86, x88) h77 [(172, 100), (101, 101), (174, 102)] [1, 5, 18, 19, 20]
 refine CO.exit ?_
 refine bB h77 fun x90 hx94 h77 => ?_
 refine CO.sw mix ?_
 refine wR 3 171 ?_
 refine W.appO Dk (eSN true) (a := 100) (c := 171) (el := 54) (sz := 5) 72 hx94 rfl 172 (by kernel_rfl) ?_
 refine wR 1 173 ?_
 refine wF ?_
 refine CO.ret ?_
 cases h77
 exact eG [(172, 100)] (.inr rfl) (RetV.one rfl (oT (t := 4) (r := .own 172)))

theorem scc5_ok : ∀ N, RecOk5 (scc5 N)
  | 0 => ⟨fun _ _ _ h => (by cases h)⟩
  | N + 1 => ⟨fun a0 p0 _ h => mi_tree__add_F_ok N (scc5 N) (scc5_ok N) a0 p0 h⟩

theorem mi_tree__add_ok (N : Nat) (a0 : STree) (p0 : List SNode) {r : (List SNode)} (h : mi_tree__add N a0 p0 = some r) :
    AC Tryz.prog (GS []) 91 [.agg [V.i a0.kind, V.i a0.op, V.s a0.text, V.s a0.other, .sl false false (a0.kids.map eST)], .own 0] [(0, .vec false 54 5 (p0.map (eSN true)))] (.own 100) [(100, .vec false 54 5 (r.map (eSN true)))] :=
  (scc5_ok N).mi_tree__add a0 p0 r h

theorem mi_tree__list_ok (N : Nat) (a0 : STree) {r : (List SNode)} (h : mi_tree__list N a0 = some r) :
    AC Tryz.prog (GS []) 62 [.agg [V.i a0.kind, V.i a0.op, V.s a0.text, V.s a0.other, .sl false false (a0.kids.map eST)]] [] (.own 100) [(100, .vec false 54 5 (r.map (eSN true)))] := by
 rw [mi_tree__list] at h
 refine AC.enter Tryz.func62 rfl ?_
 refine cV 100 ?_
 refine bB h fun r2 hx2 h => ?_
 refine CO.sw mix ?_
 refine wR 1 101 ?_
 refine W.callK (AC.nilArg 1 0 54 5 (mi_tree__add_ok N a0 [] hx2) (by kernel_rfl) (by kernel_rfl) (by kernel_rfl) (by kernel_rfl) rfl) cok91 [] [(100, 101)] [1] [101] (show LayOk _ [] from trivial) (by kernel_rfl) (by kernel_rfl) ?_
 refine wR 1 102 ?_
 refine wF ?_
 refine CO.ret ?_
 cases h
 exact eG [(101, 100)] (.inr rfl) (RetV.one rfl (oT (t := 2) (r := .own 101)))

theorem mi_edit_ok (N : Nat) (a0 : List SNode) (a1 : Int) (p1 : List Int) {r : ((List SNode) × Bool)} (h : mi_edit N a0 a1 p1 = some r) :
    AC Tryz.prog (GS [0, 1, 2]) 35 [.sl false false (a0.map (eSN false)), V.i a1, .fn 36 [.loc 0 0]] [(0, .cells 39 [.own 1]), (1, .vec false 3 1 (p1.map eNI))] (.tup [.own 100, V.b r.2]) [(0, .cells 39 [.own 1]), (1, .vec false 3 1 (p1.map eNI)), (100, .vec false 54 5 (r.1.map (eSN true)))] := by
 rw [mi_edit] at h
 refine AC.enter Tryz.func35 rfl ?_
 refine cU 2 100 (tl 44 [(0, .sl false false (a0.map (eSN false))), (1, V.i a1), (2, .fn 36 [.loc 0 0])]) [(0, .cells 39 [.own 1]), (1, .vec false 3 1 (p1.map eNI))] ?_
 refine CO.seq' ?_
 refine bB h fun y10 hv14 h => ?_
 refine CO.cutR (tl 44 [(0, .sl false false (a0.map (eSN false))), (2, .fn 36 [.loc 0 0]), (20, V.b y10)]) [(0, .cells 39 [.own 1]), (1, .vec false 3 1 (p1.map eNI))] mix (by
  refine wR 1 100 ?_
  refine bB hv14 fun r11 hx15 hv14 => ?_
  refine W.call0 (mi_TreeOk_ok N a0 hx15) cok40 rfl (by kernel_rfl) ?_
  refine wR 2 100 ?_
  refine bC hv14 (fun hc16 hv14 => ?_) (fun hc16 hv14 => ?_)
  ·refine wI 13 hc16 ?_
   refine wR 7 100 ?_
   have hv14 := sI hv14
   subst hv14
   exact fS [(0, 0), (1, 1)] [0, 2, 20]
  refine wI 13 hc16 ?_
  refine wR 2 100 ?_
  refine W.len Dk (eSN false) a0 [] (by kernel_rfl) (by kernel_rfl) ?_
  refine wR 1 100 ?_
  refine bB hv14 fun r12 hx17 hv14 => ?_
  refine W.call0 (AC.gs (mi_within_ok a1 0 (IntKind.wrap .i64 ((a0.length : Int) - 1)) hx17) (by decide)) cok59 rfl (by kernel_rfl) ?_
  refine wR 2 100 ?_
  have hv14 := sI hv14
  subst hv14
  exact fS [(0, 0), (1, 1)] [0, 2, 20]
  ) ?_
 refine bC h (fun hc18 h => ?_) (fun hc18 h => ?_)
 ·refine iT hc18 ?_
  refine bB h fun r14 hx20 h => ?_
  refine CO.cutR (tl 44 [(6, .own 100), (7, V.b false)]) [(100, .vec false 54 5 (r14.map (eSN true))), (0, .cells 39 [.own 1]), (1, .vec false 3 1 (p1.map eNI))] mix (by
   refine wR 1 100 ?_
   refine W.call (AC.gs (mi_copyNodes_ok N a0 hx20) (by decide)) cok60 [] [(100, 100)] [100] (show LayOk _ [] from trivial) (by kernel_rfl) (by kernel_rfl) ?_
   refine wR 2 101 ?_
   exact fI
   ) ?_
  refine CO.ret ?_
  have h := sI h
  subst h
  exact eG [(0, 0), (1, 1), (100, 100)] (.inr rfl) (RetV.two rfl (oT (t := 6) (r := .own 100)) (oT (t := 7) (r := V.b false)))
 refine iF hc18 ?_
 refine CO.skip ?_
 refine bB h fun r16 hx22 h => ?_
 refine CO.cutR (tl 44 [(0, .sl false false (a0.map (eSN false))), (8, .own 100)]) [(100, .vec false 69 5 (r16.map eST)), (0, .cells 39 [.own 1]), (1, .vec false 3 1 (p1.map eNI))] mix (by
  refine wR 2 100 ?_
  refine W.len Dk (eSN false) a0 [] (by kernel_rfl) (by kernel_rfl) ?_
  refine wR 2 100 ?_
  refine W.call (AC.gs (mi_edited_ok N a0 (IntKind.wrap .i64 ((a0.length : Int) - 1)) p1 hx22) (by decide)) cok61 [(0, 0), (1, 1)] [(0, 0), (1, 1), (100, 100)] [100] (show LayOk _ [] from trivial) (by kernel_rfl) (by kernel_rfl) ?_
  refine wR 1 101 ?_
  exact fI
  ) ?_
 refine CO.seq' ?_
 refine CO.cutR (tl 44 [(0, .sl false false (a0.map (eSN false))), (8, .own 100), (31, V.b ((r16.length : Int) != 1))]) [(100, .vec false 69 5 (r16.map eST)), (0, .cells 39 [.own 1]), (1, .vec false 3 1 (p1.map eNI))] mix (by
  refine wR 1 101 ?_
  refine W.len Dk eST r16 [100] (by kernel_rfl) (by kernel_rfl) ?_
  refine wR 1 101 ?_
  exact fI
  ) ?_
 refine bC h (fun hc26 h => ?_) (fun hc26 h => ?_)
 ·refine iT hc26 ?_
  refine bB h fun r20 hx28 h => ?_
  refine CO.cutR (tl 44 [(6, .own 101), (7, V.b false)]) [(101, .vec false 54 5 (r20.map (eSN true))), (0, .cells 39 [.own 1]), (1, .vec false 3 1 (p1.map eNI))] mix (by
   refine wR 1 101 ?_
   refine W.call (AC.gs (mi_copyNodes_ok N a0 hx28) (by decide)) cok60 [] [(100, 101)] [101] (show LayOk _ [] from trivial) (by kernel_rfl) (by kernel_rfl) ?_
   refine wR 2 102 ?_
   exact fI
   ) ?_
  refine CO.ret ?_
  have h := sI h
  subst h
  exact eG [(0, 0), (1, 1), (101, 100)] (.inr rfl) (RetV.two rfl (oT (t := 6) (r := .own 101)) (oT (t := 7) (r := V.b false)))
 refine iF hc26 ?_
 refine CO.skip ?_
 refine CO.lay (tl 44 [(0, .sl false false (a0.map (eSN false))), (8, .sl false false (r16.map eST)), (31, V.b ((r16.length : Int) != 1))]) [(0, .cells 39 [.own 1]), (1, .vec false 3 1 (p1.map eNI))] (LayOk.cons (j := 100) eST eST r16 (by kernel_rfl) (share_encSTree) (show LayOk _ [] from trivial)) (by kernel_rfl) (by kernel_rfl) (by kernel_rfl) ?_
 refine bB h fun e25 hx33 h => ?_
 refine bB h fun r26 hx34 h => ?_
 refine CO.cutR (tl 44 [(0, .sl false false (a0.map (eSN false))), (9, .own 101)]) [(101, .vec false 54 5 (r26.map (eSN true))), (0, .cells 39 [.own 1]), (1, .vec false 3 1 (p1.map eNI))] mix (by
  refine wR 1 101 ?_
  refine W.ixDr Dk eST hx33 5 (by kernel_rfl) (encSTree_eq e25) (by kernel_rfl) ?_
  refine wR 1 101 ?_
  refine W.call (AC.gs (mi_tree__list_ok N e25 hx34) (by decide)) cok62 [] [(100, 101)] [101] (show LayOk _ [] from trivial) (by kernel_rfl) (by kernel_rfl) ?_
  refine wR 1 102 ?_
  exact fI
  ) ?_
 refine CO.seq' ?_
 refine bB h fun r32 hx41 h => ?_
 refine CO.cutR (tl 44 [(0, .sl false false (a0.map (eSN false))), (9, .own 101), (40, V.b (!r32))]) [(101, .vec false 54 5 (r26.map (eSN true))), (0, .cells 39 [.own 1]), (1, .vec false 3 1 (p1.map eNI))] mix (by
  refine wR 1 102 ?_
  refine W.lend (mi_TreeOk_ok N r26 hx41) cok40 [] [] (LayOk.cons (j := 101) (eSN true) (eSN false) r26 (by kernel_rfl) (sh_eSN _) (show LayOk _ [] from trivial)) (.c _) .nil (by kernel_rfl) (by kernel_rfl) ?_
  refine wR 1 102 ?_
  exact fI
  ) ?_
 refine bC h (fun hc42 h => ?_) (fun hc42 h => ?_)
 ·refine iT hc42 ?_
  refine bB h fun r34 hx44 h => ?_
  refine CO.cutR (tl 44 [(6, .own 102), (7, V.b false)]) [(102, .vec false 54 5 (r34.map (eSN true))), (0, .cells 39 [.own 1]), (1, .vec false 3 1 (p1.map eNI))] mix (by
   refine wR 1 102 ?_
   refine W.call (AC.gs (mi_copyNodes_ok N a0 hx44) (by decide)) cok60 [] [(100, 102)] [102] (show LayOk _ [] from trivial) (by kernel_rfl) (by kernel_rfl) ?_
   refine wR 2 103 ?_
   exact fI
   ) ?_
  refine CO.ret ?_
  have h := sI h
  subst h
  exact eG [(0, 0), (1, 1), (102, 100)] (.inr rfl) (RetV.two rfl (oT (t := 6) (r := .own 102)) (oT (t := 7) (r := V.b false)))
 refine iF hc42 ?_
 refine CO.skip ?_
 refine cU 3 102 (tl 44 [(6, .own 101), (7, V.b true)]) [(101, .vec false 54 5 (r26.map (eSN true))), (0, .cells 39 [.own 1]), (1, .vec false 3 1 (p1.map eNI))] ?_
 refine CO.ret ?_
 have h := sI h
 subst h
 exact eG [(0, 0), (1, 1), (101, 100)] (.inr rfl) (RetV.two rfl (oT (t := 6) (r := .own 101)) (oT (t := 7) (r := V.b true)))

theorem mi_DropDead_ok (N : Nat) (a0 : List SNode) {r : (List SNode)} (h : mi_DropDead N a0 = some r) :
    AC Tryz.prog (GS [0, 1, 2]) 17 [.sl false false (a0.map (eSN false))] [] (.own 100) [(100, .vec false 54 5 (r.map (eSN true)))] := by
 rw [mi_DropDead] at h
 refine AC.enter Tryz.func17 rfl ?_
 refine cV 100 ?_
 refine bB h fun r2 hx2 h => ?_
 refine CO.sw mix ?_
 refine wR 1 100 ?_
 refine W.call (mi_DeadStmts_ok N a0 hx2) cok20 [] [(100, 100)] [100] (show LayOk _ [] from trivial) (by kernel_rfl) (by kernel_rfl) ?_
 refine wR 2 101 ?_
 refine wF ?_
 refine bB h fun r4 hx4 h => ?_
 refine CO.sw mix ?_
 refine wR 2 102 ?_
 refine W.call (mi_edit_ok N a0 0 r2 hx4) cok35 [(101, 0), (100, 1)] [(0, 101), (1, 100), (100, 102)] [102] (show LayOk _ [] from trivial) (by kernel_rfl) (by kernel_rfl) ?_
 refine wR 5 103 ?_
 refine wF ?_
 refine CO.seq' ?_
 refine cV 103 ?_
 refine cI h (fun _ h => ?_) (fun _ h => ?_)
 ·refine cV 103 ?_
  refine CO.weak (Weak.nil 2 103 54 5 (by kernel_rfl) (by kernel_rfl)) ?_
  refine CO.ret ?_
  cases h
  exact eG [(103, 100)] (.inr rfl) (RetV.one rfl (oT (t := 2) (r := .own 103)))
 refine CO.skip ?_
 refine cV 103 ?_
 refine CO.ret ?_
 cases h
 exact eG [(102, 100)] (.inr rfl) (RetV.one rfl (oT (t := 2) (r := .own 102)))

theorem ml_eqIntS_ok (N : Nat) (a0 : List Int) (a1 : List Int) {r : Bool} (h : ml_eqIntS N a0 a1 = some r) :
    AC Tryz.prog (GS []) 21 [.sl false false (a0.map eNI), .sl false false (a1.map eNI)] [] (V.b r) [] := by
 rw [ml_eqIntS] at h
 refine AC.enter Tryz.func21 rfl ?_
 refine cV 100 ?_
 refine CO.seq' ?_
 refine CO.sw mix ?_
 refine wR 1 100 ?_
 refine W.len Dk eNI a0 [] (by kernel_rfl) (by kernel_rfl) ?_
 refine wR 1 100 ?_
 refine W.len Dk eNI a1 [] (by kernel_rfl) (by kernel_rfl) ?_
 refine wR 1 100 ?_
 refine wF ?_
 refine cI h (fun _ h => ?_) (fun _ h => ?_)
 ·refine cV 100 ?_
  cases h
  exact e1 4 id
 refine CO.skip ?_
 refine CO.seq' ?_
 refine cV 100 ?_
 refine CO.block' ?_
 refine CO.loopJ (fun (⟨a0, a1, y35⟩ : ((List Int) × (List Int) × Int)) => ⟨tl 26 [(0, .sl false false (a0.map eNI)), (1, .sl false false (a1.map eNI)), (5, V.i y35)], []⟩) (fun n i => ml_eqIntS_l1 N n i = some r) (n0 := N) (i0 := (a0, a1, 0)) (wS [] [0, 1, 5]) h (fun i h => by simp [ml_eqIntS_l1] at h) ?_
 rintro n1 ⟨a0, a1, y35⟩ h65 ih66
 rw [ml_eqIntS_l1] at h65
 refine CO.seq' ?_
 refine CO.sw mix ?_
 refine wR 2 160 ?_
 refine W.len Dk eNI a0 [] (by kernel_rfl) (by kernel_rfl) ?_
 refine wR 1 160 ?_
 refine wF ?_
 refine cI h65 (fun _ h65 => ?_) (fun _ h65 => ?_)
 ·refine CO.skip ?_
  refine CO.seq' ?_
  refine CO.block' ?_
  refine bB h65 fun e51 hx76 h65 => ?_
  refine bB h65 fun e52 hx77 h65 => ?_
  refine CO.sw mix ?_
  refine wR 2 160 ?_
  refine W.ixD Dk eNI hx76 1 (by kernel_rfl) (by kernel_rfl) ?_
  refine wR 3 160 ?_
  refine W.ixD Dk eNI hx77 1 (by kernel_rfl) (by kernel_rfl) ?_
  refine wR 2 160 ?_
  refine wF ?_
  refine cI h65 (fun _ h65 => ?_) (fun _ h65 => ?_)
  ·refine cV 160 ?_
   cases h65
   exact e1 4 id
  refine CO.skip ?_
  exact cK 160 ih66 (a0, a1, (IntKind.wrap .i64 (y35 + 1))) h65 [] [0, 1, 5]
 refine CO.exit ?_
 refine cV 160 ?_
 cases h65
 exact e1 4 id

theorem ml_eqNode_ok (N : Nat) (a0 : SNode) (a1 : SNode) {r : Bool} (h : ml_eqNode N a0 a1 = some r) :
    AC Tryz.prog (GS []) 31 [.agg [V.i a0.Kind, V.i a0.Op, V.s a0.Text, V.s a0.Other, .sl false false (a0.Kids.map eNI)], .agg [V.i a1.Kind, V.i a1.Op, V.s a1.Text, V.s a1.Other, .sl false false (a1.Kids.map eNI)]] [] (V.b r) [] := by
 rw [ml_eqNode] at h
 refine AC.enter Tryz.func31 rfl ?_
 refine cV 100 ?_
 refine CO.seq' ?_
 refine cV 102 ?_
 refine cI h (fun _ h => ?_) (fun _ h => ?_)
 ·refine cV 102 ?_
  cases h
  exact e1 4 id
 refine CO.skip ?_
 refine CO.seq' ?_
 refine cV 102 ?_
 refine cI h (fun _ h => ?_) (fun _ h => ?_)
 ·refine cV 102 ?_
  cases h
  exact e1 4 id
 refine CO.skip ?_
 refine CO.seq' ?_
 refine cV 102 ?_
 refine cI h (fun _ h => ?_) (fun _ h => ?_)
 ·refine cV 102 ?_
  cases h
  exact e1 4 id
 refine CO.skip ?_
 refine CO.seq' ?_
 refine cV 102 ?_
 refine cI h (fun _ h => ?_) (fun _ h => ?_)
 ·refine cV 102 ?_
  cases h
  exact e1 4 id
 refine CO.skip ?_
 refine CO.seq' ?_
 refine bB h fun r4 hx13 h => ?_
 refine cC 4 102 (ml_eqIntS_ok N a0.Kids a1.Kids hx13) cok21 ?_
 refine cI h (fun _ h => ?_) (fun _ h => ?_)
 ·refine cV 102 ?_
  cases h
  exact e1 4 id
 refine CO.skip ?_
 refine cV 102 ?_
 cases h
 exact e1 4 id

theorem ml_eqNodeS_ok (N : Nat) (a0 : List SNode) (a1 : List SNode) {r : Bool} (h : ml_eqNodeS N a0 a1 = some r) :
    AC Tryz.prog (GS []) 12 [.sl false false (a0.map (eSN false)), .sl false false (a1.map (eSN false))] [] (V.b r) [] := by
 rw [ml_eqNodeS] at h
 refine AC.enter Tryz.func12 rfl ?_
 refine cV 100 ?_
 refine CO.seq' ?_
 refine CO.sw mix ?_
 refine wR 1 100 ?_
 refine W.len Dk (eSN false) a0 [] (by kernel_rfl) (by kernel_rfl) ?_
 refine wR 1 100 ?_
 refine W.len Dk (eSN false) a1 [] (by kernel_rfl) (by kernel_rfl) ?_
 refine wR 1 100 ?_
 refine wF ?_
 refine cI h (fun _ h => ?_) (fun _ h => ?_)
 ·refine cV 100 ?_
  cases h
  exact e1 4 id
 refine CO.skip ?_
 refine CO.seq' ?_
 refine cV 100 ?_
 refine CO.block' ?_
 refine CO.loopJ (fun (⟨a0, a1, y51⟩ : ((List SNode) × (List SNode) × Int)) => ⟨tl 27 [(0, .sl false false (a0.map (eSN false))), (1, .sl false false (a1.map (eSN false))), (5, V.i y51)], []⟩) (fun n i => ml_eqNodeS_l1 N n i = some r) (n0 := N) (i0 := (a0, a1, 0)) (wS [] [0, 1, 5]) h (fun i h => by simp [ml_eqNodeS_l1] at h) ?_
 rintro n1 ⟨a0, a1, y51⟩ h85 ih86
 rw [ml_eqNodeS_l1] at h85
 refine CO.seq' ?_
 refine CO.sw mix ?_
 refine wR 2 160 ?_
 refine W.len Dk (eSN false) a0 [] (by kernel_rfl) (by kernel_rfl) ?_
 refine wR 1 160 ?_
 refine wF ?_
 refine cI h85 (fun _ h85 => ?_) (fun _ h85 => ?_)
 ·refine CO.skip ?_
  refine CO.seq' ?_
  refine CO.block' ?_
  refine bB h85 fun e74 hx99 h85 => ?_
  refine bB h85 fun e75 hx100 h85 => ?_
  refine bB h85 fun r76 hx101 h85 => ?_
  refine CO.sw mix ?_
  refine wR 2 160 ?_
  refine W.ixD Dk (eSN false) hx99 5 (by kernel_rfl) (by kernel_rfl) ?_
  refine wR 3 160 ?_
  refine W.ixD Dk (eSN false) hx100 5 (by kernel_rfl) (by kernel_rfl) ?_
  refine wR 1 160 ?_
  refine W.call0 (ml_eqNode_ok N e74 e75 hx101) cok31 rfl (by kernel_rfl) ?_
  refine wR 1 160 ?_
  refine wF ?_
  refine cI h85 (fun _ h85 => ?_) (fun _ h85 => ?_)
  ·refine cV 160 ?_
   cases h85
   exact e1 4 id
  refine CO.skip ?_
  exact cK 160 ih86 (a0, a1, (IntKind.wrap .i64 (y51 + 1))) h85 [] [0, 1, 5]
 refine CO.exit ?_
 refine cV 160 ?_
 cases h85
 exact e1 4 id

theorem ml_markText_ok (N : Nat) (a0 : Int) {r : (List UInt8)} (h : ml_markText N a0 = some r) :
    AC Tryz.prog (GS []) 32 [V.i a0] [] (V.s r) [] := by
 rw [ml_markText] at h
 refine AC.enter Tryz.func32 rfl ?_
 refine cV 100 ?_
 refine CO.seq' ?_
 refine cV 100 ?_
 refine cI h (fun _ h => ?_) (fun _ h => ?_)
 ·refine cV 100 ?_
  cases h
  exact e1 2 id
 refine CO.skip ?_
 refine cV 100 ?_
 refine CO.seq' ?_
 refine CO.block' ?_
 refine CO.loopJ (fun (⟨y13, y14⟩ : (Int × (List UInt8))) => ⟨tl 20 [(0, V.i y13), (3, V.s y14)], []⟩) (fun n i => ml_markText_l1 N n i = some r) (n0 := N) (i0 := (a0, [])) (wS [] [0, 3]) h (fun i h => by simp [ml_markText_l1] at h) ?_
 rintro n1 ⟨y13, y14⟩ h25 ih26
 rw [ml_markText_l1] at h25
 refine CO.seq' ?_
 refine cV 162 ?_
 refine cI h25 (fun _ h25 => ?_) (fun _ h25 => ?_)
 ·refine CO.skip ?_
  refine CO.block' ?_
  refine bB h25 fun s20 hx30 h25 => ?_
  refine CO.sw mix ?_
  refine wR 4 162 ?_
  refine wR 1 162 ?_
  refine W.vecEq 162 (nn := true) (e := 5) (k := 1) (rows := [[.c (.int .u8 (IntKind.wrap .u8 (IntKind.wrap .i64 (48 + (Int.tmod y13 10)))))]]) (rows' := [(bytI (IntKind.wrap .i64 (48 + (Int.tmod y13 10))))].map byteRow) (by kernel_rfl) (by first | (simp only [List.map_cons, List.map_nil, ← bytI_row]; done) | (simp only [List.map_cons, List.map_nil, ← bytI_row]; rfl)) ?_
  refine W.strO Dk ([(bytI (IntKind.wrap .i64 (48 + (Int.tmod y13 10))))] : List UInt8) (a := 162) (by kernel_rfl) ?_
  refine wR 1 163 ?_
  refine W.cat hx30 (by kernel_rfl) ?_
  refine wR 1 163 ?_
  refine wF ?_
  exact cK 163 ih26 ((IntKind.wrap .i64 (Int.tdiv y13 10)), s20) h25 [] [0, 3]
 refine CO.exit ?_
 refine bB h25 fun s22 hx32 h25 => ?_
 refine CO.sw mix ?_
 refine wR 1 162 ?_
 refine W.cat hx32 (by kernel_rfl) ?_
 refine wR 1 162 ?_
 refine wF ?_
 cases h25
 exact e1 2 id

theorem ml_markIntS_ok (e0 : TypeId) (N : Nat) (a1 : Int) (p0 : List Int) {r : (Int × (List Int))} (h : ml_markIntS N a1 p0 = some r) :
    AC Tryz.prog (GS []) 22 [.own 0, V.i a1] [(0, .vec false e0 1 (p0.map eNI))] (V.i r.1) [(0, .vec false e0 1 (r.2.map eNI))] := by
 rw [ml_markIntS] at h
 refine AC.enter Tryz.func22 rfl ?_
 refine cV 100 ?_
 refine CO.seq' ?_
 refine cV 100 ?_
 refine CO.block' ?_
 refine CO.loopJ (fun (⟨y39, y40, y41⟩ : (Int × Int × (List Int))) => ⟨tl 19 [(0, .own 0), (1, V.i y39), (5, V.i y40)], [(0, .vec false e0 1 (y41.map eNI))]⟩) (fun n i => ml_markIntS_l1 N n i = some r) (n0 := N) (i0 := (a1, 0, p0)) (wS [(0, 0)] [0, 1, 5]) h (fun i h => by simp [ml_markIntS_l1] at h) ?_
 rintro n1 ⟨y39, y40, y41⟩ h53 ih54
 rw [ml_markIntS_l1] at h53
 refine CO.seq' ?_
 refine CO.sw mix ?_
 refine wR 2 160 ?_
 refine W.len Dk eNI y41 [0] (by kernel_rfl) (by kernel_rfl) ?_
 refine wR 1 160 ?_
 refine wF ?_
 refine cI h53 (fun _ h53 => ?_) (fun _ h53 => ?_)
 ·refine CO.skip ?_
  refine CO.seq' ?_
  refine CO.block' ?_
  refine bB h53 fun e59 hx63 h53 => ?_
  refine bB h53 fun x60 hu64 h53 => ?_
  refine CO.sw mix ?_
  refine wR 3 160 ?_
  refine W.ixO Dk eNI hx63 0 1 (by kernel_rfl) ?_
  refine W.stO Dk eNI (x' := y39) hx63 hu64 (j := 0) (nn := false) (ety := e0) (sz := 1) (b := 0) (ys := [V.i y39]) (C := []) (R := []) (by kernel_rfl) (by kernel_rfl) ?_
  refine wF ?_
  refine cE 3 160 (tl 19 [(0, .own 0), (1, V.i (IntKind.wrap .i64 (y39 + 1))), (5, V.i y40)]) [(0, .vec false e0 1 (x60.map eNI))] (fun st hw => ?_)
  refine CO.weak hw ?_
  exact cK 160 ih54 ((IntKind.wrap .i64 (y39 + 1)), (IntKind.wrap .i64 (y40 + 1)), x60) h53 [(0, 0)] [0, 1, 5]
 refine CO.exit ?_
 refine cV 160 ?_
 refine CO.ret ?_
 have h53 := sI h53
 subst h53
 exact eG [(0, 0)] (.inr rfl) (RetV.one rfl (oT (t := 4) (r := V.i y39)))

theorem ml_markIntS_v2_ok (N : Nat) (a1 : Int) {r : Int} (h : ml_markIntS_v2 N a1 = some r) :
    AC Tryz.prog (GS []) 22 [.sl false false ([].map eNI), V.i a1] [] (V.i r) [] := by
 rw [ml_markIntS_v2] at h
 refine AC.enter Tryz.func22 rfl ?_
 refine cV 100 ?_
 refine CO.seq' ?_
 refine cV 100 ?_
 refine CO.block' ?_
 refine CO.loopJ (fun (a1 : Int) => ⟨tl 19 [(0, .sl false false ([].map eNI)), (1, V.i a1), (5, V.i 0)], []⟩) (fun n i => ml_markIntS_v2_l1 N n i = some r) (n0 := N) (i0 := a1) (wS [] [0, 1, 5]) h (fun i h => by simp [ml_markIntS_v2_l1] at h) ?_
 rintro n1 a1 h3 ih4
 rw [ml_markIntS_v2_l1] at h3
 refine CO.seq' ?_
 refine CO.sw mix ?_
 refine wR 2 120 ?_
 refine W.len Dk eNI [] [] (by kernel_rfl) (by kernel_rfl) ?_
 refine wR 1 120 ?_
 refine wF ?_
 refine CO.ifF (c := false) rfl (by kernel_rfl) ?_
 refine CO.exit ?_
 refine cV 120 ?_
 cases h3
 exact e1 4 id

theorem ml_markIntS_nil (N : Nat) (k : Int) (l : List Int) {r : (Int × (List Int))} (h : ml_markIntS N k l = some r) (hl : l = []) :
    r.2.map eNI = [] ∧ AC Tryz.prog (GS []) 22 [.sl false false [], V.i k] [] (V.i r.1) [] := by
  subst hl
  have h2 : r.2 = [] ∧ ml_markIntS_v2 N k = some r.1 := by
    cases N with
    | zero => simp [ml_markIntS_l1, ml_markIntS] at h
    | succ N =>
      simp [ml_markIntS_l1, ml_markIntS] at h
      subst h
      simp [ml_markIntS_v2_l1, ml_markIntS_v2]
  exact ⟨by rw [h2.1]; rfl, ml_markIntS_v2_ok N k h2.2⟩

theorem ml_markNodeS_ok (e0 : TypeId) (N : Nat) (a1 : Int) (p0 : List SNode) {r : (Int × (List SNode))} (h : ml_markNodeS N a1 p0 = some r) :
    AC Tryz.prog (GS []) 13 [.own 0, V.i a1] [(0, .vec false e0 5 (p0.map (eSN true)))] (V.i r.1) [(0, .vec false e0 5 (r.2.map (eSN true)))] := by
 rw [ml_markNodeS] at h
 refine AC.enter Tryz.func13 rfl ?_
 refine cV 100 ?_
 refine CO.seq' ?_
 refine cV 100 ?_
 refine CO.block' ?_
 refine CO.loopJ (fun (⟨y191, y192, y193⟩ : (Int × Int × (List SNode))) => ⟨tl 50 [(0, .own 0), (1, V.i y191), (5, V.i y192)], [(0, .vec false e0 5 (y193.map (eSN true)))]⟩) (fun n i => ml_markNodeS_l1 N n i = some r) (n0 := N) (i0 := (a1, 0, p0)) (wS [(0, 0)] [0, 1, 5]) h (fun i h => by simp [ml_markNodeS_l1] at h) ?_
 rintro n1 ⟨y191, y192, y193⟩ h243 ih244
 rw [ml_markNodeS_l1] at h243
 refine CO.seq' ?_
 refine CO.sw mix ?_
 refine wR 2 160 ?_
 refine W.len Dk (eSN true) y193 [0] (by kernel_rfl) (by kernel_rfl) ?_
 refine wR 1 160 ?_
 refine wF ?_
 refine cI h243 (fun _ h243 => ?_) (fun _ h243 => ?_)
 ·refine CO.skip ?_
  refine CO.seq' ?_
  refine CO.block' ?_
  refine bB h243 fun e268 hx272 h243 => ?_
  refine bB h243 fun x269 hu273 h243 => ?_
  refine CO.sw mix ?_
  refine wR 3 160 ?_
  refine W.ixO Dk (eSN true) hx272 0 5 (by kernel_rfl) ?_
  refine wR 1 160 ?_
  refine W.stO Dk (eSN true) (x' := (⟨y191, e268.Op, e268.Text, e268.Other, e268.Kids⟩ : SNode)) hx272 hu273 (j := 0) (nn := false) (ety := e0) (sz := 5) (b := 0) (ys := [V.i y191]) (C := []) (R := []) (by kernel_rfl) (by kernel_rfl) ?_
  refine wF ?_
  refine cV 160 ?_
  refine bB h243 fun e272 hx276 h243 => ?_
  refine bB h243 fun x273 hu277 h243 => ?_
  refine CO.sw mix ?_
  refine wR 3 160 ?_
  refine W.ixO Dk (eSN true) hx276 0 5 (by kernel_rfl) ?_
  refine wR 1 160 ?_
  refine W.stO Dk (eSN true) (x' := (⟨e272.Kind, (IntKind.wrap .i64 (y191 + 1)), e272.Text, e272.Other, e272.Kids⟩ : SNode)) hx276 hu277 (j := 0) (nn := false) (ety := e0) (sz := 5) (b := 1) (ys := [V.i (IntKind.wrap .i64 (y191 + 1))]) (C := []) (R := []) (by kernel_rfl) (by kernel_rfl) ?_
  refine wF ?_
  refine cV 160 ?_
  refine bB h243 fun r277 hx281 h243 => ?_
  refine bB h243 fun e278 hx282 h243 => ?_
  refine bB h243 fun x279 hu283 h243 => ?_
  refine CO.sw mix ?_
  refine wR 3 160 ?_
  refine W.call0 (ml_markText_ok N (IntKind.wrap .i64 ((IntKind.wrap .i64 (y191 + 1)) + 1)) hx281) cok32 rfl (by kernel_rfl) ?_
  refine W.ixO Dk (eSN true) hx282 0 5 (by kernel_rfl) ?_
  refine wR 1 160 ?_
  refine W.stO Dk (eSN true) (x' := (⟨e278.Kind, e278.Op, r277, e278.Other, e278.Kids⟩ : SNode)) hx282 hu283 (j := 0) (nn := false) (ety := e0) (sz := 5) (b := 2) (ys := [V.s r277]) (C := []) (R := []) (by kernel_rfl) (by kernel_rfl) ?_
  refine wF ?_
  refine cV 160 ?_
  refine bB h243 fun r283 hx287 h243 => ?_
  refine bB h243 fun e284 hx288 h243 => ?_
  refine bB h243 fun x285 hu289 h243 => ?_
  refine CO.sw mix ?_
  refine wR 3 160 ?_
  refine W.call0 (ml_markText_ok N (IntKind.wrap .i64 ((IntKind.wrap .i64 ((IntKind.wrap .i64 (y191 + 1)) + 1)) + 1)) hx287) cok32 rfl (by kernel_rfl) ?_
  refine W.ixO Dk (eSN true) hx288 0 5 (by kernel_rfl) ?_
  refine wR 1 160 ?_
  refine W.stO Dk (eSN true) (x' := (⟨e284.Kind, e284.Op, e284.Text, r283, e284.Kids⟩ : SNode)) hx288 hu289 (j := 0) (nn := false) (ety := e0) (sz := 5) (b := 3) (ys := [V.s r283]) (C := []) (R := []) (by kernel_rfl) (by kernel_rfl) ?_
  refine wF ?_
  refine cV 160 ?_
  refine bB h243 fun e286 hx290 h243 => ?_
  refine bB h243 fun r287 hx291 h243 => ?_
  refine bB h243 fun x288 hu292 h243 => ?_
  refine CO.nestEnd Dk 4 (tl 50 [(0, .own 0), (1, V.i (IntKind.wrap .i64 ((IntKind.wrap .i64 ((IntKind.wrap .i64 ((IntKind.wrap .i64 (y191 + 1)) + 1)) + 1)) + 1))), (5, V.i y192), (45, .vp 0 5 y192.toNat 4)]) [(0, .vec false e0 5 (x285.map (eSN true)))] (tl 50 [(0, .own 0), (1, V.i r287.1), (5, V.i y192)]) [(0, .vec false e0 5 (x288.map (eSN true)))] (by kernel_rfl) (by
      refine wR 2 160 ?_
      refine W.ixO Dk (eSN true) hx290 0 5 (by kernel_rfl) ?_
      refine wR 1 160 ?_
      exact W.fin (by decide) (by kernel_rfl) (wS [(0, 0)] [0, 1, 5, 45])
      ) ⟨_, rfl, rfl, rfl⟩ ⟨_, rfl, rfl, rfl⟩ ⟨_, rfl, rfl, rfl⟩ cok22 (by kernel_rfl) (by kernel_rfl) (i := 0) (k := 5) (m := y192.toNat) (b := 4) (u := .int .i64 (IntKind.wrap .i64 ((IntKind.wrap .i64 ((IntKind.wrap .i64 ((IntKind.wrap .i64 (y191 + 1)) + 1)) + 1)) + 1))) (by kernel_rfl) (by kernel_rfl) (nn := false) (nn2 := false) (ety := e0) (eSN true) (x' := (⟨e286.Kind, e286.Op, e286.Text, e286.Other, r287.2⟩ : SNode)) hx290 hu292 rfl (by kernel_rfl) (srows := e286.Kids.map eNI) (srows' := r287.2.map eNI) (by kernel_rfl) (by kernel_rfl) (u' := .int .i64 r287.1) (k2 := 1) (fun _ e => ml_markIntS_ok e N (IntKind.wrap .i64 ((IntKind.wrap .i64 ((IntKind.wrap .i64 ((IntKind.wrap .i64 (y191 + 1)) + 1)) + 1)) + 1)) e286.Kids hx291) (fun h0 => ml_markIntS_nil N (IntKind.wrap .i64 ((IntKind.wrap .i64 ((IntKind.wrap .i64 ((IntKind.wrap .i64 (y191 + 1)) + 1)) + 1)) + 1)) e286.Kids hx291 (List.map_eq_nil_iff.1 h0)) (fun r hr => by obtain ⟨a, _, rfl⟩ := List.mem_map.1 hr; rfl) (by
      refine wR 1 160 ?_
      exact W.fin (by decide) (by kernel_rfl) (wS [(0, 0)] [0, 1, 5])
   ) (fun st hw => ?_)
  refine CO.weak hw ?_
  exact cK 160 ih244 (r287.1, (IntKind.wrap .i64 (y192 + 1)), x288) h243 [(0, 0)] [0, 1, 5]
 refine CO.exit ?_
 refine cV 160 ?_
 refine CO.ret ?_
 have h243 := sI h243
 subst h243
 exact eG [(0, 0)] (.inr rfl) (RetV.one rfl (oT (t := 4) (r := V.i y191)))

theorem ml_heldIntS_ok (N : Nat) (a0 : List Int) (a1 : Int) {r : Int} (h : ml_heldIntS N a0 a1 = some r) :
    AC Tryz.prog (GS []) 23 [.sl false false (a0.map eNI), V.i a1] [] (V.i r) [] := by
 rw [ml_heldIntS] at h
 refine AC.enter Tryz.func23 rfl ?_
 refine cV 100 ?_
 refine CO.seq' ?_
 refine cV 100 ?_
 refine CO.block' ?_
 refine CO.loopJ (fun (⟨a0, y37, y38⟩ : ((List Int) × Int × Int)) => ⟨tl 21 [(0, .sl false false (a0.map eNI)), (1, V.i y37), (5, V.i y38)], []⟩) (fun n i => ml_heldIntS_l1 N n i = some r) (n0 := N) (i0 := (a0, a1, 0)) (wS [] [0, 1, 5]) h (fun i h => by simp [ml_heldIntS_l1] at h) ?_
 rintro n1 ⟨a0, y37, y38⟩ h73 ih74
 rw [ml_heldIntS_l1] at h73
 refine CO.seq' ?_
 refine CO.sw mix ?_
 refine wR 2 160 ?_
 refine W.len Dk eNI a0 [] (by kernel_rfl) (by kernel_rfl) ?_
 refine wR 1 160 ?_
 refine wF ?_
 refine cI h73 (fun _ h73 => ?_) (fun _ h73 => ?_)
 ·refine CO.skip ?_
  refine CO.seq' ?_
  refine CO.block' ?_
  refine CO.seq' ?_
  refine bB h73 fun e56 hx87 h73 => ?_
  refine CO.sw mix ?_
  refine wR 2 160 ?_
  refine W.ixD Dk eNI hx87 1 (by kernel_rfl) (by kernel_rfl) ?_
  refine wR 3 160 ?_
  refine wF ?_
  refine cI h73 (fun _ h73 => ?_) (fun _ h73 => ?_)
  ·refine cV 160 ?_
   cases h73
   exact e1 4 id
  refine CO.skip ?_
  refine cE 3 160 (tl 21 [(0, .sl false false (a0.map eNI)), (1, V.i (IntKind.wrap .i64 (y37 + 1))), (5, V.i y38)]) [] (fun st hw => ?_)
  refine CO.weak hw ?_
  exact cK 160 ih74 (a0, (IntKind.wrap .i64 (y37 + 1)), (IntKind.wrap .i64 (y38 + 1))) h73 [] [0, 1, 5]
 refine CO.exit ?_
 refine cV 160 ?_
 cases h73
 exact e1 4 id

end Go.Proofs.Tryz
