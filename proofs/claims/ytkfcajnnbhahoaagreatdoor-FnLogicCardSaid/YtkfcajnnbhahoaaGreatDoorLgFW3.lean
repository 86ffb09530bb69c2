/-
 The walks that show that the code computes the models, part 3.
-/
import Derived.Test.YtkfcajnnbhahoaaGreatDoorLgFW2
namespace Go.Proofs.Tryz
open Go.Av
set_option maxRecDepth 100000
set_option maxHeartbeats 8000000
set_option linter.unusedSimpArgs false
set_option linter.unusedVariables false

theorem mi_itemForm_ok (N : Nat) (a0 : SNode) {r : SForm} (h : mi_itemForm N a0 = some r) :
    AC Tryz.prog (GS [0, 1]) 186 [.agg [V.i a0.Kind, V.i a0.Op, V.s a0.Text, V.s a0.Other, sL eNI a0.Kids]] [] (.agg [V.b r.op, V.b r.text, V.b r.other, V.i r.least, V.i r.most]) [] := by
 rw [mi_itemForm] at h
 refine AC.enter Tryz.func186 rfl (cV 100 (cV 102 ?_))
 refine CO.join (fun (⟨a0, y9, y10, y11, y12⟩ : (SNode × Bool × Bool × Int × Int)) => ⟨tl 64 [(2, .loc 100 0), (3, .loc 101 0)], [(100, .cells 162 [V.b false, V.b false, V.b false, V.i 0, V.i 0]), (101, .cells 162 [V.b y9, V.b y10, V.b (a0.Other == []), V.i y11, V.i y12])]⟩) (fun i => mi_itemForm_k1 N i = some r) ?_ ?_
 · rintro ⟨a0, y9, y10, y11, y12⟩ h24
   rw [mi_itemForm_k1] at h24
   refine cV 103 (CO.ret ?_)
   have h24 := sI h24
   subst h24
   exact eG [] (.inr rfl) (RetV.one rfl (OneR.cell Dk (r := .agg [V.b y9, V.b y10, V.b (a0.Other == []), V.i y11, V.i y12]) (i := 100) (ety := 162) (cs := [V.b y9, V.b y10, V.b (a0.Other == []), V.i y11, V.i y12]) (by kernel_rfl) (by kernel_rfl) (by kernel_rfl)))
 intro hk25
 refine cV 103 (CO.block' ?_)
 refine CO.join (fun (⟨a0, y13⟩ : (SNode × Bool)) => ⟨tl 64 [(1, .loc 100 0), (2, .loc 101 0), (3, .loc 102 0), (15, V.i a0.Kind), (17, V.b y13)], [(100, .cells 37 [V.i a0.Kind, V.i a0.Op, V.s a0.Text, V.s a0.Other, sL eNI a0.Kids]), (101, .cells 162 [V.b false, V.b false, V.b false, V.i 0, V.i 0]), (102, .cells 162 [V.b (a0.Op == 0), V.b (a0.Text == []), V.b (a0.Other == []), V.i 0, V.i 0])]⟩) (fun i => mi_itemForm_k2 N i = some r) ?_ ?_
 · rintro ⟨a0, y13⟩ h27
   rw [mi_itemForm_k2] at h27
   refine cI h27 (fun _ h27 => ?_) (fun _ h27 => ?_)
   ·exact cK 103 hk25 (a0, (a0.Op == 0), (a0.Text == []), 1, 1) h27 [(101, 100), (102, 101)] [2, 3]
   refine cV 103 ?_
   refine cI h27 (fun _ h27 => ?_) (fun _ h27 => ?_)
   ·refine bB h27 fun r15 hx31 h27 => (cC 2 103 (AC.gs (mi_within_ok a0.Op 1 3 hx31) (by decide)) cok70 ?_)
    refine CO.join (fun (⟨r15, a0, y16⟩ : (Bool × SNode × Int)) => ⟨tl 64 [(2, .loc 100 0), (3, .loc 101 0)], [(100, .cells 162 [V.b false, V.b false, V.b false, V.i 0, V.i 0]), (101, .cells 162 [V.b r15, V.b (a0.Text == []), V.b (a0.Other == []), V.i y16, V.i 0])]⟩) (fun i => mi_itemForm_k3 N i = some r) ?_ ?_
    · rintro ⟨r15, a0, y16⟩ h33
      rw [mi_itemForm_k3] at h33
      exact cK 103 hk25 (a0, r15, (a0.Text == []), y16, y16) h33 [(100, 100), (101, 101)] [2, 3]
    intro hk34
    refine cV 103 ?_
    refine cI h27 (fun _ h27 => ?_) (fun _ h27 => ?_)
    ·exact cK 103 hk34 (r15, a0, 2) h27 [(101, 100), (102, 101)] [2, 3]
    exact sK hk34 (r15, a0, 1) h27 [(101, 100), (102, 101)] [2, 3]
   refine cV 103 ?_
   refine cI h27 (fun _ h27 => ?_) (fun _ h27 => ?_)
   ·refine bB h27 fun y17 hv38 h27 => ?_
    refine CO.cutR (tl 64 [(1, .loc 100 0), (2, .loc 101 0), (3, .loc 102 0)]) [(100, .cells 37 [V.i a0.Kind, V.i a0.Op, V.s a0.Text, V.s a0.Other, sL eNI a0.Kids]), (101, .cells 162 [V.b false, V.b false, V.b false, V.i 0, V.i 0]), (102, .cells 162 [V.b y17, V.b (a0.Text == []), V.b (a0.Other == []), V.i 2, V.i 0])] mix (by
     refine wR 4 103 ?_
     refine wJ 41 hv38 (fun hv38 => ?_) (fun hv38 => ?_)
     ·refine wR 8 103 ?_
      cases hv38
      exact fS [(100, 100), (101, 101), (102, 102)] [1, 2, 3]
     refine wR 8 103 ?_
     cases hv38
     exact fS [(100, 100), (101, 101), (102, 102)] [1, 2, 3]
     ) ?_
    refine CO.join (fun (⟨y17, a0, y18⟩ : (Bool × SNode × Int)) => ⟨tl 64 [(2, .loc 100 0), (3, .loc 101 0)], [(100, .cells 162 [V.b false, V.b false, V.b false, V.i 0, V.i 0]), (101, .cells 162 [V.b y17, V.b (a0.Text == []), V.b (a0.Other == []), V.i y18, V.i 0])]⟩) (fun i => mi_itemForm_k4 N i = some r) ?_ ?_
    · rintro ⟨y17, a0, y18⟩ h41
      rw [mi_itemForm_k4] at h41
      exact cK 103 hk25 (a0, y17, (a0.Text == []), y18, y18) h41 [(100, 100), (101, 101)] [2, 3]
    intro hk42
    refine cV 103 ?_
    refine cI h27 (fun _ h27 => ?_) (fun _ h27 => ?_)
    ·exact cK 103 hk42 (y17, a0, 3) h27 [(101, 100), (102, 101)] [2, 3]
    exact sK hk42 (y17, a0, 2) h27 [(101, 100), (102, 101)] [2, 3]
   refine cV 103 ?_
   refine cI h27 (fun _ h27 => ?_) (fun _ h27 => ?_)
   ·refine bB h27 fun r20 hx46 h27 => (CO.w mix (wR 2 103 (w0 (mi_NameOk_ok N a0.Text hx46) cok222 (wR 6 103 ?_))))
    exact wK hk25 (a0, (a0.Op == 0), r20, 1, 7) h27 [(101, 100), (102, 101)] [2, 3]
   exact cK 103 hk25 (a0, (a0.Op == 0), (a0.Text == []), 0, 400) h27 [(101, 100), (102, 101)] [2, 3]
 intro hk47
 refine cV 103 ?_
 refine cI h (fun _ h => ?_) (fun _ h => ?_)
 ·exact sK hk47 (a0, (a0.Kind == 40)) h [(100, 100), (101, 101), (102, 102)] [1, 2, 3, 15, 17]
 exact cK 103 hk47 (a0, (a0.Kind == 41)) h [(100, 100), (101, 101), (102, 102)] [1, 2, 3, 15, 17]

theorem mi_FieldsOk_ok (N : Nat) (a0 : SNode) {r : Bool} (h : mi_FieldsOk N a0 = some r) :
    AC Tryz.prog (GS [0, 1, 2]) 124 [.agg [V.i a0.Kind, V.i a0.Op, V.s a0.Text, V.s a0.Other, sL eNI a0.Kids]] [] (V.b r) [] := by
 rw [mi_FieldsOk] at h
 refine AC.enter Tryz.func124 rfl (cV 100 (cV 101 ?_))
 refine CO.join (fun (⟨a0, y13, y14, y15, y16, y17⟩ : (SNode × Bool × Bool × Bool × Int × Int)) => ⟨tl 61 [(1, .loc 100 0), (3, .loc 101 0)], [(100, .cells 37 [V.i a0.Kind, V.i a0.Op, V.s a0.Text, V.s a0.Other, sL eNI a0.Kids]), (101, .cells 162 [V.b y13, V.b y14, V.b y15, V.i y16, V.i y17])]⟩) (fun i => mi_FieldsOk_k1 N i = some r) ?_ ?_
 · rintro ⟨a0, y13, y14, y15, y16, y17⟩ h17
   rw [mi_FieldsOk_k1] at h17
   refine bB h17 fun y19 hv22 h17 => ?_
   refine CO.cutR (tl 61 [(2, V.b y19)]) [] mix (by
    refine wR 3 102 ?_
    refine wJ 43 hv22 (fun hv22 => ?_) (fun hv22 => ?_)
    ·refine wR 4 102 ?_
     refine wJ 47 hv22 (fun hv22 => ?_) (fun hv22 => ?_)
     ·refine wR 4 102 ?_
      refine wJ 51 hv22 (fun hv22 => ?_) (fun hv22 => ?_)
      ·refine wR 2 102 (wN eNI a0.Kids [] (wR 4 102 (bB hv22 fun r20 hx26 hv22 => (w0 (AC.gs (mi_within_ok (a0.Kids.length : Int) y16 y17 hx26) (by decide)) cok70 (wR 2 102 ?_)))))
       cases hv22
       exact fS [] [2]
      refine wR 10 102 ?_
      cases hv22
      exact fS [] [2]
     refine wR 14 102 ?_
     cases hv22
     exact fS [] [2]
    refine wR 18 102 ?_
    cases hv22
    exact fS [] [2]
    ) ?_
   cases h17
   exact e1 2 id
 intro hk27
 refine CO.block' (bB h fun r22 hx29 h => (cC 2 102 (AC.gs (mi_IsExpr_ok a0.Kind hx29) (by decide)) cok122 ?_))
 refine cI h (fun _ h => ?_) (fun _ h => ?_)
 ·refine bB h fun r24 hx32 h => (cC 1 102 (mi_exprForm_ok N a0 hx32) cok183 ?_)
  exact cK 102 hk27 (a0, r24.op, r24.text, (a0.Other == []), r24.least, r24.most) h [(100, 100), (101, 101)] [1, 3]
 refine cV 102 ?_
 refine cI h (fun _ h => ?_) (fun _ h => ?_)
 ·exact cK 102 hk27 (a0, (a0.Op == 0), (a0.Text == []), (a0.Other == []), 0, 0) h [(100, 100), (101, 101)] [1, 3]
 refine bB h fun r26 hx35 h => (cC 2 102 (AC.gs (mi_IsStmt_ok a0.Kind hx35) (by decide)) cok184 ?_)
 refine cI h (fun _ h => ?_) (fun _ h => ?_)
 ·refine bB h fun r28 hx38 h => (CO.w mix (wR 1 102 (w0 (mi_stmtForm_ok N a0 hx38) cok185 (wR 1 102 ?_))))
  exact wK hk27 (a0, r28.op, r28.text, r28.other, r28.least, r28.most) h [(100, 100), (101, 101)] [1, 3]
 refine bB h fun r30 hx40 h => (cC 2 102 (AC.gs (mi_within_ok a0.Kind 40 45 hx40) (by decide)) cok70 ?_)
 refine cI h (fun _ h => ?_) (fun _ h => ?_)
 ·refine bB h fun r32 hx43 h => (CO.w mix (wR 1 102 (w0 (AC.gs (mi_itemForm_ok N a0 hx43) (by decide)) cok186 (wR 1 102 ?_))))
  exact wK hk27 (a0, r32.op, r32.text, r32.other, r32.least, r32.most) h [(100, 100), (101, 101)] [1, 3]
 refine cV 102 ?_
 cases h
 exact e1 2 id

theorem mi_IsLvalue_ok (a0 : Int) {r : Bool} (h : mi_IsLvalue a0 = some r) :
    AC Tryz.prog (GS []) 187 [V.i a0] [] (V.b r) [] := by
 rw [mi_IsLvalue] at h
 refine AC.enter Tryz.func187 rfl (cV 100 (bB h fun y1 hv3 h => ?_))
 refine CO.cutR (tl 13 [(2, V.b y1)]) [] mix (by
  refine wR 3 100 ?_
  refine wJ 5 hv3 (fun hv3 => ?_) (fun hv3 => ?_)
  ·refine wR 8 100 ?_
   cases hv3
   exact fS [] [2]
  refine wR 4 100 ?_
  refine wJ 9 hv3 (fun hv3 => ?_) (fun hv3 => ?_)
  ·refine wR 4 100 ?_
   cases hv3
   exact fS [] [2]
  refine wR 4 100 ?_
  cases hv3
  exact fS [] [2]
  ) ?_
 cases h
 exact e1 2 id

theorem mi_isItem_ok (a0 : Int) {r : Bool} (h : mi_isItem a0 = some r) :
    AC Tryz.prog (GS []) 188 [V.i a0] [] (V.b r) [] := by
 rw [mi_isItem] at h
 refine AC.enter Tryz.func188 rfl (cV 100 (bB h fun r2 hx2 h => (cC 1 100 (mi_within_ok a0 40 44 hx2) cok70 ?_)))
 cases h
 exact e1 2 id

theorem mi_kidOk_ok (a0 : SNode) (a1 : Int) (a2 : Int) {r : Bool} (h : mi_kidOk a0 a1 a2 = some r) :
    AC Tryz.prog (GS []) 125 [.agg [V.i a0.Kind, V.i a0.Op, V.s a0.Text, V.s a0.Other, sL eNI a0.Kids], V.i a1, V.i a2] [] (V.b r) [] := by
 rw [mi_kidOk] at h
 refine AC.enter Tryz.func125 rfl (cV 100 (CO.sw mix (wR 3 101 (wN eNI a0.Kids [] (wR 3 101 (wF (cV 101 ?_)))))))
 refine CO.join (fun (⟨a2, y22⟩ : (Int × Bool)) => ⟨tl 99 [(2, V.i a2), (8, V.b y22)], []⟩) (fun i => mi_kidOk_k1 i = some r) ?_ ?_
 · rintro ⟨a2, y22⟩ h66
   rw [mi_kidOk_k1] at h66
   refine CO.seq' (cV 101 ?_)
   refine cI h66 (fun _ h66 => ?_) (fun _ h66 => ?_)
   ·refine cV 101 ?_
    cases h66
    exact e1 6 id
   refine CO.skip (bB h66 fun r24 hx70 h66 => (cC 1 101 (mi_IsExpr_ok a2 hx70) cok122 ?_))
   cases h66
   exact e1 6 id
 intro hk71
 refine cV 101 (CO.block' ?_)
 refine CO.join (fun (⟨a1, a2, a0, y25⟩ : (Int × Int × SNode × Bool)) => ⟨tl 99 [(1, V.i a1), (2, V.i a2), (3, .loc 100 0), (7, V.b (a1 == (wr ((a0.Kids.length : Int) - 1)))), (8, V.b false), (16, V.i a0.Kind), (17, V.b y25)], [(100, .cells 37 [V.i a0.Kind, V.i a0.Op, V.s a0.Text, V.s a0.Other, sL eNI a0.Kids])]⟩) (fun i => mi_kidOk_k2 i = some r) ?_ ?_
 · rintro ⟨a1, a2, a0, y25⟩ h73
   rw [mi_kidOk_k2] at h73
   refine cI h73 (fun _ h73 => ?_) (fun _ h73 => ?_)
   ·refine bB h73 fun r27 hx76 h73 => (cC 1 101 (mi_IsLvalue_ok a2 hx76) cok187 ?_)
    cases h73
    exact e1 6 id
   refine cV 101 ?_
   refine cI h73 (fun _ h73 => ?_) (fun _ h73 => ?_)
   ·refine bB h73 fun y31 hv85 h73 => ?_
    refine CO.cutR (tl 99 [(6, V.b y31)]) [] mix (by
     refine wR 3 101 ?_
     refine wJ 26 hv85 (fun hv85 => ?_) (fun hv85 => ?_)
     ·refine wR 1 101 (bB hv85 fun r32 hx87 hv85 => (w0 (mi_IsLvalue_ok a2 hx87) cok187 (wR 2 101 ?_)))
      refine wJ 30 hv85 (fun hv85 => ?_) (fun hv85 => ?_)
      ·refine wR 8 101 ?_
       cases hv85
       exact fS [] [6]
      refine wR 3 101 ?_
      refine wJ 33 hv85 (fun hv85 => ?_) (fun hv85 => ?_)
      ·refine wR 1 101 (bB hv85 fun r33 hx90 hv85 => (w0 (mi_IsExpr_ok a2 hx90) cok122 (wR 3 101 ?_)))
       cases hv85
       exact fS [] [6]
      refine wR 5 101 ?_
      cases hv85
      exact fS [] [6]
     refine wR 7 101 ?_
     refine wJ 33 hv85 (fun hv85 => ?_) (fun hv85 => ?_)
     ·refine wR 1 101 (bB hv85 fun r34 hx92 hv85 => (w0 (mi_IsExpr_ok a2 hx92) cok122 (wR 3 101 ?_)))
      cases hv85
      exact fS [] [6]
     refine wR 5 101 ?_
     cases hv85
     exact fS [] [6]
     ) ?_
    cases h73
    exact e1 6 id
   refine CO.join (fun (⟨a1, a2, a0, y35⟩ : (Int × Int × SNode × Bool)) => ⟨tl 99 [(1, V.i a1), (2, V.i a2), (3, .loc 100 0), (7, V.b (a1 == (wr ((a0.Kids.length : Int) - 1)))), (8, V.b false), (16, V.i a0.Kind), (38, V.b y35)], [(100, .cells 37 [V.i a0.Kind, V.i a0.Op, V.s a0.Text, V.s a0.Other, sL eNI a0.Kids])]⟩) (fun i => mi_kidOk_k3 i = some r) ?_ ?_
   · rintro ⟨a1, a2, a0, y35⟩ h94
     rw [mi_kidOk_k3] at h94
     refine cI h94 (fun _ h94 => ?_) (fun _ h94 => ?_)
     ·exact cK 101 hk71 (a2, (decide (a1 > 0))) h94 [] [2, 8]
     refine cV 101 ?_
     refine cI h94 (fun _ h94 => ?_) (fun _ h94 => ?_)
     ·refine CO.seq' (bB h94 fun y37 hv102 h94 => ?_)
      refine CO.cutR (tl 99 [(2, V.i a2), (7, V.b (a1 == (wr ((a0.Kids.length : Int) - 1)))), (50, V.b y37)]) [] mix (by
       refine wR 3 101 ?_
       refine wJ 47 hv102 (fun hv102 => ?_) (fun hv102 => ?_)
       ·refine wR 3 101 ?_
        cases hv102
        exact fS [] [2, 7, 50]
       refine wR 3 101 ?_
       cases hv102
       exact fS [] [2, 7, 50]
       ) ?_
      refine cI h94 (fun _ h94 => ?_) (fun _ h94 => ?_)
      ·refine cV 101 ?_
       cases h94
       exact e1 6 id
      refine CO.skip ?_
      exact cK 101 hk71 (a2, (a1 == (wr ((a0.Kids.length : Int) - 1)))) h94 [] [2, 8]
     refine cV 101 ?_
     refine cI h94 (fun _ h94 => ?_) (fun _ h94 => ?_)
     ·exact cK 101 hk71 (a2, (a1 == 0)) h94 [] [2, 8]
     refine CO.join (fun (⟨a2, a1, a0, y38⟩ : (Int × Int × SNode × Bool)) => ⟨tl 99 [(2, V.i a2), (3, .loc 100 0), (7, V.b (a1 == (wr ((a0.Kids.length : Int) - 1)))), (8, V.b false), (16, V.i a0.Kind), (56, V.b y38)], [(100, .cells 37 [V.i a0.Kind, V.i a0.Op, V.s a0.Text, V.s a0.Other, sL eNI a0.Kids])]⟩) (fun i => mi_kidOk_k4 i = some r) ?_ ?_
     · rintro ⟨a2, a1, a0, y38⟩ h108
       rw [mi_kidOk_k4] at h108
       refine cI h108 (fun _ h108 => ?_) (fun _ h108 => ?_)
       ·exact cK 101 hk71 (a2, true) h108 [] [2, 8]
       refine cV 101 ?_
       refine cI h108 (fun _ h108 => ?_) (fun _ h108 => ?_)
       ·refine bB h108 fun r40 hx112 h108 => (cC 1 101 (mi_IsStmt_ok a2 hx112) cok184 ?_)
        cases h108
        exact e1 6 id
       refine cV 101 ?_
       refine cI h108 (fun _ h108 => ?_) (fun _ h108 => ?_)
       ·refine bB h108 fun y41 hv115 h108 => ?_
        refine CO.endR (tl 99 [(2, V.i a2), (8, V.b y41)]) [] mix (by
         refine wR 2 101 ?_
         refine wJ 67 hv115 (fun hv115 => ?_) (fun hv115 => ?_)
         ·refine wR 5 101 ?_
          cases hv115
          exact fS [] [2, 8]
         refine wR 5 101 ?_
         cases hv115
         exact fS [] [2, 8]
         ) (fun st hw => ?_)
        exact hk71 (a2, y41) h108 _ (hw.trans (wS [] [2, 8]))
       refine cV 101 ?_
       refine cI h108 (fun _ h108 => ?_) (fun _ h108 => ?_)
       ·refine bB h108 fun y42 hv119 h108 => ?_
        refine CO.endR (tl 99 [(2, V.i a2), (8, V.b y42)]) [] mix (by
         refine wR 2 101 ?_
         refine wJ 75 hv119 (fun hv119 => ?_) (fun hv119 => ?_)
         ·refine wR 5 101 ?_
          cases hv119
          exact fS [] [2, 8]
         refine wR 5 101 ?_
         cases hv119
         exact fS [] [2, 8]
         ) (fun st hw => ?_)
        exact hk71 (a2, y42) h108 _ (hw.trans (wS [] [2, 8]))
       refine cV 101 ?_
       refine cI h108 (fun _ h108 => ?_) (fun _ h108 => ?_)
       ·refine CO.seq' (cV 101 ?_)
        refine cI h108 (fun _ h108 => ?_) (fun _ h108 => ?_)
        ·refine cV 101 ?_
         cases h108
         exact e1 6 id
        refine CO.skip ?_
        exact cK 101 hk71 (a2, true) h108 [] [2, 8]
       refine cV 101 ?_
       refine cI h108 (fun _ h108 => ?_) (fun _ h108 => ?_)
       ·refine bB h108 fun y44 hv127 h108 => ?_
        refine CO.cutR (tl 99 [(6, V.b y44)]) [] mix (by
         refine wR 1 101 (bB hv127 fun r45 hx128 hv127 => (w0 (mi_isItem_ok a2 hx128) cok188 (wR 1 101 ?_)))
         refine wJ 90 hv127 (fun hv127 => ?_) (fun hv127 => ?_)
         ·refine wR 4 101 ?_
          cases hv127
          exact fS [] [6]
         refine wR 4 101 ?_
         cases hv127
         exact fS [] [6]
         ) ?_
        cases h108
        exact e1 6 id
       exact sK hk71 (a2, false) h108 [] [2, 8]
     intro hk130
     refine cV 101 ?_
     refine cI h94 (fun _ h94 => ?_) (fun _ h94 => ?_)
     ·exact sK hk130 (a2, a1, a0, (a0.Kind == 32)) h94 [(100, 100)] [2, 3, 7, 8, 16, 56]
     refine cV 101 ?_
     refine cI h94 (fun _ h94 => ?_) (fun _ h94 => ?_)
     ·exact sK hk130 (a2, a1, a0, (a0.Kind == 40)) h94 [(100, 100)] [2, 3, 7, 8, 16, 56]
     exact cK 101 hk130 (a2, a1, a0, (a0.Kind == 41)) h94 [(100, 100)] [2, 3, 7, 8, 16, 56]
   intro hk133
   refine cV 101 ?_
   refine cI h73 (fun _ h73 => ?_) (fun _ h73 => ?_)
   ·exact sK hk133 (a1, a2, a0, (a0.Kind == 28)) h73 [(100, 100)] [1, 2, 3, 7, 8, 16, 38]
   exact cK 101 hk133 (a1, a2, a0, (a0.Kind == 29)) h73 [(100, 100)] [1, 2, 3, 7, 8, 16, 38]
 intro hk135
 refine cV 101 ?_
 refine cI h (fun _ h => ?_) (fun _ h => ?_)
 ·exact sK hk135 (a1, a2, a0, (a0.Kind == 9)) h [(100, 100)] [1, 2, 3, 7, 8, 16, 17]
 exact cK 101 hk135 (a1, a2, a0, (a0.Kind == 10)) h [(100, 100)] [1, 2, 3, 7, 8, 16, 17]

structure RecOk5 (R : Rec5) : Prop where
 mi_treeAt : ∀ (a0 : LN) (a1 : Int) (r : STree), R.mi_treeAt a0 a1 = some r → AC Tryz.prog (GS []) 123 [.sl false false (a0.map (eSN false)), V.i a1] [] (.agg [V.i r.kind, V.i r.op, V.s r.text, V.s r.other, sL eST r.kids]) []

theorem mi_treeAt_F_ok (N : Nat) (R : Rec5) (HR : RecOk5 R) (a0 : LN) (a1 : Int) {r : STree} (h : mi_treeAt_F N R a0 a1 = some r) :
    AC Tryz.prog (GS []) 123 [.sl false false (a0.map (eSN false)), V.i a1] [] (.agg [V.i r.kind, V.i r.op, V.s r.text, V.s r.other, sL eST r.kids]) [] := by
 rw [mi_treeAt_F] at h
 refine AC.enter Tryz.func123 rfl (cV 100 (bB h fun e2 hx2 h => (CO.sw mix (wR 2 101 (wX (eSN false) hx2 5 (wR 3 101 (wF (cV 102 ?_))))))))
 refine CO.seq' (CO.sw mix (wR 2 103 (wN eNI e2.Kids [] (wR 1 103 (wF (CO.block' (CO.loopJ (fun (⟨a0, e2, y63, y64⟩ : (LN × SNode × Int × LS)) => ⟨tl 39 [(0, .sl false false (a0.map (eSN false))), (4, .loc 100 0), (6, .loc 101 0), (23, sL eNI e2.Kids), (24, V.i (e2.Kids.length : Int)), (25, V.i y63)], [(100, .cells 88 [V.i 0, V.i 0, V.s [], V.s [], .c (.slice none 0 0)]), (101, .cells 88 [V.i e2.Kind, V.i e2.Op, V.s e2.Text, V.s e2.Other, .own 102]), (102, vX 88 5 eST y64)]⟩) (fun n i => mi_treeAt_l1 N R n i = some r) (n0 := N) (i0 := (a0, e2, 0, [])) ((Weak.nilCell 102 4 103 88 5 (ety := 88) (cs := [V.i e2.Kind, V.i e2.Op, V.s e2.Text, V.s e2.Other, .c (.slice none 0 0)]) (by kernel_rfl) (by kernel_rfl) (by kernel_rfl)).trans (wS [(100, 100), (102, 101), (103, 102)] [0, 4, 6, 23, 24, 25])) h (fun i h => by simp [mi_treeAt_l1] at h) ?_)))))))
 rintro n1 ⟨a0, e2, y63, y64⟩ h83 ih84
 rw [mi_treeAt_l1] at h83
 refine cV 168 (CO.seq' ?_)
 refine cI h83 (fun _ h83 => ?_) (fun _ h83 => ?_)
 ·refine CO.skip (CO.seq' (CO.block' (bB h83 fun e86 hx94 h83 => (CO.sw mix (wX eNI hx94 1 (wR 2 168 (wF (bB h83 fun r89 hx97 h83 => ?_))))))))
  refine bB h83 fun x90 hx98 h83 => ?_
  refine CO.endR (tl 39 [(0, .sl false false (a0.map (eSN false))), (4, .loc 100 0), (6, .loc 101 0), (23, sL eNI e2.Kids), (24, V.i (e2.Kids.length : Int)), (25, V.i y63)]) [(101, .cells 88 [V.i e2.Kind, V.i e2.Op, V.s e2.Text, V.s e2.Other, .own 169]), (169, vX 88 5 eST x90), (100, .cells 88 [V.i 0, V.i 0, V.s [], V.s [], .c (.slice none 0 0)])] mix (by
   refine wR 4 168 (w0 (HR.mi_treeAt a0 e86 _ hx97) cok123 (W.layop Dk lO (by kernel_rfl) 168 { v := .own 168, R := [], new := [(168, .vec true 88 5 [[V.i r89.kind, V.i r89.op, V.s r89.text, V.s r89.other, sL eST r89.kids]])], N := [168] } (by kernel_rfl) (W.vecEq 168 (nn := true) (e := 88) (k := 5) (rows := [[V.i r89.kind, V.i r89.op, V.s r89.text, V.s r89.other, sL eST r89.kids]]) (rows' := [r89].map eST) (by kernel_rfl) (by simp only [List.map_cons, List.map_nil, encSTree_eq]) (W.appO Dk eST (a := 102) (c := 168) (el := 88) (sz := 5) 72 hx98 rfl 169 (by kernel_rfl) (wR 2 170 ?_)))))
   exact fI
   ) (fun st hw => ?_)
  refine CO.weak hw ?_
  exact cK 170 ih84 (a0, e2, (wr (y63 + 1)), x90) h83 [(100, 100), (101, 101), (169, 102)] [0, 4, 6, 23, 24, 25]
 refine CO.exit (cU 2 168 (tl 39 [(4, .loc 100 0)]) [(100, .cells 88 [V.i e2.Kind, V.i e2.Op, V.s e2.Text, V.s e2.Other, .own 102]), (102, vX 88 5 eST y64)] (CO.lay (tl 39 [(4, .loc 100 0)]) [(100, .cells 88 [V.i e2.Kind, V.i e2.Op, V.s e2.Text, V.s e2.Other, sL eST y64])] (LayOk.cons (j := 102) eST eST y64 (by kernel_rfl) (share_encSTree) lO) (by kernel_rfl) (by kernel_rfl) (by kernel_rfl) (CO.ret ?_)))
 have h83 := sI h83
 subst h83
 exact eG [] (.inr rfl) (RetV.one rfl (OneR.cell Dk (r := .agg [V.i e2.Kind, V.i e2.Op, V.s e2.Text, V.s e2.Other, sL eST y64]) (i := 100) (ety := 88) (cs := [V.i e2.Kind, V.i e2.Op, V.s e2.Text, V.s e2.Other, sL eST y64]) (by kernel_rfl) (by kernel_rfl) (by kernel_rfl)))

theorem scc5_ok : ∀ N, RecOk5 (scc5 N)
 | 0 => ⟨fun _ _ _ h => (by cases h)⟩
 | N + 1 => ⟨fun a0 a1 _ h => mi_treeAt_F_ok N (scc5 N) (scc5_ok N) a0 a1 h⟩

theorem mi_treeAt_ok (N : Nat) (a0 : LN) (a1 : Int) {r : STree} (h : mi_treeAt N a0 a1 = some r) :
  AC Tryz.prog (GS []) 123 [.sl false false (a0.map (eSN false)), V.i a1] [] (.agg [V.i r.kind, V.i r.op, V.s r.text, V.s r.other, sL eST r.kids]) [] :=
 (scc5_ok N).mi_treeAt a0 a1 r h

theorem mi_rootOf_ok (N : Nat) (a0 : LN) {r : STree} (h : mi_rootOf N a0 = some r) :
    AC Tryz.prog (GS []) 76 [.sl false false (a0.map (eSN false))] [] (.agg [V.i r.kind, V.i r.op, V.s r.text, V.s r.other, sL eST r.kids]) [] := by
 rw [mi_rootOf] at h
 refine AC.enter Tryz.func76 rfl (cV 100 (bB h fun r2 hx2 h => (CO.sw mix (wR 2 101 (wN (eSN false) a0 [] (wR 1 101 (w0 (mi_treeAt_ok N a0 (wr ((a0.length : Int) - 1)) hx2) cok123 (wR 1 101 ?_))))))))
 refine wF (CO.ret ?_)
 have h := sI h
 subst h
 exact eG [] (.inr rfl) (RetV.one rfl (OneR.cell Dk (r := .agg [V.i r2.kind, V.i r2.op, V.s r2.text, V.s r2.other, sL eST r2.kids]) (i := 100) (ety := 88) (cs := [V.i r2.kind, V.i r2.op, V.s r2.text, V.s r2.other, sL eST r2.kids]) (by kernel_rfl) (by kernel_rfl) (by kernel_rfl)))

structure RecOk6 (R : Rec6) : Prop where
 mi_tree__depth : ∀ (a0 : STree) (r : Int), R.mi_tree__depth a0 = some r → AC Tryz.prog (GS []) 126 [.agg [V.i a0.kind, V.i a0.op, V.s a0.text, V.s a0.other, sL eST a0.kids]] [] (V.i r) []

theorem mi_tree__depth_F_ok (N : Nat) (R : Rec6) (HR : RecOk6 R) (a0 : STree) {r : Int} (h : mi_tree__depth_F N R a0 = some r) :
    AC Tryz.prog (GS []) 126 [.agg [V.i a0.kind, V.i a0.op, V.s a0.text, V.s a0.other, sL eST a0.kids]] [] (V.i r) [] := by
 rw [mi_tree__depth_F] at h
 refine AC.enter Tryz.func126 rfl (cV 100 (cV 101 (CO.seq' (CO.sw mix (wR 2 101 (wN eST a0.kids [] (wR 1 101 (wF ?_))))))))
 refine CO.block' (CO.loopJ (fun (⟨a0, y37, y38⟩ : (STree × Int × Int)) => ⟨tl 20 [(3, V.i y37), (7, sL eST a0.kids), (8, V.i (a0.kids.length : Int)), (9, V.i y38)], []⟩) (fun n i => mi_tree__depth_l1 N R n i = some r) (n0 := N) (i0 := (a0, 0, 0)) (wS [] [3, 7, 8, 9]) h (fun i h => by simp [mi_tree__depth_l1] at h) ?_)
 rintro n1 ⟨a0, y37, y38⟩ h53 ih54
 rw [mi_tree__depth_l1] at h53
 refine cV 163 (CO.seq' ?_)
 refine cI h53 (fun _ h53 => ?_) (fun _ h53 => ?_)
 ·refine CO.skip (CO.seq' (CO.block' (bB h53 fun e54 hx62 h53 => (CO.sw mix (W.ixDr Dk eST hx62 5 (by kernel_rfl) (encSTree_eq e54) (by kernel_rfl) (wR 3 163 (wF (bB h53 fun r56 hx64 h53 => ?_))))))))
  refine CO.endR (tl 20 [(3, V.i (if r56 > y37 then r56 else y37)), (7, sL eST a0.kids), (8, V.i (a0.kids.length : Int)), (9, V.i y38)]) [] mix (by
   refine wR 2 164 (w0 (HR.mi_tree__depth e54 _ hx64) cok126 (wR 2 164 ?_))
   exact fI
   ) (fun st hw => ?_)
  refine CO.weak hw ?_
  exact cK 164 ih54 (a0, (if r56 > y37 then r56 else y37), (wr (y38 + 1))) h53 [] [3, 7, 8, 9]
 refine CO.exit (cV 163 ?_)
 cases h53
 exact e1 2 id

theorem scc6_ok : ∀ N, RecOk6 (scc6 N)
 | 0 => ⟨fun _ _ h => (by cases h)⟩
 | N + 1 => ⟨fun a0 _ h => mi_tree__depth_F_ok N (scc6 N) (scc6_ok N) a0 h⟩

theorem mi_tree__depth_ok (N : Nat) (a0 : STree) {r : Int} (h : mi_tree__depth N a0 = some r) :
  AC Tryz.prog (GS []) 126 [.agg [V.i a0.kind, V.i a0.op, V.s a0.text, V.s a0.other, sL eST a0.kids]] [] (V.i r) [] :=
 (scc6_ok N).mi_tree__depth a0 r h

theorem mi_TreeOk_ok (N : Nat) (a0 : LN) {r : Bool} (h : mi_TreeOk N a0 = some r) :
    AC Tryz.prog (GS [0, 1, 2]) 51 [.sl false false (a0.map (eSN false))] [] (V.b r) [] := by
 rw [mi_TreeOk] at h
 refine AC.enter Tryz.func51 rfl (cV 100 (CO.seq' (bB h fun r4 hx5 h => (cC 1 100 (AC.gs (mi_ShapeOk_ok N a0 hx5) (by decide)) cok114 ?_))))
 refine cI h (fun _ h => ?_) (fun _ h => ?_)
 ·refine cV 100 ?_
  cases h
  exact e1 2 id
 refine CO.skip (CO.seq' (CO.sw mix (wR 1 100 (wN (eSN false) a0 [] (wR 1 100 (wF (CO.block' (CO.loopJ (fun (⟨a0, y359⟩ : (LN × Int)) => ⟨tl 42 [(0, .sl false false (a0.map (eSN false))), (10, .sl false false (a0.map (eSN false))), (11, V.i (a0.length : Int)), (12, V.i y359)], []⟩) (fun n i => mi_TreeOk_l1 N n i = some r) (n0 := N) (i0 := (a0, 0)) (wS [] [0, 10, 11, 12]) h (fun i h => by simp [mi_TreeOk_l1] at h) ?_))))))))
 rintro n1 ⟨a0, y359⟩ h599 ih600
 rw [mi_TreeOk_l1] at h599
 refine cV 282 (CO.seq' ?_)
 refine cI h599 (fun _ h599 => ?_) (fun _ h599 => ?_)
 ·refine CO.skip (CO.seq' (CO.block' (bB h599 fun e494 hx662 h599 => (CO.sw mix (wX (eSN false) hx662 5 (wR 3 282 (wF (CO.seq' ?_))))))))
  refine bB h599 fun r498 hx667 h599 => (cC 1 283 (mi_FieldsOk_ok N e494 hx667) cok124 ?_)
  refine cI h599 (fun _ h599 => ?_) (fun _ h599 => ?_)
  ·refine cV 283 ?_
   cases h599
   exact e1 2 id
  refine CO.skip (CO.sw mix (wR 2 283 (wN eNI e494.Kids [] (wR 1 283 (wF (CO.block' (CO.loopJ (fun (⟨a0, y359, e494, y511⟩ : (LN × Int × SNode × Int)) => ⟨tl 42 [(0, .sl false false (a0.map (eSN false))), (4, .loc 100 0), (10, .sl false false (a0.map (eSN false))), (11, V.i (a0.length : Int)), (12, V.i y359), (20, sL eNI e494.Kids), (21, V.i (e494.Kids.length : Int)), (22, V.i y511)], [(100, .cells 37 [V.i e494.Kind, V.i e494.Op, V.s e494.Text, V.s e494.Other, sL eNI e494.Kids])]⟩) (fun n i => mi_TreeOk_l2 N (mi_TreeOk_l1 N n1) n i = some r) (n0 := N) (i0 := (a0, y359, e494, 0)) (wS [(282, 100)] [0, 4, 10, 11, 12, 20, 21, 22]) h599 (fun i h => by simp [mi_TreeOk_l2] at h) ?_)))))))
  rintro n2 ⟨a0, y359, e494, y511⟩ h701 ih702
  rw [mi_TreeOk_l2] at h701
  refine cV 343 (CO.seq' ?_)
  refine cI h701 (fun _ h701 => ?_) (fun _ h701 => ?_)
  ·refine CO.skip (CO.seq' (CO.block' (bB h701 fun e532 hx713 h701 => (CO.sw mix (wR 1 343 (wX eNI hx713 1 (wR 3 343 (wF ?_))))))))
   refine bB h701 fun e535 hx716 h701 => (bB h701 fun r536 hx717 h701 => (CO.sw mix (wR 4 343 (wX (eSN false) hx716 5 (wR 2 343 (w0 (AC.gs (mi_kidOk_ok e494 y511 e535.Kind hx717) (by decide)) cok125 (wR 1 343 (wF ?_))))))))
   refine cI h701 (fun _ h701 => ?_) (fun _ h701 => ?_)
   ·refine cV 343 ?_
    cases h701
    exact e1 2 id
   refine CO.skip ?_
   exact cK 343 ih702 (a0, y359, e494, (wr (y511 + 1))) h701 [(100, 100)] [0, 4, 10, 11, 12, 20, 21, 22]
  refine CO.exit ?_
  exact cK 343 ih600 (a0, (wr (y359 + 1))) h701 [] [0, 10, 11, 12]
 refine CO.exit (bB h599 fun r539 hx721 h599 => (bB h599 fun r540 hx722 h599 => (CO.sw mix (wR 1 282 (w0 (AC.gs (mi_rootOf_ok N a0 hx721) (by decide)) cok76 (w0 (AC.gs (mi_tree__depth_ok N r539 hx722) (by decide)) cok126 (wR 2 282 (wF ?_))))))))
 cases h599
 exact e1 2 id

theorem mi_tree__isNot_ok (a0 : STree) {r : Bool} (h : mi_tree__isNot a0 = some r) :
    AC Tryz.prog (GS []) 155 [.agg [V.i a0.kind, V.i a0.op, V.s a0.text, V.s a0.other, sL eST a0.kids]] [] (V.b r) [] := by
 rw [mi_tree__isNot] at h
 refine AC.enter Tryz.func155 rfl (cV 100 (bB h fun y1 hv2 h => ?_))
 refine CO.cutR (tl 11 [(2, V.b y1)]) [] mix (by
  refine wR 4 101 ?_
  refine wJ 6 hv2 (fun hv2 => ?_) (fun hv2 => ?_)
  ·refine wR 5 101 ?_
   cases hv2
   exact fS [] [2]
  refine wR 5 101 ?_
  cases hv2
  exact fS [] [2]
  ) ?_
 cases h
 exact e1 2 id

theorem mi_opposite_ok (a0 : Int) {r : Int} (h : mi_opposite a0 = some r) :
    AC Tryz.prog (GS []) 160 [V.i a0] [] (V.i r) [] := by
 rw [mi_opposite] at h
 refine AC.enter Tryz.func160 rfl (cV 100 (CO.seq' (cV 100 (CO.block' (cV 100 ?_)))))
 refine cI h (fun _ h => ?_) (fun _ h => ?_)
 ·refine cV 100 ?_
  cases h
  exact e1 2 id
 refine cV 100 ?_
 refine cI h (fun _ h => ?_) (fun _ h => ?_)
 ·refine cV 100 ?_
  cases h
  exact e1 2 id
 refine cV 100 ?_
 refine cI h (fun _ h => ?_) (fun _ h => ?_)
 ·refine cV 100 ?_
  cases h
  exact e1 2 id
 refine cV 100 ?_
 refine cI h (fun _ h => ?_) (fun _ h => ?_)
 ·refine cV 100 ?_
  cases h
  exact e1 2 id
 refine cV 100 ?_
 refine cI h (fun _ h => ?_) (fun _ h => ?_)
 ·refine cV 100 ?_
  cases h
  exact e1 2 id
 refine cV 100 ?_
 refine cI h (fun _ h => ?_) (fun _ h => ?_)
 ·refine cV 100 ?_
  cases h
  exact e1 2 id
 refine cV 100 ?_
 refine cI h (fun _ h => ?_) (fun _ h => ?_)
 ·refine cV 100 ?_
  cases h
  exact e1 2 id
 refine cV 100 ?_
 refine cI h (fun _ h => ?_) (fun _ h => ?_)
 ·refine cV 100 ?_
  cases h
  exact e1 2 id
 refine CO.skip (cV 100 ?_)
 cases h
 exact e1 2 id

theorem mi_tree__isCompared_ok (a0 : STree) {r : Bool} (h : mi_tree__isCompared a0 = some r) :
    AC Tryz.prog (GS []) 157 [.agg [V.i a0.kind, V.i a0.op, V.s a0.text, V.s a0.other, sL eST a0.kids]] [] (V.b r) [] := by
 rw [mi_tree__isCompared] at h
 refine AC.enter Tryz.func157 rfl (cV 100 (bB h fun y2 hv3 h => ?_))
 refine CO.cutR (tl 12 [(2, V.b y2)]) [] mix (by
  refine wR 4 101 ?_
  refine wJ 6 hv3 (fun hv3 => ?_) (fun hv3 => ?_)
  ·refine wR 2 101 (bB hv3 fun r3 hx5 hv3 => (w0 (mi_opposite_ok a0.op hx5) cok160 (wR 3 101 ?_)))
   cases hv3
   exact fS [] [2]
  refine wR 6 101 ?_
  cases hv3
  exact fS [] [2]
  ) ?_
 cases h
 exact e1 2 id

theorem mi_tree__isLogic_ok (a0 : STree) {r : Bool} (h : mi_tree__isLogic a0 = some r) :
    AC Tryz.prog (GS []) 158 [.agg [V.i a0.kind, V.i a0.op, V.s a0.text, V.s a0.other, sL eST a0.kids]] [] (V.b r) [] := by
 rw [mi_tree__isLogic] at h
 refine AC.enter Tryz.func158 rfl (cV 100 (bB h fun y1 hv3 h => ?_))
 refine CO.cutR (tl 16 [(2, V.b y1)]) [] mix (by
  refine wR 4 101 ?_
  refine wJ 6 hv3 (fun hv3 => ?_) (fun hv3 => ?_)
  ·refine wR 4 101 ?_
   refine wJ 10 hv3 (fun hv3 => ?_) (fun hv3 => ?_)
   ·refine wR 6 101 ?_
    cases hv3
    exact fS [] [2]
   refine wR 6 101 ?_
   cases hv3
   exact fS [] [2]
  refine wR 10 101 ?_
  cases hv3
  exact fS [] [2]
  ) ?_
 cases h
 exact e1 2 id

theorem mi_not_ok (a0 : STree) {r : STree} (h : mi_not a0 = some r) :
    AC Tryz.prog (GS []) 159 [.agg [V.i a0.kind, V.i a0.op, V.s a0.text, V.s a0.other, sL eST a0.kids]] [] (.agg [V.i r.kind, V.i r.op, V.s r.text, V.s r.other, sL eST r.kids]) [] := by
 rw [mi_not] at h
 refine AC.enter Tryz.func159 rfl (cV 100 ?_)
 refine CO.cutR (tl 6 [(2, .loc 101 0)]) [(101, .cells 88 [V.i 11, V.i 61, V.s [], V.s [], .own 102]), (102, .vec false 88 5 ([a0].map eST))] mix (by
  refine wR 1 102 (W.layop Dk lO (by kernel_rfl) 102 { v := .own 102, R := [], new := [(102, .vec true 88 5 [[V.i a0.kind, V.i a0.op, V.s a0.text, V.s a0.other, sL eST a0.kids]])], N := [102] } (by kernel_rfl) (W.vecEq 102 (nn := true) (e := 88) (k := 5) (rows := [[V.i a0.kind, V.i a0.op, V.s a0.text, V.s a0.other, sL eST a0.kids]]) (rows' := [a0].map eST) (by kernel_rfl) (by simp only [List.map_cons, List.map_nil, encSTree_eq]) (wR 2 103 ?_)))
  exact fI
  ) ?_
 refine CO.lay (tl 6 [(2, .loc 101 0)]) [(101, .cells 88 [V.i 11, V.i 61, V.s [], V.s [], .sl false false ([a0].map eST)])] (LayOk.cons (j := 102) eST eST ([a0] : LS) (by kernel_rfl) (share_encSTree) lO) (by kernel_rfl) (by kernel_rfl) (by kernel_rfl) (CO.ret ?_)
 have h := sI h
 subst h
 exact eG [] (.inr rfl) (RetV.one rfl (OneR.cell Dk (r := .agg [V.i 11, V.i 61, V.s [], V.s [], .sl false false ([a0].map eST)]) (i := 101) (ety := 88) (cs := [V.i 11, V.i 61, V.s [], V.s [], .sl false false ([a0].map eST)]) (by kernel_rfl) (by kernel_rfl) (by kernel_rfl)))

theorem mi_tree__with_ok (a0 : STree) (a1 : LS) {r : STree} (h : mi_tree__with a0 a1 = some r) :
    AC Tryz.prog (GS []) 156 [.agg [V.i a0.kind, V.i a0.op, V.s a0.text, V.s a0.other, sL eST a0.kids], sL eST a1] [] (.agg [V.i r.kind, V.i r.op, V.s r.text, V.s r.other, sL eST r.kids]) [] := by
 rw [mi_tree__with] at h
 refine AC.enter Tryz.func156 rfl (cV 100 (cV 102 (cV 102 (CO.ret ?_))))
 have h := sI h
 subst h
 exact eG [] (.inr rfl) (RetV.one rfl (OneR.cell Dk (r := .agg [V.i a0.kind, V.i a0.op, V.s a0.text, V.s a0.other, sL eST a1]) (i := 101) (ety := 88) (cs := [V.i a0.kind, V.i a0.op, V.s a0.text, V.s a0.other, sL eST a1]) (by kernel_rfl) (by kernel_rfl) (by kernel_rfl)))

structure RecOk7 (R : Rec7) : Prop where
 mi_tree__negated : ∀ (a0 : STree) (r : STree), R.mi_tree__negated a0 = some r → AC Tryz.prog (GS []) 97 [.agg [V.i a0.kind, V.i a0.op, V.s a0.text, V.s a0.other, sL eST a0.kids]] [] (.agg [V.i r.kind, V.i r.op, V.s r.text, V.s r.other, sL eST r.kids]) []
 mi_tree__pushed : ∀ (a0 : STree) (r : STree), R.mi_tree__pushed a0 = some r → AC Tryz.prog (GS []) 96 [.agg [V.i a0.kind, V.i a0.op, V.s a0.text, V.s a0.other, sL eST a0.kids]] [] (.agg [V.i r.kind, V.i r.op, V.s r.text, V.s r.other, sL eST r.kids]) []

theorem mi_tree__negated_F_ok (N : Nat) (R : Rec7) (HR : RecOk7 R) (a0 : STree) {r : STree} (h : mi_tree__negated_F N R a0 = some r) :
    AC Tryz.prog (GS []) 97 [.agg [V.i a0.kind, V.i a0.op, V.s a0.text, V.s a0.other, sL eST a0.kids]] [] (.agg [V.i r.kind, V.i r.op, V.s r.text, V.s r.other, sL eST r.kids]) [] := by
 rw [mi_tree__negated_F] at h
 refine AC.enter Tryz.func97 rfl (cV 100 (CO.seq' (CO.block' (bB h fun r48 hx61 h => (cC 1 102 (mi_tree__isNot_ok a0 hx61) cok155 ?_)))))
 refine cI h (fun _ h => ?_) (fun _ h => ?_)
 ·refine bB h fun e50 hx64 h => (CO.sw mix (wR 2 102 (W.ixDr Dk eST hx64 5 (by kernel_rfl) (encSTree_eq e50) (by kernel_rfl) (wR 3 102 (wF (CO.seq' (bB h fun y63 hv84 h => ?_)))))))
  refine CO.cutR (tl 63 [(2, .loc 100 0), (3, .loc 101 0), (22, V.b y63)]) [(100, .cells 88 [V.i 0, V.i 0, V.s [], V.s [], .c (.slice none 0 0)]), (101, .cells 88 [V.i e50.kind, V.i e50.op, V.s e50.text, V.s e50.other, sL eST e50.kids])] mix (by
   refine wR 1 103 (bB hv84 fun r64 hx85 hv84 => (w0 (mi_tree__isNot_ok e50 hx85) cok155 (wR 1 103 ?_)))
   refine wJ 15 hv84 (fun hv84 => ?_) (fun hv84 => ?_)
   ·refine wR 7 103 ?_
    cases hv84
    exact fS [(101, 100), (102, 101)] [2, 3, 22]
   refine wR 1 103 (bB hv84 fun r65 hx87 hv84 => (w0 (mi_tree__isCompared_ok e50 hx87) cok157 (wR 2 103 ?_)))
   refine wJ 19 hv84 (fun hv84 => ?_) (fun hv84 => ?_)
   ·refine wR 3 103 ?_
    cases hv84
    exact fS [(101, 100), (102, 101)] [2, 3, 22]
   refine wR 1 103 (bB hv84 fun r66 hx89 hv84 => (w0 (mi_tree__isLogic_ok e50 hx89) cok158 (wR 1 103 ?_)))
   cases hv84
   exact fS [(101, 100), (102, 101)] [2, 3, 22]
   ) ?_
  refine cI h (fun _ h => ?_) (fun _ h => ?_)
  ·refine bB h fun r68 hx92 h => (cC 1 103 (HR.mi_tree__pushed e50 _ hx92) cok96 (CO.ret ?_))
   have h := sI h
   subst h
   exact eG [] (.inr rfl) (RetV.one rfl (OneR.cell Dk (r := .agg [V.i r68.kind, V.i r68.op, V.s r68.text, V.s r68.other, sL eST r68.kids]) (i := 100) (ety := 88) (cs := [V.i r68.kind, V.i r68.op, V.s r68.text, V.s r68.other, sL eST r68.kids]) (by kernel_rfl) (by kernel_rfl) (by kernel_rfl)))
  refine CO.skip (bB h fun r72 hx96 h => (bB h fun r73 hx97 h => (bB h fun r74 hx98 h => (CO.sw mix (wR 1 103 (w0 (HR.mi_tree__pushed e50 _ hx96) cok96 (w0 (mi_not_ok r72 hx97) cok159 (w0 (mi_not_ok r73 hx98) cok159 ?_))))))))
  refine wR 1 103 (wF (CO.ret ?_))
  have h := sI h
  subst h
  exact eG [] (.inr rfl) (RetV.one rfl (OneR.cell Dk (r := .agg [V.i r74.kind, V.i r74.op, V.s r74.text, V.s r74.other, sL eST r74.kids]) (i := 100) (ety := 88) (cs := [V.i r74.kind, V.i r74.op, V.s r74.text, V.s r74.other, sL eST r74.kids]) (by kernel_rfl) (by kernel_rfl) (by kernel_rfl)))
 refine bB h fun r76 hx100 h => (cC 1 102 (mi_tree__isCompared_ok a0 hx100) cok157 ?_)
 refine cI h (fun _ h => ?_) (fun _ h => ?_)
 ·refine bB h fun r78 hx103 h => (cC 1 102 (HR.mi_tree__pushed a0 _ hx103) cok96 (bB h fun r80 hx105 h => (cC 2 103 (mi_opposite_ok a0.op hx105) cok160 (cV 103 (CO.ret ?_)))))
  have h := sI h
  subst h
  exact eG [] (.inr rfl) (RetV.one rfl (OneR.cell Dk (r := .agg [V.i r78.kind, V.i r80, V.s r78.text, V.s r78.other, sL eST r78.kids]) (i := 101) (ety := 88) (cs := [V.i r78.kind, V.i r80, V.s r78.text, V.s r78.other, sL eST r78.kids]) (by kernel_rfl) (by kernel_rfl) (by kernel_rfl)))
 refine bB h fun r82 hx107 h => (cC 1 102 (mi_tree__isLogic_ok a0 hx107) cok158 ?_)
 refine cI h (fun _ h => ?_) (fun _ h => ?_)
 ·refine bB h fun e88 hx114 h => (bB h fun r89 hx115 h => (bB h fun e90 hx116 h => (bB h fun r91 hx117 h => (bB h fun r92 hx118 h => (CO.sw mix (wR 3 102 (W.ixDr Dk eST hx114 5 (by kernel_rfl) (encSTree_eq e88) (by kernel_rfl) (wR 1 102 ?_))))))))
  refine w0 (HR.mi_tree__negated e88 _ hx115) cok97 (wR 2 102 (W.ixDr Dk eST hx116 5 (by kernel_rfl) (encSTree_eq e90) (by kernel_rfl) (wR 1 102 (w0 (HR.mi_tree__negated e90 _ hx117) cok97 (W.layop Dk lO (by kernel_rfl) 102 { v := .own 102, R := [], new := [(102, .vec true 88 5 [[V.i r89.kind, V.i r89.op, V.s r89.text, V.s r89.other, sL eST r89.kids], [V.i r91.kind, V.i r91.op, V.s r91.text, V.s r91.other, sL eST r91.kids]])], N := [102] } (by kernel_rfl) (W.vecEq 102 (nn := true) (e := 88) (k := 5) (rows := [[V.i r89.kind, V.i r89.op, V.s r89.text, V.s r89.other, sL eST r89.kids], [V.i r91.kind, V.i r91.op, V.s r91.text, V.s r91.other, sL eST r91.kids]]) (rows' := [r89, r91].map eST) (by kernel_rfl) (by simp only [List.map_cons, List.map_nil, encSTree_eq]) (wD (mi_tree__with_ok a0 [r89, r91] hx118) cok156 [] [] [] (LayOk.cons (j := 102) eST eST ([r89, r91] : LS) (by kernel_rfl) (share_encSTree) lO) (wR 2 103 ?_))))))))
  refine wF (cV 104 (cV 104 (CO.ret ?_)))
  have h := sI h
  subst h
  exact eG [] (.inr rfl) (RetV.one rfl (OneR.cell Dk (r := .agg [V.i r92.kind, V.i (wr (89 - a0.op)), V.s r92.text, V.s r92.other, sL eST r92.kids]) (i := 101) (ety := 88) (cs := [V.i r92.kind, V.i (wr (89 - a0.op)), V.s r92.text, V.s r92.other, sL eST r92.kids]) (by kernel_rfl) (by kernel_rfl) (by kernel_rfl)))
 refine CO.skip (bB h fun r95 hx121 h => (bB h fun r96 hx122 h => (CO.sw mix (wR 1 102 (w0 (HR.mi_tree__pushed a0 _ hx121) cok96 (w0 (mi_not_ok r95 hx122) cok159 (wR 1 102 (wF ?_))))))))
 refine CO.ret ?_
 have h := sI h
 subst h
 exact eG [] (.inr rfl) (RetV.one rfl (OneR.cell Dk (r := .agg [V.i r96.kind, V.i r96.op, V.s r96.text, V.s r96.other, sL eST r96.kids]) (i := 101) (ety := 88) (cs := [V.i r96.kind, V.i r96.op, V.s r96.text, V.s r96.other, sL eST r96.kids]) (by kernel_rfl) (by kernel_rfl) (by kernel_rfl)))

theorem mi_tree__pushed_F_ok (N : Nat) (R : Rec7) (HR : RecOk7 R) (a0 : STree) {r : STree} (h : mi_tree__pushed_F N R a0 = some r) :
    AC Tryz.prog (GS []) 96 [.agg [V.i a0.kind, V.i a0.op, V.s a0.text, V.s a0.other, sL eST a0.kids]] [] (.agg [V.i r.kind, V.i r.op, V.s r.text, V.s r.other, sL eST r.kids]) [] := by
 rw [mi_tree__pushed_F] at h
 refine AC.enter Tryz.func96 rfl (cV 100 (CO.seq' (bB h fun r8 hx9 h => (cC 1 102 (mi_tree__isNot_ok a0 hx9) cok155 ?_))))
 refine cI h (fun _ h => ?_) (fun _ h => ?_)
 ·refine bB h fun e11 hx13 h => (bB h fun r12 hx14 h => (CO.sw mix (wR 2 102 (W.ixDr Dk eST hx13 5 (by kernel_rfl) (encSTree_eq e11) (by kernel_rfl) (wR 1 102 (w0 (HR.mi_tree__negated e11 _ hx14) cok97 (wR 1 102 (wF ?_))))))))
  refine CO.ret ?_
  have h := sI h
  subst h
  exact eG [] (.inr rfl) (RetV.one rfl (OneR.cell Dk (r := .agg [V.i r12.kind, V.i r12.op, V.s r12.text, V.s r12.other, sL eST r12.kids]) (i := 101) (ety := 88) (cs := [V.i r12.kind, V.i r12.op, V.s r12.text, V.s r12.other, sL eST r12.kids]) (by kernel_rfl) (by kernel_rfl) (by kernel_rfl)))
 refine CO.skip (CO.sw mix (W.layop Dk lO (by kernel_rfl) 102 { v := .own 102, R := [], new := [(102, .vec true 88 5 [])], N := [102] } (by kernel_rfl) (W.vecEq 102 (nn := true) (e := 88) (k := 5) (rows := []) (rows' := [].map eST) (by kernel_rfl) rfl (wR 1 103 (wF (CO.seq' (CO.sw mix (wR 2 103 ?_))))))))
 refine wN eST a0.kids [] (wR 1 103 (wF (CO.block' (CO.loopJ (fun (⟨a0, y65, y66⟩ : (STree × Int × LS)) => ⟨tl 30 [(1, .loc 100 0), (2, .loc 101 0), (3, .own 102), (15, sL eST a0.kids), (16, V.i (a0.kids.length : Int)), (17, V.i y65)], [(100, .cells 88 [V.i a0.kind, V.i a0.op, V.s a0.text, V.s a0.other, sL eST a0.kids]), (101, .cells 88 [V.i 0, V.i 0, V.s [], V.s [], .c (.slice none 0 0)]), (102, vX 88 5 eST y66)]⟩) (fun n i => mi_tree__pushed_l1 N R n i = some r) (n0 := N) (i0 := (a0, 0, [])) (wS [(100, 100), (101, 101), (102, 102)] [1, 2, 3, 15, 16, 17]) h (fun i h => by simp [mi_tree__pushed_l1] at h) ?_))))
 rintro n1 ⟨a0, y65, y66⟩ h87 ih88
 rw [mi_tree__pushed_l1] at h87
 refine cV 169 (CO.seq' ?_)
 refine cI h87 (fun _ h87 => ?_) (fun _ h87 => ?_)
 ·refine CO.skip (CO.seq' (CO.block' (bB h87 fun e88 hx98 h87 => (CO.sw mix (W.ixDr Dk eST hx98 5 (by kernel_rfl) (encSTree_eq e88) (by kernel_rfl) (wR 3 169 (wF (bB h87 fun r91 hx101 h87 => ?_))))))))
  refine bB h87 fun x92 hx102 h87 => ?_
  refine CO.endR (tl 30 [(1, .loc 100 0), (2, .loc 101 0), (3, .own 171), (15, sL eST a0.kids), (16, V.i (a0.kids.length : Int)), (17, V.i y65)]) [(171, vX 88 5 eST x92), (100, .cells 88 [V.i a0.kind, V.i a0.op, V.s a0.text, V.s a0.other, sL eST a0.kids]), (101, .cells 88 [V.i 0, V.i 0, V.s [], V.s [], .c (.slice none 0 0)])] mix (by
   refine wR 2 170 (w0 (HR.mi_tree__pushed e88 _ hx101) cok96 (W.layop Dk lO (by kernel_rfl) 170 { v := .own 170, R := [], new := [(170, .vec true 88 5 [[V.i r91.kind, V.i r91.op, V.s r91.text, V.s r91.other, sL eST r91.kids]])], N := [170] } (by kernel_rfl) (W.vecEq 170 (nn := true) (e := 88) (k := 5) (rows := [[V.i r91.kind, V.i r91.op, V.s r91.text, V.s r91.other, sL eST r91.kids]]) (rows' := [r91].map eST) (by kernel_rfl) (by simp only [List.map_cons, List.map_nil, encSTree_eq]) (W.appO Dk eST (a := 102) (c := 170) (el := 88) (sz := 5) 72 hx102 rfl 171 (by kernel_rfl) (wR 1 172 ?_)))))
   exact fI
   ) (fun st hw => ?_)
  refine CO.weak hw ?_
  exact cK 172 ih88 (a0, (wr (y65 + 1)), x92) h87 [(100, 100), (101, 101), (171, 102)] [1, 2, 3, 15, 16, 17]
 refine CO.exit (bB h87 fun r94 hx104 h87 => (CO.sw mix (wR 2 169 (wD (mi_tree__with_ok a0 y66 hx104) cok156 [] [] [] (LayOk.cons (j := 102) eST eST y66 (by kernel_rfl) (share_encSTree) lO) (wR 1 169 (wF (CO.ret ?_)))))))
 have h87 := sI h87
 subst h87
 exact eG [] (.inr rfl) (RetV.one rfl (OneR.cell Dk (r := .agg [V.i r94.kind, V.i r94.op, V.s r94.text, V.s r94.other, sL eST r94.kids]) (i := 101) (ety := 88) (cs := [V.i r94.kind, V.i r94.op, V.s r94.text, V.s r94.other, sL eST r94.kids]) (by kernel_rfl) (by kernel_rfl) (by kernel_rfl)))

theorem scc7_ok : ∀ N, RecOk7 (scc7 N)
 | 0 => ⟨fun _ _ h => (by cases h), fun _ _ h => (by cases h)⟩
 | N + 1 => ⟨fun a0 _ h => mi_tree__negated_F_ok N (scc7 N) (scc7_ok N) a0 h, fun a0 _ h => mi_tree__pushed_F_ok N (scc7 N) (scc7_ok N) a0 h⟩

theorem mi_tree__negated_ok (N : Nat) (a0 : STree) {r : STree} (h : mi_tree__negated N a0 = some r) :
  AC Tryz.prog (GS []) 97 [.agg [V.i a0.kind, V.i a0.op, V.s a0.text, V.s a0.other, sL eST a0.kids]] [] (.agg [V.i r.kind, V.i r.op, V.s r.text, V.s r.other, sL eST r.kids]) [] :=
 (scc7_ok N).mi_tree__negated a0 r h
theorem mi_tree__pushed_ok (N : Nat) (a0 : STree) {r : STree} (h : mi_tree__pushed N a0 = some r) :
  AC Tryz.prog (GS []) 96 [.agg [V.i a0.kind, V.i a0.op, V.s a0.text, V.s a0.other, sL eST a0.kids]] [] (.agg [V.i r.kind, V.i r.op, V.s r.text, V.s r.other, sL eST r.kids]) [] :=
 (scc7_ok N).mi_tree__pushed a0 r h

structure RecOk8 (R : Rec8) : Prop where
 mi_tree__add : ∀ (a0 : STree) (p0 : LN) (r : LN), R.mi_tree__add a0 p0 = some r → AC Tryz.prog (GS []) 149 [.agg [V.i a0.kind, V.i a0.op, V.s a0.text, V.s a0.other, sL eST a0.kids], .own 0] [(0, .vec false 37 5 (p0.map (eSN true)))] (.own 100) [(100, .vec false 37 5 (r.map (eSN true)))]

theorem mi_tree__add_F_ok (N : Nat) (R : Rec8) (HR : RecOk8 R) (a0 : STree) (p0 : LN) {r : LN} (h : mi_tree__add_F N R a0 p0 = some r) :
    AC Tryz.prog (GS []) 149 [.agg [V.i a0.kind, V.i a0.op, V.s a0.text, V.s a0.other, sL eST a0.kids], .own 0] [(0, .vec false 37 5 (p0.map (eSN true)))] (.own 100) [(100, .vec false 37 5 (r.map (eSN true)))] := by
 rw [mi_tree__add_F] at h
 refine AC.enter Tryz.func149 rfl (cV 100 (cV 101 (CO.seq' (CO.sw mix (wR 2 102 (wN eST a0.kids [] (wR 1 102 (wF ?_))))))))
 refine CO.block' (CO.loopJ (fun (⟨a0, y59, y60, y61⟩ : (STree × Int × LN × (List Int))) => ⟨tl 40 [(1, .own 100), (5, .loc 101 0), (18, sL eST a0.kids), (19, V.i (a0.kids.length : Int)), (20, V.i y59)], [(100, .vec false 37 5 (y60.map (eSN true))), (101, .cells 37 [V.i a0.kind, V.i a0.op, V.s a0.text, V.s a0.other, .own 102]), (102, vX 3 1 eNI y61)]⟩) (fun n i => mi_tree__add_l1 N R n i = some r) (n0 := N) (i0 := (a0, 0, p0, [])) ((Weak.nilCell 101 4 102 3 1 (ety := 37) (cs := [V.i a0.kind, V.i a0.op, V.s a0.text, V.s a0.other, .c (.slice none 0 0)]) (by kernel_rfl) (by kernel_rfl) (by kernel_rfl)).trans (wS [(0, 100), (101, 101), (102, 102)] [1, 5, 18, 19, 20])) h (fun i h => by simp [mi_tree__add_l1] at h) ?_)
 rintro n1 ⟨a0, y59, y60, y61⟩ h77 ih78
 rw [mi_tree__add_l1] at h77
 refine cV 171 (CO.seq' ?_)
 refine cI h77 (fun _ h77 => ?_) (fun _ h77 => ?_)
 ·refine CO.skip (CO.seq' (CO.block' (bB h77 fun e84 hx88 h77 => (CO.sw mix (W.ixDr Dk eST hx88 5 (by kernel_rfl) (encSTree_eq e84) (by kernel_rfl) (wR 3 171 (wF (bB h77 fun r86 hx90 h77 => ?_))))))))
  refine CO.sw mix (wR 2 172 (wC (HR.mi_tree__add e84 y60 _ hx90) cok149 [(100, 0)] [(100, 172)] [172] (wR 1 173 (wF (bB h77 fun x88 hx92 h77 => ?_)))))
  refine CO.endR (tl 40 [(1, .own 172), (5, .loc 101 0), (18, sL eST a0.kids), (19, V.i (a0.kids.length : Int)), (20, V.i y59)]) [(101, .cells 37 [V.i a0.kind, V.i a0.op, V.s a0.text, V.s a0.other, .own 174]), (174, vX 3 1 eNI x88), (172, .vec false 37 5 (r86.map (eSN true)))] mix (by
   refine wR 3 173 (wN (eSN true) r86 [172] (wR 2 173 (W.appO Dk eNI (a := 102) (c := 173) (el := 3) (sz := 1) 8 hx92 rfl 174 (by kernel_rfl) (wR 2 175 ?_))))
   exact fI
   ) (fun st hw => ?_)
  refine CO.weak hw ?_
  exact cK 175 ih78 (a0, (wr (y59 + 1)), r86, x88) h77 [(172, 100), (101, 101), (174, 102)] [1, 5, 18, 19, 20]
 refine CO.exit (bB h77 fun x90 hx94 h77 => (CO.sw mix (wR 3 171 (W.appO Dk (eSN true) (a := 100) (c := 171) (el := 37) (sz := 5) 72 hx94 rfl 172 (by kernel_rfl) (wR 1 173 (wF (CO.ret ?_)))))))
 cases h77
 exact eG [(172, 100)] (.inr rfl) (RetV.one rfl (oT (t := 4) (r := .own 172)))

theorem scc8_ok : ∀ N, RecOk8 (scc8 N)
 | 0 => ⟨fun _ _ _ h => (by cases h)⟩
 | N + 1 => ⟨fun a0 p0 _ h => mi_tree__add_F_ok N (scc8 N) (scc8_ok N) a0 p0 h⟩

theorem mi_tree__add_ok (N : Nat) (a0 : STree) (p0 : LN) {r : LN} (h : mi_tree__add N a0 p0 = some r) :
  AC Tryz.prog (GS []) 149 [.agg [V.i a0.kind, V.i a0.op, V.s a0.text, V.s a0.other, sL eST a0.kids], .own 0] [(0, .vec false 37 5 (p0.map (eSN true)))] (.own 100) [(100, .vec false 37 5 (r.map (eSN true)))] :=
 (scc8_ok N).mi_tree__add a0 p0 r h

theorem mi_tree__list_ok (N : Nat) (a0 : STree) {r : LN} (h : mi_tree__list N a0 = some r) :
    AC Tryz.prog (GS []) 92 [.agg [V.i a0.kind, V.i a0.op, V.s a0.text, V.s a0.other, sL eST a0.kids]] [] (.own 100) [(100, .vec false 37 5 (r.map (eSN true)))] := by
 rw [mi_tree__list] at h
 refine AC.enter Tryz.func92 rfl (cV 100 (bB h fun r2 hx2 h => (CO.sw mix (wR 1 101 (W.callK (AC.nilArg 1 0 37 5 (mi_tree__add_ok N a0 [] hx2) (by kernel_rfl) (by kernel_rfl) (by kernel_rfl) (by kernel_rfl) rfl) cok149 [] [(100, 101)] [1] [101] lO (by kernel_rfl) (by kernel_rfl) (wR 1 102 (wF (CO.ret ?_))))))))
 cases h
 exact eG [(101, 100)] (.inr rfl) (RetV.one rfl (oT (t := 2) (r := .own 101)))

theorem m_slices_Clone_int_nil : AC Tryz.prog (GS []) 144 [.c (.slice none 0 0)] [] (.own 100) [(100, vX 3 1 eNI ([] : List Int))] := by
 refine AC.enter Tryz.func144 rfl ?_
 refine CO.cutR (tl 8 [(0, .c (.slice none 0 0))]) [] mix (by
   refine wR 1 100 ?_
   exact W.fin (by decide) (by kernel_rfl) (wS [] [0])
   ) ?_
 refine CO.seq' ?_
 refine CO.cutR (tl 8 [(0, .c (.slice none 0 0)), (4, V.b true)]) [] mix (by
   refine wR 1 100 (W.nilEq Dk true (by kernel_rfl) ?_)
   exact W.fin (by decide) (by kernel_rfl) (wS [] [0, 4])
   ) ?_
 refine CO.ifT (c := true) rfl (by kernel_rfl) ?_
 refine CO.cutR (tl 8 [(2, .c (.slice none 0 0))]) [] mix (by
   refine wR 1 100 ?_
   exact W.fin (by decide) (by kernel_rfl) (wS [] [2])
   ) ?_
 refine CO.weak (Weak.nil 2 101 3 1 (by kernel_rfl) (by kernel_rfl)) (CO.ret ?_)
 exact eG [(101, 100)] (.inr rfl) (RetV.one rfl (oT (t := 2) (r := .own 101)))

theorem m_slices_Clone_int_nn (a0 : List Int) {r : (List Int)} (hx2 : app 8 [] a0 = some r) :
  AC Tryz.prog (GS []) 144 [.sl true false (a0.map eNI)] [] (.own 100) [(100, vX 3 1 eNI r)] := by
 refine AC.enter Tryz.func144 rfl ?_
 refine CO.cutR (tl 8 [(0, .sl true false (a0.map eNI))]) [] mix (by
   refine wR 1 100 ?_
   exact W.fin (by decide) (by kernel_rfl) (wS [] [0])
   ) ?_
 refine CO.seq' ?_
 refine CO.cutR (tl 8 [(0, .sl true false (a0.map eNI)), (4, V.b false)]) [] mix (by
   refine wR 1 100 (W.nilEq Dk false (by kernel_rfl) ?_)
   exact W.fin (by decide) (by kernel_rfl) (wS [] [0, 4])
   ) ?_
 refine CO.ifF (c := false) rfl (by kernel_rfl) (CO.skip (CO.weak (st' := ⟨tl 8 [(0, .sl true false (a0.map eNI)), (4, V.b false)], []⟩) (Weak.refl _) ?_))
 refine CO.cutR (tl 8 [(2, .own 101)]) [(101, vX 3 1 eNI r)] mix (by
   refine wR 2 100 (W.appD Dk eNI (a := 100) (el := 3) 8 hx2 rfl 101 1 (fun _ => by first | rfl | kernel_rfl) (by kernel_rfl) (wR 1 102 ?_))
   exact W.fin (by decide) (by kernel_rfl) (wS [(101, 101)] [2])
   ) ?_
 refine CO.ret ?_
 exact eG [(101, 100)] (.inr rfl) (RetV.one rfl (oT (t := 2) (r := .own 101)))

theorem m_slices_Clone_int_ok (a0 : List Int) {r : (List Int)} (h : m_slices_Clone_int a0 = some r) :
  AC Tryz.prog (GS []) 144 [sL eNI a0] [] (.own 100) [(100, vX 3 1 eNI r)] := by
 rw [m_slices_Clone_int] at h
 obtain ⟨x2, h2, h⟩ := bind_some h
 have h := sI h
 subst h
 refine AC.slCase (fun h0 => ?_) (m_slices_Clone_int_nn a0 h2)
 have ha : a0 = [] := by simpa using h0
 subst ha
 have hr : x2 = [] := by
  rw [app_some (by simp)] at h2
  simpa using h2.symm
 subst hr
 exact m_slices_Clone_int_nil

theorem mi_copyNodes_ok (N : Nat) (a0 : LN) {r : LN} (h : mi_copyNodes N a0 = some r) :
    AC Tryz.prog (GS []) 71 [.sl false false (a0.map (eSN false))] [] (.own 100) [(100, .vec false 37 5 (r.map (eSN true)))] := by
 rw [mi_copyNodes] at h
 refine AC.enter Tryz.func71 rfl (cV 100 (cV 100 (CO.seq' (CO.sw mix (wR 1 101 (wN (eSN false) a0 [] (wR 1 101 (wF ?_))))))))
 refine CO.block' (CO.loopJ (fun (⟨a0, y53, y54⟩ : (LN × Int × LN)) => ⟨tl 23 [(3, .own 100), (7, .sl false false (a0.map (eSN false))), (8, V.i (a0.length : Int)), (9, V.i y53)], [(100, .vec false 37 5 (y54.map (eSN true)))]⟩) (fun n i => mi_copyNodes_l1 N n i = some r) (n0 := N) (i0 := (a0, 0, [])) (wS [(100, 100)] [3, 7, 8, 9]) h (fun i h => by simp [mi_copyNodes_l1] at h) ?_)
 rintro n1 ⟨a0, y53, y54⟩ h73 ih74
 rw [mi_copyNodes_l1] at h73
 refine cV 169 (CO.seq' ?_)
 refine cI h73 (fun _ h73 => ?_) (fun _ h73 => ?_)
 ·refine CO.skip (CO.seq' (CO.block' (bB h73 fun e76 hx84 h73 => (CO.sw mix (wX (eSN false) hx84 5 (wR 3 169 (wF (bB h73 fun r78 hx86 h73 => ?_))))))))
  refine CO.sw mix (wR 2 170 (wC (m_slices_Clone_int_ok e76.Kids hx86) cok144 [] [(100, 170)] [170] (wR 2 171 (wF (bB h73 fun x80 hx88 h73 => ?_)))))
  refine CO.endR (tl 23 [(3, .own 172), (7, .sl false false (a0.map (eSN false))), (8, V.i (a0.length : Int)), (9, V.i y53)]) [(172, .vec false 37 5 (x80.map (eSN true)))] mix (by
   refine wR 3 171 (W.appO Dk (eSN true) (a := 100) (c := 171) (el := 37) (sz := 5) 72 hx88 rfl 172 (by kernel_rfl) (wR 1 173 ?_))
   exact fI
   ) (fun st hw => ?_)
  refine CO.weak hw ?_
  exact cK 173 ih74 (a0, (wr (y53 + 1)), x80) h73 [(172, 100)] [3, 7, 8, 9]
 refine CO.exit (cV 169 (CO.ret ?_))
 cases h73
 exact eG [(100, 100)] (.inr rfl) (RetV.one rfl (oT (t := 2) (r := .own 100)))

theorem mi_PushNot_ok (N : Nat) (a0 : LN) {r : LN} (h : mi_PushNot N a0 = some r) :
    AC Tryz.prog (GS [0, 1, 2]) 30 [.sl false false (a0.map (eSN false))] [] (.own 100) [(100, .vec false 37 5 (r.map (eSN true)))] := by
 rw [mi_PushNot] at h
 refine AC.enter Tryz.func30 rfl (cV 100 (CO.seq' (bB h fun r4 hx5 h => (cC 1 100 (mi_TreeOk_ok N a0 hx5) cok51 ?_))))
 refine cI h (fun _ h => ?_) (fun _ h => ?_)
 ·refine cV 100 (CO.weak (Weak.nil 2 100 37 5 (by kernel_rfl) (by kernel_rfl)) (CO.ret ?_))
  cases h
  exact eG [(100, 100)] (.inr rfl) (RetV.one rfl (oT (t := 2) (r := .own 100)))
 refine CO.skip (bB h fun r8 hx10 h => (bB h fun r9 hx11 h => (bB h fun r10 hx12 h => (CO.sw mix (wR 1 100 (w0 (AC.gs (mi_rootOf_ok N a0 hx10) (by decide)) cok76 (w0 (AC.gs (mi_tree__pushed_ok N r8 hx11) (by decide)) cok96 (wC (AC.gs (mi_tree__list_ok N r9 hx12) (by decide)) cok92 [] [(100, 100)] [100] ?_))))))))
 refine wR 1 101 (wF (CO.seq' (bB h fun r16 hx19 h => (CO.sw mix (wR 1 101 (W.lend (mi_TreeOk_ok N r10 hx19) cok51 [] [] (LayOk.cons (j := 100) (eSN true) (eSN false) r10 (by kernel_rfl) (sh_eSN _) lO) (.c _) .nil (by kernel_rfl) (by kernel_rfl) (wR 1 101 (wF ?_))))))))
 refine cI h (fun _ h => ?_) (fun _ h => ?_)
 ·refine bB h fun r18 hx22 h => (CO.sw mix (wR 1 101 (wC (AC.gs (mi_copyNodes_ok N a0 hx22) (by decide)) cok71 [] [(100, 101)] [101] (wR 1 102 (wF (CO.ret ?_))))))
  cases h
  exact eG [(101, 100)] (.inr rfl) (RetV.one rfl (oT (t := 2) (r := .own 101)))
 refine CO.skip (cV 101 (CO.ret ?_))
 cases h
 exact eG [(100, 100)] (.inr rfl) (RetV.one rfl (oT (t := 2) (r := .own 100)))

theorem mi_ExprOk_ok (N : Nat) (a0 : LN) {r : Bool} (h : mi_ExprOk N a0 = some r) :
    AC Tryz.prog (GS [0, 1, 2]) 90 [.sl false false (a0.map (eSN false))] [] (V.b r) [] := by
 rw [mi_ExprOk] at h
 refine AC.enter Tryz.func90 rfl (cV 100 (bB h fun y4 hv5 h => ?_))
 refine CO.cutR (tl 15 [(2, V.b y4)]) [] mix (by
  refine wR 1 100 (bB hv5 fun r5 hx6 hv5 => (w0 (mi_TreeOk_ok N a0 hx6) cok51 (wR 1 100 ?_)))
  refine wJ 5 hv5 (fun hv5 => ?_) (fun hv5 => ?_)
  ·refine wR 2 100 (wN (eSN false) a0 [] (wR 1 100 (bB hv5 fun e6 hx8 hv5 => (wX (eSN false) hx8 5 (wR 2 100 (bB hv5 fun r7 hx9 hv5 => (w0 (AC.gs (mi_IsExpr_ok e6.Kind hx9) (by decide)) cok122 (wR 2 100 ?_))))))))
   cases hv5
   exact fS [] [2]
  refine wR 10 100 ?_
  cases hv5
  exact fS [] [2]
  ) ?_
 cases h
 exact e1 2 id

theorem mi_Negate_ok (N : Nat) (a0 : LN) {r : LN} (h : mi_Negate N a0 = some r) :
    AC Tryz.prog (GS [0, 1, 2]) 31 [.sl false false (a0.map (eSN false))] [] (.own 100) [(100, .vec false 37 5 (r.map (eSN true)))] := by
 rw [mi_Negate] at h
 refine AC.enter Tryz.func31 rfl (cV 100 (CO.seq' (bB h fun r4 hx5 h => (cC 1 100 (mi_ExprOk_ok N a0 hx5) cok90 ?_))))
 refine cI h (fun _ h => ?_) (fun _ h => ?_)
 ·refine cV 100 (CO.weak (Weak.nil 2 100 37 5 (by kernel_rfl) (by kernel_rfl)) (CO.ret ?_))
  cases h
  exact eG [(100, 100)] (.inr rfl) (RetV.one rfl (oT (t := 2) (r := .own 100)))
 refine CO.skip (bB h fun r8 hx10 h => (bB h fun r9 hx11 h => (bB h fun r10 hx12 h => (CO.sw mix (wR 1 100 (w0 (AC.gs (mi_rootOf_ok N a0 hx10) (by decide)) cok76 (w0 (AC.gs (mi_tree__negated_ok N r8 hx11) (by decide)) cok97 (wC (AC.gs (mi_tree__list_ok N r9 hx12) (by decide)) cok92 [] [(100, 100)] [100] ?_))))))))
 refine wR 1 101 (wF (CO.seq' (bB h fun r14 hx17 h => (CO.sw mix (wR 1 101 (W.lend (mi_TreeOk_ok N r10 hx17) cok51 [] [] (LayOk.cons (j := 100) (eSN true) (eSN false) r10 (by kernel_rfl) (sh_eSN _) lO) (.c _) .nil (by kernel_rfl) (by kernel_rfl) (wR 1 101 (wF ?_))))))))
 refine cI h (fun _ h => ?_) (fun _ h => ?_)
 ·refine cV 101 (CO.weak (Weak.nil 2 101 37 5 (by kernel_rfl) (by kernel_rfl)) (CO.ret ?_))
  cases h
  exact eG [(101, 100)] (.inr rfl) (RetV.one rfl (oT (t := 2) (r := .own 101)))
 refine CO.skip (cV 101 (CO.ret ?_))
 cases h
 exact eG [(100, 100)] (.inr rfl) (RetV.one rfl (oT (t := 2) (r := .own 100)))

theorem ms_l1In_ok (a0 : Int) (a1 : Int) (a2 : Int) {r : Bool} (h : ms_l1In a0 a1 a2 = some r) :
    AC Tryz.prog (GS []) 77 [V.i a0, V.i a1, V.i a2] [] (V.b r) [] := by
 rw [ms_l1In] at h
 refine AC.enter Tryz.func77 rfl (cV 100 (bB h fun y1 hv2 h => ?_))
 refine CO.cutR (tl 15 [(6, V.b y1)]) [] mix (by
  refine wR 4 100 ?_
  refine wJ 10 hv2 (fun hv2 => ?_) (fun hv2 => ?_)
  ·refine wR 5 100 ?_
   cases hv2
   exact fS [] [6]
  refine wR 5 100 ?_
  cases hv2
  exact fS [] [6]
  ) ?_
 cases h
 exact e1 6 id

theorem ms_l6Starts_ok (N : Nat) (a0 : LN) {r : ((List Int) × Bool)} (h : ms_l6Starts N a0 = some r) :
    AC Tryz.prog (GS []) 131 [.sl false false (a0.map (eSN false))] [] (.tup [.own 100, V.b r.2]) [(100, vX 3 1 eNI r.1)] := by
 rw [ms_l6Starts] at h
 refine AC.enter Tryz.func131 rfl (cV 100 (cV 100 (CO.seq' (cV 101 (CO.block' (CO.loopJ (fun (⟨a0, y917, y918⟩ : (LN × Int × (List Int))) => ⟨tl 53 [(0, .sl false false (a0.map (eSN false))), (4, .own 100), (5, V.i y917)], [(100, vX 3 1 eNI y918)]⟩) (fun n i => ms_l6Starts_l1 N n i = some r) (n0 := N) (i0 := (a0, 0, [])) (wS [(100, 100)] [0, 4, 5]) h (fun i h => by simp [ms_l6Starts_l1] at h) ?_))))))
 rintro n1 ⟨a0, y917, y918⟩ h1961 ih1962
 rw [ms_l6Starts_l1] at h1961
 refine CO.seq' (CO.sw mix (wR 2 245 (wN (eSN false) a0 [] (wR 1 245 (wF ?_)))))
 refine cI h1961 (fun _ h1961 => ?_) (fun _ h1961 => ?_)
 ·refine CO.skip (CO.seq' (CO.block' (cV 245 (CO.seq' (bB h1961 fun e1474 hx2322 h1961 => (CO.sw mix (wR 2 245 (wX (eSN false) hx2322 5 ?_))))))))
  refine wR 2 245 (wN eNI e1474.Kids [] (wR 2 245 (wF (CO.block' (CO.loopJ (fun (⟨a0, y917, y918, y1499, y1500⟩ : (LN × Int × (List Int) × Int × Int)) => ⟨tl 53 [(0, .sl false false (a0.map (eSN false))), (4, .own 100), (5, V.i y917), (6, V.i y1499), (7, V.i y1500)], [(100, vX 3 1 eNI y918)]⟩) (fun n i => ms_l6Starts_l2 N (ms_l6Starts_l1 N n1) n i = some r) (n0 := N) (i0 := (a0, y917, y918, y917, (wr ((e1474.Kids.length : Int) - 1)))) (wS [(100, 100)] [0, 4, 5, 6, 7]) h1961 (fun i h => by simp [ms_l6Starts_l2] at h) ?_)))))
  rintro n2 ⟨a0, y917, y918, y1499, y1500⟩ h2399 ih2400
  rw [ms_l6Starts_l2] at h2399
  refine CO.seq' (cV 305 ?_)
  refine cI h2399 (fun _ h2399 => ?_) (fun _ h2399 => ?_)
  ·refine CO.skip (CO.seq' (CO.block' (CO.seq' (bB h2399 fun y1546 hv2432 h2399 => ?_))))
   refine CO.cutR (tl 53 [(0, .sl false false (a0.map (eSN false))), (4, .own 100), (5, V.i y917), (6, V.i y1499), (7, V.i y1500), (41, V.b y1546)]) [(100, vX 3 1 eNI y918)] mix (by
    refine wR 2 305 (bB hv2432 fun e1547 hx2433 hv2432 => (wX (eSN false) hx2433 5 (wR 3 305 (bB hv2432 fun e1548 hx2434 hv2432 => (wX eNI hx2434 1 (wR 5 305 ?_))))))
    refine wJ 38 hv2432 (fun hv2432 => ?_) (fun hv2432 => ?_)
    ·refine wR 3 305 ?_
     cases hv2432
     exact fS [(100, 100)] [0, 4, 5, 6, 7, 41]
    refine wR 3 305 ?_
    cases hv2432
    exact fS [(100, 100)] [0, 4, 5, 6, 7, 41]
    ) ?_
   refine cI h2399 (fun _ h2399 => ?_) (fun _ h2399 => ?_)
   ·refine cV 305 (CO.ret ?_)
    cases h2399
    exact eG [(305, 100)] (.inr rfl) (RetV.two rfl (oT (t := 2) (r := .own 305)) (oT (t := 3) (r := V.b false)))
   refine CO.skip (bB h2399 fun e1550 hx2438 h2399 => ?_)
   refine CO.endR (tl 53 [(0, .sl false false (a0.map (eSN false))), (4, .own 100), (5, V.i y917), (6, V.i e1550), (7, V.i y1500)]) [(100, vX 3 1 eNI y918)] mix (by
    refine wR 3 305 (W.ixO Dk eNI hx2438 100 1 (by kernel_rfl) (W.ldO Dk eNI hx2438 3 100 0 (V.i e1550) (by kernel_rfl) (by kernel_rfl) (wR 1 305 ?_)))
    exact fI
    ) (fun st hw => ?_)
   refine CO.weak hw ?_
   exact cK 305 ih2400 (a0, y917, y918, e1550, (wr (y1500 - 1))) h2399 [(100, 100)] [0, 4, 5, 6, 7]
  refine CO.exit (bB h2399 fun x1552 hx2440 h2399 => ?_)
  refine CO.endR (tl 53 [(0, .sl false false (a0.map (eSN false))), (4, .own 306), (5, V.i y917)]) [(306, vX 3 1 eNI x1552)] mix (by
   refine wR 3 305 (W.appO Dk eNI (a := 100) (c := 305) (el := 3) (sz := 1) 8 hx2440 rfl 306 (by kernel_rfl) (wR 1 307 ?_))
   exact fI
   ) (fun st hw => ?_)
  refine CO.weak hw ?_
  exact cK 307 ih1962 (a0, (wr (y917 + 1)), x1552) h2399 [(306, 100)] [0, 4, 5]
 refine CO.exit (cV 245 (CO.ret ?_))
 cases h1961
 exact eG [(100, 100)] (.inr rfl) (RetV.two rfl (oT (t := 2) (r := .own 100)) (oT (t := 3) (r := V.b true)))

theorem ms_ShapeOk_ok (N : Nat) (a0 : LN) {r : Bool} (h : ms_ShapeOk N a0 = some r) :
    AC Tryz.prog (GS []) 57 [.sl false false (a0.map (eSN false))] [] (V.b r) [] := by
 rw [ms_ShapeOk] at h
 refine AC.enter Tryz.func57 rfl (cV 100 (CO.seq' (bB h fun r4 hx5 h => (CO.sw mix (wR 1 100 (wN (eSN false) a0 [] (w0 (ms_l1In_ok (a0.length : Int) 1 400 hx5) cok77 (wR 1 100 ?_))))))))
 refine wF ?_
 refine cI h (fun _ h => ?_) (fun _ h => ?_)
 ·refine cV 100 ?_
  cases h
  exact e1 2 id
 refine CO.skip (bB h fun r6 hx8 h => (CO.sw mix (wR 1 100 (wC (ms_l6Starts_ok N a0 hx8) cok131 [] [(100, 100)] [100] (wR 5 101 (wF (bB h fun y8 hv11 h => ?_)))))))
 refine CO.cutR (tl 24 [(2, V.b y8)]) [] mix (by
  refine wR 2 101 ?_
  refine wJ 15 hv11 (fun hv11 => ?_) (fun hv11 => ?_)
  ·refine wR 2 101 (wN (eSN false) a0 [] (wR 1 101 (bB hv11 fun e9 hx13 hv11 => (W.ixO Dk eNI hx13 100 1 (by kernel_rfl) (W.ldO Dk eNI hx13 3 100 0 (V.i e9) (by kernel_rfl) (by kernel_rfl) (wR 3 101 ?_))))))
   cases hv11
   exact fS [] [2]
  refine wR 9 101 ?_
  cases hv11
  exact fS [] [2]
  ) ?_
 cases h
 exact e1 2 id

theorem ms_DepthOf_ok (N : Nat) (a0 : LN) {r : Int} (h : ms_DepthOf N a0 = some r) :
    AC Tryz.prog (GS []) 34 [.sl false false (a0.map (eSN false))] [] (V.i r) [] := by
 rw [ms_DepthOf] at h
 refine AC.enter Tryz.func34 rfl (cV 100 (CO.seq' (bB h fun r4 hx5 h => (cC 1 100 (ms_ShapeOk_ok N a0 hx5) cok57 ?_))))
 refine cI h (fun _ h => ?_) (fun _ h => ?_)
 ·refine cV 100 ?_
  cases h
  exact e1 2 id
 refine CO.skip (cV 100 (CO.seq' (cV 101 (CO.block' (CO.loopJ (fun (⟨a0, y857, y858⟩ : (LN × Int × (List Int))) => ⟨tl 51 [(0, .sl false false (a0.map (eSN false))), (3, .own 100), (4, V.i y857)], [(100, vX 3 1 eNI y858)]⟩) (fun n i => ms_DepthOf_l1 N n i = some r) (n0 := N) (i0 := (a0, 0, [])) (wS [(100, 100)] [0, 3, 4]) h (fun i h => by simp [ms_DepthOf_l1] at h) ?_)))))
 rintro n1 ⟨a0, y857, y858⟩ h1159 ih1160
 rw [ms_DepthOf_l1] at h1159
 refine CO.seq' (CO.sw mix (wR 2 285 (wN (eSN false) a0 [] (wR 1 285 (wF ?_)))))
 refine cI h1159 (fun _ h1159 => ?_) (fun _ h1159 => ?_)
 ·refine CO.skip (CO.seq' (CO.block' (cV 285 (CO.seq' (cV 285 (CO.block' (CO.loopJ (fun (⟨a0, y857, y858, y1247, y1248⟩ : (LN × Int × (List Int) × Int × Int)) => ⟨tl 51 [(0, .sl false false (a0.map (eSN false))), (3, .own 100), (4, V.i y857), (5, V.i y1247), (6, V.i y1248)], [(100, vX 3 1 eNI y858)]⟩) (fun n i => ms_DepthOf_l2 N (ms_DepthOf_l1 N n1) n i = some r) (n0 := N) (i0 := (a0, y857, y858, 1, 0)) (wS [(100, 100)] [0, 3, 4, 5, 6]) h1159 (fun i h => by simp [ms_DepthOf_l2] at h) ?_)))))))
  rintro n2 ⟨a0, y857, y858, y1247, y1248⟩ h1369 ih1370
  rw [ms_DepthOf_l2] at h1369
  refine CO.seq' (bB h1369 fun e1270 hx1375 h1369 => (CO.sw mix (wR 3 345 (wX (eSN false) hx1375 5 (wR 2 345 (wN eNI e1270.Kids [] (wR 1 345 (wF ?_))))))))
  refine cI h1369 (fun _ h1369 => ?_) (fun _ h1369 => ?_)
  ·refine CO.skip (CO.seq' (CO.block' (bB h1369 fun e1280 hx1386 h1369 => (bB h1369 fun e1281 hx1387 h1369 => (bB h1369 fun e1282 hx1388 h1369 => ?_)))))
   refine CO.endR (tl 51 [(0, .sl false false (a0.map (eSN false))), (3, .own 100), (4, V.i y857), (5, V.i (if (wr (1 + e1282)) > y1247 then (wr (1 + e1282)) else y1247)), (6, V.i y1248)]) [(100, vX 3 1 eNI y858)] mix (by
    refine wR 4 345 (wX (eSN false) hx1386 5 (wR 3 345 (wX eNI hx1387 1 (wR 1 345 (W.ixO Dk eNI hx1388 100 1 (by kernel_rfl) (W.ldO Dk eNI hx1388 3 100 0 (V.i e1282) (by kernel_rfl) (by kernel_rfl) (wR 3 345 ?_)))))))
    exact fI
    ) (fun st hw => ?_)
   refine CO.weak hw ?_
   exact cK 345 ih1370 (a0, y857, y858, (if (wr (1 + e1282)) > y1247 then (wr (1 + e1282)) else y1247), (wr (y1248 + 1))) h1369 [(100, 100)] [0, 3, 4, 5, 6]
  refine CO.exit (bB h1369 fun x1284 hx1390 h1369 => ?_)
  refine CO.endR (tl 51 [(0, .sl false false (a0.map (eSN false))), (3, .own 346), (4, V.i y857)]) [(346, vX 3 1 eNI x1284)] mix (by
   refine wR 3 345 (W.appO Dk eNI (a := 100) (c := 345) (el := 3) (sz := 1) 8 hx1390 rfl 346 (by kernel_rfl) (wR 1 347 ?_))
   exact fI
   ) (fun st hw => ?_)
  refine CO.weak hw ?_
  exact cK 347 ih1160 (a0, (wr (y857 + 1)), x1284) h1369 [(346, 100)] [0, 3, 4]
 refine CO.exit (bB h1159 fun e1286 hx1392 h1159 => (CO.sw mix (wR 2 285 (wN (eSN false) a0 [] (wR 1 285 (W.ixO Dk eNI hx1392 100 1 (by kernel_rfl) (W.ldO Dk eNI hx1392 3 100 0 (V.i e1286) (by kernel_rfl) (by kernel_rfl) (wR 1 285 ?_))))))))
 refine wF ?_
 cases h1159
 exact e1 2 id

theorem ms_l7Many_ok (a0 : SNode) {r : (Int × Int)} (h : ms_l7Many a0 = some r) :
    AC Tryz.prog (GS []) 132 [.agg [V.i a0.Kind, V.i a0.Op, V.s a0.Text, V.s a0.Other, sL eNI a0.Kids]] [] (.tup [V.i r.1, V.i r.2]) [] := by
 rw [ms_l7Many] at h
 refine AC.enter Tryz.func132 rfl (cV 100 (CO.seq' (cV 101 (CO.block' ?_))))
 refine CO.join (fun (⟨a0, y7⟩ : (SNode × Bool)) => ⟨tl 75 [(1, .loc 100 0), (6, V.i a0.Kind), (7, V.b y7)], [(100, .cells 37 [V.i a0.Kind, V.i a0.Op, V.s a0.Text, V.s a0.Other, sL eNI a0.Kids])]⟩) (fun i => ms_l7Many_k1 i = some r) ?_ ?_
 · rintro ⟨a0, y7⟩ h59
   rw [ms_l7Many_k1] at h59
   refine cI h59 (fun _ h59 => ?_) (fun _ h59 => ?_)
   ·refine cV 101 (CO.ret ?_)
    cases h59
    exact eG [] (.inr rfl) (RetV.two rfl (oT (t := 2) (r := V.i 1)) (oT (t := 3) (r := V.i 6)))
   refine CO.join (fun (⟨a0, y8⟩ : (SNode × Bool)) => ⟨tl 75 [(1, .loc 100 0), (6, V.i a0.Kind), (10, V.b y8)], [(100, .cells 37 [V.i a0.Kind, V.i a0.Op, V.s a0.Text, V.s a0.Other, sL eNI a0.Kids])]⟩) (fun i => ms_l7Many_k2 i = some r) ?_ ?_
   · rintro ⟨a0, y8⟩ h63
     rw [ms_l7Many_k2] at h63
     refine cI h63 (fun _ h63 => ?_) (fun _ h63 => ?_)
     ·refine cV 101 (CO.ret ?_)
      cases h63
      exact eG [] (.inr rfl) (RetV.two rfl (oT (t := 2) (r := V.i 0)) (oT (t := 3) (r := V.i 6)))
     refine CO.join (fun (⟨a0, y9⟩ : (SNode × Bool)) => ⟨tl 75 [(1, .loc 100 0), (6, V.i a0.Kind), (14, V.b y9)], [(100, .cells 37 [V.i a0.Kind, V.i a0.Op, V.s a0.Text, V.s a0.Other, sL eNI a0.Kids])]⟩) (fun i => ms_l7Many_k3 i = some r) ?_ ?_
     · rintro ⟨a0, y9⟩ h72
       rw [ms_l7Many_k3] at h72
       refine cI h72 (fun _ h72 => ?_) (fun _ h72 => ?_)
       ·refine cV 101 (CO.ret ?_)
        cases h72
        exact eG [] (.inr rfl) (RetV.two rfl (oT (t := 2) (r := V.i 1)) (oT (t := 3) (r := V.i 1)))
       refine CO.join (fun (⟨a0, y10⟩ : (SNode × Bool)) => ⟨tl 75 [(1, .loc 100 0), (6, V.i a0.Kind), (23, V.b y10)], [(100, .cells 37 [V.i a0.Kind, V.i a0.Op, V.s a0.Text, V.s a0.Other, sL eNI a0.Kids])]⟩) (fun i => ms_l7Many_k4 i = some r) ?_ ?_
       · rintro ⟨a0, y10⟩ h77
         rw [ms_l7Many_k4] at h77
         refine cI h77 (fun _ h77 => ?_) (fun _ h77 => ?_)
         ·refine cV 101 (CO.ret ?_)
          cases h77
          exact eG [] (.inr rfl) (RetV.two rfl (oT (t := 2) (r := V.i 2)) (oT (t := 3) (r := V.i 2)))
         refine cV 101 ?_
         refine cI h77 (fun _ h77 => ?_) (fun _ h77 => ?_)
         ·refine cV 101 (CO.ret ?_)
          cases h77
          exact eG [] (.inr rfl) (RetV.two rfl (oT (t := 2) (r := V.i 3)) (oT (t := 3) (r := V.i 3)))
         refine cV 101 ?_
         refine cI h77 (fun _ h77 => ?_) (fun _ h77 => ?_)
         ·refine cV 101 (CO.seq' (cV 101 ?_))
          refine cI h77 (fun _ h77 => ?_) (fun _ h77 => ?_)
          ·refine cV 101 (CO.ret ?_)
           have h77 := sI h77
           subst h77
           exact eG [] (.inr rfl) (RetV.two rfl (oT (t := 2) (r := V.i (wr (a0.Op + 1)))) (oT (t := 3) (r := V.i 7)))
          refine CO.skip (cV 101 (CO.ret ?_))
          have h77 := sI h77
          subst h77
          exact eG [] (.inr rfl) (RetV.two rfl (oT (t := 2) (r := V.i a0.Op)) (oT (t := 3) (r := V.i 6)))
         refine CO.join (fun (⟨a0, y11⟩ : (SNode × Bool)) => ⟨tl 75 [(1, .loc 100 0), (6, V.i a0.Kind), (40, V.b y11)], [(100, .cells 37 [V.i a0.Kind, V.i a0.Op, V.s a0.Text, V.s a0.Other, sL eNI a0.Kids])]⟩) (fun i => ms_l7Many_k5 i = some r) ?_ ?_
         · rintro ⟨a0, y11⟩ h84
           rw [ms_l7Many_k5] at h84
           refine cI h84 (fun _ h84 => ?_) (fun _ h84 => ?_)
           ·refine cV 101 (CO.ret ?_)
            cases h84
            exact eG [] (.inr rfl) (RetV.two rfl (oT (t := 2) (r := V.i 0)) (oT (t := 3) (r := V.i 1)))
           refine cV 101 ?_
           refine cI h84 (fun _ h84 => ?_) (fun _ h84 => ?_)
           ·refine cV 101 (CO.ret ?_)
            cases h84
            exact eG [] (.inr rfl) (RetV.two rfl (oT (t := 2) (r := V.i 2)) (oT (t := 3) (r := V.i 3)))
           refine cV 101 ?_
           refine cI h84 (fun _ h84 => ?_) (fun _ h84 => ?_)
           ·refine cV 101 (CO.ret ?_)
            cases h84
            exact eG [] (.inr rfl) (RetV.two rfl (oT (t := 2) (r := V.i 4)) (oT (t := 3) (r := V.i 4)))
           refine CO.join (fun (⟨a0, y12⟩ : (SNode × Bool)) => ⟨tl 75 [(1, .loc 100 0), (6, V.i a0.Kind), (47, V.b y12)], [(100, .cells 37 [V.i a0.Kind, V.i a0.Op, V.s a0.Text, V.s a0.Other, sL eNI a0.Kids])]⟩) (fun i => ms_l7Many_k6 i = some r) ?_ ?_
           · rintro ⟨a0, y12⟩ h89
             rw [ms_l7Many_k6] at h89
             refine cI h89 (fun _ h89 => ?_) (fun _ h89 => ?_)
             ·refine CO.sw mix (wR 2 101 (wN eNI a0.Kids [] (wR 2 101 (wF (CO.ret ?_)))))
              have h89 := sI h89
              subst h89
              exact eG [] (.inr rfl) (RetV.two rfl (oT (t := 2) (r := V.i 0)) (oT (t := 3) (r := V.i (a0.Kids.length : Int))))
             refine cV 101 ?_
             refine cI h89 (fun _ h89 => ?_) (fun _ h89 => ?_)
             ·refine cV 101 (CO.ret ?_)
              have h89 := sI h89
              subst h89
              exact eG [] (.inr rfl) (RetV.two rfl (oT (t := 2) (r := V.i (wr (1 + (wr (Int.tdiv a0.Op 3)))))) (oT (t := 3) (r := V.i (wr (1 + (wr (Int.tdiv a0.Op 3)))))))
             refine cV 101 ?_
             refine cI h89 (fun _ h89 => ?_) (fun _ h89 => ?_)
             ·refine cV 101 (CO.ret ?_)
              have h89 := sI h89
              subst h89
              exact eG [] (.inr rfl) (RetV.two rfl (oT (t := 2) (r := V.i (wr (2 + (wr (Int.tdiv a0.Op 3)))))) (oT (t := 3) (r := V.i (wr (2 + (wr (Int.tdiv a0.Op 3)))))))
             refine cV 101 ?_
             refine cI h89 (fun _ h89 => ?_) (fun _ h89 => ?_)
             ·refine cV 101 (CO.ret ?_)
              cases h89
              exact eG [] (.inr rfl) (RetV.two rfl (oT (t := 2) (r := V.i 1)) (oT (t := 3) (r := V.i 7)))
             refine CO.skip (cV 101 (CO.ret ?_))
             cases h89
             exact eG [] (.inr rfl) (RetV.two rfl (oT (t := 2) (r := V.i 0)) (oT (t := 3) (r := V.i 0)))
           intro hk94
           refine cV 101 ?_
           refine cI h84 (fun _ h84 => ?_) (fun _ h84 => ?_)
           ·exact sK hk94 (a0, (a0.Kind == 33)) h84 [(100, 100)] [1, 6, 47]
           exact cK 101 hk94 (a0, (a0.Kind == 45)) h84 [(100, 100)] [1, 6, 47]
         intro hk96
         refine cV 101 ?_
         refine cI h77 (fun _ h77 => ?_) (fun _ h77 => ?_)
         ·exact sK hk96 (a0, (a0.Kind == 23)) h77 [(100, 100)] [1, 6, 40]
         exact cK 101 hk96 (a0, (a0.Kind == 24)) h77 [(100, 100)] [1, 6, 40]
       intro hk98
       refine cV 101 ?_
       refine cI h72 (fun _ h72 => ?_) (fun _ h72 => ?_)
       ·exact sK hk98 (a0, (a0.Kind == 12)) h72 [(100, 100)] [1, 6, 23]
       refine cV 101 ?_
       refine cI h72 (fun _ h72 => ?_) (fun _ h72 => ?_)
       ·exact sK hk98 (a0, (a0.Kind == 15)) h72 [(100, 100)] [1, 6, 23]
       refine cV 101 ?_
       refine cI h72 (fun _ h72 => ?_) (fun _ h72 => ?_)
       ·exact sK hk98 (a0, (a0.Kind == 29)) h72 [(100, 100)] [1, 6, 23]
       exact cK 101 hk98 (a0, (a0.Kind == 30)) h72 [(100, 100)] [1, 6, 23]
     intro hk102
     refine cV 101 ?_
     refine cI h63 (fun _ h63 => ?_) (fun _ h63 => ?_)
     ·exact sK hk102 (a0, (a0.Kind == 6)) h63 [(100, 100)] [1, 6, 14]
     refine cV 101 ?_
     refine cI h63 (fun _ h63 => ?_) (fun _ h63 => ?_)
     ·exact sK hk102 (a0, (a0.Kind == 9)) h63 [(100, 100)] [1, 6, 14]
     refine cV 101 ?_
     refine cI h63 (fun _ h63 => ?_) (fun _ h63 => ?_)
     ·exact sK hk102 (a0, (a0.Kind == 10)) h63 [(100, 100)] [1, 6, 14]
     refine cV 101 ?_
     refine cI h63 (fun _ h63 => ?_) (fun _ h63 => ?_)
     ·exact sK hk102 (a0, (a0.Kind == 11)) h63 [(100, 100)] [1, 6, 14]
     refine cV 101 ?_
     refine cI h63 (fun _ h63 => ?_) (fun _ h63 => ?_)
     ·exact sK hk102 (a0, (a0.Kind == 20)) h63 [(100, 100)] [1, 6, 14]
     refine cV 101 ?_
     refine cI h63 (fun _ h63 => ?_) (fun _ h63 => ?_)
     ·exact sK hk102 (a0, (a0.Kind == 32)) h63 [(100, 100)] [1, 6, 14]
     refine cV 101 ?_
     refine cI h63 (fun _ h63 => ?_) (fun _ h63 => ?_)
     ·exact sK hk102 (a0, (a0.Kind == 40)) h63 [(100, 100)] [1, 6, 14]
     exact cK 101 hk102 (a0, (a0.Kind == 41)) h63 [(100, 100)] [1, 6, 14]
   intro hk110
   refine cV 101 ?_
   refine cI h59 (fun _ h59 => ?_) (fun _ h59 => ?_)
   ·exact sK hk110 (a0, (a0.Kind == 7)) h59 [(100, 100)] [1, 6, 10]
   refine cV 101 ?_
   refine cI h59 (fun _ h59 => ?_) (fun _ h59 => ?_)
   ·exact sK hk110 (a0, (a0.Kind == 8)) h59 [(100, 100)] [1, 6, 10]
   exact cK 101 hk110 (a0, (a0.Kind == 27)) h59 [(100, 100)] [1, 6, 10]
 intro hk113
 refine cV 101 ?_
 refine cI h (fun _ h => ?_) (fun _ h => ?_)
 ·exact sK hk113 (a0, (a0.Kind == 5)) h [(100, 100)] [1, 6, 7]
 exact cK 101 hk113 (a0, (a0.Kind == 13)) h [(100, 100)] [1, 6, 7]

theorem ms_l7IsBin_ok (a0 : Int) {r : Bool} (h : ms_l7IsBin a0 = some r) :
    AC Tryz.prog (GS []) 189 [V.i a0] [] (V.b r) [] := by
 rw [ms_l7IsBin] at h
 refine AC.enter Tryz.func189 rfl (cV 100 (CO.seq' (cV 100 (CO.block' ?_))))
 refine CO.join (fun (y2 : Bool) => ⟨tl 22 [(4, V.b y2)], []⟩) (fun i => ms_l7IsBin_k1 i = some r) ?_ ?_
 · rintro y2 h52
   rw [ms_l7IsBin_k1] at h52
   refine cI h52 (fun _ h52 => ?_) (fun _ h52 => ?_)
   ·refine cV 100 ?_
    cases h52
    exact e1 2 id
   refine CO.skip (cV 100 ?_)
   cases h52
   exact e1 2 id
 intro hk54
 refine cV 100 ?_
 refine cI h (fun _ h => ?_) (fun _ h => ?_)
 ·exact sK hk54 (a0 == 60) h [] [4]
 refine cV 100 ?_
 refine cI h (fun _ h => ?_) (fun _ h => ?_)
 ·exact sK hk54 (a0 == 57) h [] [4]
 refine cV 100 ?_
 refine cI h (fun _ h => ?_) (fun _ h => ?_)
 ·exact sK hk54 (a0 == 58) h [] [4]
 refine cV 100 ?_
 refine cI h (fun _ h => ?_) (fun _ h => ?_)
 ·exact sK hk54 (a0 == 59) h [] [4]
 refine cV 100 ?_
 refine cI h (fun _ h => ?_) (fun _ h => ?_)
 ·exact sK hk54 (a0 == 55) h [] [4]
 refine cV 100 ?_
 refine cI h (fun _ h => ?_) (fun _ h => ?_)
 ·exact sK hk54 (a0 == 56) h [] [4]
 refine cV 100 ?_
 refine cI h (fun _ h => ?_) (fun _ h => ?_)
 ·exact sK hk54 (a0 == 99) h [] [4]
 refine cV 100 ?_
 refine cI h (fun _ h => ?_) (fun _ h => ?_)
 ·exact sK hk54 (a0 == 63) h [] [4]
 refine cV 100 ?_
 refine cI h (fun _ h => ?_) (fun _ h => ?_)
 ·exact sK hk54 (a0 == 48) h [] [4]
 refine cV 100 ?_
 refine cI h (fun _ h => ?_) (fun _ h => ?_)
 ·exact sK hk54 (a0 == 47) h [] [4]
 refine cV 100 ?_
 refine cI h (fun _ h => ?_) (fun _ h => ?_)
 ·exact sK hk54 (a0 == 50) h [] [4]
 refine cV 100 ?_
 refine cI h (fun _ h => ?_) (fun _ h => ?_)
 ·exact sK hk54 (a0 == 62) h [] [4]
 refine cV 100 ?_
 refine cI h (fun _ h => ?_) (fun _ h => ?_)
 ·exact sK hk54 (a0 == 49) h [] [4]
 refine cV 100 ?_
 refine cI h (fun _ h => ?_) (fun _ h => ?_)
 ·exact sK hk54 (a0 == 67) h [] [4]
 refine cV 100 ?_
 refine cI h (fun _ h => ?_) (fun _ h => ?_)
 ·exact sK hk54 (a0 == 46) h [] [4]
 refine cV 100 ?_
 refine cI h (fun _ h => ?_) (fun _ h => ?_)
 ·exact sK hk54 (a0 == 45) h [] [4]
 exact cK 100 hk54 (a0 == 44) h [] [4]

theorem ms_l7IsAssign_ok (a0 : Int) {r : Bool} (h : ms_l7IsAssign a0 = some r) :
    AC Tryz.prog (GS []) 190 [V.i a0] [] (V.b r) [] := by
 rw [ms_l7IsAssign] at h
 refine AC.enter Tryz.func190 rfl (cV 100 (bB h fun y2 hv3 h => ?_))
 refine CO.cutR (tl 9 [(2, V.b y2)]) [] mix (by
  refine wR 3 100 ?_
  refine wJ 5 hv3 (fun hv3 => ?_) (fun hv3 => ?_)
  ·refine wR 4 100 ?_
   cases hv3
   exact fS [] [2]
  refine wR 1 100 (bB hv3 fun r3 hx5 hv3 => (w0 (ms_l1In_ok a0 38 43 hx5) cok77 (wR 2 100 ?_)))
  cases hv3
  exact fS [] [2]
  ) ?_
 cases h
 exact e1 2 id

end Go.Proofs.Tryz
