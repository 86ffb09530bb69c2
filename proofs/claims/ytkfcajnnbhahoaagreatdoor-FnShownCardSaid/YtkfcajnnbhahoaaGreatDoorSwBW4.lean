/-
 The walks that show that the code computes the models, part 4.
-/
import Derived.Test.YtkfcajnnbhahoaaGreatDoorSwBW3
namespace Go.Proofs.Tryz
open Go.Av
set_option maxRecDepth 100000
set_option maxHeartbeats 8000000
set_option linter.unusedSimpArgs false
set_option linter.unusedVariables false

theorem ms_TokenOk_ok (N : Nat) (a0 : SToken) {r : Bool} (h : ms_TokenOk N a0 = some r) :
    AC Tryz.prog (GS []) 192 [.agg [V.i a0.Kind, V.s a0.Text, V.i a0.At]] [] (V.b r) [] := by
 rw [ms_TokenOk] at h
 refine AC.enter Tryz.func192 rfl (cV 100 (cV 101 (CO.seq' (cV 101 (CO.block' (cV 101 ?_))))))
 refine cI h (fun _ h => ?_) (fun _ h => ?_)
 ·refine bB h fun y20 hv38 h => ?_
  refine CO.cutR (tl 71 [(2, V.b y20)]) [] mix (by
   refine wR 3 101 ?_
   refine wJ 13 hv38 (fun hv38 => ?_) (fun hv38 => ?_)
   ·refine wR 2 101 (bB hv38 fun b21 hx40 hv38 => (W.ixS Dk hx40 (by kernel_rfl) (wR 3 101 ?_)))
    refine wJ 19 hv38 (fun hv38 => ?_) (fun hv38 => ?_)
    ·refine wR 2 101 (bB hv38 fun r22 hx42 hv38 => (w0 (ms_l4Plain_ok N a0.Text hx42) cok230 (wR 2 101 ?_)))
     cases hv38
     exact fS [] [2]
    refine wR 5 101 ?_
    cases hv38
    exact fS [] [2]
   refine wR 11 101 ?_
   cases hv38
   exact fS [] [2]
   ) ?_
  cases h
  exact e1 2 id
 refine cV 101 ?_
 refine cI h (fun _ h => ?_) (fun _ h => ?_)
 ·refine bB h fun y24 hv46 h => ?_
  refine CO.cutR (tl 71 [(2, V.b y24)]) [] mix (by
   refine wR 3 101 ?_
   refine wJ 28 hv46 (fun hv46 => ?_) (fun hv46 => ?_)
   ·refine wR 2 101 (bB hv46 fun r25 hx48 hv46 => (w0 (ms_NumEnd_ok N a0.Text 0 hx48) cok231 (wR 4 101 ?_)))
    cases hv46
    exact fS [] [2]
   refine wR 7 101 ?_
   cases hv46
   exact fS [] [2]
   ) ?_
  cases h
  exact e1 2 id
 refine cV 101 ?_
 refine cI h (fun _ h => ?_) (fun _ h => ?_)
 ·refine bB h fun r27 hx51 h => (cC 2 101 (ms_StrEnd_ok N a0.Text 0 hx51) cok232 ?_)
  cases h
  exact e1 2 id
 refine cV 101 ?_
 refine cI h (fun _ h => ?_) (fun _ h => ?_)
 ·refine bB h fun r29 hx54 h => (cC 2 101 (ms_EreEnd_ok N a0.Text 0 hx54) cok233 ?_)
  cases h
  exact e1 2 id
 refine CO.join (fun (⟨a0, y30⟩ : (SToken × Bool)) => ⟨tl 71 [(1, .loc 100 0), (8, V.i a0.Kind), (49, V.b y30)], [(100, .cells 167 [V.i a0.Kind, V.s a0.Text, V.i a0.At])]⟩) (fun i => ms_TokenOk_k1 N i = some r) ?_ ?_
 · rintro ⟨a0, y30⟩ h56
   rw [ms_TokenOk_k1] at h56
   refine cI h56 (fun _ h56 => ?_) (fun _ h56 => ?_)
   ·refine bB h56 fun r32 hx59 h56 => (cC 2 101 (ms_NameOk_ok N a0.Text hx59) cok191 ?_)
    cases h56
    exact e1 2 id
   refine cV 101 ?_
   refine cI h56 (fun _ h56 => ?_) (fun _ h56 => ?_)
   ·refine bB h56 fun r34 hx62 h56 => (cC 2 101 (ms_IsBuiltin_ok N a0.Text hx62) cok193 ?_)
    cases h56
    exact e1 2 id
   refine CO.skip (bB h56 fun y36 hv65 h56 => ?_)
   refine CO.cutR (tl 71 [(2, V.b y36)]) [] mix (by
    refine wR 4 101 ?_
    refine wJ 63 hv65 (fun hv65 => ?_) (fun hv65 => ?_)
    ·refine wR 2 101 (bB hv65 fun r37 hx67 hv65 => (w0 (ms_SpellOf_ok a0.Kind hx67) cok234 (wR 5 101 ?_)))
     cases hv65
     exact fS [] [2]
    refine wR 8 101 ?_
    cases hv65
    exact fS [] [2]
    ) ?_
   cases h56
   exact e1 2 id
 intro hk68
 refine cV 101 ?_
 refine cI h (fun _ h => ?_) (fun _ h => ?_)
 ·exact sK hk68 (a0, (a0.Kind == 6)) h [(100, 100)] [1, 8, 49]
 exact cK 101 hk68 (a0, (a0.Kind == 7)) h [(100, 100)] [1, 8, 49]

theorem ms_l7Text_ok (N : Nat) (a0 : SNode) {r : Bool} (h : ms_l7Text N a0 = some r) :
    AC Tryz.prog (GS []) 134 [.agg [V.i a0.Kind, V.i a0.Op, V.s a0.Text, V.s a0.Other, sL eNI a0.Kids]] [] (V.b r) [] := by
 rw [ms_l7Text] at h
 refine AC.enter Tryz.func134 rfl (cV 100 (CO.seq' (cV 101 (CO.block' ?_))))
 refine CO.join (fun (⟨a0, y26⟩ : (SNode × Bool)) => ⟨tl 117 [(1, .loc 100 0), (4, V.i a0.Kind), (5, V.b y26)], [(100, .cells 37 [V.i a0.Kind, V.i a0.Op, V.s a0.Text, V.s a0.Other, sL eNI a0.Kids])]⟩) (fun i => ms_l7Text_k1 N i = some r) ?_ ?_
 · rintro ⟨a0, y26⟩ h72
   rw [ms_l7Text_k1] at h72
   refine cI h72 (fun _ h72 => ?_) (fun _ h72 => ?_)
   ·refine bB h72 fun y28 hv76 h72 => ?_
    refine CO.cutR (tl 117 [(2, V.b y28)]) [] mix (by
     refine wR 2 101 (bB hv76 fun r29 hx77 hv76 => (w0 (ms_NameOk_ok N a0.Text hx77) cok191 (wR 1 101 ?_)))
     refine wJ 15 hv76 (fun hv76 => ?_) (fun hv76 => ?_)
     ·refine wR 5 101 ?_
      cases hv76
      exact fS [] [2]
     refine wR 5 101 ?_
     cases hv76
     exact fS [] [2]
     ) ?_
    cases h72
    exact e1 2 id
   refine cV 101 ?_
   refine cI h72 (fun _ h72 => ?_) (fun _ h72 => ?_)
   ·refine bB h72 fun y31 hv82 h72 => ?_
    refine CO.cutR (tl 117 [(2, V.b y31)]) [] mix (by
     refine wR 3 101 (bB hv82 fun r32 hx83 hv82 => (w0 (ms_TokenOk_ok N (⟨3, a0.Text, 0⟩ : SToken) hx83) cok192 (wR 1 101 ?_)))
     refine wJ 26 hv82 (fun hv82 => ?_) (fun hv82 => ?_)
     ·refine wR 5 101 ?_
      cases hv82
      exact fS [] [2]
     refine wR 5 101 ?_
     cases hv82
     exact fS [] [2]
     ) ?_
    cases h72
    exact e1 2 id
   refine cV 101 ?_
   refine cI h72 (fun _ h72 => ?_) (fun _ h72 => ?_)
   ·refine bB h72 fun y34 hv88 h72 => ?_
    refine CO.cutR (tl 117 [(2, V.b y34)]) [] mix (by
     refine wR 3 101 (bB hv88 fun r35 hx89 hv88 => (w0 (ms_TokenOk_ok N (⟨4, a0.Text, 0⟩ : SToken) hx89) cok192 (wR 1 101 ?_)))
     refine wJ 37 hv88 (fun hv88 => ?_) (fun hv88 => ?_)
     ·refine wR 5 101 ?_
      cases hv88
      exact fS [] [2]
     refine wR 5 101 ?_
     cases hv88
     exact fS [] [2]
     ) ?_
    cases h72
    exact e1 2 id
   refine cV 101 ?_
   refine cI h72 (fun _ h72 => ?_) (fun _ h72 => ?_)
   ·refine bB h72 fun y37 hv94 h72 => ?_
    refine CO.cutR (tl 117 [(2, V.b y37)]) [] mix (by
     refine wR 3 101 (bB hv94 fun r38 hx95 hv94 => (w0 (ms_TokenOk_ok N (⟨5, a0.Text, 0⟩ : SToken) hx95) cok192 (wR 1 101 ?_)))
     refine wJ 48 hv94 (fun hv94 => ?_) (fun hv94 => ?_)
     ·refine wR 5 101 ?_
      cases hv94
      exact fS [] [2]
     refine wR 5 101 ?_
     cases hv94
     exact fS [] [2]
     ) ?_
    cases h72
    exact e1 2 id
   refine cV 101 ?_
   refine cI h72 (fun _ h72 => ?_) (fun _ h72 => ?_)
   ·refine bB h72 fun y40 hv100 h72 => ?_
    refine CO.cutR (tl 117 [(2, V.b y40)]) [] mix (by
     refine wR 3 101 (bB hv100 fun r41 hx101 hv100 => (w0 (ms_TokenOk_ok N (⟨2, a0.Text, 0⟩ : SToken) hx101) cok192 (wR 1 101 ?_)))
     refine wJ 59 hv100 (fun hv100 => ?_) (fun hv100 => ?_)
     ·refine wR 5 101 ?_
      cases hv100
      exact fS [] [2]
     refine wR 5 101 ?_
     cases hv100
     exact fS [] [2]
     ) ?_
    cases h72
    exact e1 2 id
   refine cV 101 ?_
   refine cI h72 (fun _ h72 => ?_) (fun _ h72 => ?_)
   ·refine bB h72 fun y43 hv106 h72 => ?_
    refine CO.cutR (tl 117 [(2, V.b y43)]) [] mix (by
     refine wR 2 101 (bB hv106 fun r44 hx107 hv106 => (w0 (ms_IsBuiltin_ok N a0.Text hx107) cok193 (wR 1 101 ?_)))
     refine wJ 69 hv106 (fun hv106 => ?_) (fun hv106 => ?_)
     ·refine wR 5 101 ?_
      cases hv106
      exact fS [] [2]
     refine wR 5 101 ?_
     cases hv106
     exact fS [] [2]
     ) ?_
    cases h72
    exact e1 2 id
   refine cV 101 ?_
   refine cI h72 (fun _ h72 => ?_) (fun _ h72 => ?_)
   ·refine bB h72 fun y47 hv113 h72 => ?_
    refine CO.cutR (tl 117 [(2, V.b y47)]) [] mix (by
     refine wR 2 101 (bB hv113 fun r48 hx114 hv113 => (w0 (ms_NameOk_ok N a0.Text hx114) cok191 (wR 1 101 ?_)))
     refine wJ 79 hv113 (fun hv113 => ?_) (fun hv113 => ?_)
     ·refine wR 2 101 (bB hv113 fun r49 hx116 hv113 => (w0 (ms_NameOk_ok N a0.Other hx116) cok191 (wR 2 101 ?_)))
      cases hv113
      exact fS [] [2]
     refine wR 5 101 ?_
     cases hv113
     exact fS [] [2]
     ) ?_
    cases h72
    exact e1 2 id
   refine cV 101 ?_
   refine cI h72 (fun _ h72 => ?_) (fun _ h72 => ?_)
   ·refine bB h72 fun y50 hv122 h72 => ?_
    refine CO.cutR (tl 117 [(2, V.b y50)]) [] mix (by
     refine wR 4 101 ?_
     refine wJ 89 hv122 (fun hv122 => ?_) (fun hv122 => ?_)
     ·refine wR 4 101 ?_
      refine wJ 93 hv122 (fun hv122 => ?_) (fun hv122 => ?_)
      ·refine wR 16 101 ?_
       cases hv122
       exact fS [] [2]
      refine wR 5 101 ?_
      refine wJ 98 hv122 (fun hv122 => ?_) (fun hv122 => ?_)
      ·refine wR 11 101 ?_
       cases hv122
       exact fS [] [2]
      refine wR 5 101 ?_
      refine wJ 103 hv122 (fun hv122 => ?_) (fun hv122 => ?_)
      ·refine wR 6 101 ?_
       cases hv122
       exact fS [] [2]
      refine wR 6 101 ?_
      cases hv122
      exact fS [] [2]
     refine wR 20 101 ?_
     cases hv122
     exact fS [] [2]
     ) ?_
    cases h72
    exact e1 2 id
   refine CO.skip (bB h72 fun y51 hv128 h72 => ?_)
   refine CO.cutR (tl 117 [(2, V.b y51)]) [] mix (by
    refine wR 4 101 ?_
    refine wJ 112 hv128 (fun hv128 => ?_) (fun hv128 => ?_)
    ·refine wR 5 101 ?_
     cases hv128
     exact fS [] [2]
    refine wR 5 101 ?_
    cases hv128
    exact fS [] [2]
    ) ?_
   cases h72
   exact e1 2 id
 intro hk130
 refine cV 101 ?_
 refine cI h (fun _ h => ?_) (fun _ h => ?_)
 ·exact sK hk130 (a0, (a0.Kind == 1)) h [(100, 100)] [1, 4, 5]
 refine cV 101 ?_
 refine cI h (fun _ h => ?_) (fun _ h => ?_)
 ·exact sK hk130 (a0, (a0.Kind == 5)) h [(100, 100)] [1, 4, 5]
 refine cV 101 ?_
 refine cI h (fun _ h => ?_) (fun _ h => ?_)
 ·exact sK hk130 (a0, (a0.Kind == 7)) h [(100, 100)] [1, 4, 5]
 refine cV 101 ?_
 refine cI h (fun _ h => ?_) (fun _ h => ?_)
 ·exact sK hk130 (a0, (a0.Kind == 13)) h [(100, 100)] [1, 4, 5]
 refine cV 101 ?_
 refine cI h (fun _ h => ?_) (fun _ h => ?_)
 ·exact sK hk130 (a0, (a0.Kind == 27)) h [(100, 100)] [1, 4, 5]
 exact cK 101 hk130 (a0, (a0.Kind == 44)) h [(100, 100)] [1, 4, 5]

theorem ms_FieldsOk_ok (N : Nat) (a0 : SNode) {r : Bool} (h : ms_FieldsOk N a0 = some r) :
    AC Tryz.prog (GS []) 58 [.agg [V.i a0.Kind, V.i a0.Op, V.s a0.Text, V.s a0.Other, sL eNI a0.Kids]] [] (V.b r) [] := by
 rw [ms_FieldsOk] at h
 refine AC.enter Tryz.func58 rfl (cV 100 (bB h fun r2 hx2 h => (cC 1 101 (ms_l7Many_ok a0 hx2) cok132 (bB h fun y6 hv8 h => ?_))))
 refine CO.cutR (tl 41 [(1, .loc 100 0), (3, V.i r2.1), (4, V.i r2.2), (5, V.b y6)]) [(100, .cells 37 [V.i a0.Kind, V.i a0.Op, V.s a0.Text, V.s a0.Other, sL eNI a0.Kids])] mix (by
  refine wR 2 101 (bB hv8 fun r7 hx9 hv8 => (w0 (ms_l1In_ok a0.Kind 1 16 hx9) cok77 (wR 1 101 ?_)))
  refine wJ 14 hv8 (fun hv8 => ?_) (fun hv8 => ?_)
  ·refine wR 10 101 ?_
   cases hv8
   exact fS [(100, 100)] [1, 3, 4, 5]
  refine wR 2 101 (bB hv8 fun r8 hx11 hv8 => (w0 (ms_l1In_ok a0.Kind 20 34 hx11) cok77 (wR 2 101 ?_)))
  refine wJ 19 hv8 (fun hv8 => ?_) (fun hv8 => ?_)
  ·refine wR 5 101 ?_
   cases hv8
   exact fS [(100, 100)] [1, 3, 4, 5]
  refine wR 2 101 (bB hv8 fun r9 hx13 hv8 => (w0 (ms_l1In_ok a0.Kind 40 45 hx13) cok77 (wR 2 101 ?_)))
  cases hv8
  exact fS [(100, 100)] [1, 3, 4, 5]
  ) ?_
 refine bB h fun y13 hv20 h => ?_
 refine CO.cutR (tl 41 [(2, V.b y13)]) [] mix (by
  refine wR 2 101 ?_
  refine wJ 25 hv20 (fun hv20 => ?_) (fun hv20 => ?_)
  ·refine wR 1 101 (bB hv20 fun r14 hx22 hv20 => (w0 (ms_l7Op_ok a0 hx22) cok133 (wR 2 101 ?_)))
   refine wJ 29 hv20 (fun hv20 => ?_) (fun hv20 => ?_)
   ·refine wR 1 101 (bB hv20 fun r15 hx24 hv20 => (w0 (ms_l7Text_ok N a0 hx24) cok134 (wR 2 101 ?_)))
    refine wJ 33 hv20 (fun hv20 => ?_) (fun hv20 => ?_)
    ·refine wR 2 101 (wN eNI a0.Kids [] (wR 2 101 (bB hv20 fun r16 hx26 hv20 => (w0 (ms_l1In_ok (a0.Kids.length : Int) r2.1 r2.2 hx26) cok77 (wR 2 101 ?_)))))
     cases hv20
     exact fS [] [2]
    refine wR 8 101 ?_
    cases hv20
    exact fS [] [2]
   refine wR 12 101 ?_
   cases hv20
   exact fS [] [2]
  refine wR 16 101 ?_
  cases hv20
  exact fS [] [2]
  ) ?_
 cases h
 exact e1 2 id

theorem ms_IsLvalue_ok (a0 : Int) {r : Bool} (h : ms_IsLvalue a0 = some r) :
    AC Tryz.prog (GS []) 135 [V.i a0] [] (V.b r) [] := by
 rw [ms_IsLvalue] at h
 refine AC.enter Tryz.func135 rfl (cV 100 (bB h fun y1 hv3 h => ?_))
 refine CO.cutR (tl 13 [(2, V.b y1)]) [] mix (by
  refine wR 3 100 ?_
  refine wJ 5 hv3 (fun hv3 => ?_) (fun hv3 => ?_)
  ·refine wR 8 100 ?_
   cases hv3
   exact fS [] [2]
  refine wR 4 100 ?_
  refine wJ 9 hv3 (fun hv3 => ?_) (fun hv3 => ?_)
  ·refine wR 4 100 ?_
   cases hv3
   exact fS [] [2]
  refine wR 4 100 ?_
  cases hv3
  exact fS [] [2]
  ) ?_
 cases h
 exact e1 2 id

theorem ms_IsExpr_ok (a0 : Int) {r : Bool} (h : ms_IsExpr a0 = some r) :
    AC Tryz.prog (GS []) 98 [V.i a0] [] (V.b r) [] := by
 rw [ms_IsExpr] at h
 refine AC.enter Tryz.func98 rfl (cV 100 (bB h fun r2 hx2 h => (cC 1 100 (ms_l1In_ok a0 1 15 hx2) cok77 ?_)))
 cases h
 exact e1 2 id

theorem ms_IsStmt_ok (a0 : Int) {r : Bool} (h : ms_IsStmt a0 = some r) :
    AC Tryz.prog (GS []) 40 [V.i a0] [] (V.b r) [] := by
 rw [ms_IsStmt] at h
 refine AC.enter Tryz.func40 rfl (cV 100 (bB h fun r2 hx2 h => (cC 1 100 (ms_l1In_ok a0 20 34 hx2) cok77 ?_)))
 cases h
 exact e1 2 id

theorem ms_l7Kid_ok (a0 : SNode) (a1 : Int) (a2 : Int) {r : Bool} (h : ms_l7Kid a0 a1 a2 = some r) :
    AC Tryz.prog (GS []) 59 [.agg [V.i a0.Kind, V.i a0.Op, V.s a0.Text, V.s a0.Other, sL eNI a0.Kids], V.i a1, V.i a2] [] (V.b r) [] := by
 rw [ms_l7Kid] at h
 refine AC.enter Tryz.func59 rfl (cV 100 (CO.sw mix (wR 3 101 (wN eNI a0.Kids [] (wR 3 101 (wF (cV 101 (CO.seq' ?_))))))))
 refine cV 101 (CO.block' ?_)
 refine CO.join (fun (⟨a1, a2, a0, y52⟩ : (Int × Int × SNode × Bool)) => ⟨tl 184 [(1, V.i a1), (2, V.i a2), (3, .loc 100 0), (7, V.b (a1 == (wr ((a0.Kids.length : Int) - 1)))), (8, V.b (a2 == 33)), (18, V.i a0.Kind), (19, V.b y52)], [(100, .cells 37 [V.i a0.Kind, V.i a0.Op, V.s a0.Text, V.s a0.Other, sL eNI a0.Kids])]⟩) (fun i => ms_l7Kid_k1 i = some r) ?_ ?_
 · rintro ⟨a1, a2, a0, y52⟩ h181
   rw [ms_l7Kid_k1] at h181
   refine cI h181 (fun _ h181 => ?_) (fun _ h181 => ?_)
   ·refine bB h181 fun r54 hx184 h181 => (cC 1 101 (ms_IsLvalue_ok a2 hx184) cok135 ?_)
    cases h181
    exact e1 6 id
   refine cV 101 ?_
   refine cI h181 (fun _ h181 => ?_) (fun _ h181 => ?_)
   ·refine bB h181 fun y57 hv190 h181 => ?_
    refine CO.cutR (tl 184 [(6, V.b y57)]) [] mix (by
     refine wR 1 101 (bB hv190 fun r58 hx191 hv190 => (w0 (ms_IsExpr_ok a2 hx191) cok98 (wR 1 101 ?_)))
     refine wJ 28 hv190 (fun hv190 => ?_) (fun hv190 => ?_)
     ·refine wR 3 101 ?_
      refine wJ 31 hv190 (fun hv190 => ?_) (fun hv190 => ?_)
      ·refine wR 5 101 ?_
       cases hv190
       exact fS [] [6]
      refine wR 1 101 (bB hv190 fun r59 hx194 hv190 => (w0 (ms_IsLvalue_ok a2 hx194) cok135 (wR 3 101 ?_)))
      cases hv190
      exact fS [] [6]
     refine wR 8 101 ?_
     cases hv190
     exact fS [] [6]
     ) ?_
    cases h181
    exact e1 6 id
   refine cV 101 ?_
   refine cI h181 (fun _ h181 => ?_) (fun _ h181 => ?_)
   ·refine bB h181 fun y61 hv201 h181 => ?_
    refine CO.cutR (tl 184 [(6, V.b y61)]) [] mix (by
     refine wR 3 101 ?_
     refine wJ 40 hv201 (fun hv201 => ?_) (fun hv201 => ?_)
     ·refine wR 1 101 (bB hv201 fun r62 hx203 hv201 => (w0 (ms_IsExpr_ok a2 hx203) cok98 (wR 2 101 ?_)))
      refine wJ 44 hv201 (fun hv201 => ?_) (fun hv201 => ?_)
      ·refine wR 7 101 ?_
       cases hv201
       exact fS [] [6]
      refine wR 3 101 ?_
      refine wJ 47 hv201 (fun hv201 => ?_) (fun hv201 => ?_)
      ·refine wR 4 101 ?_
       cases hv201
       exact fS [] [6]
      refine wR 4 101 ?_
      cases hv201
      exact fS [] [6]
     refine wR 7 101 ?_
     refine wJ 47 hv201 (fun hv201 => ?_) (fun hv201 => ?_)
     ·refine wR 4 101 ?_
      cases hv201
      exact fS [] [6]
     refine wR 4 101 ?_
     cases hv201
     exact fS [] [6]
     ) ?_
    cases h181
    exact e1 6 id
   refine cV 101 ?_
   refine cI h181 (fun _ h181 => ?_) (fun _ h181 => ?_)
   ·refine bB h181 fun y64 hv213 h181 => ?_
    refine CO.cutR (tl 184 [(6, V.b y64)]) [] mix (by
     refine wR 3 101 ?_
     refine wJ 55 hv213 (fun hv213 => ?_) (fun hv213 => ?_)
     ·refine wR 1 101 (bB hv213 fun r65 hx215 hv213 => (w0 (ms_IsExpr_ok a2 hx215) cok98 (wR 2 101 ?_)))
      refine wJ 59 hv213 (fun hv213 => ?_) (fun hv213 => ?_)
      ·refine wR 7 101 ?_
       cases hv213
       exact fS [] [6]
      refine wR 3 101 ?_
      refine wJ 62 hv213 (fun hv213 => ?_) (fun hv213 => ?_)
      ·refine wR 4 101 ?_
       cases hv213
       exact fS [] [6]
      refine wR 4 101 ?_
      cases hv213
      exact fS [] [6]
     refine wR 7 101 ?_
     refine wJ 62 hv213 (fun hv213 => ?_) (fun hv213 => ?_)
     ·refine wR 4 101 ?_
      cases hv213
      exact fS [] [6]
     refine wR 4 101 ?_
     cases hv213
     exact fS [] [6]
     ) ?_
    cases h181
    exact e1 6 id
   refine cV 101 ?_
   refine cI h181 (fun _ h181 => ?_) (fun _ h181 => ?_)
   ·refine bB h181 fun y68 hv226 h181 => ?_
    refine CO.cutR (tl 184 [(6, V.b y68)]) [] mix (by
     refine wR 3 101 ?_
     refine wJ 70 hv226 (fun hv226 => ?_) (fun hv226 => ?_)
     ·refine wR 3 101 ?_
      refine wJ 73 hv226 (fun hv226 => ?_) (fun hv226 => ?_)
      ·refine wR 8 101 ?_
       cases hv226
       exact fS [] [6]
      refine wR 3 101 ?_
      refine wJ 76 hv226 (fun hv226 => ?_) (fun hv226 => ?_)
      ·refine wR 1 101 (bB hv226 fun r69 hx230 hv226 => (w0 (ms_IsExpr_ok a2 hx230) cok98 (wR 3 101 ?_)))
       cases hv226
       exact fS [] [6]
      refine wR 5 101 ?_
      cases hv226
      exact fS [] [6]
     refine wR 6 101 ?_
     refine wJ 76 hv226 (fun hv226 => ?_) (fun hv226 => ?_)
     ·refine wR 1 101 (bB hv226 fun r70 hx232 hv226 => (w0 (ms_IsExpr_ok a2 hx232) cok98 (wR 3 101 ?_)))
      cases hv226
      exact fS [] [6]
     refine wR 5 101 ?_
     cases hv226
     exact fS [] [6]
     ) ?_
    cases h181
    exact e1 6 id
   refine cV 101 ?_
   refine cI h181 (fun _ h181 => ?_) (fun _ h181 => ?_)
   ·refine bB h181 fun y72 hv240 h181 => ?_
    refine CO.cutR (tl 184 [(6, V.b y72)]) [] mix (by
     refine wR 3 101 ?_
     refine wJ 85 hv240 (fun hv240 => ?_) (fun hv240 => ?_)
     ·refine wR 1 101 (bB hv240 fun r73 hx242 hv240 => (w0 (ms_IsExpr_ok a2 hx242) cok98 (wR 1 101 ?_)))
      refine wJ 88 hv240 (fun hv240 => ?_) (fun hv240 => ?_)
      ·refine wR 12 101 ?_
       cases hv240
       exact fS [] [6]
      refine wR 5 101 ?_
      refine wJ 93 hv240 (fun hv240 => ?_) (fun hv240 => ?_)
      ·refine wR 7 101 ?_
       cases hv240
       exact fS [] [6]
      refine wR 3 101 ?_
      refine wJ 96 hv240 (fun hv240 => ?_) (fun hv240 => ?_)
      ·refine wR 4 101 ?_
       cases hv240
       exact fS [] [6]
      refine wR 4 101 ?_
      cases hv240
      exact fS [] [6]
     refine wR 11 101 ?_
     refine wJ 96 hv240 (fun hv240 => ?_) (fun hv240 => ?_)
     ·refine wR 4 101 ?_
      cases hv240
      exact fS [] [6]
     refine wR 4 101 ?_
     cases hv240
     exact fS [] [6]
     ) ?_
    cases h181
    exact e1 6 id
   refine CO.join (fun (⟨a1, a2, a0, y74⟩ : (Int × Int × SNode × Bool)) => ⟨tl 184 [(1, V.i a1), (2, V.i a2), (3, .loc 100 0), (7, V.b (a1 == (wr ((a0.Kids.length : Int) - 1)))), (8, V.b (a2 == 33)), (18, V.i a0.Kind), (100, V.b y74)], [(100, .cells 37 [V.i a0.Kind, V.i a0.Op, V.s a0.Text, V.s a0.Other, sL eNI a0.Kids])]⟩) (fun i => ms_l7Kid_k2 i = some r) ?_ ?_
   · rintro ⟨a1, a2, a0, y74⟩ h249
     rw [ms_l7Kid_k2] at h249
     refine cI h249 (fun _ h249 => ?_) (fun _ h249 => ?_)
     ·refine cV 101 ?_
      cases h249
      exact e1 6 id
     refine cV 101 ?_
     refine cI h249 (fun _ h249 => ?_) (fun _ h249 => ?_)
     ·refine bB h249 fun r76 hx253 h249 => (cC 1 101 (ms_IsStmt_ok a2 hx253) cok40 ?_)
      cases h249
      exact e1 6 id
     refine cV 101 ?_
     refine cI h249 (fun _ h249 => ?_) (fun _ h249 => ?_)
     ·refine bB h249 fun y86 hv290 h249 => ?_
      refine CO.cutR (tl 184 [(6, V.b y86)]) [] mix (by
       refine wR 4 101 ?_
       refine wJ 114 hv290 (fun hv290 => ?_) (fun hv290 => ?_)
       ·refine wR 1 101 (bB hv290 fun r87 hx292 hv290 => (w0 (ms_IsExpr_ok a2 hx292) cok98 (wR 2 101 ?_)))
        refine wJ 118 hv290 (fun hv290 => ?_) (fun hv290 => ?_)
        ·refine wR 27 101 ?_
         cases hv290
         exact fS [] [6]
        refine wR 4 101 ?_
        refine wJ 122 hv290 (fun hv290 => ?_) (fun hv290 => ?_)
        ·refine wR 4 101 ?_
         refine wJ 126 hv290 (fun hv290 => ?_) (fun hv290 => ?_)
         ·refine wR 19 101 ?_
          cases hv290
          exact fS [] [6]
         refine wR 4 101 ?_
         refine wJ 130 hv290 (fun hv290 => ?_) (fun hv290 => ?_)
         ·refine wR 2 101 ?_
          refine wJ 132 hv290 (fun hv290 => ?_) (fun hv290 => ?_)
          ·refine wR 3 101 ?_
           refine wJ 135 hv290 (fun hv290 => ?_) (fun hv290 => ?_)
           ·refine wR 10 101 ?_
            cases hv290
            exact fS [] [6]
           refine wR 3 101 ?_
           refine wJ 138 hv290 (fun hv290 => ?_) (fun hv290 => ?_)
           ·refine wR 1 101 (bB hv290 fun r88 hx300 hv290 => (w0 (ms_IsExpr_ok a2 hx300) cok98 (wR 5 101 ?_)))
            cases hv290
            exact fS [] [6]
           refine wR 7 101 ?_
           cases hv290
           exact fS [] [6]
          refine wR 6 101 ?_
          refine wJ 138 hv290 (fun hv290 => ?_) (fun hv290 => ?_)
          ·refine wR 1 101 (bB hv290 fun r89 hx302 hv290 => (w0 (ms_IsExpr_ok a2 hx302) cok98 (wR 5 101 ?_)))
           cases hv290
           exact fS [] [6]
          refine wR 7 101 ?_
          cases hv290
          exact fS [] [6]
         refine wR 15 101 ?_
         cases hv290
         exact fS [] [6]
        refine wR 8 101 ?_
        refine wJ 130 hv290 (fun hv290 => ?_) (fun hv290 => ?_)
        ·refine wR 2 101 ?_
         refine wJ 132 hv290 (fun hv290 => ?_) (fun hv290 => ?_)
         ·refine wR 3 101 ?_
          refine wJ 135 hv290 (fun hv290 => ?_) (fun hv290 => ?_)
          ·refine wR 10 101 ?_
           cases hv290
           exact fS [] [6]
          refine wR 3 101 ?_
          refine wJ 138 hv290 (fun hv290 => ?_) (fun hv290 => ?_)
          ·refine wR 1 101 (bB hv290 fun r90 hx307 hv290 => (w0 (ms_IsExpr_ok a2 hx307) cok98 (wR 5 101 ?_)))
           cases hv290
           exact fS [] [6]
          refine wR 7 101 ?_
          cases hv290
          exact fS [] [6]
         refine wR 6 101 ?_
         refine wJ 138 hv290 (fun hv290 => ?_) (fun hv290 => ?_)
         ·refine wR 1 101 (bB hv290 fun r91 hx309 hv290 => (w0 (ms_IsExpr_ok a2 hx309) cok98 (wR 5 101 ?_)))
          cases hv290
          exact fS [] [6]
         refine wR 7 101 ?_
         cases hv290
         exact fS [] [6]
        refine wR 15 101 ?_
        cases hv290
        exact fS [] [6]
       refine wR 8 101 ?_
       refine wJ 122 hv290 (fun hv290 => ?_) (fun hv290 => ?_)
       ·refine wR 4 101 ?_
        refine wJ 126 hv290 (fun hv290 => ?_) (fun hv290 => ?_)
        ·refine wR 19 101 ?_
         cases hv290
         exact fS [] [6]
        refine wR 4 101 ?_
        refine wJ 130 hv290 (fun hv290 => ?_) (fun hv290 => ?_)
        ·refine wR 2 101 ?_
         refine wJ 132 hv290 (fun hv290 => ?_) (fun hv290 => ?_)
         ·refine wR 3 101 ?_
          refine wJ 135 hv290 (fun hv290 => ?_) (fun hv290 => ?_)
          ·refine wR 10 101 ?_
           cases hv290
           exact fS [] [6]
          refine wR 3 101 ?_
          refine wJ 138 hv290 (fun hv290 => ?_) (fun hv290 => ?_)
          ·refine wR 1 101 (bB hv290 fun r92 hx316 hv290 => (w0 (ms_IsExpr_ok a2 hx316) cok98 (wR 5 101 ?_)))
           cases hv290
           exact fS [] [6]
          refine wR 7 101 ?_
          cases hv290
          exact fS [] [6]
         refine wR 6 101 ?_
         refine wJ 138 hv290 (fun hv290 => ?_) (fun hv290 => ?_)
         ·refine wR 1 101 (bB hv290 fun r93 hx318 hv290 => (w0 (ms_IsExpr_ok a2 hx318) cok98 (wR 5 101 ?_)))
          cases hv290
          exact fS [] [6]
         refine wR 7 101 ?_
         cases hv290
         exact fS [] [6]
        refine wR 15 101 ?_
        cases hv290
        exact fS [] [6]
       refine wR 8 101 ?_
       refine wJ 130 hv290 (fun hv290 => ?_) (fun hv290 => ?_)
       ·refine wR 2 101 ?_
        refine wJ 132 hv290 (fun hv290 => ?_) (fun hv290 => ?_)
        ·refine wR 3 101 ?_
         refine wJ 135 hv290 (fun hv290 => ?_) (fun hv290 => ?_)
         ·refine wR 10 101 ?_
          cases hv290
          exact fS [] [6]
         refine wR 3 101 ?_
         refine wJ 138 hv290 (fun hv290 => ?_) (fun hv290 => ?_)
         ·refine wR 1 101 (bB hv290 fun r94 hx323 hv290 => (w0 (ms_IsExpr_ok a2 hx323) cok98 (wR 5 101 ?_)))
          cases hv290
          exact fS [] [6]
         refine wR 7 101 ?_
         cases hv290
         exact fS [] [6]
        refine wR 6 101 ?_
        refine wJ 138 hv290 (fun hv290 => ?_) (fun hv290 => ?_)
        ·refine wR 1 101 (bB hv290 fun r95 hx325 hv290 => (w0 (ms_IsExpr_ok a2 hx325) cok98 (wR 5 101 ?_)))
         cases hv290
         exact fS [] [6]
        refine wR 7 101 ?_
        cases hv290
        exact fS [] [6]
       refine wR 15 101 ?_
       cases hv290
       exact fS [] [6]
       ) ?_
      cases h249
      exact e1 6 id
     refine cV 101 ?_
     refine cI h249 (fun _ h249 => ?_) (fun _ h249 => ?_)
     ·refine bB h249 fun y97 hv332 h249 => ?_
      refine CO.cutR (tl 184 [(6, V.b y97)]) [] mix (by
       refine wR 3 101 ?_
       refine wJ 149 hv332 (fun hv332 => ?_) (fun hv332 => ?_)
       ·refine wR 1 101 (bB hv332 fun r98 hx334 hv332 => (w0 (ms_IsExpr_ok a2 hx334) cok98 (wR 2 101 ?_)))
        refine wJ 153 hv332 (fun hv332 => ?_) (fun hv332 => ?_)
        ·refine wR 7 101 ?_
         cases hv332
         exact fS [] [6]
        refine wR 3 101 ?_
        refine wJ 156 hv332 (fun hv332 => ?_) (fun hv332 => ?_)
        ·refine wR 4 101 ?_
         cases hv332
         exact fS [] [6]
        refine wR 4 101 ?_
        cases hv332
        exact fS [] [6]
       refine wR 7 101 ?_
       refine wJ 156 hv332 (fun hv332 => ?_) (fun hv332 => ?_)
       ·refine wR 4 101 ?_
        cases hv332
        exact fS [] [6]
       refine wR 4 101 ?_
       cases hv332
       exact fS [] [6]
       ) ?_
      cases h249
      exact e1 6 id
     refine cV 101 ?_
     refine cI h249 (fun _ h249 => ?_) (fun _ h249 => ?_)
     ·refine bB h249 fun y99 hv343 h249 => ?_
      refine CO.cutR (tl 184 [(6, V.b y99)]) [] mix (by
       refine wR 2 101 ?_
       refine wJ 163 hv343 (fun hv343 => ?_) (fun hv343 => ?_)
       ·refine wR 3 101 ?_
        refine wJ 166 hv343 (fun hv343 => ?_) (fun hv343 => ?_)
        ·refine wR 8 101 ?_
         cases hv343
         exact fS [] [6]
        refine wR 3 101 ?_
        refine wJ 169 hv343 (fun hv343 => ?_) (fun hv343 => ?_)
        ·refine wR 5 101 ?_
         cases hv343
         exact fS [] [6]
        refine wR 5 101 ?_
        cases hv343
        exact fS [] [6]
       refine wR 6 101 ?_
       refine wJ 169 hv343 (fun hv343 => ?_) (fun hv343 => ?_)
       ·refine wR 5 101 ?_
        cases hv343
        exact fS [] [6]
       refine wR 5 101 ?_
       cases hv343
       exact fS [] [6]
       ) ?_
      cases h249
      exact e1 6 id
     refine cV 101 ?_
     refine cI h249 (fun _ h249 => ?_) (fun _ h249 => ?_)
     ·refine bB h249 fun y101 hv351 h249 => ?_
      refine CO.cutR (tl 184 [(6, V.b y101)]) [] mix (by
       refine wR 1 101 (bB hv351 fun r102 hx352 hv351 => (w0 (ms_l1In_ok a2 40 44 hx352) cok77 (wR 1 101 ?_)))
       refine wJ 178 hv351 (fun hv351 => ?_) (fun hv351 => ?_)
       ·refine wR 4 101 ?_
        cases hv351
        exact fS [] [6]
       refine wR 4 101 ?_
       cases hv351
       exact fS [] [6]
       ) ?_
      cases h249
      exact e1 6 id
     refine CO.skip (bB h249 fun r104 hx355 h249 => (cC 1 101 (ms_IsExpr_ok a2 hx355) cok98 ?_))
     cases h249
     exact e1 6 id
   intro hk356
   refine cV 101 ?_
   refine cI h181 (fun _ h181 => ?_) (fun _ h181 => ?_)
   ·exact sK hk356 (a1, a2, a0, (a0.Kind == 32)) h181 [(100, 100)] [1, 2, 3, 7, 8, 18, 100]
   refine cV 101 ?_
   refine cI h181 (fun _ h181 => ?_) (fun _ h181 => ?_)
   ·exact sK hk356 (a1, a2, a0, (a0.Kind == 40)) h181 [(100, 100)] [1, 2, 3, 7, 8, 18, 100]
   exact cK 101 hk356 (a1, a2, a0, (a0.Kind == 41)) h181 [(100, 100)] [1, 2, 3, 7, 8, 18, 100]
 intro hk359
 refine cV 101 ?_
 refine cI h (fun _ h => ?_) (fun _ h => ?_)
 ·exact sK hk359 (a1, a2, a0, (a0.Kind == 9)) h [(100, 100)] [1, 2, 3, 7, 8, 18, 19]
 exact cK 101 hk359 (a1, a2, a0, (a0.Kind == 10)) h [(100, 100)] [1, 2, 3, 7, 8, 18, 19]

theorem ms_TreeOk_ok (N : Nat) (a0 : LN) {r : Bool} (h : ms_TreeOk N a0 = some r) :
    AC Tryz.prog (GS []) 13 [.sl false false (a0.map (eSN false))] [] (V.b r) [] := by
 rw [ms_TreeOk] at h
 refine AC.enter Tryz.func13 rfl (cV 100 (CO.seq' (bB h fun y8 hv12 h => ?_)))
 refine CO.cutR (tl 54 [(0, .sl false false (a0.map (eSN false))), (12, V.b y8)]) [] mix (by
  refine wR 1 100 (bB hv12 fun r9 hx13 hv12 => (w0 (ms_ShapeOk_ok N a0 hx13) cok57 (wR 2 100 ?_)))
  refine wJ 8 hv12 (fun hv12 => ?_) (fun hv12 => ?_)
  ·refine wR 4 100 ?_
   cases hv12
   exact fS [] [0, 12]
  refine wR 1 100 (bB hv12 fun r10 hx15 hv12 => (w0 (ms_DepthOf_ok N a0 hx15) cok34 (wR 2 100 ?_)))
  cases hv12
  exact fS [] [0, 12]
  ) ?_
 refine cI h (fun _ h => ?_) (fun _ h => ?_)
 ·refine cV 100 ?_
  cases h
  exact e1 2 id
 refine CO.skip (CO.seq' (cV 100 (CO.block' (CO.loopJ (fun (⟨a0, y669⟩ : (LN × Int)) => ⟨tl 54 [(0, .sl false false (a0.map (eSN false))), (3, V.i y669)], []⟩) (fun n i => ms_TreeOk_l1 N n i = some r) (n0 := N) (i0 := (a0, 0)) (wS [] [0, 3]) h (fun i h => by simp [ms_TreeOk_l1] at h) ?_))))
 rintro n1 ⟨a0, y669⟩ h989 ih990
 rw [ms_TreeOk_l1] at h989
 refine CO.seq' (CO.sw mix (wR 2 280 (wN (eSN false) a0 [] (wR 1 280 (wF ?_)))))
 refine cI h989 (fun _ h989 => ?_) (fun _ h989 => ?_)
 ·refine CO.skip (CO.seq' (CO.block' (CO.seq' (bB h989 fun e923 hx1096 h989 => (bB h989 fun r924 hx1097 h989 => (CO.sw mix (wR 2 280 (wX (eSN false) hx1096 5 ?_))))))))
  refine wR 1 280 (w0 (ms_FieldsOk_ok N e923 hx1097) cok58 (wR 1 280 (wF ?_)))
  refine cI h989 (fun _ h989 => ?_) (fun _ h989 => ?_)
  ·refine cV 280 ?_
   cases h989
   exact e1 2 id
  refine CO.skip (cV 280 (CO.block' (CO.loopJ (fun (⟨a0, y669, y949⟩ : (LN × Int × Int)) => ⟨tl 54 [(0, .sl false false (a0.map (eSN false))), (3, V.i y669), (4, V.i y949)], []⟩) (fun n i => ms_TreeOk_l2 N (ms_TreeOk_l1 N n1) n i = some r) (n0 := N) (i0 := (a0, y669, 0)) (wS [] [0, 3, 4]) h989 (fun i h => by simp [ms_TreeOk_l2] at h) ?_)))
  rintro n2 ⟨a0, y669, y949⟩ h1155 ih1156
  rw [ms_TreeOk_l2] at h1155
  refine CO.seq' (bB h1155 fun e978 hx1161 h1155 => (CO.sw mix (wR 3 340 (wX (eSN false) hx1161 5 (wR 2 340 (wN eNI e978.Kids [] (wR 1 340 (wF ?_))))))))
  refine cI h1155 (fun _ h1155 => ?_) (fun _ h1155 => ?_)
  ·refine CO.skip (CO.seq' (CO.block' (bB h1155 fun e994 hx1179 h1155 => (bB h1155 fun e995 hx1180 h1155 => (bB h1155 fun e996 hx1181 h1155 => (bB h1155 fun e997 hx1182 h1155 => (bB h1155 fun r998 hx1183 h1155 => (CO.sw mix ?_))))))))
   refine wR 2 340 (wX (eSN false) hx1179 5 (wR 5 340 (wX (eSN false) hx1180 5 (wR 3 340 (wX eNI hx1181 1 (wR 1 340 (wX (eSN false) hx1182 5 (wR 2 340 ?_))))))))
   refine w0 (ms_l7Kid_ok e994 y949 e997.Kind hx1183) cok59 (wR 1 340 (wF ?_))
   refine cI h1155 (fun _ h1155 => ?_) (fun _ h1155 => ?_)
   ·refine cV 340 ?_
    cases h1155
    exact e1 2 id
   refine CO.skip ?_
   exact cK 340 ih1156 (a0, y669, (wr (y949 + 1))) h1155 [] [0, 3, 4]
  refine CO.exit ?_
  exact cK 340 ih990 (a0, (wr (y669 + 1))) h1155 [] [0, 3]
 refine CO.exit (cV 280 ?_)
 cases h989
 exact e1 2 id

theorem ms_l6Ints_ok (N : Nat) (a0 : List Int) (a1 : List Int) {r : Bool} (h : ms_l6Ints N a0 a1 = some r) :
    AC Tryz.prog (GS []) 60 [sL eNI a0, sL eNI a1] [] (V.b r) [] := by
 rw [ms_l6Ints] at h
 refine AC.enter Tryz.func60 rfl (cV 100 (CO.seq' (CO.sw mix (wR 1 100 (wN eNI a0 [] (wR 1 100 (wN eNI a1 [] (wR 1 100 ?_))))))))
 refine wF ?_
 refine cI h (fun _ h => ?_) (fun _ h => ?_)
 ·refine cV 100 ?_
  cases h
  exact e1 4 id
 refine CO.skip (CO.seq' (cV 100 (CO.block' (CO.loopJ (fun (⟨a0, a1, y35⟩ : ((List Int) × (List Int) × Int)) => ⟨tl 26 [(0, sL eNI a0), (1, sL eNI a1), (5, V.i y35)], []⟩) (fun n i => ms_l6Ints_l1 N n i = some r) (n0 := N) (i0 := (a0, a1, 0)) (wS [] [0, 1, 5]) h (fun i h => by simp [ms_l6Ints_l1] at h) ?_))))
 rintro n1 ⟨a0, a1, y35⟩ h65 ih66
 rw [ms_l6Ints_l1] at h65
 refine CO.seq' (CO.sw mix (wR 2 160 (wN eNI a0 [] (wR 1 160 (wF ?_)))))
 refine cI h65 (fun _ h65 => ?_) (fun _ h65 => ?_)
 ·refine CO.skip (CO.seq' (CO.block' (bB h65 fun e51 hx76 h65 => (bB h65 fun e52 hx77 h65 => (CO.sw mix (wR 2 160 (wX eNI hx76 1 (wR 3 160 ?_))))))))
  refine wX eNI hx77 1 (wR 2 160 (wF ?_))
  refine cI h65 (fun _ h65 => ?_) (fun _ h65 => ?_)
  ·refine cV 160 ?_
   cases h65
   exact e1 4 id
  refine CO.skip ?_
  exact cK 160 ih66 (a0, a1, (wr (y35 + 1))) h65 [] [0, 1, 5]
 refine CO.exit (cV 160 ?_)
 cases h65
 exact e1 4 id

theorem ms_SameTree_ok (N : Nat) (a0 : LN) (a1 : LN) {r : Bool} (h : ms_SameTree N a0 a1 = some r) :
    AC Tryz.prog (GS []) 14 [.sl false false (a0.map (eSN false)), .sl false false (a1.map (eSN false))] [] (V.b r) [] := by
 rw [ms_SameTree] at h
 refine AC.enter Tryz.func14 rfl (cV 100 (CO.seq' (CO.sw mix (wR 1 100 (wN (eSN false) a0 [] (wR 1 100 (wN (eSN false) a1 [] (wR 1 100 ?_))))))))
 refine wF ?_
 refine cI h (fun _ h => ?_) (fun _ h => ?_)
 ·refine cV 100 ?_
  cases h
  exact e1 4 id
 refine CO.skip (CO.seq' (cV 100 (CO.block' (CO.loopJ (fun (⟨a0, a1, y187⟩ : (LN × LN × Int)) => ⟨tl 81 [(0, .sl false false (a0.map (eSN false))), (1, .sl false false (a1.map (eSN false))), (5, V.i y187)], []⟩) (fun n i => ms_SameTree_l1 N n i = some r) (n0 := N) (i0 := (a0, a1, 0)) (wS [] [0, 1, 5]) h (fun i h => by simp [ms_SameTree_l1] at h) ?_))))
 rintro n1 ⟨a0, a1, y187⟩ h335 ih336
 rw [ms_SameTree_l1] at h335
 refine CO.seq' (CO.sw mix (wR 2 160 (wN (eSN false) a0 [] (wR 1 160 (wF ?_)))))
 refine cI h335 (fun _ h335 => ?_) (fun _ h335 => ?_)
 ·refine CO.skip (CO.seq' (CO.block' (bB h335 fun y269 hv386 h335 => ?_)))
  refine CO.cutR (tl 81 [(0, .sl false false (a0.map (eSN false))), (1, .sl false false (a1.map (eSN false))), (5, V.i y187), (80, V.b y269)]) [] mix (by
   refine wR 2 160 (bB hv386 fun e270 hx387 hv386 => (wX (eSN false) hx387 5 (wR 4 160 (bB hv386 fun e271 hx388 hv386 => (wX (eSN false) hx388 5 (wR 4 160 ?_))))))
   refine wJ 28 hv386 (fun hv386 => ?_) (fun hv386 => ?_)
   ·refine wR 52 160 ?_
    cases hv386
    exact fS [] [0, 1, 5, 80]
   refine wR 2 160 (bB hv386 fun e272 hx390 hv386 => (wX (eSN false) hx390 5 (wR 4 160 (bB hv386 fun e273 hx391 hv386 => (wX (eSN false) hx391 5 (wR 5 160 ?_))))))
   refine wJ 41 hv386 (fun hv386 => ?_) (fun hv386 => ?_)
   ·refine wR 39 160 ?_
    cases hv386
    exact fS [] [0, 1, 5, 80]
   refine wR 2 160 (bB hv386 fun e274 hx393 hv386 => (wX (eSN false) hx393 5 (wR 4 160 (bB hv386 fun e275 hx394 hv386 => (wX (eSN false) hx394 5 (wR 5 160 ?_))))))
   refine wJ 54 hv386 (fun hv386 => ?_) (fun hv386 => ?_)
   ·refine wR 26 160 ?_
    cases hv386
    exact fS [] [0, 1, 5, 80]
   refine wR 2 160 (bB hv386 fun e276 hx396 hv386 => (wX (eSN false) hx396 5 (wR 4 160 (bB hv386 fun e277 hx397 hv386 => (wX (eSN false) hx397 5 (wR 5 160 ?_))))))
   refine wJ 67 hv386 (fun hv386 => ?_) (fun hv386 => ?_)
   ·refine wR 13 160 ?_
    cases hv386
    exact fS [] [0, 1, 5, 80]
   refine wR 2 160 (bB hv386 fun e278 hx399 hv386 => (wX (eSN false) hx399 5 (wR 4 160 (bB hv386 fun e279 hx400 hv386 => (wX (eSN false) hx400 5 (wR 2 160 (bB hv386 fun r280 hx401 hv386 => (w0 (ms_l6Ints_ok N e278.Kids e279.Kids hx401) cok60 ?_))))))))
   refine wR 2 160 ?_
   cases hv386
   exact fS [] [0, 1, 5, 80]
   ) ?_
  refine cI h335 (fun _ h335 => ?_) (fun _ h335 => ?_)
  ·refine cV 160 ?_
   cases h335
   exact e1 4 id
  refine CO.skip ?_
  exact cK 160 ih336 (a0, a1, (wr (y187 + 1))) h335 [] [0, 1, 5]
 refine CO.exit (cV 160 ?_)
 cases h335
 exact e1 4 id

theorem ms_Var_ok (N : Nat) (a0 : Int) {r : LU} (h : ms_Var N a0 = some r) :
    AC Tryz.prog (GS []) 136 [V.i a0] [] (V.s r) [] := by
 rw [ms_Var] at h
 refine AC.enter Tryz.func136 rfl (cV 100 (CO.seq' (bB h fun r4 hx5 h => (cC 1 100 (ms_l1In_ok a0 0 562949953421311 hx5) cok77 ?_))))
 refine cI h (fun _ h => ?_) (fun _ h => ?_)
 ·refine cV 100 ?_
  cases h
  exact e1 2 id
 refine CO.skip (cV 100 (CO.seq' (CO.block' (CO.loopJ (fun (⟨y17, y18⟩ : (Int × LU)) => ⟨tl 25 [(0, V.i y17), (3, .own 100)], [(100, vX 5 1 byteRow y18)]⟩) (fun n i => ms_Var_l1 N n i = some r) (n0 := N) (i0 := (a0, [])) (wS [(100, 100)] [0, 3]) h (fun i h => by simp [ms_Var_l1] at h) ?_))))
 rintro n1 ⟨y17, y18⟩ h29 ih30
 rw [ms_Var_l1] at h29
 refine CO.seq' (cV 165 ?_)
 refine cI h29 (fun _ h29 => ?_) (fun _ h29 => ?_)
 ·refine CO.skip (CO.block' (bB h29 fun x24 hx34 h29 => (CO.sw mix (wR 5 165 (wR 1 165 (W.vecEq 165 (nn := true) (e := 5) (k := 1) (rows := [[.c (.int .u8 (IntKind.wrap .u8 (wr (128 + (Int.tmod y17 128)))))]]) (rows' := [(bytI (wr (128 + (Int.tmod y17 128))))].map byteRow) (by kernel_rfl) (by first | (simp only [List.map_cons, List.map_nil, ← bytI_row]; done) | (simp only [List.map_cons, List.map_nil, ← bytI_row]; rfl)) (W.appO Dk byteRow (a := 100) (c := 165) (el := 5) (sz := 1) 1 hx34 rfl 166 (by kernel_rfl) (wR 1 167 ?_))))))))
  refine wF ?_
  exact cK 167 ih30 ((wr (Int.tdiv y17 128)), x24) h29 [(166, 100)] [0, 3]
 refine CO.exit (bB h29 fun x26 hx36 h29 => (CO.sw mix (wR 3 165 (wR 1 165 (W.vecEq 165 (nn := true) (e := 5) (k := 1) (rows := [[.c (.int .u8 (IntKind.wrap .u8 y17))]]) (rows' := [(bytI y17)].map byteRow) (by kernel_rfl) (by first | (simp only [List.map_cons, List.map_nil, ← bytI_row]; done) | (simp only [List.map_cons, List.map_nil, ← bytI_row]; rfl)) (W.appO Dk byteRow (a := 100) (c := 165) (el := 5) (sz := 1) 1 hx36 rfl 166 (by kernel_rfl) (W.strO Dk x26 (a := 166) (by kernel_rfl) (wR 1 167 ?_))))))))
 refine wF ?_
 cases h29
 exact e1 2 id

theorem ms_l43Text_ok (N : Nat) (a0 : LU) {r : LU} (h : ms_l43Text N a0 = some r) :
    AC Tryz.prog (GS []) 137 [V.s a0] [] (V.s r) [] := by
 rw [ms_l43Text] at h
 refine AC.enter Tryz.func137 rfl (cV 100 (bB h fun r3 hx3 h => (bB h fun s4 hx4 h => (CO.sw mix (wR 2 100 (w0 (ms_Var_ok N (a0.length : Int) hx3) cok136 (wR 1 100 (W.cat hx4 (by kernel_rfl) ?_))))))))
 refine wR 1 100 (wF ?_)
 cases h
 exact e1 2 id

theorem ms_ShowTree_ok (N : Nat) (a0 : LN) {r : LU} (h : ms_ShowTree N a0 = some r) :
    AC Tryz.prog (GS []) 61 [.sl false false (a0.map (eSN false))] [] (V.s r) [] := by
 rw [ms_ShowTree] at h
 refine AC.enter Tryz.func61 rfl (cV 100 (CO.seq' (bB h fun r4 hx5 h => (cC 1 100 (ms_TreeOk_ok N a0 hx5) cok13 ?_))))
 refine cI h (fun _ h => ?_) (fun _ h => ?_)
 ·refine cV 100 ?_
  cases h
  exact e1 2 id
 refine CO.skip (bB h fun r6 hx8 h => (CO.sw mix (wR 1 100 (wN (eSN false) a0 [] (w0 (ms_Var_ok N (a0.length : Int) hx8) cok136 (wR 1 100 (wF (CO.seq' ?_))))))))
 refine cV 100 (CO.block' (CO.loopJ (fun (⟨a0, y251, y252⟩ : (LN × LU × Int)) => ⟨tl 55 [(0, .sl false false (a0.map (eSN false))), (3, V.s y251), (4, V.i y252)], []⟩) (fun n i => ms_ShowTree_l1 N n i = some r) (n0 := N) (i0 := (a0, r6, 0)) (wS [] [0, 3, 4]) h (fun i h => by simp [ms_ShowTree_l1] at h) ?_))
 rintro n1 ⟨a0, y251, y252⟩ h321 ih322
 rw [ms_ShowTree_l1] at h321
 refine CO.seq' (CO.sw mix (wR 2 160 (wN (eSN false) a0 [] (wR 1 160 (wF ?_)))))
 refine cI h321 (fun _ h321 => ?_) (fun _ h321 => ?_)
 ·refine CO.skip (CO.seq' (CO.block' (bB h321 fun e360 hx370 h321 => (bB h321 fun r361 hx371 h321 => (bB h321 fun s362 hx372 h321 => (bB h321 fun e363 hx373 h321 => (bB h321 fun r364 hx374 h321 => (bB h321 fun s365 hx375 h321 => ?_))))))))
  refine bB h321 fun e366 hx376 h321 => (bB h321 fun r367 hx377 h321 => (bB h321 fun s368 hx378 h321 => (bB h321 fun e369 hx379 h321 => (bB h321 fun r370 hx380 h321 => (bB h321 fun s371 hx381 h321 => (bB h321 fun e372 hx382 h321 => (bB h321 fun r373 hx383 h321 => (bB h321 fun s374 hx384 h321 => ?_))))))))
  refine CO.endR (tl 55 [(0, .sl false false (a0.map (eSN false))), (3, V.s s374), (4, V.i y252)]) [] mix (by
   refine wR 3 160 (wX (eSN false) hx370 5 (wR 2 160 (w0 (ms_Var_ok N e360.Kind hx371) cok136 (W.cat hx372 (by kernel_rfl) (wR 2 160 (wX (eSN false) hx373 5 (wR 2 160 (w0 (ms_Var_ok N e363.Op hx374) cok136 ?_))))))))
   refine W.cat hx375 (by kernel_rfl) (wR 2 160 (wX (eSN false) hx376 5 (wR 2 160 (w0 (ms_l43Text_ok N e366.Text hx377) cok137 (W.cat hx378 (by kernel_rfl) (wR 2 160 (wX (eSN false) hx379 5 (wR 2 160 ?_))))))))
   refine w0 (ms_l43Text_ok N e369.Other hx380) cok137 (W.cat hx381 (by kernel_rfl) (wR 2 160 (wX (eSN false) hx382 5 (wR 2 160 (wN eNI e372.Kids [] (w0 (ms_Var_ok N (e372.Kids.length : Int) hx383) cok136 (W.cat hx384 (by kernel_rfl) (wR 1 160 ?_))))))))
   exact fI
   ) (fun st hw => ?_)
  refine CO.weak hw ?_
  exact cK 160 ih322 (a0, s374, (wr (y252 + 1))) h321 [] [0, 3, 4]
 refine CO.exit (cV 160 ?_)
 cases h321
 exact e1 2 id

theorem ms_l1Text_ok (N : Nat) (a1 : Int) (pa : LU) (pb : Int) (pc : Int) {r : (LU × Int × Int)} (h : ms_l1Text N a1 pa pb pc = some r) :
    AC Tryz.prog (GS []) 142 [.loc 0 0, V.i a1] [(0, .cells 128 [sL byteRow pa, V.i pb, V.i pc])] (V.s r.1) [(0, .cells 128 [sL byteRow pa, V.i r.2.1, V.i r.2.2])] := by
 rw [ms_l1Text] at h
 refine AC.enter Tryz.func142 rfl (cV 100 (cV 100 (bB h fun r2 hx2 h => (CO.sw mix (wR 1 101 (wC (ms_l1Below_ok 4 pa pb pc hx2) cok63 [(0, 0)] [(0, 0)] [] (wR 1 101 (wF ?_))))))))
 refine CO.seq' (bB h fun r50 hx86 h => (CO.sw mix (wR 3 101 (wC (ms_l1Below_ok (wr (a1 + 1)) pa r2.2.1 r2.2.2 hx86) cok63 [(0, 0)] [(0, 0)] [] (wR 1 101 (wF (CO.block' (CO.loopJ (fun (⟨r2, y63, y64, y65, y66⟩ : ((Int × Int × Int) × Int × Int × Int × LU)) => ⟨tl 38 [(0, .loc 0 0), (5, .own 100), (6, V.i r2.1), (7, V.i y63)], [(0, .cells 128 [sL byteRow pa, V.i y64, V.i y65]), (100, vX 5 1 byteRow y66)]⟩) (fun n i => ms_l1Text_l1 N pa n i = some r) (n0 := N) (i0 := (r2, r50.1, r50.2.1, r50.2.2, [])) (wS [(0, 0), (100, 100)] [0, 5, 6, 7]) h (fun i h => by simp [ms_l1Text_l1] at h) ?_))))))))
 rintro n1 ⟨r2, y63, y64, y65, y66⟩ h139 ih140
 rw [ms_l1Text_l1] at h139
 refine CO.seq' (cV 165 ?_)
 refine cI h139 (fun _ h139 => ?_) (fun _ h139 => ?_)
 ·refine CO.skip (CO.seq' (CO.block' (bB h139 fun r90 hx156 h139 => (CO.sw mix (wR 1 165 (wC (ms_l1Byte_ok pa y64 y65 hx156) cok141 [(0, 0)] [(0, 0)] [] (wR 1 165 (wF ?_))))))))
  refine CO.join (fun (⟨r2, y63, r90, y66, y91⟩ : ((Int × Int × Int) × Int × (Int × Int × Int) × LU × Int)) => ⟨tl 38 [(0, .loc 0 0), (5, .own 100), (6, V.i r2.1), (7, V.i y63), (8, V.i y91)], [(0, .cells 128 [sL byteRow pa, V.i r90.2.1, V.i r90.2.2]), (100, vX 5 1 byteRow y66)]⟩) (fun i => ms_l1Text_k2 N pa (ms_l1Text_l1 N pa n1) i = some r) ?_ ?_
  · rintro ⟨r2, y63, r90, y66, y91⟩ h158
    rw [ms_l1Text_k2] at h158
    refine CO.join (fun (⟨r2, y63, r90, y66, y92⟩ : ((Int × Int × Int) × Int × (Int × Int × Int) × LU × Int)) => ⟨tl 38 [(0, .loc 0 0), (5, .own 100), (6, V.i r2.1), (7, V.i y63), (8, V.i y92)], [(0, .cells 128 [sL byteRow pa, V.i r90.2.1, V.i r90.2.2]), (100, vX 5 1 byteRow y66)]⟩) (fun i => ms_l1Text_k3 N pa (ms_l1Text_l1 N pa n1) i = some r) ?_ ?_
    · rintro ⟨r2, y63, r90, y66, y92⟩ h160
      rw [ms_l1Text_k3] at h160
      refine bB h160 fun x94 hx162 h160 => ?_
      refine CO.endR (tl 38 [(0, .loc 0 0), (5, .own 166), (6, V.i r2.1), (7, V.i y63)]) [(166, vX 5 1 byteRow x94), (0, .cells 128 [sL byteRow pa, V.i r90.2.1, V.i r90.2.2])] mix (by
       refine wR 3 165 (wR 1 165 (W.vecEq 165 (nn := true) (e := 5) (k := 1) (rows := [[.c (.int .u8 (IntKind.wrap .u8 y92))]]) (rows' := [(bytI y92)].map byteRow) (by kernel_rfl) (by first | (simp only [List.map_cons, List.map_nil, ← bytI_row]; done) | (simp only [List.map_cons, List.map_nil, ← bytI_row]; rfl)) (W.appO Dk byteRow (a := 100) (c := 165) (el := 5) (sz := 1) 1 hx162 rfl 166 (by kernel_rfl) (wR 1 167 ?_))))
       exact fI
       ) (fun st hw => ?_)
      refine CO.weak hw ?_
      exact cK 167 ih140 (r2, (wr (y63 - 1)), r90.2.1, r90.2.2, x94) h160 [(0, 0), (166, 100)] [0, 5, 6, 7]
    intro hk163
    refine cV 165 ?_
    refine cI h158 (fun _ h158 => ?_) (fun _ h158 => ?_)
    ·exact cK 165 hk163 (r2, y63, r90, y66, (wr (97 + (Int.tmod y91 4)))) h158 [(0, 0), (100, 100)] [0, 5, 6, 7, 8]
    exact sK hk163 (r2, y63, r90, y66, y91) h158 [(0, 0), (100, 100)] [0, 5, 6, 7, 8]
  intro hk165
  refine cV 165 ?_
  refine cI h139 (fun _ h139 => ?_) (fun _ h139 => ?_)
  ·exact cK 165 hk165 (r2, y63, r90, y66, (Int.tmod r90.1 2)) h139 [(0, 0), (100, 100)] [0, 5, 6, 7, 8]
  exact sK hk165 (r2, y63, r90, y66, r90.1) h139 [(0, 0), (100, 100)] [0, 5, 6, 7, 8]
 refine CO.exit (CO.sw mix (wR 1 165 (W.strO Dk y66 (a := 100) (by kernel_rfl) (wR 1 165 (wF (CO.ret ?_))))))
 have h139 := sI h139
 subst h139
 exact eG [(0, 0)] (.inr rfl) (RetV.one rfl (oT (t := 4) (r := V.s y66)))

theorem ms_l1Spoil_ok (N : Nat) (a1 : LU) (pa : LU) (pb : Int) (pc : Int) {r : (LU × Int × Int)} (h : ms_l1Spoil N a1 pa pb pc = some r) :
    AC Tryz.prog (GS []) 64 [.loc 0 0, V.s a1] [(0, .cells 128 [sL byteRow pa, V.i pb, V.i pc])] (V.s r.1) [(0, .cells 128 [sL byteRow pa, V.i r.2.1, V.i r.2.2])] := by
 rw [ms_l1Spoil] at h
 refine AC.enter Tryz.func64 rfl (cV 100 (CO.seq' (cV 100 ?_)))
 refine cI h (fun _ h => ?_) (fun _ h => ?_)
 ·refine bB h fun r4 hx6 h => (CO.sw mix (wR 1 100 (wC (ms_l1Text_ok N 3 pa pb pc hx6) cok142 [(0, 0)] [(0, 0)] [] (wR 1 100 (wF (CO.ret ?_))))))
  have h := sI h
  subst h
  exact eG [(0, 0)] (.inr rfl) (RetV.one rfl (oT (t := 4) (r := V.s r4.1)))
 refine CO.skip (bB h fun r6 hx8 h => (CO.sw mix (wR 3 100 (wC (ms_l1Below_ok (a1.length : Int) pa pb pc hx8) cok63 [(0, 0)] [(0, 0)] [] (wR 1 100 (wF (CO.seq' (bB h fun r28 hx33 h => ?_))))))))
 refine CO.sw mix (wR 1 100 (wC (ms_l1Below_ok 4 pa r6.2.1 r6.2.2 hx33) cok63 [(0, 0)] [(0, 0)] [] (wF (CO.block' (cV 100 ?_)))))
 refine cI h (fun _ h => ?_) (fun _ h => ?_)
 ·refine bB h fun s32 hx38 h => (bB h fun s33 hx39 h => (bB h fun s34 hx40 h => (CO.sw mix (wR 2 100 (W.cutS Dk hx38 (by kernel_rfl) (wR 3 100 (W.cutS Dk hx39 (by kernel_rfl) (W.cat hx40 (by kernel_rfl) ?_))))))))
  refine wR 1 100 (wF (CO.ret ?_))
  have h := sI h
  subst h
  exact eG [(0, 0)] (.inr rfl) (RetV.one rfl (oT (t := 4) (r := V.s s34)))
 refine cV 100 ?_
 refine cI h (fun _ h => ?_) (fun _ h => ?_)
 ·refine bB h fun s40 hx47 h => (bB h fun r41 hx48 h => (bB h fun s42 hx49 h => (bB h fun s43 hx50 h => (bB h fun s44 hx51 h => (CO.sw mix (wR 2 100 (W.cutS Dk hx47 (by kernel_rfl) (wR 1 100 ?_))))))))
  refine wC (ms_l1Byte_ok pa r28.2.1 r28.2.2 hx48) cok141 [(0, 0)] [(0, 0)] [] (wR 1 100 (wR 1 100 (W.vecEq 100 (nn := true) (e := 5) (k := 1) (rows := [[.c (.int .u8 (IntKind.wrap .u8 r41.1))]]) (rows' := [(bytI r41.1)].map byteRow) (by kernel_rfl) (by first | (simp only [List.map_cons, List.map_nil, ← bytI_row]; done) | (simp only [List.map_cons, List.map_nil, ← bytI_row]; rfl)) (W.strO Dk ([(bytI r41.1)] : LU) (a := 100) (by kernel_rfl) (W.cat hx49 (by kernel_rfl) (wR 2 101 (W.cutS Dk hx50 (by kernel_rfl) (W.cat hx51 (by kernel_rfl) ?_))))))))
  refine wR 1 101 (wF (CO.ret ?_))
  have h := sI h
  subst h
  exact eG [(0, 0)] (.inr rfl) (RetV.one rfl (oT (t := 4) (r := V.s s44)))
 refine cV 100 ?_
 refine cI h (fun _ h => ?_) (fun _ h => ?_)
 ·refine bB h fun s46 hx54 h => (CO.sw mix (wR 2 100 (W.cutS Dk hx54 (by kernel_rfl) (wR 1 100 (wF (CO.ret ?_))))))
  have h := sI h
  subst h
  exact eG [(0, 0)] (.inr rfl) (RetV.one rfl (oT (t := 4) (r := V.s s46)))
 refine CO.skip (bB h fun s53 hx61 h => (bB h fun b54 hx62 h => (bB h fun r55 hx63 h => (bB h fun s56 hx64 h => (bB h fun s57 hx65 h => (bB h fun s58 hx66 h => (CO.sw mix (wR 2 100 ?_))))))))
 refine W.cutS Dk hx61 (by kernel_rfl) (wR 2 100 (W.ixS Dk hx62 (by kernel_rfl) (wR 2 100 (wC (ms_l1Below_ok 255 pa r28.2.1 r28.2.2 hx63) cok63 [(0, 0)] [(0, 0)] [] (wR 3 100 (wR 1 100 (W.vecEq 100 (nn := true) (e := 5) (k := 1) (rows := [[.c (.int .u8 (IntKind.wrap .u8 (bits .xor .i64 (wr ((b54).toNat : Int)) (wr (1 + r55.1)))))]]) (rows' := [(bytI (bits .xor .i64 (wr ((b54).toNat : Int)) (wr (1 + r55.1))))].map byteRow) (by kernel_rfl) (by first | (simp only [List.map_cons, List.map_nil, ← bytI_row]; done) | (simp only [List.map_cons, List.map_nil, ← bytI_row]; rfl)) (W.strO Dk ([(bytI (bits .xor .i64 (wr ((b54).toNat : Int)) (wr (1 + r55.1))))] : LU) (a := 100) (by kernel_rfl) ?_))))))))
 refine W.cat hx64 (by kernel_rfl) (wR 3 101 (W.cutS Dk hx65 (by kernel_rfl) (W.cat hx66 (by kernel_rfl) (wR 1 101 (wF (CO.ret ?_))))))
 have h := sI h
 subst h
 exact eG [(0, 0)] (.inr rfl) (RetV.one rfl (oT (t := 4) (r := V.s s58)))

theorem ms_DrawReadTree_ok (N : Nat) (a0 : LU) {r : LU} (h : ms_DrawReadTree N a0 = some r) :
    AC Tryz.prog (GS []) 15 [sL byteRow a0] [] (V.s r) [] := by
 rw [ms_DrawReadTree] at h
 refine AC.enter Tryz.func15 rfl (cV 100 (bB h fun r2 hx2 h => (CO.sw mix (wR 1 100 (wC (ms_l1New_ok N a0 hx2) cok53 [] [(100, 100)] [100] (wR 1 101 (wF (bB h fun r5 hx5 h => ?_))))))))
 refine bB h fun r6 hx6 h => (CO.sw mix (wR 1 101 (wC (ms_l7Any_ok N r2.1 r2.2.1 r2.2.2 hx5) cok62 [(100, 0)] [(0, 100), (100, 101)] [101] (W.lend (ms_ShowTree_ok N r5.1 hx6) cok61 [] [] (LayOk.cons (j := 101) (eSN true) (eSN false) r5.1 (by kernel_rfl) (sh_eSN _) lO) (.c _) .nil (by kernel_rfl) (by kernel_rfl) (wR 1 102 (wF (CO.seq' (bB h fun r18 hx21 h => ?_))))))))
 refine CO.sw mix (wR 1 102 (wC (ms_l1Below_ok 5 r2.1 r5.2.1 r5.2.2 hx21) cok63 [(100, 0)] [(0, 100)] [] (wF (CO.block' (cV 102 ?_)))))
 refine cI h (fun _ h => ?_) (fun _ h => ?_)
 ·refine bB h fun r20 hx24 h => (CO.sw mix (wR 2 102 (wC (ms_l1Spoil_ok N r6 r2.1 r18.2.1 r18.2.2 hx24) cok64 [(100, 0)] [(0, 100)] [] (wR 1 102 (wF ?_)))))
  cases h
  exact e1 2 id
 refine cV 102 ?_
 refine cI h (fun _ h => ?_) (fun _ h => ?_)
 ·refine bB h fun s22 hx27 h => (CO.sw mix (wR 1 102 (W.cat hx27 (by kernel_rfl) (wR 1 102 (wF ?_)))))
  cases h
  exact e1 2 id
 refine cV 102 ?_
 refine cI h (fun _ h => ?_) (fun _ h => ?_)
 ·refine bB h fun r25 hx31 h => (bB h fun s26 hx32 h => (CO.sw mix (wR 5 102 (wC (ms_l1Below_ok (wr ((r6.length : Int) + 1)) r2.1 r18.2.1 r18.2.2 hx31) cok63 [(100, 0)] [(0, 100)] [] (W.cutS Dk hx32 (by kernel_rfl) (wR 1 102 (wF ?_)))))))
  cases h
  exact e1 2 id
 refine CO.skip (cV 102 ?_)
 cases h
 exact e1 2 id

theorem ms_ReadVar_ok (N : Nat) (a0 : LU) {r : (Int × Int)} (h : ms_ReadVar N a0 = some r) :
    AC Tryz.prog (GS []) 143 [V.s a0] [] (.tup [V.i r.1, V.i r.2]) [] := by
 rw [ms_ReadVar] at h
 refine AC.enter Tryz.func143 rfl (cV 100 (CO.seq' (cV 100 (CO.block' (CO.loopJ (fun (⟨a0, y295⟩ : (LU × Int)) => ⟨tl 39 [(0, V.s a0), (4, V.i y295)], []⟩) (fun n i => ms_ReadVar_l1 N n i = some r) (n0 := N) (i0 := (a0, 1)) (wS [] [0, 4]) h (fun i h => by simp [ms_ReadVar_l1] at h) ?_)))))
 rintro n1 ⟨a0, y295⟩ h465 ih466
 rw [ms_ReadVar_l1] at h465
 refine CO.seq' (bB h465 fun y372 hv472 h465 => ?_)
 refine CO.cutR (tl 39 [(0, V.s a0), (4, V.i y295), (14, V.b y372)]) [] mix (by
  refine wR 3 280 ?_
  refine wJ 9 hv472 (fun hv472 => ?_) (fun hv472 => ?_)
  ·refine wR 5 280 ?_
   cases hv472
   exact fS [] [0, 4, 14]
  refine wR 5 280 ?_
  cases hv472
  exact fS [] [0, 4, 14]
  ) ?_
 refine cI h465 (fun _ h465 => ?_) (fun _ h465 => ?_)
 ·refine CO.skip (CO.seq' (CO.block' (cV 280 (CO.seq' (cV 280 (CO.block' (CO.loopJ (fun (⟨a0, y295, y429, y430⟩ : (LU × Int × Int × Int)) => ⟨tl 39 [(0, V.s a0), (4, V.i y295), (5, V.i y429), (6, V.i y430)], []⟩) (fun n i => ms_ReadVar_l2 N (ms_ReadVar_l1 N n1) n i = some r) (n0 := N) (i0 := (a0, y295, 0, (wr (y295 - 1)))) (wS [] [0, 4, 5, 6]) h465 (fun i h => by simp [ms_ReadVar_l2] at h) ?_)))))))
  rintro n2 ⟨a0, y295, y429, y430⟩ h552 ih553
  rw [ms_ReadVar_l2] at h552
  refine CO.seq' (cV 340 ?_)
  refine cI h552 (fun _ h552 => ?_) (fun _ h552 => ?_)
  ·refine CO.skip (CO.seq' (CO.block' (bB h552 fun b440 hx559 h552 => ?_)))
   refine CO.endR (tl 39 [(0, V.s a0), (4, V.i y295), (5, V.i (wr ((wr (y429 * 128)) + (Int.tmod (wr ((b440).toNat : Int)) 128)))), (6, V.i y430)]) [] mix (by
    refine wR 4 340 (W.ixS Dk hx559 (by kernel_rfl) (wR 4 340 ?_))
    exact fI
    ) (fun st hw => ?_)
   refine CO.weak hw ?_
   exact cK 340 ih553 (a0, y295, (wr ((wr (y429 * 128)) + (Int.tmod (wr ((b440).toNat : Int)) 128))), (wr (y430 - 1))) h552 [] [0, 4, 5, 6]
  refine CO.exit (bB h552 fun r443 hx562 h552 => (bB h552 fun s444 hx563 h552 => (CO.sw mix (wR 1 340 (w0 (ms_Var_ok N y429 hx562) cok136 (wR 2 340 (W.cutS Dk hx563 (by kernel_rfl) (wR 1 340 ?_))))))))
  refine wF ?_
  refine cI h552 (fun _ h552 => ?_) (fun _ h552 => ?_)
  ·refine cV 340 (CO.ret ?_)
   have h552 := sI h552
   subst h552
   exact eG [] (.inr rfl) (RetV.two rfl (oT (t := 2) (r := V.i y429)) (oT (t := 3) (r := V.i y295)))
  refine CO.skip ?_
  exact cK 340 ih466 (a0, (wr (y295 + 1))) h552 [] [0, 4]
 refine CO.exit (cV 280 (CO.ret ?_))
 cases h465
 exact eG [] (.inr rfl) (RetV.two rfl (oT (t := 2) (r := V.i 0)) (oT (t := 3) (r := V.i 0)))

theorem ms_l43Num_ok (N : Nat) (a0 : LU) (a1 : Int) {r : (Int × Int)} (h : ms_l43Num N a0 a1 = some r) :
    AC Tryz.prog (GS []) 65 [V.s a0, V.i a1] [] (.tup [V.i r.1, V.i r.2]) [] := by
 rw [ms_l43Num] at h
 refine AC.enter Tryz.func65 rfl (cV 100 (CO.seq' (cV 100 ?_)))
 refine cI h (fun _ h => ?_) (fun _ h => ?_)
 ·refine cV 100 (CO.ret ?_)
  cases h
  exact eG [] (.inr rfl) (RetV.two rfl (oT (t := 4) (r := V.i 0)) (oT (t := 5) (r := V.i (-1))))
 refine CO.skip (bB h fun s3 hx5 h => (bB h fun r4 hx6 h => (CO.sw mix (wR 2 100 (W.cutS Dk hx5 (by kernel_rfl) (w0 (ms_ReadVar_ok N s3 hx6) cok143 (wR 5 100 (wF ?_))))))))
 refine CO.seq' (cV 100 ?_)
 refine cI h (fun _ h => ?_) (fun _ h => ?_)
 ·refine cV 100 (CO.ret ?_)
  cases h
  exact eG [] (.inr rfl) (RetV.two rfl (oT (t := 4) (r := V.i 0)) (oT (t := 5) (r := V.i (-1))))
 refine CO.skip (cV 100 (CO.ret ?_))
 have h := sI h
 subst h
 exact eG [] (.inr rfl) (RetV.two rfl (oT (t := 4) (r := V.i r4.1)) (oT (t := 5) (r := V.i (wr (a1 + r4.2)))))

theorem ms_l43Read_ok (N : Nat) (a0 : LU) (a1 : Int) {r : (LU × Int)} (h : ms_l43Read N a0 a1 = some r) :
    AC Tryz.prog (GS []) 66 [V.s a0, V.i a1] [] (.tup [V.s r.1, V.i r.2]) [] := by
 rw [ms_l43Read] at h
 refine AC.enter Tryz.func66 rfl (cV 100 (bB h fun r2 hx2 h => (cC 2 100 (ms_l43Num_ok N a0 a1 hx2) cok65 (CO.seq' (bB h fun y4 hv8 h => ?_)))))
 refine CO.cutR (tl 33 [(0, V.s a0), (6, V.i r2.1), (7, V.i r2.2), (23, V.b y4)]) [] mix (by
  refine wR 3 100 ?_
  refine wJ 16 hv8 (fun hv8 => ?_) (fun hv8 => ?_)
  ·refine wR 7 100 ?_
   cases hv8
   exact fS [] [0, 6, 7, 23]
  refine wR 7 100 ?_
  cases hv8
  exact fS [] [0, 6, 7, 23]
  ) ?_
 refine cI h (fun _ h => ?_) (fun _ h => ?_)
 ·refine cV 100 (CO.ret ?_)
  cases h
  exact eG [] (.inr rfl) (RetV.two rfl (oT (t := 4) (r := V.s [])) (oT (t := 5) (r := V.i (-1))))
 refine CO.skip (bB h fun s6 hx12 h => (CO.sw mix (wR 5 100 (W.cutS Dk hx12 (by kernel_rfl) (wR 5 100 (wF (CO.ret ?_)))))))
 have h := sI h
 subst h
 exact eG [] (.inr rfl) (RetV.two rfl (oT (t := 4) (r := V.s s6)) (oT (t := 5) (r := V.i (wr (r2.2 + r2.1)))))

theorem ms_l43Kids_ok (a0 : List Int) (a1 : Int) {r : ((List Int) × (List Int))} (h : ms_l43Kids a0 a1 = some r) :
    AC Tryz.prog (GS []) 67 [sL eNI a0, V.i a1] [] (.tup [sL eNI r.1, .own 100]) [(100, vX 3 1 eNI r.2)] := by
 rw [ms_l43Kids] at h
 refine AC.enter Tryz.func67 rfl (cV 100 (CO.seq' (CO.sw mix (wR 2 100 (wN eNI a0 [] (wR 1 100 (wF ?_)))))))
 refine cI h (fun _ h => ?_) (fun _ h => ?_)
 ·refine cU 4 100 (tl 26 [(4, .own 100), (5, .own 101)]) [(101, .vec false 3 1 ([(-1)].map eNI)), (100, vX 3 1 eNI [])] (CO.lay (tl 26 [(4, sL eNI []), (5, .own 101)]) [(101, .vec false 3 1 ([(-1)].map eNI))] (LayOk.cons (j := 100) eNI eNI ([] : List Int) (by kernel_rfl) (fun _ => rfl) lO) (by kernel_rfl) (by kernel_rfl) (by kernel_rfl) (CO.ret ?_))
  cases h
  exact eG [(101, 100)] (.inr rfl) (RetV.two rfl (oT (t := 4) (r := sL eNI [])) (oT (t := 5) (r := .own 101)))
 refine CO.skip (bB h fun l4 hx6 h => (bB h fun l5 hx7 h => (bB h fun x6 hx8 h => (CO.sw mix (wR 2 100 (wN eNI a0 [] (wR 2 100 (W.cutD Dk eNI hx6 false 1 (fun _ => by first | rfl | kernel_rfl) (by kernel_rfl) ?_))))))))
 refine wR 3 100 (wN eNI a0 [] (wR 2 101 (W.cutD Dk eNI hx7 false 1 (fun _ => by first | rfl | kernel_rfl) (by kernel_rfl) (W.appD Dk eNI (a := 100) (el := 3) 8 hx8 rfl 101 1 (fun _ => by first | rfl | kernel_rfl) (by kernel_rfl) (wR 2 102 (wF (CO.ret ?_)))))))
 have h := sI h
 subst h
 exact eG [(101, 100)] (.inr rfl) (RetV.two rfl (oT (t := 4) (r := sL eNI l4)) (oT (t := 5) (r := .own 101)))

theorem ms_ReadTree_ok (N : Nat) (a0 : LU) {r : (LN × Bool)} (h : ms_ReadTree N a0 = some r) :
    AC Tryz.prog (GS []) 16 [V.s a0] [] (.tup [.own 100, V.b r.2]) [(100, .vec false 37 5 (r.1.map (eSN true)))] := by
 rw [ms_ReadTree] at h
 refine AC.enter Tryz.func16 rfl (cV 100 (cV 100 (cV 101 (bB h fun r2 hx2 h => (cC 1 102 (ms_l43Num_ok N a0 0 hx2) cok65 (CO.seq' (cV 102 (CO.block' ?_))))))))
 refine CO.loopJ (fun (⟨a0, r2, y171, y172, y173, y174⟩ : (LU × (Int × Int) × Int × Int × LN × (List Int))) => ⟨tl 106 [(0, V.s a0), (4, .own 100), (5, .own 101), (6, V.i r2.1), (7, V.i y171), (8, V.i y172)], [(100, .vec false 37 5 (y173.map (eSN true))), (101, vX 3 1 eNI y174)]⟩) (fun n i => ms_ReadTree_l1 N n i = some r) (n0 := N) (i0 := (a0, r2, r2.2, 0, [], [])) (wS [(100, 100), (101, 101)] [0, 4, 5, 6, 7, 8]) h (fun i h => by simp [ms_ReadTree_l1] at h) ?_
 rintro n1 ⟨a0, r2, y171, y172, y173, y174⟩ h247 ih248
 rw [ms_ReadTree_l1] at h247
 refine CO.seq' (bB h247 fun y220 hv257 h247 => ?_)
 refine CO.cutR (tl 106 [(0, V.s a0), (4, .own 100), (5, .own 101), (6, V.i r2.1), (7, V.i y171), (8, V.i y172), (28, V.b y220)]) [(100, .vec false 37 5 (y173.map (eSN true))), (101, vX 3 1 eNI y174)] mix (by
  refine wR 4 178 ?_
  refine wJ 21 hv257 (fun hv257 => ?_) (fun hv257 => ?_)
  ·refine wR 4 178 ?_
   refine wJ 25 hv257 (fun hv257 => ?_) (fun hv257 => ?_)
   ·refine wR 3 178 ?_
    cases hv257
    exact fS [(100, 100), (101, 101)] [0, 4, 5, 6, 7, 8, 28]
   refine wR 3 178 ?_
   cases hv257
   exact fS [(100, 100), (101, 101)] [0, 4, 5, 6, 7, 8, 28]
  refine wR 7 178 ?_
  cases hv257
  exact fS [(100, 100), (101, 101)] [0, 4, 5, 6, 7, 8, 28]
  ) ?_
 refine cI h247 (fun _ h247 => ?_) (fun _ h247 => ?_)
 ·refine CO.skip (CO.seq' (CO.block' (cV 178 (cV 179 (bB h247 fun r241 hx281 h247 => (cC 2 179 (ms_l43Num_ok N a0 y171 hx281) cok65 (bB h247 fun r243 hx283 h247 => (cC 2 179 (ms_l43Num_ok N a0 r241.2 hx283) cok65 ?_))))))))
  refine bB h247 fun r245 hx285 h247 => (cC 2 179 (ms_l43Read_ok N a0 r243.2 hx285) cok66 (bB h247 fun r247 hx287 h247 => (cC 2 179 (ms_l43Read_ok N a0 r245.2 hx287) cok66 (bB h247 fun r249 hx289 h247 => ?_))))
  refine CO.cutR (tl 106 [(0, V.s a0), (4, .own 100), (5, .own 101), (6, V.i r2.1), (7, V.i r249.2), (8, V.i y172), (9, .loc 178 0), (10, V.i r249.1)]) [(178, .cells 37 [V.i r241.1, V.i r243.1, V.s r245.1, V.s r247.1, .c (.slice none 0 0)]), (100, .vec false 37 5 (y173.map (eSN true))), (101, vX 3 1 eNI y174)] mix (by
   refine wR 2 179 (w0 (ms_l43Num_ok N a0 r247.2 hx289) cok65 (wR 5 179 ?_))
   exact fI
   ) ?_
  refine CO.lay (tl 106 [(0, V.s a0), (4, .own 100), (5, sL eNI y174), (6, V.i r2.1), (7, V.i r249.2), (8, V.i y172), (9, .loc 178 0), (10, V.i r249.1)]) [(178, .cells 37 [V.i r241.1, V.i r243.1, V.s r245.1, V.s r247.1, sL eNI []]), (100, .vec false 37 5 (y173.map (eSN true)))] (LayOk.cons (j := 101) eNI eNI y174 (by kernel_rfl) (fun _ => rfl) lO) (by kernel_rfl) (by kernel_rfl) (by kernel_rfl) (bB h247 fun r252 hx292 h247 => (CO.sw mix (wR 2 179 (wC (ms_l43Kids_ok y174 r249.1 hx292) cok67 [] [(100, 179)] [179] (wR 6 180 (wF (bB h247 fun x255 hx295 h247 => (bB h247 fun x256 hx296 h247 => ?_))))))))
  refine CO.sw mix (wR 2 180 (W.appD Dk eNI (a := 180) (el := 3) 8 hx295 rfl 181 1 (fun _ => by first | rfl | kernel_rfl) (by kernel_rfl) (wR 2 182 (W.appO Dk eNI (a := 181) (c := 182) (el := 3) (sz := 1) 8 hx296 rfl 183 (by kernel_rfl) (wR 1 184 (wF (bB h247 fun x258 hx298 h247 => ?_)))))))
  refine CO.endR (tl 106 [(0, V.s a0), (4, .own 185), (5, .own 183), (6, V.i r2.1), (7, V.i r249.2), (8, V.i y172)]) [(185, .vec false 37 5 (x258.map (eSN true))), (183, vX 3 1 eNI x256)] mix (by
   refine wR 3 184 (W.appO Dk (eSN true) (a := 100) (c := 184) (el := 37) (sz := 5) 72 hx298 rfl 185 (by kernel_rfl) (wR 1 186 ?_))
   exact fI
   ) (fun st hw => ?_)
  refine CO.weak hw ?_
  exact cK 186 ih248 (a0, r2, r249.2, (wr (y172 + 1)), x258, x256) h247 [(185, 100), (183, 101)] [0, 4, 5, 6, 7, 8]
 refine CO.exit (CO.seq' (bB h247 fun y266 hv316 h247 => ?_))
 refine CO.cutR (tl 106 [(4, .own 100), (103, V.b y266)]) [(100, .vec false 37 5 (y173.map (eSN true)))] mix (by
  refine wR 5 178 ?_
  refine wJ 87 hv316 (fun hv316 => ?_) (fun hv316 => ?_)
  ·refine wR 16 178 ?_
   cases hv316
   exact fS [(100, 100)] [4, 103]
  refine wR 1 178 (wN (eSN true) y173 [100] (wR 4 178 ?_))
  refine wJ 93 hv316 (fun hv316 => ?_) (fun hv316 => ?_)
  ·refine wR 10 178 ?_
   cases hv316
   exact fS [(100, 100)] [4, 103]
  refine wR 1 178 (bB hv316 fun r267 hx319 hv316 => (W.lend (ms_TreeOk_ok N y173 hx319) cok13 [] [] (LayOk.cons (j := 100) (eSN true) (eSN false) y173 (by kernel_rfl) (sh_eSN _) lO) (.c _) .nil (by kernel_rfl) (by kernel_rfl) (wR 3 178 ?_)))
  refine wJ 98 hv316 (fun hv316 => ?_) (fun hv316 => ?_)
  ·refine wR 5 178 ?_
   cases hv316
   exact fS [(100, 100)] [4, 103]
  refine wR 1 178 (bB hv316 fun r268 hx321 hv316 => (W.lend (ms_ShowTree_ok N y173 hx321) cok61 [] [] (LayOk.cons (j := 100) (eSN true) (eSN false) y173 (by kernel_rfl) (sh_eSN _) lO) (.c _) .nil (by kernel_rfl) (by kernel_rfl) (wR 3 178 ?_)))
  cases hv316
  exact fS [(100, 100)] [4, 103]
  ) ?_
 refine cI h247 (fun _ h247 => ?_) (fun _ h247 => ?_)
 ·refine cV 178 (CO.ret ?_)
  cases h247
  exact eG [(178, 100)] (.inr rfl) (RetV.two rfl (oT (t := 2) (r := .own 178)) (oT (t := 3) (r := V.b false)))
 refine CO.skip (cV 178 (CO.ret ?_))
 cases h247
 exact eG [(100, 100)] (.inr rfl) (RetV.two rfl (oT (t := 2) (r := .own 100)) (oT (t := 3) (r := V.b true)))

theorem ml_FnShown_ok (N : Nat) (a0 : LU) {r : Bool} (h : ml_FnShown N a0 = some r) :
    AC Tryz.prog (GS [0, 1, 2]) 3 [sL byteRow a0] [] (V.b r) [] := by
 rw [ml_FnShown] at h
 refine AC.enter Tryz.func3 rfl (cV 100 (CO.seq' (bB h fun r4 hx5 h => (cC 1 100 (AC.gs (ml_big_ok a0 hx5) (by decide)) cok9 ?_))))
 refine cI h (fun _ h => ?_) (fun _ h => ?_)
 ·refine cV 100 ?_
  cases h
  exact e1 2 id
 refine CO.skip (bB h fun r6 hx8 h => (cC 1 100 (AC.gs (ms_DrawShowTree_ok N a0 hx8) (by decide)) cok10 (bB h fun r8 hx10 h => (cC 1 100 (mi_ShowTree_ok N r6 hx10) cok11 (bB h fun r10 hx12 h => (CO.sw mix (wR 1 100 (wC (mi_ReadTree_ok N r8 hx12) cok12 [] [(100, 100)] [100] ?_))))))))
 refine wR 5 101 (wF (CO.seq' (bB h fun y18 hv30 h => ?_)))
 refine CO.cutR (tl 71 [(0, sL byteRow a0), (41, V.b y18)]) [] mix (by
  refine wR 2 101 (bB hv30 fun r19 hx31 hv30 => (w0 (AC.gs (ms_TreeOk_ok N r6 hx31) (by decide)) cok13 (wR 2 101 ?_)))
  refine wJ 27 hv30 (fun hv30 => ?_) (fun hv30 => ?_)
  ·refine wR 14 101 ?_
   cases hv30
   exact fS [] [0, 41]
  refine wR 2 101 ?_
  refine wJ 29 hv30 (fun hv30 => ?_) (fun hv30 => ?_)
  ·refine wR 2 101 (bB hv30 fun r20 hx34 hv30 => (W.lend (AC.gs (ms_SameTree_ok N r10.1 r6 hx34) (by decide)) cok14 [] [] (LayOk.cons (j := 100) (eSN true) (eSN false) r10.1 (by kernel_rfl) (sh_eSN _) lO) (.c _) .nil (by kernel_rfl) (by kernel_rfl) (wR 4 101 ?_)))
   refine wJ 36 hv30 (fun hv30 => ?_) (fun hv30 => ?_)
   ·refine wR 5 101 ?_
    cases hv30
    exact fS [] [0, 41]
   refine wR 5 101 ?_
   cases hv30
   exact fS [] [0, 41]
  refine wR 12 101 ?_
  cases hv30
  exact fS [] [0, 41]
  ) ?_
 refine cI h (fun _ h => ?_) (fun _ h => ?_)
 ·refine cV 101 ?_
  cases h
  exact e1 2 id
 refine CO.skip (bB h fun r22 hx38 h => (cC 1 101 (AC.gs (ms_DrawReadTree_ok N a0 hx38) (by decide)) cok15 (bB h fun r24 hx40 h => (CO.sw mix (wR 1 101 (wC (mi_ReadTree_ok N r22 hx40) cok12 [] [(100, 101)] [101] (wR 5 102 (wF ?_))))))))
 refine bB h fun r26 hx42 h => (CO.sw mix (wR 1 102 (wC (AC.gs (ms_ReadTree_ok N r22 hx42) (by decide)) cok16 [] [(100, 102)] [102] (wR 5 103 (wF (bB h fun y29 hv48 h => ?_))))))
 refine CO.cutR (tl 71 [(2, V.b y29)]) [] mix (by
  refine wR 4 103 ?_
  refine wJ 57 hv48 (fun hv48 => ?_) (fun hv48 => ?_)
  ·refine wR 3 103 ?_
   refine wJ 60 hv48 (fun hv48 => ?_) (fun hv48 => ?_)
   ·refine wR 11 103 ?_
    cases hv48
    exact fS [] [2]
   refine wR 1 103 (bB hv48 fun r30 hx51 hv48 => (W.lend (mi_ShowTree_ok N r24.1 hx51) cok11 [] [] (LayOk.cons (j := 101) (eSN true) (eSN false) r24.1 (by kernel_rfl) (sh_eSN _) lO) (.c _) .nil (by kernel_rfl) (by kernel_rfl) (wR 3 103 ?_)))
   refine wJ 65 hv48 (fun hv48 => ?_) (fun hv48 => ?_)
   ·refine wR 1 103 (bB hv48 fun r31 hx53 hv48 => (W.lend (AC.gs (ms_TreeOk_ok N r24.1 hx53) (by decide)) cok13 [] [] (LayOk.cons (j := 101) (eSN true) (eSN false) r24.1 (by kernel_rfl) (sh_eSN _) lO) (.c _) .nil (by kernel_rfl) (by kernel_rfl) (wR 4 103 ?_)))
    cases hv48
    exact fS [] [2]
   refine wR 6 103 ?_
   cases hv48
   exact fS [] [2]
  refine wR 14 103 ?_
  cases hv48
  exact fS [] [2]
  ) ?_
 cases h
 exact e1 2 id

end Go.Proofs.Tryz
