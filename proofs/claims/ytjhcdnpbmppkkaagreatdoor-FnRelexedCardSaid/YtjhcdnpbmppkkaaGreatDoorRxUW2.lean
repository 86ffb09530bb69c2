/-
 The walks that show that the code computes the models, part 2.
-/
import Derived.Test.YtjhcdnpbmppkkaaGreatDoorRxUW1
namespace Go.Proofs.Tryz
open Go.Av
set_option maxRecDepth 100000
set_option maxHeartbeats 8000000
set_option linter.unusedSimpArgs false
set_option linter.unusedVariables false

theorem ms_NumEnd_ok (N : Nat) (a0 : LU) (a1 : Int) {r : Int} (h : ms_NumEnd N a0 a1 = some r) :
    AC Tryz.prog (GS []) 54 [V.s a0, V.i a1] [] (V.i r) [] := by
 rw [ms_NumEnd] at h
 refine AC.enter Tryz.func54 rfl (cV 100 (CO.seq' (cV 100 ?_)))
 refine cI h (fun _ h => ?_) (fun _ h => ?_)
 ·refine cV 100 ?_
  cases h
  exact e1 4 id
 refine CO.skip (bB h fun r2 hx4 h => (cC 2 100 (ms_l4Digits_ok N a0 a1 hx4) cok85 ?_))
 refine CO.join (fun (⟨a0, a1, y9⟩ : (LU × Int × Int)) => ⟨tl 67 [(0, V.s a0), (1, V.i a1), (5, V.i y9)], []⟩) (fun i => ms_NumEnd_k1 N i = some r) ?_ ?_
 · rintro ⟨a0, a1, y9⟩ h18
   rw [ms_NumEnd_k1] at h18
   refine CO.seq' (cV 100 ?_)
   refine cI h18 (fun _ h18 => ?_) (fun _ h18 => ?_)
   ·refine cV 100 ?_
    cases h18
    exact e1 4 id
   refine CO.skip ?_
   refine CO.join (fun (y9 : Int) => ⟨tl 67 [(5, V.i y9)], []⟩) (fun i => ms_NumEnd_k2 N i = some r) ?_ ?_
   · rintro y9 h52
     rw [ms_NumEnd_k2] at h52
     refine cV 100 ?_
     cases h52
     exact e1 4 id
   intro hk53
   refine bB h18 fun y32 hv57 h18 => ?_
   refine CO.cutR (tl 67 [(0, V.s a0), (5, V.i y9), (43, V.b y32)]) [] mix (by
    refine wR 2 100 (bB hv57 fun r33 hx58 hv57 => (w0 (ms_l4Byte_ok a0 y9 hx58) cok29 (wR 2 100 ?_)))
    refine wJ 38 hv57 (fun hv57 => ?_) (fun hv57 => ?_)
    ·refine wR 5 100 ?_
     cases hv57
     exact fS [] [0, 5, 43]
    refine wR 2 100 (bB hv57 fun r34 hx60 hv57 => (w0 (ms_l4Byte_ok a0 y9 hx60) cok29 (wR 2 100 ?_)))
    cases hv57
    exact fS [] [0, 5, 43]
    ) ?_
   refine cI h18 (fun _ h18 => ?_) (fun _ h18 => ?_)
   ·refine cV 100 ?_
    refine CO.join (fun (⟨a0, y9, y40⟩ : (LU × Int × Int)) => ⟨tl 67 [(0, V.s a0), (5, V.i y9), (7, V.i y40)], []⟩) (fun i => ms_NumEnd_k3 N i = some r) ?_ ?_
    · rintro ⟨a0, y9, y40⟩ h70
      rw [ms_NumEnd_k3] at h70
      refine bB h70 fun r42 hx72 h70 => (cC 2 100 (ms_l4Digits_ok N a0 y40 hx72) cok85 ?_)
      refine cI h70 (fun _ h70 => ?_) (fun _ h70 => ?_)
      ·refine bB h70 fun r44 hx75 h70 => (cC 2 100 (ms_l4Digits_ok N a0 y40 hx75) cok85 ?_)
       cases h70
       exact e1 4 id
      exact sK hk53 y9 h70 [] [5]
    intro hk76
    refine bB h18 fun y47 hv80 h18 => ?_
    refine CO.cutR (tl 67 [(0, V.s a0), (5, V.i y9), (7, V.i (wr (y9 + 1))), (55, V.b y47)]) [] mix (by
     refine wR 2 100 (bB hv80 fun r48 hx81 hv80 => (w0 (ms_l4Byte_ok a0 (wr (y9 + 1)) hx81) cok29 (wR 2 100 ?_)))
     refine wJ 50 hv80 (fun hv80 => ?_) (fun hv80 => ?_)
     ·refine wR 5 100 ?_
      cases hv80
      exact fS [] [0, 5, 7, 55]
     refine wR 2 100 (bB hv80 fun r49 hx83 hv80 => (w0 (ms_l4Byte_ok a0 (wr (y9 + 1)) hx83) cok29 (wR 2 100 ?_)))
     cases hv80
     exact fS [] [0, 5, 7, 55]
     ) ?_
    refine cI h18 (fun _ h18 => ?_) (fun _ h18 => ?_)
    ·exact cK 100 hk76 (a0, y9, (wr ((wr (y9 + 1)) + 1))) h18 [] [0, 5, 7]
    exact sK hk76 (a0, y9, (wr (y9 + 1))) h18 [] [0, 5, 7]
   exact sK hk53 y9 h18 [] [5]
 intro hk85
 refine bB h fun r51 hx87 h => (cC 2 100 (ms_l4Byte_ok a0 r2 hx87) cok29 ?_)
 refine cI h (fun _ h => ?_) (fun _ h => ?_)
 ·refine bB h fun r53 hx90 h => (cC 3 100 (ms_l4Digits_ok N a0 (wr (r2 + 1)) hx90) cok85 (CO.seq' (bB h fun y55 hv96 h => ?_)))
  refine CO.cutR (tl 67 [(0, V.s a0), (1, V.i a1), (6, V.i r53), (29, V.b y55)]) [] mix (by
   refine wR 4 100 ?_
   refine wJ 24 hv96 (fun hv96 => ?_) (fun hv96 => ?_)
   ·refine wR 5 100 ?_
    cases hv96
    exact fS [] [0, 1, 6, 29]
   refine wR 5 100 ?_
   cases hv96
   exact fS [] [0, 1, 6, 29]
   ) ?_
  refine cI h (fun _ h => ?_) (fun _ h => ?_)
  ·refine cV 100 ?_
   cases h
   exact e1 4 id
  refine CO.skip ?_
  exact cK 100 hk85 (a0, a1, r53) h [] [0, 1, 5]
 exact sK hk85 (a0, a1, r2) h [] [0, 1, 5]

theorem ms_l4Quoted_ok (N : Nat) (a0 : LU) (a1 : Int) (a2 : Int) {r : Int} (h : ms_l4Quoted N a0 a1 a2 = some r) :
    AC Tryz.prog (GS []) 86 [V.s a0, V.i a1, V.i a2] [] (V.i r) [] := by
 rw [ms_l4Quoted] at h
 refine AC.enter Tryz.func86 rfl (cV 100 (CO.seq' (bB h fun r4 hx5 h => (cC 2 100 (ms_l4Byte_ok a0 a1 hx5) cok29 ?_))))
 refine cI h (fun _ h => ?_) (fun _ h => ?_)
 ·refine cV 100 ?_
  cases h
  exact e1 6 id
 refine CO.skip (CO.seq' (cV 100 (CO.block' (CO.loopJ (fun (⟨a0, a2, y43⟩ : (LU × Int × Int)) => ⟨tl 40 [(0, V.s a0), (2, V.i a2), (7, V.i y43)], []⟩) (fun n i => ms_l4Quoted_l1 N n i = some r) (n0 := N) (i0 := (a0, a2, (wr (a1 + 1)))) (wS [] [0, 2, 7]) h (fun i h => by simp [ms_l4Quoted_l1] at h) ?_))))
 rintro n1 ⟨a0, a2, y43⟩ h109 ih110
 rw [ms_l4Quoted_l1] at h109
 refine CO.seq' (cV 160 ?_)
 refine cI h109 (fun _ h109 => ?_) (fun _ h109 => ?_)
 ·refine CO.skip ?_
  refine CO.join (fun (⟨a0, a2, y58⟩ : (LU × Int × Int)) => ⟨tl 40 [(0, V.s a0), (2, V.i a2), (7, V.i y58)], []⟩) (fun i => ms_l4Quoted_k2 N (ms_l4Quoted_l1 N n1) i = some r) ?_ ?_
  · rintro ⟨a0, a2, y58⟩ h121
    rw [ms_l4Quoted_k2] at h121
    exact cK 160 ih110 (a0, a2, (wr (y58 + 1))) h121 [] [0, 2, 7]
  intro hk122
  refine CO.block' (bB h109 fun b60 hx124 h109 => (CO.sw mix (wR 2 160 (W.ixS Dk hx124 (by kernel_rfl) (wR 1 160 (wF (CO.block' (cV 160 ?_))))))))
  refine cI h109 (fun _ h109 => ?_) (fun _ h109 => ?_)
  ·refine cV 160 ?_
   cases h109
   exact e1 6 id
  refine cV 160 ?_
  refine cI h109 (fun _ h109 => ?_) (fun _ h109 => ?_)
  ·refine cV 160 ?_
   cases h109
   exact e1 6 id
  refine cV 160 ?_
  refine cI h109 (fun _ h109 => ?_) (fun _ h109 => ?_)
  ·refine cV 160 (bB h109 fun r62 hx129 h109 => (cC 2 160 (ms_l4Byte_ok a0 (wr (y43 + 1)) hx129) cok29 ?_))
   refine cI h109 (fun _ h109 => ?_) (fun _ h109 => ?_)
   ·refine cV 160 ?_
    cases h109
    exact e1 6 id
   exact sK hk122 (a0, a2, (wr (y43 + 1))) h109 [] [0, 2, 7]
  exact sK hk122 (a0, a2, y43) h109 [] [0, 2, 7]
 refine CO.exit (cV 160 ?_)
 cases h109
 exact e1 6 id

theorem ms_StrEnd_ok (N : Nat) (a0 : LU) (a1 : Int) {r : Int} (h : ms_StrEnd N a0 a1 = some r) :
    AC Tryz.prog (GS []) 55 [V.s a0, V.i a1] [] (V.i r) [] := by
 rw [ms_StrEnd] at h
 refine AC.enter Tryz.func55 rfl (cV 100 (bB h fun r2 hx2 h => (cC 2 100 (ms_l4Quoted_ok N a0 a1 34 hx2) cok86 ?_)))
 cases h
 exact e1 4 id

theorem ms_EreEnd_ok (N : Nat) (a0 : LU) (a1 : Int) {r : Int} (h : ms_EreEnd N a0 a1 = some r) :
    AC Tryz.prog (GS []) 56 [V.s a0, V.i a1] [] (V.i r) [] := by
 rw [ms_EreEnd] at h
 refine AC.enter Tryz.func56 rfl (cV 100 (bB h fun r2 hx2 h => (cC 2 100 (ms_l4Quoted_ok N a0 a1 47 hx2) cok86 (CO.seq' (cV 100 ?_)))))
 refine cI h (fun _ h => ?_) (fun _ h => ?_)
 ·refine cV 100 ?_
  cases h
  exact e1 4 id
 refine CO.skip (cV 100 ?_)
 cases h
 exact e1 4 id

theorem ms_l3Signs_ok {r : LLU} (h : ms_l3Signs = some r) :
    AC Tryz.prog (GS []) 90 [] [] (.own 100) [(100, vN r)] := by
 rw [ms_l3Signs] at h
 refine AC.enter Tryz.func90 rfl (cV 100 (cV 100 (CO.ret ?_)))
 cases h
 exact eG [(100, 100)] (.inr rfl) (RetV.one rfl (oT (t := 0) (r := .own 100)))

theorem ms_SpellOf_ok (a0 : Int) {r : LU} (h : ms_SpellOf a0 = some r) :
    AC Tryz.prog (GS []) 121 [V.i a0] [] (V.s r) [] := by
 rw [ms_SpellOf] at h
 refine AC.enter Tryz.func121 rfl (cV 100 (CO.seq' (CO.block' (cV 100 ?_))))
 refine cI h (fun _ h => ?_) (fun _ h => ?_)
 ·refine cV 100 ?_
  cases h
  exact e1 2 id
 refine bB h fun r14 hx18 h => (cC 1 100 (ms_l1In_ok a0 10 26 hx18) cok27 ?_)
 refine cI h (fun _ h => ?_) (fun _ h => ?_)
 ·refine bB h fun r17 hx22 h => (bB h fun e18 hx23 h => (CO.sw mix (wC (ms_l3Words_ok  hx22) cok106 [] [(100, 100)] [100] (wR 2 101 (W.ixO Dk eNS hx23 100 1 (by kernel_rfl) (W.ldO Dk eNS hx23 9 100 0 (V.s e18) (by kernel_rfl) (by kernel_rfl) (wR 1 101 (wF ?_))))))))
  cases h
  exact e1 2 id
 refine bB h fun r20 hx25 h => (cC 1 100 (ms_l1In_ok a0 30 68 hx25) cok27 ?_)
 refine cI h (fun _ h => ?_) (fun _ h => ?_)
 ·refine bB h fun r23 hx29 h => (bB h fun e24 hx30 h => (CO.sw mix (wC (ms_l3Signs_ok  hx29) cok90 [] [(100, 100)] [100] (wR 2 101 (W.ixO Dk eNS hx30 100 1 (by kernel_rfl) (W.ldO Dk eNS hx30 9 100 0 (V.s e24) (by kernel_rfl) (by kernel_rfl) (wR 1 101 (wF ?_))))))))
  cases h
  exact e1 2 id
 refine CO.skip (cV 100 ?_)
 cases h
 exact e1 2 id

theorem ms_TokenOk_ok (N : Nat) (a0 : SToken) {r : Bool} (h : ms_TokenOk N a0 = some r) :
    AC Tryz.prog (GS []) 188 [.agg [V.i a0.Kind, V.s a0.Text, V.i a0.At]] [] (V.b r) [] := by
 rw [ms_TokenOk] at h
 refine AC.enter Tryz.func188 rfl (cV 100 (cV 101 (CO.seq' (cV 101 (CO.block' (cV 101 ?_))))))
 refine cI h (fun _ h => ?_) (fun _ h => ?_)
 ·refine bB h fun y20 hv38 h => ?_
  refine CO.cutR (tl 71 [(2, V.b y20)]) [] mix (by
   refine wR 3 101 ?_
   refine wJ 13 hv38 (fun hv38 => ?_) (fun hv38 => ?_)
   ·refine wR 2 101 (bB hv38 fun b21 hx40 hv38 => (W.ixS Dk hx40 (by kernel_rfl) (wR 3 101 ?_)))
    refine wJ 19 hv38 (fun hv38 => ?_) (fun hv38 => ?_)
    ·refine wR 2 101 (bB hv38 fun r22 hx42 hv38 => (w0 (ms_l4Plain_ok N a0.Text hx42) cok160 (wR 2 101 ?_)))
     cases hv38
     exact fS [] [2]
    refine wR 5 101 ?_
    cases hv38
    exact fS [] [2]
   refine wR 11 101 ?_
   cases hv38
   exact fS [] [2]
   ) ?_
  cases h
  exact e1 2 id
 refine cV 101 ?_
 refine cI h (fun _ h => ?_) (fun _ h => ?_)
 ·refine bB h fun y24 hv46 h => ?_
  refine CO.cutR (tl 71 [(2, V.b y24)]) [] mix (by
   refine wR 3 101 ?_
   refine wJ 28 hv46 (fun hv46 => ?_) (fun hv46 => ?_)
   ·refine wR 2 101 (bB hv46 fun r25 hx48 hv46 => (w0 (ms_NumEnd_ok N a0.Text 0 hx48) cok54 (wR 4 101 ?_)))
    cases hv46
    exact fS [] [2]
   refine wR 7 101 ?_
   cases hv46
   exact fS [] [2]
   ) ?_
  cases h
  exact e1 2 id
 refine cV 101 ?_
 refine cI h (fun _ h => ?_) (fun _ h => ?_)
 ·refine bB h fun r27 hx51 h => (cC 2 101 (ms_StrEnd_ok N a0.Text 0 hx51) cok55 ?_)
  cases h
  exact e1 2 id
 refine cV 101 ?_
 refine cI h (fun _ h => ?_) (fun _ h => ?_)
 ·refine bB h fun r29 hx54 h => (cC 2 101 (ms_EreEnd_ok N a0.Text 0 hx54) cok56 ?_)
  cases h
  exact e1 2 id
 refine CO.join (fun (⟨a0, y30⟩ : (SToken × Bool)) => ⟨tl 71 [(1, .loc 100 0), (8, V.i a0.Kind), (49, V.b y30)], [(100, .cells 36 [V.i a0.Kind, V.s a0.Text, V.i a0.At])]⟩) (fun i => ms_TokenOk_k1 N i = some r) ?_ ?_
 · rintro ⟨a0, y30⟩ h56
   rw [ms_TokenOk_k1] at h56
   refine cI h56 (fun _ h56 => ?_) (fun _ h56 => ?_)
   ·refine bB h56 fun r32 hx59 h56 => (cC 2 101 (ms_NameOk_ok N a0.Text hx59) cok187 ?_)
    cases h56
    exact e1 2 id
   refine cV 101 ?_
   refine cI h56 (fun _ h56 => ?_) (fun _ h56 => ?_)
   ·refine bB h56 fun r34 hx62 h56 => (cC 2 101 (ms_IsBuiltin_ok N a0.Text hx62) cok88 ?_)
    cases h56
    exact e1 2 id
   refine CO.skip (bB h56 fun y36 hv65 h56 => ?_)
   refine CO.cutR (tl 71 [(2, V.b y36)]) [] mix (by
    refine wR 4 101 ?_
    refine wJ 63 hv65 (fun hv65 => ?_) (fun hv65 => ?_)
    ·refine wR 2 101 (bB hv65 fun r37 hx67 hv65 => (w0 (ms_SpellOf_ok a0.Kind hx67) cok121 (wR 5 101 ?_)))
     cases hv65
     exact fS [] [2]
    refine wR 8 101 ?_
    cases hv65
    exact fS [] [2]
    ) ?_
   cases h56
   exact e1 2 id
 intro hk68
 refine cV 101 ?_
 refine cI h (fun _ h => ?_) (fun _ h => ?_)
 ·exact sK hk68 (a0, (a0.Kind == 6)) h [(100, 100)] [1, 8, 49]
 exact cK 101 hk68 (a0, (a0.Kind == 7)) h [(100, 100)] [1, 8, 49]

theorem ms_l7Text_ok (N : Nat) (a0 : SNode) {r : Bool} (h : ms_l7Text N a0 = some r) :
    AC Tryz.prog (GS []) 178 [.agg [V.i a0.Kind, V.i a0.Op, V.s a0.Text, V.s a0.Other, sL eNI a0.Kids]] [] (V.b r) [] := by
 rw [ms_l7Text] at h
 refine AC.enter Tryz.func178 rfl (cV 100 (CO.seq' (cV 101 (CO.block' ?_))))
 refine CO.join (fun (⟨a0, y26⟩ : (SNode × Bool)) => ⟨tl 117 [(1, .loc 100 0), (4, V.i a0.Kind), (5, V.b y26)], [(100, .cells 108 [V.i a0.Kind, V.i a0.Op, V.s a0.Text, V.s a0.Other, sL eNI a0.Kids])]⟩) (fun i => ms_l7Text_k1 N i = some r) ?_ ?_
 · rintro ⟨a0, y26⟩ h72
   rw [ms_l7Text_k1] at h72
   refine cI h72 (fun _ h72 => ?_) (fun _ h72 => ?_)
   ·refine bB h72 fun y28 hv76 h72 => ?_
    refine CO.cutR (tl 117 [(2, V.b y28)]) [] mix (by
     refine wR 2 101 (bB hv76 fun r29 hx77 hv76 => (w0 (ms_NameOk_ok N a0.Text hx77) cok187 (wR 1 101 ?_)))
     refine wJ 15 hv76 (fun hv76 => ?_) (fun hv76 => ?_)
     ·refine wR 5 101 ?_
      cases hv76
      exact fS [] [2]
     refine wR 5 101 ?_
     cases hv76
     exact fS [] [2]
     ) ?_
    cases h72
    exact e1 2 id
   refine cV 101 ?_
   refine cI h72 (fun _ h72 => ?_) (fun _ h72 => ?_)
   ·refine bB h72 fun y31 hv82 h72 => ?_
    refine CO.cutR (tl 117 [(2, V.b y31)]) [] mix (by
     refine wR 3 101 (bB hv82 fun r32 hx83 hv82 => (w0 (ms_TokenOk_ok N (⟨3, a0.Text, 0⟩ : SToken) hx83) cok188 (wR 1 101 ?_)))
     refine wJ 26 hv82 (fun hv82 => ?_) (fun hv82 => ?_)
     ·refine wR 5 101 ?_
      cases hv82
      exact fS [] [2]
     refine wR 5 101 ?_
     cases hv82
     exact fS [] [2]
     ) ?_
    cases h72
    exact e1 2 id
   refine cV 101 ?_
   refine cI h72 (fun _ h72 => ?_) (fun _ h72 => ?_)
   ·refine bB h72 fun y34 hv88 h72 => ?_
    refine CO.cutR (tl 117 [(2, V.b y34)]) [] mix (by
     refine wR 3 101 (bB hv88 fun r35 hx89 hv88 => (w0 (ms_TokenOk_ok N (⟨4, a0.Text, 0⟩ : SToken) hx89) cok188 (wR 1 101 ?_)))
     refine wJ 37 hv88 (fun hv88 => ?_) (fun hv88 => ?_)
     ·refine wR 5 101 ?_
      cases hv88
      exact fS [] [2]
     refine wR 5 101 ?_
     cases hv88
     exact fS [] [2]
     ) ?_
    cases h72
    exact e1 2 id
   refine cV 101 ?_
   refine cI h72 (fun _ h72 => ?_) (fun _ h72 => ?_)
   ·refine bB h72 fun y37 hv94 h72 => ?_
    refine CO.cutR (tl 117 [(2, V.b y37)]) [] mix (by
     refine wR 3 101 (bB hv94 fun r38 hx95 hv94 => (w0 (ms_TokenOk_ok N (⟨5, a0.Text, 0⟩ : SToken) hx95) cok188 (wR 1 101 ?_)))
     refine wJ 48 hv94 (fun hv94 => ?_) (fun hv94 => ?_)
     ·refine wR 5 101 ?_
      cases hv94
      exact fS [] [2]
     refine wR 5 101 ?_
     cases hv94
     exact fS [] [2]
     ) ?_
    cases h72
    exact e1 2 id
   refine cV 101 ?_
   refine cI h72 (fun _ h72 => ?_) (fun _ h72 => ?_)
   ·refine bB h72 fun y40 hv100 h72 => ?_
    refine CO.cutR (tl 117 [(2, V.b y40)]) [] mix (by
     refine wR 3 101 (bB hv100 fun r41 hx101 hv100 => (w0 (ms_TokenOk_ok N (⟨2, a0.Text, 0⟩ : SToken) hx101) cok188 (wR 1 101 ?_)))
     refine wJ 59 hv100 (fun hv100 => ?_) (fun hv100 => ?_)
     ·refine wR 5 101 ?_
      cases hv100
      exact fS [] [2]
     refine wR 5 101 ?_
     cases hv100
     exact fS [] [2]
     ) ?_
    cases h72
    exact e1 2 id
   refine cV 101 ?_
   refine cI h72 (fun _ h72 => ?_) (fun _ h72 => ?_)
   ·refine bB h72 fun y43 hv106 h72 => ?_
    refine CO.cutR (tl 117 [(2, V.b y43)]) [] mix (by
     refine wR 2 101 (bB hv106 fun r44 hx107 hv106 => (w0 (ms_IsBuiltin_ok N a0.Text hx107) cok88 (wR 1 101 ?_)))
     refine wJ 69 hv106 (fun hv106 => ?_) (fun hv106 => ?_)
     ·refine wR 5 101 ?_
      cases hv106
      exact fS [] [2]
     refine wR 5 101 ?_
     cases hv106
     exact fS [] [2]
     ) ?_
    cases h72
    exact e1 2 id
   refine cV 101 ?_
   refine cI h72 (fun _ h72 => ?_) (fun _ h72 => ?_)
   ·refine bB h72 fun y47 hv113 h72 => ?_
    refine CO.cutR (tl 117 [(2, V.b y47)]) [] mix (by
     refine wR 2 101 (bB hv113 fun r48 hx114 hv113 => (w0 (ms_NameOk_ok N a0.Text hx114) cok187 (wR 1 101 ?_)))
     refine wJ 79 hv113 (fun hv113 => ?_) (fun hv113 => ?_)
     ·refine wR 2 101 (bB hv113 fun r49 hx116 hv113 => (w0 (ms_NameOk_ok N a0.Other hx116) cok187 (wR 2 101 ?_)))
      cases hv113
      exact fS [] [2]
     refine wR 5 101 ?_
     cases hv113
     exact fS [] [2]
     ) ?_
    cases h72
    exact e1 2 id
   refine cV 101 ?_
   refine cI h72 (fun _ h72 => ?_) (fun _ h72 => ?_)
   ·refine bB h72 fun y50 hv122 h72 => ?_
    refine CO.cutR (tl 117 [(2, V.b y50)]) [] mix (by
     refine wR 4 101 ?_
     refine wJ 89 hv122 (fun hv122 => ?_) (fun hv122 => ?_)
     ·refine wR 4 101 ?_
      refine wJ 93 hv122 (fun hv122 => ?_) (fun hv122 => ?_)
      ·refine wR 16 101 ?_
       cases hv122
       exact fS [] [2]
      refine wR 5 101 ?_
      refine wJ 98 hv122 (fun hv122 => ?_) (fun hv122 => ?_)
      ·refine wR 11 101 ?_
       cases hv122
       exact fS [] [2]
      refine wR 5 101 ?_
      refine wJ 103 hv122 (fun hv122 => ?_) (fun hv122 => ?_)
      ·refine wR 6 101 ?_
       cases hv122
       exact fS [] [2]
      refine wR 6 101 ?_
      cases hv122
      exact fS [] [2]
     refine wR 20 101 ?_
     cases hv122
     exact fS [] [2]
     ) ?_
    cases h72
    exact e1 2 id
   refine CO.skip (bB h72 fun y51 hv128 h72 => ?_)
   refine CO.cutR (tl 117 [(2, V.b y51)]) [] mix (by
    refine wR 4 101 ?_
    refine wJ 112 hv128 (fun hv128 => ?_) (fun hv128 => ?_)
    ·refine wR 5 101 ?_
     cases hv128
     exact fS [] [2]
    refine wR 5 101 ?_
    cases hv128
    exact fS [] [2]
    ) ?_
   cases h72
   exact e1 2 id
 intro hk130
 refine cV 101 ?_
 refine cI h (fun _ h => ?_) (fun _ h => ?_)
 ·exact sK hk130 (a0, (a0.Kind == 1)) h [(100, 100)] [1, 4, 5]
 refine cV 101 ?_
 refine cI h (fun _ h => ?_) (fun _ h => ?_)
 ·exact sK hk130 (a0, (a0.Kind == 5)) h [(100, 100)] [1, 4, 5]
 refine cV 101 ?_
 refine cI h (fun _ h => ?_) (fun _ h => ?_)
 ·exact sK hk130 (a0, (a0.Kind == 7)) h [(100, 100)] [1, 4, 5]
 refine cV 101 ?_
 refine cI h (fun _ h => ?_) (fun _ h => ?_)
 ·exact sK hk130 (a0, (a0.Kind == 13)) h [(100, 100)] [1, 4, 5]
 refine cV 101 ?_
 refine cI h (fun _ h => ?_) (fun _ h => ?_)
 ·exact sK hk130 (a0, (a0.Kind == 27)) h [(100, 100)] [1, 4, 5]
 exact cK 101 hk130 (a0, (a0.Kind == 44)) h [(100, 100)] [1, 4, 5]

theorem ms_FieldsOk_ok (N : Nat) (a0 : SNode) {r : Bool} (h : ms_FieldsOk N a0 = some r) :
    AC Tryz.prog (GS []) 163 [.agg [V.i a0.Kind, V.i a0.Op, V.s a0.Text, V.s a0.Other, sL eNI a0.Kids]] [] (V.b r) [] := by
 rw [ms_FieldsOk] at h
 refine AC.enter Tryz.func163 rfl (cV 100 (bB h fun r2 hx2 h => (cC 1 101 (ms_l7Many_ok a0 hx2) cok176 (bB h fun y6 hv8 h => ?_))))
 refine CO.cutR (tl 41 [(1, .loc 100 0), (3, V.i r2.1), (4, V.i r2.2), (5, V.b y6)]) [(100, .cells 108 [V.i a0.Kind, V.i a0.Op, V.s a0.Text, V.s a0.Other, sL eNI a0.Kids])] mix (by
  refine wR 2 101 (bB hv8 fun r7 hx9 hv8 => (w0 (ms_l1In_ok a0.Kind 1 16 hx9) cok27 (wR 1 101 ?_)))
  refine wJ 14 hv8 (fun hv8 => ?_) (fun hv8 => ?_)
  ·refine wR 10 101 ?_
   cases hv8
   exact fS [(100, 100)] [1, 3, 4, 5]
  refine wR 2 101 (bB hv8 fun r8 hx11 hv8 => (w0 (ms_l1In_ok a0.Kind 20 34 hx11) cok27 (wR 2 101 ?_)))
  refine wJ 19 hv8 (fun hv8 => ?_) (fun hv8 => ?_)
  ·refine wR 5 101 ?_
   cases hv8
   exact fS [(100, 100)] [1, 3, 4, 5]
  refine wR 2 101 (bB hv8 fun r9 hx13 hv8 => (w0 (ms_l1In_ok a0.Kind 40 45 hx13) cok27 (wR 2 101 ?_)))
  cases hv8
  exact fS [(100, 100)] [1, 3, 4, 5]
  ) ?_
 refine bB h fun y13 hv20 h => ?_
 refine CO.cutR (tl 41 [(2, V.b y13)]) [] mix (by
  refine wR 2 101 ?_
  refine wJ 25 hv20 (fun hv20 => ?_) (fun hv20 => ?_)
  ·refine wR 1 101 (bB hv20 fun r14 hx22 hv20 => (w0 (ms_l7Op_ok a0 hx22) cok177 (wR 2 101 ?_)))
   refine wJ 29 hv20 (fun hv20 => ?_) (fun hv20 => ?_)
   ·refine wR 1 101 (bB hv20 fun r15 hx24 hv20 => (w0 (ms_l7Text_ok N a0 hx24) cok178 (wR 2 101 ?_)))
    refine wJ 33 hv20 (fun hv20 => ?_) (fun hv20 => ?_)
    ·refine wR 2 101 (wN eNI a0.Kids [] (wR 2 101 (bB hv20 fun r16 hx26 hv20 => (w0 (ms_l1In_ok (a0.Kids.length : Int) r2.1 r2.2 hx26) cok27 (wR 2 101 ?_)))))
     cases hv20
     exact fS [] [2]
    refine wR 8 101 ?_
    cases hv20
    exact fS [] [2]
   refine wR 12 101 ?_
   cases hv20
   exact fS [] [2]
  refine wR 16 101 ?_
  cases hv20
  exact fS [] [2]
  ) ?_
 cases h
 exact e1 2 id

theorem ms_IsLvalue_ok (a0 : Int) {r : Bool} (h : ms_IsLvalue a0 = some r) :
    AC Tryz.prog (GS []) 179 [V.i a0] [] (V.b r) [] := by
 rw [ms_IsLvalue] at h
 refine AC.enter Tryz.func179 rfl (cV 100 (bB h fun y1 hv3 h => ?_))
 refine CO.cutR (tl 13 [(2, V.b y1)]) [] mix (by
  refine wR 3 100 ?_
  refine wJ 5 hv3 (fun hv3 => ?_) (fun hv3 => ?_)
  ·refine wR 8 100 ?_
   cases hv3
   exact fS [] [2]
  refine wR 4 100 ?_
  refine wJ 9 hv3 (fun hv3 => ?_) (fun hv3 => ?_)
  ·refine wR 4 100 ?_
   cases hv3
   exact fS [] [2]
  refine wR 4 100 ?_
  cases hv3
  exact fS [] [2]
  ) ?_
 cases h
 exact e1 2 id

theorem ms_IsExpr_ok (a0 : Int) {r : Bool} (h : ms_IsExpr a0 = some r) :
    AC Tryz.prog (GS []) 153 [V.i a0] [] (V.b r) [] := by
 rw [ms_IsExpr] at h
 refine AC.enter Tryz.func153 rfl (cV 100 (bB h fun r2 hx2 h => (cC 1 100 (ms_l1In_ok a0 1 15 hx2) cok27 ?_)))
 cases h
 exact e1 2 id

theorem ms_IsStmt_ok (a0 : Int) {r : Bool} (h : ms_IsStmt a0 = some r) :
    AC Tryz.prog (GS []) 180 [V.i a0] [] (V.b r) [] := by
 rw [ms_IsStmt] at h
 refine AC.enter Tryz.func180 rfl (cV 100 (bB h fun r2 hx2 h => (cC 1 100 (ms_l1In_ok a0 20 34 hx2) cok27 ?_)))
 cases h
 exact e1 2 id

theorem ms_l7Kid_ok (a0 : SNode) (a1 : Int) (a2 : Int) {r : Bool} (h : ms_l7Kid a0 a1 a2 = some r) :
    AC Tryz.prog (GS []) 164 [.agg [V.i a0.Kind, V.i a0.Op, V.s a0.Text, V.s a0.Other, sL eNI a0.Kids], V.i a1, V.i a2] [] (V.b r) [] := by
 rw [ms_l7Kid] at h
 refine AC.enter Tryz.func164 rfl (cV 100 (CO.sw mix (wR 3 101 (wN eNI a0.Kids [] (wR 3 101 (wF (cV 101 (CO.seq' ?_))))))))
 refine cV 101 (CO.block' ?_)
 refine CO.join (fun (⟨a1, a2, a0, y52⟩ : (Int × Int × SNode × Bool)) => ⟨tl 184 [(1, V.i a1), (2, V.i a2), (3, .loc 100 0), (7, V.b (a1 == (wr ((a0.Kids.length : Int) - 1)))), (8, V.b (a2 == 33)), (18, V.i a0.Kind), (19, V.b y52)], [(100, .cells 108 [V.i a0.Kind, V.i a0.Op, V.s a0.Text, V.s a0.Other, sL eNI a0.Kids])]⟩) (fun i => ms_l7Kid_k1 i = some r) ?_ ?_
 · rintro ⟨a1, a2, a0, y52⟩ h181
   rw [ms_l7Kid_k1] at h181
   refine cI h181 (fun _ h181 => ?_) (fun _ h181 => ?_)
   ·refine bB h181 fun r54 hx184 h181 => (cC 1 101 (ms_IsLvalue_ok a2 hx184) cok179 ?_)
    cases h181
    exact e1 6 id
   refine cV 101 ?_
   refine cI h181 (fun _ h181 => ?_) (fun _ h181 => ?_)
   ·refine bB h181 fun y57 hv190 h181 => ?_
    refine CO.cutR (tl 184 [(6, V.b y57)]) [] mix (by
     refine wR 1 101 (bB hv190 fun r58 hx191 hv190 => (w0 (ms_IsExpr_ok a2 hx191) cok153 (wR 1 101 ?_)))
     refine wJ 28 hv190 (fun hv190 => ?_) (fun hv190 => ?_)
     ·refine wR 3 101 ?_
      refine wJ 31 hv190 (fun hv190 => ?_) (fun hv190 => ?_)
      ·refine wR 5 101 ?_
       cases hv190
       exact fS [] [6]
      refine wR 1 101 (bB hv190 fun r59 hx194 hv190 => (w0 (ms_IsLvalue_ok a2 hx194) cok179 (wR 3 101 ?_)))
      cases hv190
      exact fS [] [6]
     refine wR 8 101 ?_
     cases hv190
     exact fS [] [6]
     ) ?_
    cases h181
    exact e1 6 id
   refine cV 101 ?_
   refine cI h181 (fun _ h181 => ?_) (fun _ h181 => ?_)
   ·refine bB h181 fun y61 hv201 h181 => ?_
    refine CO.cutR (tl 184 [(6, V.b y61)]) [] mix (by
     refine wR 3 101 ?_
     refine wJ 40 hv201 (fun hv201 => ?_) (fun hv201 => ?_)
     ·refine wR 1 101 (bB hv201 fun r62 hx203 hv201 => (w0 (ms_IsExpr_ok a2 hx203) cok153 (wR 2 101 ?_)))
      refine wJ 44 hv201 (fun hv201 => ?_) (fun hv201 => ?_)
      ·refine wR 7 101 ?_
       cases hv201
       exact fS [] [6]
      refine wR 3 101 ?_
      refine wJ 47 hv201 (fun hv201 => ?_) (fun hv201 => ?_)
      ·refine wR 4 101 ?_
       cases hv201
       exact fS [] [6]
      refine wR 4 101 ?_
      cases hv201
      exact fS [] [6]
     refine wR 7 101 ?_
     refine wJ 47 hv201 (fun hv201 => ?_) (fun hv201 => ?_)
     ·refine wR 4 101 ?_
      cases hv201
      exact fS [] [6]
     refine wR 4 101 ?_
     cases hv201
     exact fS [] [6]
     ) ?_
    cases h181
    exact e1 6 id
   refine cV 101 ?_
   refine cI h181 (fun _ h181 => ?_) (fun _ h181 => ?_)
   ·refine bB h181 fun y64 hv213 h181 => ?_
    refine CO.cutR (tl 184 [(6, V.b y64)]) [] mix (by
     refine wR 3 101 ?_
     refine wJ 55 hv213 (fun hv213 => ?_) (fun hv213 => ?_)
     ·refine wR 1 101 (bB hv213 fun r65 hx215 hv213 => (w0 (ms_IsExpr_ok a2 hx215) cok153 (wR 2 101 ?_)))
      refine wJ 59 hv213 (fun hv213 => ?_) (fun hv213 => ?_)
      ·refine wR 7 101 ?_
       cases hv213
       exact fS [] [6]
      refine wR 3 101 ?_
      refine wJ 62 hv213 (fun hv213 => ?_) (fun hv213 => ?_)
      ·refine wR 4 101 ?_
       cases hv213
       exact fS [] [6]
      refine wR 4 101 ?_
      cases hv213
      exact fS [] [6]
     refine wR 7 101 ?_
     refine wJ 62 hv213 (fun hv213 => ?_) (fun hv213 => ?_)
     ·refine wR 4 101 ?_
      cases hv213
      exact fS [] [6]
     refine wR 4 101 ?_
     cases hv213
     exact fS [] [6]
     ) ?_
    cases h181
    exact e1 6 id
   refine cV 101 ?_
   refine cI h181 (fun _ h181 => ?_) (fun _ h181 => ?_)
   ·refine bB h181 fun y68 hv226 h181 => ?_
    refine CO.cutR (tl 184 [(6, V.b y68)]) [] mix (by
     refine wR 3 101 ?_
     refine wJ 70 hv226 (fun hv226 => ?_) (fun hv226 => ?_)
     ·refine wR 3 101 ?_
      refine wJ 73 hv226 (fun hv226 => ?_) (fun hv226 => ?_)
      ·refine wR 8 101 ?_
       cases hv226
       exact fS [] [6]
      refine wR 3 101 ?_
      refine wJ 76 hv226 (fun hv226 => ?_) (fun hv226 => ?_)
      ·refine wR 1 101 (bB hv226 fun r69 hx230 hv226 => (w0 (ms_IsExpr_ok a2 hx230) cok153 (wR 3 101 ?_)))
       cases hv226
       exact fS [] [6]
      refine wR 5 101 ?_
      cases hv226
      exact fS [] [6]
     refine wR 6 101 ?_
     refine wJ 76 hv226 (fun hv226 => ?_) (fun hv226 => ?_)
     ·refine wR 1 101 (bB hv226 fun r70 hx232 hv226 => (w0 (ms_IsExpr_ok a2 hx232) cok153 (wR 3 101 ?_)))
      cases hv226
      exact fS [] [6]
     refine wR 5 101 ?_
     cases hv226
     exact fS [] [6]
     ) ?_
    cases h181
    exact e1 6 id
   refine cV 101 ?_
   refine cI h181 (fun _ h181 => ?_) (fun _ h181 => ?_)
   ·refine bB h181 fun y72 hv240 h181 => ?_
    refine CO.cutR (tl 184 [(6, V.b y72)]) [] mix (by
     refine wR 3 101 ?_
     refine wJ 85 hv240 (fun hv240 => ?_) (fun hv240 => ?_)
     ·refine wR 1 101 (bB hv240 fun r73 hx242 hv240 => (w0 (ms_IsExpr_ok a2 hx242) cok153 (wR 1 101 ?_)))
      refine wJ 88 hv240 (fun hv240 => ?_) (fun hv240 => ?_)
      ·refine wR 12 101 ?_
       cases hv240
       exact fS [] [6]
      refine wR 5 101 ?_
      refine wJ 93 hv240 (fun hv240 => ?_) (fun hv240 => ?_)
      ·refine wR 7 101 ?_
       cases hv240
       exact fS [] [6]
      refine wR 3 101 ?_
      refine wJ 96 hv240 (fun hv240 => ?_) (fun hv240 => ?_)
      ·refine wR 4 101 ?_
       cases hv240
       exact fS [] [6]
      refine wR 4 101 ?_
      cases hv240
      exact fS [] [6]
     refine wR 11 101 ?_
     refine wJ 96 hv240 (fun hv240 => ?_) (fun hv240 => ?_)
     ·refine wR 4 101 ?_
      cases hv240
      exact fS [] [6]
     refine wR 4 101 ?_
     cases hv240
     exact fS [] [6]
     ) ?_
    cases h181
    exact e1 6 id
   refine CO.join (fun (⟨a1, a2, a0, y74⟩ : (Int × Int × SNode × Bool)) => ⟨tl 184 [(1, V.i a1), (2, V.i a2), (3, .loc 100 0), (7, V.b (a1 == (wr ((a0.Kids.length : Int) - 1)))), (8, V.b (a2 == 33)), (18, V.i a0.Kind), (100, V.b y74)], [(100, .cells 108 [V.i a0.Kind, V.i a0.Op, V.s a0.Text, V.s a0.Other, sL eNI a0.Kids])]⟩) (fun i => ms_l7Kid_k2 i = some r) ?_ ?_
   · rintro ⟨a1, a2, a0, y74⟩ h249
     rw [ms_l7Kid_k2] at h249
     refine cI h249 (fun _ h249 => ?_) (fun _ h249 => ?_)
     ·refine cV 101 ?_
      cases h249
      exact e1 6 id
     refine cV 101 ?_
     refine cI h249 (fun _ h249 => ?_) (fun _ h249 => ?_)
     ·refine bB h249 fun r76 hx253 h249 => (cC 1 101 (ms_IsStmt_ok a2 hx253) cok180 ?_)
      cases h249
      exact e1 6 id
     refine cV 101 ?_
     refine cI h249 (fun _ h249 => ?_) (fun _ h249 => ?_)
     ·refine bB h249 fun y86 hv290 h249 => ?_
      refine CO.cutR (tl 184 [(6, V.b y86)]) [] mix (by
       refine wR 4 101 ?_
       refine wJ 114 hv290 (fun hv290 => ?_) (fun hv290 => ?_)
       ·refine wR 1 101 (bB hv290 fun r87 hx292 hv290 => (w0 (ms_IsExpr_ok a2 hx292) cok153 (wR 2 101 ?_)))
        refine wJ 118 hv290 (fun hv290 => ?_) (fun hv290 => ?_)
        ·refine wR 27 101 ?_
         cases hv290
         exact fS [] [6]
        refine wR 4 101 ?_
        refine wJ 122 hv290 (fun hv290 => ?_) (fun hv290 => ?_)
        ·refine wR 4 101 ?_
         refine wJ 126 hv290 (fun hv290 => ?_) (fun hv290 => ?_)
         ·refine wR 19 101 ?_
          cases hv290
          exact fS [] [6]
         refine wR 4 101 ?_
         refine wJ 130 hv290 (fun hv290 => ?_) (fun hv290 => ?_)
         ·refine wR 2 101 ?_
          refine wJ 132 hv290 (fun hv290 => ?_) (fun hv290 => ?_)
          ·refine wR 3 101 ?_
           refine wJ 135 hv290 (fun hv290 => ?_) (fun hv290 => ?_)
           ·refine wR 10 101 ?_
            cases hv290
            exact fS [] [6]
           refine wR 3 101 ?_
           refine wJ 138 hv290 (fun hv290 => ?_) (fun hv290 => ?_)
           ·refine wR 1 101 (bB hv290 fun r88 hx300 hv290 => (w0 (ms_IsExpr_ok a2 hx300) cok153 (wR 5 101 ?_)))
            cases hv290
            exact fS [] [6]
           refine wR 7 101 ?_
           cases hv290
           exact fS [] [6]
          refine wR 6 101 ?_
          refine wJ 138 hv290 (fun hv290 => ?_) (fun hv290 => ?_)
          ·refine wR 1 101 (bB hv290 fun r89 hx302 hv290 => (w0 (ms_IsExpr_ok a2 hx302) cok153 (wR 5 101 ?_)))
           cases hv290
           exact fS [] [6]
          refine wR 7 101 ?_
          cases hv290
          exact fS [] [6]
         refine wR 15 101 ?_
         cases hv290
         exact fS [] [6]
        refine wR 8 101 ?_
        refine wJ 130 hv290 (fun hv290 => ?_) (fun hv290 => ?_)
        ·refine wR 2 101 ?_
         refine wJ 132 hv290 (fun hv290 => ?_) (fun hv290 => ?_)
         ·refine wR 3 101 ?_
          refine wJ 135 hv290 (fun hv290 => ?_) (fun hv290 => ?_)
          ·refine wR 10 101 ?_
           cases hv290
           exact fS [] [6]
          refine wR 3 101 ?_
          refine wJ 138 hv290 (fun hv290 => ?_) (fun hv290 => ?_)
          ·refine wR 1 101 (bB hv290 fun r90 hx307 hv290 => (w0 (ms_IsExpr_ok a2 hx307) cok153 (wR 5 101 ?_)))
           cases hv290
           exact fS [] [6]
          refine wR 7 101 ?_
          cases hv290
          exact fS [] [6]
         refine wR 6 101 ?_
         refine wJ 138 hv290 (fun hv290 => ?_) (fun hv290 => ?_)
         ·refine wR 1 101 (bB hv290 fun r91 hx309 hv290 => (w0 (ms_IsExpr_ok a2 hx309) cok153 (wR 5 101 ?_)))
          cases hv290
          exact fS [] [6]
         refine wR 7 101 ?_
         cases hv290
         exact fS [] [6]
        refine wR 15 101 ?_
        cases hv290
        exact fS [] [6]
       refine wR 8 101 ?_
       refine wJ 122 hv290 (fun hv290 => ?_) (fun hv290 => ?_)
       ·refine wR 4 101 ?_
        refine wJ 126 hv290 (fun hv290 => ?_) (fun hv290 => ?_)
        ·refine wR 19 101 ?_
         cases hv290
         exact fS [] [6]
        refine wR 4 101 ?_
        refine wJ 130 hv290 (fun hv290 => ?_) (fun hv290 => ?_)
        ·refine wR 2 101 ?_
         refine wJ 132 hv290 (fun hv290 => ?_) (fun hv290 => ?_)
         ·refine wR 3 101 ?_
          refine wJ 135 hv290 (fun hv290 => ?_) (fun hv290 => ?_)
          ·refine wR 10 101 ?_
           cases hv290
           exact fS [] [6]
          refine wR 3 101 ?_
          refine wJ 138 hv290 (fun hv290 => ?_) (fun hv290 => ?_)
          ·refine wR 1 101 (bB hv290 fun r92 hx316 hv290 => (w0 (ms_IsExpr_ok a2 hx316) cok153 (wR 5 101 ?_)))
           cases hv290
           exact fS [] [6]
          refine wR 7 101 ?_
          cases hv290
          exact fS [] [6]
         refine wR 6 101 ?_
         refine wJ 138 hv290 (fun hv290 => ?_) (fun hv290 => ?_)
         ·refine wR 1 101 (bB hv290 fun r93 hx318 hv290 => (w0 (ms_IsExpr_ok a2 hx318) cok153 (wR 5 101 ?_)))
          cases hv290
          exact fS [] [6]
         refine wR 7 101 ?_
         cases hv290
         exact fS [] [6]
        refine wR 15 101 ?_
        cases hv290
        exact fS [] [6]
       refine wR 8 101 ?_
       refine wJ 130 hv290 (fun hv290 => ?_) (fun hv290 => ?_)
       ·refine wR 2 101 ?_
        refine wJ 132 hv290 (fun hv290 => ?_) (fun hv290 => ?_)
        ·refine wR 3 101 ?_
         refine wJ 135 hv290 (fun hv290 => ?_) (fun hv290 => ?_)
         ·refine wR 10 101 ?_
          cases hv290
          exact fS [] [6]
         refine wR 3 101 ?_
         refine wJ 138 hv290 (fun hv290 => ?_) (fun hv290 => ?_)
         ·refine wR 1 101 (bB hv290 fun r94 hx323 hv290 => (w0 (ms_IsExpr_ok a2 hx323) cok153 (wR 5 101 ?_)))
          cases hv290
          exact fS [] [6]
         refine wR 7 101 ?_
         cases hv290
         exact fS [] [6]
        refine wR 6 101 ?_
        refine wJ 138 hv290 (fun hv290 => ?_) (fun hv290 => ?_)
        ·refine wR 1 101 (bB hv290 fun r95 hx325 hv290 => (w0 (ms_IsExpr_ok a2 hx325) cok153 (wR 5 101 ?_)))
         cases hv290
         exact fS [] [6]
        refine wR 7 101 ?_
        cases hv290
        exact fS [] [6]
       refine wR 15 101 ?_
       cases hv290
       exact fS [] [6]
       ) ?_
      cases h249
      exact e1 6 id
     refine cV 101 ?_
     refine cI h249 (fun _ h249 => ?_) (fun _ h249 => ?_)
     ·refine bB h249 fun y97 hv332 h249 => ?_
      refine CO.cutR (tl 184 [(6, V.b y97)]) [] mix (by
       refine wR 3 101 ?_
       refine wJ 149 hv332 (fun hv332 => ?_) (fun hv332 => ?_)
       ·refine wR 1 101 (bB hv332 fun r98 hx334 hv332 => (w0 (ms_IsExpr_ok a2 hx334) cok153 (wR 2 101 ?_)))
        refine wJ 153 hv332 (fun hv332 => ?_) (fun hv332 => ?_)
        ·refine wR 7 101 ?_
         cases hv332
         exact fS [] [6]
        refine wR 3 101 ?_
        refine wJ 156 hv332 (fun hv332 => ?_) (fun hv332 => ?_)
        ·refine wR 4 101 ?_
         cases hv332
         exact fS [] [6]
        refine wR 4 101 ?_
        cases hv332
        exact fS [] [6]
       refine wR 7 101 ?_
       refine wJ 156 hv332 (fun hv332 => ?_) (fun hv332 => ?_)
       ·refine wR 4 101 ?_
        cases hv332
        exact fS [] [6]
       refine wR 4 101 ?_
       cases hv332
       exact fS [] [6]
       ) ?_
      cases h249
      exact e1 6 id
     refine cV 101 ?_
     refine cI h249 (fun _ h249 => ?_) (fun _ h249 => ?_)
     ·refine bB h249 fun y99 hv343 h249 => ?_
      refine CO.cutR (tl 184 [(6, V.b y99)]) [] mix (by
       refine wR 2 101 ?_
       refine wJ 163 hv343 (fun hv343 => ?_) (fun hv343 => ?_)
       ·refine wR 3 101 ?_
        refine wJ 166 hv343 (fun hv343 => ?_) (fun hv343 => ?_)
        ·refine wR 8 101 ?_
         cases hv343
         exact fS [] [6]
        refine wR 3 101 ?_
        refine wJ 169 hv343 (fun hv343 => ?_) (fun hv343 => ?_)
        ·refine wR 5 101 ?_
         cases hv343
         exact fS [] [6]
        refine wR 5 101 ?_
        cases hv343
        exact fS [] [6]
       refine wR 6 101 ?_
       refine wJ 169 hv343 (fun hv343 => ?_) (fun hv343 => ?_)
       ·refine wR 5 101 ?_
        cases hv343
        exact fS [] [6]
       refine wR 5 101 ?_
       cases hv343
       exact fS [] [6]
       ) ?_
      cases h249
      exact e1 6 id
     refine cV 101 ?_
     refine cI h249 (fun _ h249 => ?_) (fun _ h249 => ?_)
     ·refine bB h249 fun y101 hv351 h249 => ?_
      refine CO.cutR (tl 184 [(6, V.b y101)]) [] mix (by
       refine wR 1 101 (bB hv351 fun r102 hx352 hv351 => (w0 (ms_l1In_ok a2 40 44 hx352) cok27 (wR 1 101 ?_)))
       refine wJ 178 hv351 (fun hv351 => ?_) (fun hv351 => ?_)
       ·refine wR 4 101 ?_
        cases hv351
        exact fS [] [6]
       refine wR 4 101 ?_
       cases hv351
       exact fS [] [6]
       ) ?_
      cases h249
      exact e1 6 id
     refine CO.skip (bB h249 fun r104 hx355 h249 => (cC 1 101 (ms_IsExpr_ok a2 hx355) cok153 ?_))
     cases h249
     exact e1 6 id
   intro hk356
   refine cV 101 ?_
   refine cI h181 (fun _ h181 => ?_) (fun _ h181 => ?_)
   ·exact sK hk356 (a1, a2, a0, (a0.Kind == 32)) h181 [(100, 100)] [1, 2, 3, 7, 8, 18, 100]
   refine cV 101 ?_
   refine cI h181 (fun _ h181 => ?_) (fun _ h181 => ?_)
   ·exact sK hk356 (a1, a2, a0, (a0.Kind == 40)) h181 [(100, 100)] [1, 2, 3, 7, 8, 18, 100]
   exact cK 101 hk356 (a1, a2, a0, (a0.Kind == 41)) h181 [(100, 100)] [1, 2, 3, 7, 8, 18, 100]
 intro hk359
 refine cV 101 ?_
 refine cI h (fun _ h => ?_) (fun _ h => ?_)
 ·exact sK hk359 (a1, a2, a0, (a0.Kind == 9)) h [(100, 100)] [1, 2, 3, 7, 8, 18, 19]
 exact cK 101 hk359 (a1, a2, a0, (a0.Kind == 10)) h [(100, 100)] [1, 2, 3, 7, 8, 18, 19]

theorem ms_TreeOk_ok (N : Nat) (a0 : LN) {r : Bool} (h : ms_TreeOk N a0 = some r) :
    AC Tryz.prog (GS []) 152 [.sl false false (a0.map (eSN false))] [] (V.b r) [] := by
 rw [ms_TreeOk] at h
 refine AC.enter Tryz.func152 rfl (cV 100 (CO.seq' (bB h fun y8 hv12 h => ?_)))
 refine CO.cutR (tl 54 [(0, .sl false false (a0.map (eSN false))), (12, V.b y8)]) [] mix (by
  refine wR 1 100 (bB hv12 fun r9 hx13 hv12 => (w0 (ms_ShapeOk_ok N a0 hx13) cok161 (wR 2 100 ?_)))
  refine wJ 8 hv12 (fun hv12 => ?_) (fun hv12 => ?_)
  ·refine wR 4 100 ?_
   cases hv12
   exact fS [] [0, 12]
  refine wR 1 100 (bB hv12 fun r10 hx15 hv12 => (w0 (ms_DepthOf_ok N a0 hx15) cok162 (wR 2 100 ?_)))
  cases hv12
  exact fS [] [0, 12]
  ) ?_
 refine cI h (fun _ h => ?_) (fun _ h => ?_)
 ·refine cV 100 ?_
  cases h
  exact e1 2 id
 refine CO.skip (CO.seq' (cV 100 (CO.block' (CO.loopJ (fun (⟨a0, y669⟩ : (LN × Int)) => ⟨tl 54 [(0, .sl false false (a0.map (eSN false))), (3, V.i y669)], []⟩) (fun n i => ms_TreeOk_l1 N n i = some r) (n0 := N) (i0 := (a0, 0)) (wS [] [0, 3]) h (fun i h => by simp [ms_TreeOk_l1] at h) ?_))))
 rintro n1 ⟨a0, y669⟩ h989 ih990
 rw [ms_TreeOk_l1] at h989
 refine CO.seq' (CO.sw mix (wR 2 280 (wN (eSN false) a0 [] (wR 1 280 (wF ?_)))))
 refine cI h989 (fun _ h989 => ?_) (fun _ h989 => ?_)
 ·refine CO.skip (CO.seq' (CO.block' (CO.seq' (bB h989 fun e923 hx1096 h989 => (bB h989 fun r924 hx1097 h989 => (CO.sw mix (wR 2 280 (wX (eSN false) hx1096 5 ?_))))))))
  refine wR 1 280 (w0 (ms_FieldsOk_ok N e923 hx1097) cok163 (wR 1 280 (wF ?_)))
  refine cI h989 (fun _ h989 => ?_) (fun _ h989 => ?_)
  ·refine cV 280 ?_
   cases h989
   exact e1 2 id
  refine CO.skip (cV 280 (CO.block' (CO.loopJ (fun (⟨a0, y669, y949⟩ : (LN × Int × Int)) => ⟨tl 54 [(0, .sl false false (a0.map (eSN false))), (3, V.i y669), (4, V.i y949)], []⟩) (fun n i => ms_TreeOk_l2 N (ms_TreeOk_l1 N n1) n i = some r) (n0 := N) (i0 := (a0, y669, 0)) (wS [] [0, 3, 4]) h989 (fun i h => by simp [ms_TreeOk_l2] at h) ?_)))
  rintro n2 ⟨a0, y669, y949⟩ h1155 ih1156
  rw [ms_TreeOk_l2] at h1155
  refine CO.seq' (bB h1155 fun e978 hx1161 h1155 => (CO.sw mix (wR 3 340 (wX (eSN false) hx1161 5 (wR 2 340 (wN eNI e978.Kids [] (wR 1 340 (wF ?_))))))))
  refine cI h1155 (fun _ h1155 => ?_) (fun _ h1155 => ?_)
  ·refine CO.skip (CO.seq' (CO.block' (bB h1155 fun e994 hx1179 h1155 => (bB h1155 fun e995 hx1180 h1155 => (bB h1155 fun e996 hx1181 h1155 => (bB h1155 fun e997 hx1182 h1155 => (bB h1155 fun r998 hx1183 h1155 => (CO.sw mix ?_))))))))
   refine wR 2 340 (wX (eSN false) hx1179 5 (wR 5 340 (wX (eSN false) hx1180 5 (wR 3 340 (wX eNI hx1181 1 (wR 1 340 (wX (eSN false) hx1182 5 (wR 2 340 ?_))))))))
   refine w0 (ms_l7Kid_ok e994 y949 e997.Kind hx1183) cok164 (wR 1 340 (wF ?_))
   refine cI h1155 (fun _ h1155 => ?_) (fun _ h1155 => ?_)
   ·refine cV 340 ?_
    cases h1155
    exact e1 2 id
   refine CO.skip ?_
   exact cK 340 ih1156 (a0, y669, (wr (y949 + 1))) h1155 [] [0, 3, 4]
  refine CO.exit ?_
  exact cK 340 ih990 (a0, (wr (y669 + 1))) h1155 [] [0, 3]
 refine CO.exit (cV 280 ?_)
 cases h989
 exact e1 2 id

theorem ms_ExprOk_ok (N : Nat) (a0 : LN) {r : Bool} (h : ms_ExprOk N a0 = some r) :
    AC Tryz.prog (GS []) 141 [.sl false false (a0.map (eSN false))] [] (V.b r) [] := by
 rw [ms_ExprOk] at h
 refine AC.enter Tryz.func141 rfl (cV 100 (bB h fun y4 hv5 h => ?_))
 refine CO.cutR (tl 15 [(2, V.b y4)]) [] mix (by
  refine wR 1 100 (bB hv5 fun r5 hx6 hv5 => (w0 (ms_TreeOk_ok N a0 hx6) cok152 (wR 1 100 ?_)))
  refine wJ 5 hv5 (fun hv5 => ?_) (fun hv5 => ?_)
  ·refine wR 2 100 (wN (eSN false) a0 [] (wR 1 100 (bB hv5 fun e6 hx8 hv5 => (wX (eSN false) hx8 5 (wR 2 100 (bB hv5 fun r7 hx9 hv5 => (w0 (ms_IsExpr_ok e6.Kind hx9) cok153 (wR 2 100 ?_))))))))
   cases hv5
   exact fS [] [2]
  refine wR 10 100 ?_
  cases hv5
  exact fS [] [2]
  ) ?_
 cases h
 exact e1 2 id

theorem ms_PosOk_ok (a0 : SPos) {r : Bool} (h : ms_PosOk a0 = some r) :
    AC Tryz.prog (GS []) 142 [.agg [V.i a0.Level, V.b a0.Dollar, V.b a0.NoIn, V.b a0.NoGt, V.b a0.NoSign]] [] (V.b r) [] := by
 rw [ms_PosOk] at h
 refine AC.enter Tryz.func142 rfl (cV 100 (bB h fun y2 hv4 h => ?_))
 refine CO.cutR (tl 16 [(2, V.b y2)]) [] mix (by
  refine wR 2 101 (bB hv4 fun r3 hx5 hv4 => (w0 (ms_l1In_ok a0.Level 1 15 hx5) cok27 (wR 1 101 ?_)))
  refine wJ 6 hv4 (fun hv4 => ?_) (fun hv4 => ?_)
  ·refine wR 4 101 ?_
   refine wJ 10 hv4 (fun hv4 => ?_) (fun hv4 => ?_)
   ·refine wR 6 101 ?_
    cases hv4
    exact fS [] [2]
   refine wR 6 101 ?_
   cases hv4
   exact fS [] [2]
  refine wR 10 101 ?_
  cases hv4
  exact fS [] [2]
  ) ?_
 cases h
 exact e1 2 id

theorem ms_OpLevel_ok (a0 : Int) {r : Int} (h : ms_OpLevel a0 = some r) :
    AC Tryz.prog (GS []) 181 [V.i a0] [] (V.i r) [] := by
 rw [ms_OpLevel] at h
 refine AC.enter Tryz.func181 rfl (cV 100 (CO.seq' (cV 100 (CO.block' (cV 100 ?_)))))
 refine cI h (fun _ h => ?_) (fun _ h => ?_)
 ·refine cV 100 ?_
  cases h
  exact e1 2 id
 refine cV 100 ?_
 refine cI h (fun _ h => ?_) (fun _ h => ?_)
 ·refine cV 100 ?_
  cases h
  exact e1 2 id
 refine CO.join (fun (⟨a0, y5⟩ : (Int × Bool)) => ⟨tl 29 [(3, V.i a0), (8, V.b y5)], []⟩) (fun i => ms_OpLevel_k1 i = some r) ?_ ?_
 · rintro ⟨a0, y5⟩ h38
   rw [ms_OpLevel_k1] at h38
   refine cI h38 (fun _ h38 => ?_) (fun _ h38 => ?_)
   ·refine cV 100 ?_
    cases h38
    exact e1 2 id
   refine CO.join (fun (⟨a0, y6⟩ : (Int × Bool)) => ⟨tl 29 [(3, V.i a0), (11, V.b y6)], []⟩) (fun i => ms_OpLevel_k2 i = some r) ?_ ?_
   · rintro ⟨a0, y6⟩ h45
     rw [ms_OpLevel_k2] at h45
     refine cI h45 (fun _ h45 => ?_) (fun _ h45 => ?_)
     ·refine cV 100 ?_
      cases h45
      exact e1 2 id
     refine cV 100 ?_
     refine cI h45 (fun _ h45 => ?_) (fun _ h45 => ?_)
     ·refine cV 100 ?_
      cases h45
      exact e1 2 id
     refine CO.join (fun (⟨a0, y7⟩ : (Int × Bool)) => ⟨tl 29 [(3, V.i a0), (20, V.b y7)], []⟩) (fun i => ms_OpLevel_k3 i = some r) ?_ ?_
     · rintro ⟨a0, y7⟩ h49
       rw [ms_OpLevel_k3] at h49
       refine cI h49 (fun _ h49 => ?_) (fun _ h49 => ?_)
       ·refine cV 100 ?_
        cases h49
        exact e1 2 id
       refine CO.join (fun (⟨a0, y8⟩ : (Int × Bool)) => ⟨tl 29 [(3, V.i a0), (23, V.b y8)], []⟩) (fun i => ms_OpLevel_k4 i = some r) ?_ ?_
       · rintro ⟨a0, y8⟩ h53
         rw [ms_OpLevel_k4] at h53
         refine cI h53 (fun _ h53 => ?_) (fun _ h53 => ?_)
         ·refine cV 100 ?_
          cases h53
          exact e1 2 id
         refine cV 100 ?_
         refine cI h53 (fun _ h53 => ?_) (fun _ h53 => ?_)
         ·refine cV 100 ?_
          cases h53
          exact e1 2 id
         refine CO.skip (cV 100 ?_)
         cases h53
         exact e1 2 id
       intro hk56
       refine cV 100 ?_
       refine cI h49 (fun _ h49 => ?_) (fun _ h49 => ?_)
       ·exact sK hk56 (a0, (a0 == 57)) h49 [] [3, 23]
       refine cV 100 ?_
       refine cI h49 (fun _ h49 => ?_) (fun _ h49 => ?_)
       ·exact sK hk56 (a0, (a0 == 58)) h49 [] [3, 23]
       exact cK 100 hk56 (a0, (a0 == 59)) h49 [] [3, 23]
     intro hk59
     refine cV 100 ?_
     refine cI h45 (fun _ h45 => ?_) (fun _ h45 => ?_)
     ·exact sK hk59 (a0, (a0 == 55)) h45 [] [3, 20]
     exact cK 100 hk59 (a0, (a0 == 56)) h45 [] [3, 20]
   intro hk61
   refine cV 100 ?_
   refine cI h38 (fun _ h38 => ?_) (fun _ h38 => ?_)
   ·exact sK hk61 (a0, (a0 == 63)) h38 [] [3, 11]
   refine cV 100 ?_
   refine cI h38 (fun _ h38 => ?_) (fun _ h38 => ?_)
   ·exact sK hk61 (a0, (a0 == 48)) h38 [] [3, 11]
   refine cV 100 ?_
   refine cI h38 (fun _ h38 => ?_) (fun _ h38 => ?_)
   ·exact sK hk61 (a0, (a0 == 47)) h38 [] [3, 11]
   refine cV 100 ?_
   refine cI h38 (fun _ h38 => ?_) (fun _ h38 => ?_)
   ·exact sK hk61 (a0, (a0 == 50)) h38 [] [3, 11]
   refine cV 100 ?_
   refine cI h38 (fun _ h38 => ?_) (fun _ h38 => ?_)
   ·exact sK hk61 (a0, (a0 == 62)) h38 [] [3, 11]
   exact cK 100 hk61 (a0, (a0 == 49)) h38 [] [3, 11]
 intro hk67
 refine cV 100 ?_
 refine cI h (fun _ h => ?_) (fun _ h => ?_)
 ·exact sK hk67 (a0, (a0 == 67)) h [] [3, 8]
 exact cK 100 hk67 (a0, (a0 == 46)) h [] [3, 8]

theorem ms_LevelOf_ok (a0 : SNode) {r : Int} (h : ms_LevelOf a0 = some r) :
    AC Tryz.prog (GS []) 165 [.agg [V.i a0.Kind, V.i a0.Op, V.s a0.Text, V.s a0.Other, sL eNI a0.Kids]] [] (V.i r) [] := by
 rw [ms_LevelOf] at h
 refine AC.enter Tryz.func165 rfl (cV 100 (CO.seq' (cV 101 (CO.block' (cV 101 ?_)))))
 refine cI h (fun _ h => ?_) (fun _ h => ?_)
 ·refine cV 101 ?_
  cases h
  exact e1 2 id
 refine cV 101 ?_
 refine cI h (fun _ h => ?_) (fun _ h => ?_)
 ·refine cV 101 ?_
  cases h
  exact e1 2 id
 refine cV 101 ?_
 refine cI h (fun _ h => ?_) (fun _ h => ?_)
 ·refine cV 101 ?_
  cases h
  exact e1 2 id
 refine cV 101 ?_
 refine cI h (fun _ h => ?_) (fun _ h => ?_)
 ·refine bB h fun r6 hx34 h => (cC 2 101 (ms_OpLevel_ok a0.Op hx34) cok181 ?_)
  cases h
  exact e1 2 id
 refine cV 101 ?_
 refine cI h (fun _ h => ?_) (fun _ h => ?_)
 ·refine cV 101 ?_
  cases h
  exact e1 2 id
 refine CO.join (fun (⟨a0, y7⟩ : (SNode × Bool)) => ⟨tl 31 [(4, V.i a0.Kind), (18, V.b y7)], []⟩) (fun i => ms_LevelOf_k1 i = some r) ?_ ?_
 · rintro ⟨a0, y7⟩ h37
   rw [ms_LevelOf_k1] at h37
   refine cI h37 (fun _ h37 => ?_) (fun _ h37 => ?_)
   ·refine cV 101 ?_
    cases h37
    exact e1 2 id
   refine cV 101 ?_
   refine cI h37 (fun _ h37 => ?_) (fun _ h37 => ?_)
   ·refine cV 101 ?_
    cases h37
    exact e1 2 id
   refine CO.join (fun (y8 : Bool) => ⟨tl 31 [(23, V.b y8)], []⟩) (fun i => ms_LevelOf_k2 i = some r) ?_ ?_
   · rintro y8 h46
     rw [ms_LevelOf_k2] at h46
     refine cI h46 (fun _ h46 => ?_) (fun _ h46 => ?_)
     ·refine cV 101 ?_
      cases h46
      exact e1 2 id
     refine CO.skip (cV 101 ?_)
     cases h46
     exact e1 2 id
   intro hk48
   refine cV 101 ?_
   refine cI h37 (fun _ h37 => ?_) (fun _ h37 => ?_)
   ·exact sK hk48 (a0.Kind == 1) h37 [] [23]
   refine cV 101 ?_
   refine cI h37 (fun _ h37 => ?_) (fun _ h37 => ?_)
   ·exact sK hk48 (a0.Kind == 2) h37 [] [23]
   refine cV 101 ?_
   refine cI h37 (fun _ h37 => ?_) (fun _ h37 => ?_)
   ·exact sK hk48 (a0.Kind == 3) h37 [] [23]
   refine cV 101 ?_
   refine cI h37 (fun _ h37 => ?_) (fun _ h37 => ?_)
   ·exact sK hk48 (a0.Kind == 4) h37 [] [23]
   refine cV 101 ?_
   refine cI h37 (fun _ h37 => ?_) (fun _ h37 => ?_)
   ·exact sK hk48 (a0.Kind == 5) h37 [] [23]
   refine cV 101 ?_
   refine cI h37 (fun _ h37 => ?_) (fun _ h37 => ?_)
   ·exact sK hk48 (a0.Kind == 7) h37 [] [23]
   exact cK 101 hk48 (a0.Kind == 8) h37 [] [23]
 intro hk55
 refine cV 101 ?_
 refine cI h (fun _ h => ?_) (fun _ h => ?_)
 ·exact sK hk55 (a0, (a0.Kind == 9)) h [] [4, 18]
 exact cK 101 hk55 (a0, (a0.Kind == 10)) h [] [4, 18]

theorem ms_Fits_ok (a0 : SNode) (a1 : SPos) {r : Bool} (h : ms_Fits a0 a1 = some r) :
    AC Tryz.prog (GS []) 154 [.agg [V.i a0.Kind, V.i a0.Op, V.s a0.Text, V.s a0.Other, sL eNI a0.Kids], .agg [V.i a1.Level, V.b a1.Dollar, V.b a1.NoIn, V.b a1.NoGt, V.b a1.NoSign]] [] (V.b r) [] := by
 rw [ms_Fits] at h
 refine AC.enter Tryz.func154 rfl (cV 100 (CO.seq' (CO.block' (bB h fun y12 hv34 h => ?_))))
 refine CO.cutR (tl 66 [(2, .loc 100 0), (3, .loc 101 0), (5, V.b y12)]) [(100, .cells 108 [V.i a0.Kind, V.i a0.Op, V.s a0.Text, V.s a0.Other, sL eNI a0.Kids]), (101, .cells 93 [V.i a1.Level, V.b a1.Dollar, V.b a1.NoIn, V.b a1.NoGt, V.b a1.NoSign])] mix (by
  refine wR 1 102 (bB hv34 fun r13 hx35 hv34 => (w0 (ms_PosOk_ok a1 hx35) cok142 (wR 2 102 ?_)))
  refine wJ 9 hv34 (fun hv34 => ?_) (fun hv34 => ?_)
  ·refine wR 5 102 ?_
   cases hv34
   exact fS [(100, 100), (101, 101)] [2, 3, 5]
  refine wR 1 102 (bB hv34 fun r14 hx37 hv34 => (w0 (ms_LevelOf_ok a0 hx37) cok165 (wR 3 102 ?_)))
  cases hv34
  exact fS [(100, 100), (101, 101)] [2, 3, 5]
  ) ?_
 refine cI h (fun _ h => ?_) (fun _ h => ?_)
 ·refine cV 102 ?_
  cases h
  exact e1 4 id
 refine bB h fun y15 hv40 h => ?_
 refine CO.cutR (tl 66 [(2, .loc 100 0), (3, .loc 101 0), (14, V.b y15)]) [(100, .cells 108 [V.i a0.Kind, V.i a0.Op, V.s a0.Text, V.s a0.Other, sL eNI a0.Kids]), (101, .cells 93 [V.i a1.Level, V.b a1.Dollar, V.b a1.NoIn, V.b a1.NoGt, V.b a1.NoSign])] mix (by
  refine wR 3 102 ?_
  refine wJ 17 hv40 (fun hv40 => ?_) (fun hv40 => ?_)
  ·refine wR 5 102 ?_
   cases hv40
   exact fS [(100, 100), (101, 101)] [2, 3, 14]
  refine wR 5 102 ?_
  cases hv40
  exact fS [(100, 100), (101, 101)] [2, 3, 14]
  ) ?_
 refine cI h (fun _ h => ?_) (fun _ h => ?_)
 ·refine cV 102 ?_
  cases h
  exact e1 4 id
 refine bB h fun y16 hv45 h => ?_
 refine CO.cutR (tl 66 [(2, .loc 100 0), (3, .loc 101 0), (22, V.b y16)]) [(100, .cells 108 [V.i a0.Kind, V.i a0.Op, V.s a0.Text, V.s a0.Other, sL eNI a0.Kids]), (101, .cells 93 [V.i a1.Level, V.b a1.Dollar, V.b a1.NoIn, V.b a1.NoGt, V.b a1.NoSign])] mix (by
  refine wR 3 102 ?_
  refine wJ 25 hv45 (fun hv45 => ?_) (fun hv45 => ?_)
  ·refine wR 5 102 ?_
   refine wJ 30 hv45 (fun hv45 => ?_) (fun hv45 => ?_)
   ·refine wR 5 102 ?_
    cases hv45
    exact fS [(100, 100), (101, 101)] [2, 3, 22]
   refine wR 5 102 ?_
   cases hv45
   exact fS [(100, 100), (101, 101)] [2, 3, 22]
  refine wR 10 102 ?_
  cases hv45
  exact fS [(100, 100), (101, 101)] [2, 3, 22]
  ) ?_
 refine cI h (fun _ h => ?_) (fun _ h => ?_)
 ·refine cV 102 ?_
  cases h
  exact e1 4 id
 refine bB h fun y17 hv52 h => ?_
 refine CO.cutR (tl 66 [(2, .loc 100 0), (3, .loc 101 0), (35, V.b y17)]) [(100, .cells 108 [V.i a0.Kind, V.i a0.Op, V.s a0.Text, V.s a0.Other, sL eNI a0.Kids]), (101, .cells 93 [V.i a1.Level, V.b a1.Dollar, V.b a1.NoIn, V.b a1.NoGt, V.b a1.NoSign])] mix (by
  refine wR 3 102 ?_
  refine wJ 38 hv52 (fun hv52 => ?_) (fun hv52 => ?_)
  ·refine wR 4 102 ?_
   refine wJ 42 hv52 (fun hv52 => ?_) (fun hv52 => ?_)
   ·refine wR 11 102 ?_
    cases hv52
    exact fS [(100, 100), (101, 101)] [2, 3, 35]
   refine wR 5 102 ?_
   refine wJ 47 hv52 (fun hv52 => ?_) (fun hv52 => ?_)
   ·refine wR 6 102 ?_
    cases hv52
    exact fS [(100, 100), (101, 101)] [2, 3, 35]
   refine wR 6 102 ?_
   cases hv52
   exact fS [(100, 100), (101, 101)] [2, 3, 35]
  refine wR 15 102 ?_
  cases hv52
  exact fS [(100, 100), (101, 101)] [2, 3, 35]
  ) ?_
 refine cI h (fun _ h => ?_) (fun _ h => ?_)
 ·refine cV 102 ?_
  cases h
  exact e1 4 id
 refine bB h fun y18 hv58 h => ?_
 refine CO.cutR (tl 66 [(2, .loc 100 0), (3, .loc 101 0), (53, V.b y18)]) [(100, .cells 108 [V.i a0.Kind, V.i a0.Op, V.s a0.Text, V.s a0.Other, sL eNI a0.Kids]), (101, .cells 93 [V.i a1.Level, V.b a1.Dollar, V.b a1.NoIn, V.b a1.NoGt, V.b a1.NoSign])] mix (by
  refine wR 3 102 ?_
  refine wJ 56 hv58 (fun hv58 => ?_) (fun hv58 => ?_)
  ·refine wR 5 102 ?_
   cases hv58
   exact fS [(100, 100), (101, 101)] [2, 3, 53]
  refine wR 5 102 ?_
  cases hv58
  exact fS [(100, 100), (101, 101)] [2, 3, 53]
  ) ?_
 refine cI h (fun _ h => ?_) (fun _ h => ?_)
 ·refine cV 102 ?_
  cases h
  exact e1 4 id
 refine CO.skip (bB h fun r20 hx62 h => (cC 1 102 (ms_LevelOf_ok a0 hx62) cok165 ?_))
 cases h
 exact e1 4 id

theorem ms_l10Leaf_ok (a0 : SNode) {r : SToken} (h : ms_l10Leaf a0 = some r) :
    AC Tryz.prog (GS []) 166 [.agg [V.i a0.Kind, V.i a0.Op, V.s a0.Text, V.s a0.Other, sL eNI a0.Kids]] [] (.agg [V.i r.Kind, V.s r.Text, V.i r.At]) [] := by
 rw [ms_l10Leaf] at h
 refine AC.enter Tryz.func166 rfl (cV 100 (CO.seq' (cV 102 (CO.block' (cV 102 ?_)))))
 refine cI h (fun _ h => ?_) (fun _ h => ?_)
 ·refine cV 102 (CO.ret ?_)
  have h := sI h
  subst h
  exact eG [] (.inr rfl) (RetV.one rfl (OneR.cell Dk (r := .agg [V.i 6, V.s a0.Text, V.i 0]) (i := 101) (ety := 36) (cs := [V.i 6, V.s a0.Text, V.i 0]) (by kernel_rfl) (by kernel_rfl) (by kernel_rfl)))
 refine cV 102 ?_
 refine cI h (fun _ h => ?_) (fun _ h => ?_)
 ·refine cV 102 (CO.ret ?_)
  have h := sI h
  subst h
  exact eG [] (.inr rfl) (RetV.one rfl (OneR.cell Dk (r := .agg [V.i 3, V.s a0.Text, V.i 0]) (i := 101) (ety := 36) (cs := [V.i 3, V.s a0.Text, V.i 0]) (by kernel_rfl) (by kernel_rfl) (by kernel_rfl)))
 refine cV 102 ?_
 refine cI h (fun _ h => ?_) (fun _ h => ?_)
 ·refine cV 102 (CO.ret ?_)
  have h := sI h
  subst h
  exact eG [] (.inr rfl) (RetV.one rfl (OneR.cell Dk (r := .agg [V.i 4, V.s a0.Text, V.i 0]) (i := 101) (ety := 36) (cs := [V.i 4, V.s a0.Text, V.i 0]) (by kernel_rfl) (by kernel_rfl) (by kernel_rfl)))
 refine cV 102 ?_
 refine cI h (fun _ h => ?_) (fun _ h => ?_)
 ·refine cV 102 (CO.ret ?_)
  have h := sI h
  subst h
  exact eG [] (.inr rfl) (RetV.one rfl (OneR.cell Dk (r := .agg [V.i 5, V.s a0.Text, V.i 0]) (i := 101) (ety := 36) (cs := [V.i 5, V.s a0.Text, V.i 0]) (by kernel_rfl) (by kernel_rfl) (by kernel_rfl)))
 refine CO.skip (cV 102 (CO.ret ?_))
 cases h
 exact eG [] (.inr rfl) (RetV.one rfl (OneR.cell Dk (r := .agg [V.i 0, V.s [], V.i 0]) (i := 101) (ety := 36) (cs := [V.i 0, V.s [], V.i 0]) (by kernel_rfl) (by kernel_rfl) (by kernel_rfl)))

theorem ms_l15Text_ok (a0 : LU) {r : LD} (h : ms_l15Text a0 = some r) :
    AC Tryz.prog (GS []) 157 [V.s a0] [] (.own 100) [(100, .vec false 121 4 (r.map (encSDNode true)))] := by
 rw [ms_l15Text] at h
 refine AC.enter Tryz.func157 rfl (cV 100 (cV 100 (CO.ret ?_)))
 cases h
 exact eG [(100, 100)] (.inr rfl) (RetV.one rfl (oT (t := 2) (r := .own 100)))

theorem ms_l15Line_ok {r : LD} (h : ms_l15Line = some r) :
    AC Tryz.prog (GS []) 184 [] [] (.own 100) [(100, .vec false 121 4 (r.map (encSDNode true)))] := by
 rw [ms_l15Line] at h
 refine AC.enter Tryz.func184 rfl (cV 100 (cV 100 (CO.ret ?_)))
 cases h
 exact eG [(100, 100)] (.inr rfl) (RetV.one rfl (oT (t := 0) (r := .own 100)))

theorem ms_l15Shift_ok (N : Nat) (a0 : LD) (a1 : Int) {r : LD} (h : ms_l15Shift N a0 a1 = some r) :
    AC Tryz.prog (GS []) 174 [.sl false false (a0.map (encSDNode false)), V.i a1] [] (.own 100) [(100, .vec false 121 4 (r.map (encSDNode true)))] := by
 rw [ms_l15Shift] at h
 refine AC.enter Tryz.func174 rfl (cV 100 (cV 100 (CO.seq' (cV 101 (CO.block' (CO.loopJ (fun (⟨a0, a1, y869, y870⟩ : (LD × Int × Int × LD)) => ⟨tl 52 [(0, .sl false false (a0.map (encSDNode false))), (1, V.i a1), (5, .own 100), (6, V.i y869)], [(100, .vec false 121 4 (y870.map (encSDNode true)))]⟩) (fun n i => ms_l15Shift_l1 N n i = some r) (n0 := N) (i0 := (a0, a1, 0, [])) (wS [(100, 100)] [0, 1, 5, 6]) h (fun i h => by simp [ms_l15Shift_l1] at h) ?_))))))
 rintro n1 ⟨a0, a1, y869, y870⟩ h1173 ih1174
 rw [ms_l15Shift_l1] at h1173
 refine CO.seq' (CO.sw mix (wR 2 297 (wN (encSDNode false) a0 [] (wR 1 297 (wF ?_)))))
 refine cI h1173 (fun _ h1173 => ?_) (fun _ h1173 => ?_)
 ·refine CO.skip (CO.seq' (CO.block' (bB h1173 fun e1198 hx1294 h1173 => (CO.sw mix (wR 2 297 (wX (encSDNode false) hx1294 4 (wR 3 297 (wF ?_))))))))
  refine cV 298 (CO.seq' (cV 299 (CO.block' (CO.loopJ (fun (⟨a0, a1, y869, y870, e1198, y1267, y1268⟩ : (LD × Int × Int × LD × SDNode × Int × (List Int))) => ⟨tl 52 [(0, .sl false false (a0.map (encSDNode false))), (1, V.i a1), (5, .own 100), (6, V.i y869), (7, .loc 101 0), (8, V.i y1267)], [(100, .vec false 121 4 (y870.map (encSDNode true))), (101, .cells 121 [V.i e1198.Kind, V.i e1198.N, V.s e1198.Text, .own 102]), (102, vX 3 1 eNI y1268)]⟩) (fun n i => ms_l15Shift_l2 N (ms_l15Shift_l1 N n1) n i = some r) (n0 := N) (i0 := (a0, a1, y869, y870, e1198, 0, [])) (wS [(100, 100), (297, 101), (298, 102)] [0, 1, 5, 6, 7, 8]) h1173 (fun i h => by simp [ms_l15Shift_l2] at h) ?_))))
  rintro n2 ⟨a0, a1, y869, y870, e1198, y1267, y1268⟩ h1387 ih1388
  rw [ms_l15Shift_l2] at h1387
  refine CO.seq' (bB h1387 fun e1290 hx1393 h1387 => (CO.sw mix (wR 3 363 (wX (encSDNode false) hx1393 4 (wR 2 363 (wN eNI e1290.Kids [] (wR 1 363 (wF ?_))))))))
  refine cI h1387 (fun _ h1387 => ?_) (fun _ h1387 => ?_)
  ·refine CO.skip (CO.seq' (CO.block' (bB h1387 fun e1300 hx1404 h1387 => (bB h1387 fun e1301 hx1405 h1387 => (bB h1387 fun x1302 hx1406 h1387 => ?_)))))
   refine CO.endR (tl 52 [(0, .sl false false (a0.map (encSDNode false))), (1, V.i a1), (5, .own 100), (6, V.i y869), (7, .loc 101 0), (8, V.i y1267)]) [(101, .cells 121 [V.i e1198.Kind, V.i e1198.N, V.s e1198.Text, .own 364]), (364, vX 3 1 eNI x1302), (100, .vec false 121 4 (y870.map (encSDNode true)))] mix (by
    refine wR 4 363 (wX (encSDNode false) hx1404 4 (wR 3 363 (wX eNI hx1405 1 (wR 4 363 (W.appO Dk eNI (a := 102) (c := 363) (el := 3) (sz := 1) 8 hx1406 rfl 364 (by kernel_rfl) (wR 2 365 ?_))))))
    exact fI
    ) (fun st hw => ?_)
   refine CO.weak hw ?_
   exact cK 365 ih1388 (a0, a1, y869, y870, e1198, (wr (y1267 + 1)), x1302) h1387 [(100, 100), (101, 101), (364, 102)] [0, 1, 5, 6, 7, 8]
  refine CO.exit (bB h1387 fun x1304 hx1408 h1387 => ?_)
  refine CO.endR (tl 52 [(0, .sl false false (a0.map (encSDNode false))), (1, V.i a1), (5, .own 364), (6, V.i y869)]) [(364, .vec false 121 4 (x1304.map (encSDNode true)))] mix (by
   refine wR 3 363 (W.appO Dk (encSDNode true) (a := 100) (c := 363) (el := 121) (sz := 4) 56 hx1408 rfl 364 (by kernel_rfl) (wR 1 365 ?_))
   exact fI
   ) (fun st hw => ?_)
  refine CO.weak hw ?_
  exact cK 365 ih1174 (a0, a1, (wr (y869 + 1)), x1304) h1387 [(364, 100)] [0, 1, 5, 6]
 refine CO.exit (cV 297 (CO.ret ?_))
 cases h1173
 exact eG [(100, 100)] (.inr rfl) (RetV.one rfl (oT (t := 4) (r := .own 100)))

theorem ms_l15Over_ok (N : Nat) (a0 : Int) (a1 : Int) (a2 : List LD) {r : LD} (h : ms_l15Over N a0 a1 a2 = some r) :
    AC Tryz.prog (GS []) 156 [V.i a0, V.i a1, .sl false false (a2.map (encL false (encSDNode false)))] [] (.own 100) [(100, .vec false 121 4 (r.map (encSDNode true)))] := by
 rw [ms_l15Over] at h
 refine AC.enter Tryz.func156 rfl (cV 100 (cV 100 (cV 101 (CO.seq' (cV 102 (CO.block' (CO.loopJ (fun (⟨a2, a0, a1, y75, y76, y77⟩ : ((List LD) × Int × Int × Int × LD × (List Int))) => ⟨tl 41 [(2, .sl false false (a2.map (encL false (encSDNode false)))), (7, .own 100), (8, .loc 101 0), (9, V.i y75)], [(100, .vec false 121 4 (y76.map (encSDNode true))), (101, .cells 121 [V.i a0, V.i a1, V.s [], .own 102]), (102, vX 3 1 eNI y77)]⟩) (fun n i => ms_l15Over_l1 N n i = some r) (n0 := N) (i0 := (a2, a0, a1, 0, [], [])) ((Weak.nilCell 101 3 102 3 1 (ety := 121) (cs := [V.i a0, V.i a1, V.s [], .c (.slice none 0 0)]) (by kernel_rfl) (by kernel_rfl) (by kernel_rfl)).trans (wS [(100, 100), (101, 101), (102, 102)] [2, 7, 8, 9])) h (fun i h => by simp [ms_l15Over_l1] at h) ?_)))))))
 rintro n1 ⟨a2, a0, a1, y75, y76, y77⟩ h97 ih98
 rw [ms_l15Over_l1] at h97
 refine CO.seq' (CO.sw mix (wR 2 171 (wN (encL false (encSDNode false)) a2 [] (wR 1 171 (wF ?_)))))
 refine cI h97 (fun _ h97 => ?_) (fun _ h97 => ?_)
 ·refine CO.skip (CO.seq' (CO.block' (bB h97 fun e108 hx112 h97 => (bB h97 fun r109 hx113 h97 => (bB h97 fun x110 hx114 h97 => (CO.sw mix (wR 3 171 (wX (encL false (encSDNode false)) hx112 1 ?_))))))))
  refine wR 2 171 (wN (encSDNode true) y76 [100] (wC (ms_l15Shift_ok N e108 (y76.length : Int) hx113) cok174 [] [(100, 171)] [171] (W.appO Dk (encSDNode true) (a := 100) (c := 171) (el := 121) (sz := 4) 56 hx114 rfl 172 (by kernel_rfl) (wR 1 173 (wF (bB h97 fun x112 hx116 h97 => ?_))))))
  refine CO.endR (tl 41 [(2, .sl false false (a2.map (encL false (encSDNode false)))), (7, .own 172), (8, .loc 101 0), (9, V.i y75)]) [(101, .cells 121 [V.i a0, V.i a1, V.s [], .own 174]), (174, vX 3 1 eNI x112), (172, .vec false 121 4 (x110.map (encSDNode true)))] mix (by
   refine wR 3 173 (wN (encSDNode true) x110 [172] (wR 2 173 (W.appO Dk eNI (a := 102) (c := 173) (el := 3) (sz := 1) 8 hx116 rfl 174 (by kernel_rfl) (wR 2 175 ?_))))
   exact fI
   ) (fun st hw => ?_)
  refine CO.weak hw ?_
  exact cK 175 ih98 (a2, a0, a1, (wr (y75 + 1)), x110, x112) h97 [(172, 100), (101, 101), (174, 102)] [2, 7, 8, 9]
 refine CO.exit (bB h97 fun x114 hx118 h97 => (CO.sw mix (wR 3 171 (W.appO Dk (encSDNode true) (a := 100) (c := 171) (el := 121) (sz := 4) 56 hx118 rfl 172 (by kernel_rfl) (wR 1 173 (wF (CO.ret ?_)))))))
 cases h97
 exact eG [(172, 100)] (.inr rfl) (RetV.one rfl (oT (t := 6) (r := .own 172)))

theorem ms_l9Sides_ok (a0 : Int) {r : (Int × Int)} (h : ms_l9Sides a0 = some r) :
    AC Tryz.prog (GS []) 182 [V.i a0] [] (.tup [V.i r.1, V.i r.2]) [] := by
 rw [ms_l9Sides] at h
 refine AC.enter Tryz.func182 rfl (cV 100 (CO.seq' (bB h fun r4 hx11 h => (cC 1 100 (ms_OpLevel_ok a0 hx11) cok181 (CO.block' (cV 100 ?_))))))
 refine cI h (fun _ h => ?_) (fun _ h => ?_)
 ·refine cV 100 (CO.ret ?_)
  cases h
  exact eG [] (.inr rfl) (RetV.two rfl (oT (t := 2) (r := V.i 3)) (oT (t := 3) (r := V.i 4)))
 refine cV 100 ?_
 refine cI h (fun _ h => ?_) (fun _ h => ?_)
 ·refine cV 100 (CO.ret ?_)
  cases h
  exact eG [] (.inr rfl) (RetV.two rfl (oT (t := 2) (r := V.i 4)) (oT (t := 3) (r := V.i 5)))
 refine cV 100 ?_
 refine cI h (fun _ h => ?_) (fun _ h => ?_)
 ·refine cV 100 (CO.ret ?_)
  cases h
  exact eG [] (.inr rfl) (RetV.two rfl (oT (t := 2) (r := V.i 7)) (oT (t := 3) (r := V.i 7)))
 refine cV 100 ?_
 refine cI h (fun _ h => ?_) (fun _ h => ?_)
 ·refine cV 100 (CO.ret ?_)
  cases h
  exact eG [] (.inr rfl) (RetV.two rfl (oT (t := 2) (r := V.i 8)) (oT (t := 3) (r := V.i 8)))
 refine cV 100 ?_
 refine cI h (fun _ h => ?_) (fun _ h => ?_)
 ·refine cV 100 (CO.ret ?_)
  cases h
  exact eG [] (.inr rfl) (RetV.two rfl (oT (t := 2) (r := V.i 8)) (oT (t := 3) (r := V.i 9)))
 refine cV 100 ?_
 refine cI h (fun _ h => ?_) (fun _ h => ?_)
 ·refine cV 100 (CO.ret ?_)
  cases h
  exact eG [] (.inr rfl) (RetV.two rfl (oT (t := 2) (r := V.i 9)) (oT (t := 3) (r := V.i 10)))
 refine cV 100 ?_
 refine cI h (fun _ h => ?_) (fun _ h => ?_)
 ·refine cV 100 (CO.ret ?_)
  cases h
  exact eG [] (.inr rfl) (RetV.two rfl (oT (t := 2) (r := V.i 10)) (oT (t := 3) (r := V.i 11)))
 refine CO.skip (cV 100 (CO.ret ?_))
 cases h
 exact eG [] (.inr rfl) (RetV.two rfl (oT (t := 2) (r := V.i 13)) (oT (t := 3) (r := V.i 11)))

theorem ms_KidPos_ok (a0 : SNode) (a1 : Int) (a2 : SPos) {r : SPos} (h : ms_KidPos a0 a1 a2 = some r) :
    AC Tryz.prog (GS []) 169 [.agg [V.i a0.Kind, V.i a0.Op, V.s a0.Text, V.s a0.Other, sL eNI a0.Kids], V.i a1, .agg [V.i a2.Level, V.b a2.Dollar, V.b a2.NoIn, V.b a2.NoGt, V.b a2.NoSign]] [] (.agg [V.i r.Level, V.b r.Dollar, V.b r.NoIn, V.b r.NoGt, V.b r.NoSign]) [] := by
 rw [ms_KidPos] at h
 refine AC.enter Tryz.func169 rfl (cV 100 (CO.seq' (bB h fun y11 hv18 h => ?_)))
 refine CO.cutR (tl 95 [(1, V.i a1), (3, .loc 100 0), (5, .loc 101 0), (6, .loc 102 0), (26, V.b y11)]) [(100, .cells 108 [V.i a0.Kind, V.i a0.Op, V.s a0.Text, V.s a0.Other, sL eNI a0.Kids]), (101, .cells 93 [V.i a2.Level, V.b a2.Dollar, V.b a2.NoIn, V.b a2.NoGt, V.b a2.NoSign]), (102, .cells 93 [V.i 0, V.b false, V.b false, V.b false, V.b false])] mix (by
  refine wR 1 103 (bB hv18 fun r12 hx19 hv18 => (w0 (ms_PosOk_ok a2 hx19) cok142 (wR 2 103 ?_)))
  refine wJ 13 hv18 (fun hv18 => ?_) (fun hv18 => ?_)
  ·refine wR 13 103 ?_
   cases hv18
   exact fS [(100, 100), (101, 101), (102, 102)] [1, 3, 5, 6, 26]
  refine wR 3 103 (wN eNI a0.Kids [] (wR 1 103 (bB hv18 fun r13 hx21 hv18 => (w0 (ms_l1In_ok a1 0 (wr ((a0.Kids.length : Int) - 1)) hx21) cok27 (wR 3 103 ?_)))))
  refine wJ 22 hv18 (fun hv18 => ?_) (fun hv18 => ?_)
  ·refine wR 4 103 ?_
   cases hv18
   exact fS [(100, 100), (101, 101), (102, 102)] [1, 3, 5, 6, 26]
  refine wR 1 103 (bB hv18 fun r14 hx23 hv18 => (w0 (ms_LevelOf_ok a0 hx23) cok165 (wR 2 103 ?_)))
  cases hv18
  exact fS [(100, 100), (101, 101), (102, 102)] [1, 3, 5, 6, 26]
  ) ?_
 refine cI h (fun _ h => ?_) (fun _ h => ?_)
 ·refine cV 103 (CO.ret ?_)
  cases h
  exact eG [] (.inr rfl) (RetV.one rfl (OneR.cell Dk (r := .agg [V.i 0, V.b false, V.b false, V.b false, V.b false]) (i := 102) (ety := 93) (cs := [V.i 0, V.b false, V.b false, V.b false, V.b false]) (by kernel_rfl) (by kernel_rfl) (by kernel_rfl)))
 refine CO.skip (bB h fun y15 hv26 h => ?_)
 refine CO.cutR (tl 95 [(1, V.i a1), (3, .loc 100 0), (6, .loc 101 0), (7, .loc 102 0)]) [(100, .cells 108 [V.i a0.Kind, V.i a0.Op, V.s a0.Text, V.s a0.Other, sL eNI a0.Kids]), (101, .cells 93 [V.i 0, V.b false, V.b false, V.b false, V.b false]), (102, .cells 93 [V.i 0, V.b false, V.b a2.NoIn, V.b a2.NoGt, V.b y15])] mix (by
  refine wR 7 103 ?_
  refine wJ 34 hv26 (fun hv26 => ?_) (fun hv26 => ?_)
  ·refine wR 6 103 ?_
   cases hv26
   exact fS [(100, 100), (102, 101), (103, 102)] [1, 3, 6, 7]
  refine wR 6 103 ?_
  cases hv26
  exact fS [(100, 100), (102, 101), (103, 102)] [1, 3, 6, 7]
  ) ?_
 refine CO.join (fun (⟨a2, y25, y26, y27⟩ : (SPos × Int × Bool × Bool)) => ⟨tl 95 [(6, .loc 100 0), (7, .loc 101 0)], [(100, .cells 93 [V.i 0, V.b false, V.b false, V.b false, V.b false]), (101, .cells 93 [V.i y25, V.b y26, V.b a2.NoIn, V.b a2.NoGt, V.b y27])]⟩) (fun i => ms_KidPos_k1 i = some r) ?_ ?_
 · rintro ⟨a2, y25, y26, y27⟩ h52
   rw [ms_KidPos_k1] at h52
   refine cV 104 (CO.ret ?_)
   have h52 := sI h52
   subst h52
   exact eG [] (.inr rfl) (RetV.one rfl (OneR.cell Dk (r := .agg [V.i y25, V.b y26, V.b a2.NoIn, V.b a2.NoGt, V.b y27]) (i := 100) (ety := 93) (cs := [V.i y25, V.b y26, V.b a2.NoIn, V.b a2.NoGt, V.b y27]) (by kernel_rfl) (by kernel_rfl) (by kernel_rfl)))
 intro hk53
 refine cV 104 (CO.block' (cV 104 ?_))
 refine cI h (fun _ h => ?_) (fun _ h => ?_)
 ·refine cV 104 (cV 104 ?_)
  refine cI h (fun _ h => ?_) (fun _ h => ?_)
  ·exact cK 104 hk53 (a2, 1, false, y15) h [(101, 100), (102, 101)] [6, 7]
  exact sK hk53 (a2, 14, false, y15) h [(101, 100), (102, 101)] [6, 7]
 refine cV 104 ?_
 refine cI h (fun _ h => ?_) (fun _ h => ?_)
 ·refine cV 104 (cV 104 ?_)
  refine cI h (fun _ h => ?_) (fun _ h => ?_)
  ·exact cK 104 hk53 (a2, 3, false, y15) h [(101, 100), (102, 101)] [6, 7]
  exact sK hk53 (a2, 2, false, y15) h [(101, 100), (102, 101)] [6, 7]
 refine cV 104 ?_
 refine cI h (fun _ h => ?_) (fun _ h => ?_)
 ·refine CO.seq' (CO.sw mix (wR 2 104 (wN eNI a0.Kids [] (wR 1 104 (wF ?_)))))
  refine cI h (fun _ h => ?_) (fun _ h => ?_)
  ·refine bB h fun r31 hx64 h => (cC 0 104 (ms_Top_ok  hx64) cok111 (CO.ret ?_))
   have h := sI h
   subst h
   exact eG [] (.inr rfl) (RetV.one rfl (OneR.cell Dk (r := .agg [V.i r31.Level, V.b r31.Dollar, V.b r31.NoIn, V.b r31.NoGt, V.b r31.NoSign]) (i := 101) (ety := 93) (cs := [V.i r31.Level, V.b r31.Dollar, V.b r31.NoIn, V.b r31.NoGt, V.b r31.NoSign]) (by kernel_rfl) (by kernel_rfl) (by kernel_rfl)))
  refine CO.skip ?_
  exact cK 104 hk53 (a2, 5, false, y15) h [(101, 100), (102, 101)] [6, 7]
 refine cV 104 ?_
 refine cI h (fun _ h => ?_) (fun _ h => ?_)
 ·refine bB h fun r33 hx67 h => (cC 2 104 (ms_l9Sides_ok a0.Op hx67) cok182 (cV 104 (cV 104 ?_)))
  refine cI h (fun _ h => ?_) (fun _ h => ?_)
  ·refine cV 104 ?_
   exact cK 104 hk53 (a2, r33.2, false, (a0.Op == 99)) h [(101, 100), (102, 101)] [6, 7]
  exact sK hk53 (a2, r33.1, false, y15) h [(101, 100), (102, 101)] [6, 7]
 refine cV 104 ?_
 refine cI h (fun _ h => ?_) (fun _ h => ?_)
 ·refine cV 104 ?_
  exact cK 104 hk53 (a2, 11, false, false) h [(101, 100), (102, 101)] [6, 7]
 refine CO.join (fun (⟨a0, a2, y15, y34⟩ : (SNode × SPos × Bool × Bool)) => ⟨tl 95 [(6, .loc 100 0), (7, .loc 101 0), (40, V.i a0.Kind), (84, V.b y34)], [(100, .cells 93 [V.i 0, V.b false, V.b false, V.b false, V.b false]), (101, .cells 93 [V.i 0, V.b false, V.b a2.NoIn, V.b a2.NoGt, V.b y15])]⟩) (fun i => ms_KidPos_k2 i = some r) ?_ ?_
 · rintro ⟨a0, a2, y15, y34⟩ h71
   rw [ms_KidPos_k2] at h71
   refine cI h71 (fun _ h71 => ?_) (fun _ h71 => ?_)
   ·refine cV 104 ?_
    exact cK 104 hk53 (a2, 14, false, false) h71 [(100, 100), (101, 101)] [6, 7]
   refine cV 104 ?_
   refine cI h71 (fun _ h71 => ?_) (fun _ h71 => ?_)
   ·refine cV 104 (cV 104 ?_)
    exact cK 104 hk53 (a2, 14, true, false) h71 [(100, 100), (101, 101)] [6, 7]
   refine bB h71 fun r36 hx75 h71 => (cC 0 104 (ms_Top_ok  hx75) cok111 (CO.ret ?_))
   have h71 := sI h71
   subst h71
   exact eG [] (.inr rfl) (RetV.one rfl (OneR.cell Dk (r := .agg [V.i r36.Level, V.b r36.Dollar, V.b r36.NoIn, V.b r36.NoGt, V.b r36.NoSign]) (i := 100) (ety := 93) (cs := [V.i r36.Level, V.b r36.Dollar, V.b r36.NoIn, V.b r36.NoGt, V.b r36.NoSign]) (by kernel_rfl) (by kernel_rfl) (by kernel_rfl)))
 intro hk76
 refine cV 104 ?_
 refine cI h (fun _ h => ?_) (fun _ h => ?_)
 ·exact sK hk76 (a0, a2, y15, (a0.Kind == 9)) h [(101, 100), (102, 101)] [6, 7, 40, 84]
 exact cK 104 hk76 (a0, a2, y15, (a0.Kind == 10)) h [(101, 100), (102, 101)] [6, 7, 40, 84]

theorem ms_l10Tok_ok (a0 : Int) {r : SToken} (h : ms_l10Tok a0 = some r) :
    AC Tryz.prog (GS []) 170 [V.i a0] [] (.agg [V.i r.Kind, V.s r.Text, V.i r.At]) [] := by
 rw [ms_l10Tok] at h
 refine AC.enter Tryz.func170 rfl (cV 100 (bB h fun r2 hx2 h => (cC 2 101 (ms_SpellOf_ok a0 hx2) cok121 (CO.ret ?_))))
 have h := sI h
 subst h
 exact eG [] (.inr rfl) (RetV.one rfl (OneR.cell Dk (r := .agg [V.i a0, V.s r2, V.i 0]) (i := 100) (ety := 36) (cs := [V.i a0, V.s r2, V.i 0]) (by kernel_rfl) (by kernel_rfl) (by kernel_rfl)))

end Go.Proofs.Tryz
