/-
 The walks that show that the code computes the models, part 4.
-/
import Derived.Test.YtkfcajnnbhahoaaGreatDoorEdEW3
namespace Go.Proofs.Tryz
open Go.Av
set_option maxRecDepth 100000
set_option maxHeartbeats 8000000
set_option linter.unusedSimpArgs false
set_option linter.unusedVariables false

theorem ms_KeywordOf_ok (N : Nat) (a0 : LU) {r : Int} (h : ms_KeywordOf N a0 = some r) :
    AC Tryz.prog (GS []) 229 [V.s a0] [] (V.i r) [] := by
 rw [ms_KeywordOf] at h
 refine AC.enter Tryz.func229 rfl (cV 100 (bB h fun r3 hx3 h => (bB h fun r4 hx4 h => (CO.sw mix (wC (ms_l3Words_ok  hx3) cok259 [] [(100, 100)] [100] (wR 1 101 (W.lend (ms_l3Find_ok N r3 a0 hx4) cok235 [] [] (LayOk.cons (j := 100) eNS eNS r3 (by kernel_rfl) (fun _ => rfl) lO) (.c _) .nil (by kernel_rfl) (by kernel_rfl) (wR 1 101 ?_))))))))
 refine wF (CO.seq' (cV 101 ?_))
 refine cI h (fun _ h => ?_) (fun _ h => ?_)
 ·refine cV 101 ?_
  cases h
  exact e1 2 id
 refine CO.skip (cV 101 ?_)
 cases h
 exact e1 2 id

theorem ms_l3Builtins_ok {r : LLU} (h : ms_l3Builtins = some r) :
    AC Tryz.prog (GS []) 236 [] [] (.own 100) [(100, vN r)] := by
 rw [ms_l3Builtins] at h
 refine AC.enter Tryz.func236 rfl (cV 100 (cV 100 (CO.ret ?_)))
 cases h
 exact eG [(100, 100)] (.inr rfl) (RetV.one rfl (oT (t := 0) (r := .own 100)))

theorem ms_IsBuiltin_ok (N : Nat) (a0 : LU) {r : Bool} (h : ms_IsBuiltin N a0 = some r) :
    AC Tryz.prog (GS []) 193 [V.s a0] [] (V.b r) [] := by
 rw [ms_IsBuiltin] at h
 refine AC.enter Tryz.func193 rfl (cV 100 (bB h fun r3 hx3 h => (bB h fun r4 hx4 h => (CO.sw mix (wC (ms_l3Builtins_ok  hx3) cok236 [] [(100, 100)] [100] (wR 1 101 (W.lend (ms_l3Find_ok N r3 a0 hx4) cok235 [] [] (LayOk.cons (j := 100) eNS eNS r3 (by kernel_rfl) (fun _ => rfl) lO) (.c _) .nil (by kernel_rfl) (by kernel_rfl) (wR 2 101 ?_))))))))
 refine wF ?_
 cases h
 exact e1 2 id

theorem ms_NameOk_ok (N : Nat) (a0 : LU) {r : Bool} (h : ms_NameOk N a0 = some r) :
    AC Tryz.prog (GS []) 191 [V.s a0] [] (V.b r) [] := by
 rw [ms_NameOk] at h
 refine AC.enter Tryz.func191 rfl (cV 100 (bB h fun y4 hv6 h => ?_))
 refine CO.cutR (tl 15 [(2, V.b y4)]) [] mix (by
  refine wR 1 100 (bB hv6 fun r5 hx7 hv6 => (w0 (ms_NameShape_ok N a0 hx7) cok228 (wR 1 100 ?_)))
  refine wJ 5 hv6 (fun hv6 => ?_) (fun hv6 => ?_)
  ·refine wR 1 100 (bB hv6 fun r6 hx9 hv6 => (w0 (ms_KeywordOf_ok N a0 hx9) cok229 (wR 3 100 ?_)))
   refine wJ 10 hv6 (fun hv6 => ?_) (fun hv6 => ?_)
   ·refine wR 1 100 (bB hv6 fun r7 hx11 hv6 => (w0 (ms_IsBuiltin_ok N a0 hx11) cok193 (wR 3 100 ?_)))
    cases hv6
    exact fS [] [2]
   refine wR 5 100 ?_
   cases hv6
   exact fS [] [2]
  refine wR 10 100 ?_
  cases hv6
  exact fS [] [2]
  ) ?_
 cases h
 exact e1 2 id

theorem ms_l4Plain_ok (N : Nat) (a0 : LU) {r : Bool} (h : ms_l4Plain N a0 = some r) :
    AC Tryz.prog (GS []) 230 [V.s a0] [] (V.b r) [] := by
 rw [ms_l4Plain] at h
 refine AC.enter Tryz.func230 rfl (cV 100 (CO.seq' (cV 100 (CO.block' (CO.loopJ (fun (⟨a0, y19⟩ : (LU × Int)) => ⟨tl 14 [(0, V.s a0), (3, V.i y19)], []⟩) (fun n i => ms_l4Plain_l1 N n i = some r) (n0 := N) (i0 := (a0, 0)) (wS [] [0, 3]) h (fun i h => by simp [ms_l4Plain_l1] at h) ?_)))))
 rintro n1 ⟨a0, y19⟩ h43 ih44
 rw [ms_l4Plain_l1] at h43
 refine CO.seq' (cV 160 ?_)
 refine cI h43 (fun _ h43 => ?_) (fun _ h43 => ?_)
 ·refine CO.skip (CO.seq' (CO.block' (bB h43 fun b28 hx51 h43 => (CO.sw mix (wR 2 160 (W.ixS Dk hx51 (by kernel_rfl) (wR 1 160 (wF ?_))))))))
  refine cI h43 (fun _ h43 => ?_) (fun _ h43 => ?_)
  ·refine cV 160 ?_
   cases h43
   exact e1 2 id
  refine CO.skip ?_
  exact cK 160 ih44 (a0, (wr (y19 + 1))) h43 [] [0, 3]
 refine CO.exit (cV 160 ?_)
 cases h43
 exact e1 2 id

theorem ms_l4Byte_ok (a0 : LU) (a1 : Int) {r : Int} (h : ms_l4Byte a0 a1 = some r) :
    AC Tryz.prog (GS []) 261 [V.s a0, V.i a1] [] (V.i r) [] := by
 rw [ms_l4Byte] at h
 refine AC.enter Tryz.func261 rfl (cV 100 (CO.seq' (bB h fun y2 hv6 h => ?_)))
 refine CO.cutR (tl 17 [(0, V.s a0), (1, V.i a1), (12, V.b y2)]) [] mix (by
  refine wR 3 100 ?_
  refine wJ 7 hv6 (fun hv6 => ?_) (fun hv6 => ?_)
  ·refine wR 5 100 ?_
   cases hv6
   exact fS [] [0, 1, 12]
  refine wR 5 100 ?_
  cases hv6
  exact fS [] [0, 1, 12]
  ) ?_
 refine cI h (fun _ h => ?_) (fun _ h => ?_)
 ·refine cV 100 ?_
  cases h
  exact e1 4 id
 refine CO.skip (bB h fun b4 hx10 h => (CO.sw mix (wR 2 100 (W.ixS Dk hx10 (by kernel_rfl) (wR 2 100 (wF ?_))))))
 cases h
 exact e1 4 id

theorem ms_l4Digits_ok (N : Nat) (a0 : LU) (a1 : Int) {r : Int} (h : ms_l4Digits N a0 a1 = some r) :
    AC Tryz.prog (GS []) 260 [V.s a0, V.i a1] [] (V.i r) [] := by
 rw [ms_l4Digits] at h
 refine AC.enter Tryz.func260 rfl (cV 100 (CO.seq' (CO.block' (CO.loopJ (fun (⟨a0, a1⟩ : (LU × Int)) => ⟨tl 12 [(0, V.s a0), (1, V.i a1)], []⟩) (fun n i => ms_l4Digits_l1 N n i = some r) (n0 := N) (i0 := (a0, a1)) (wS [] [0, 1]) h (fun i h => by simp [ms_l4Digits_l1] at h) ?_))))
 rintro n1 ⟨a0, a1⟩ h33 ih34
 rw [ms_l4Digits_l1] at h33
 refine CO.seq' (bB h33 fun r33 hx42 h33 => (bB h33 fun r34 hx43 h33 => (CO.sw mix (wR 2 140 (w0 (ms_l4Byte_ok a0 a1 hx42) cok261 (w0 (ms_IsDigit_ok r33 hx43) cok287 (wF ?_)))))))
 refine cI h33 (fun _ h33 => ?_) (fun _ h33 => ?_)
 ·refine CO.skip (CO.block' ?_)
  exact cK 140 ih34 (a0, (wr (a1 + 1))) h33 [] [0, 1]
 refine CO.exit (cV 140 ?_)
 cases h33
 exact e1 4 id

theorem ms_NumEnd_ok (N : Nat) (a0 : LU) (a1 : Int) {r : Int} (h : ms_NumEnd N a0 a1 = some r) :
    AC Tryz.prog (GS []) 231 [V.s a0, V.i a1] [] (V.i r) [] := by
 rw [ms_NumEnd] at h
 refine AC.enter Tryz.func231 rfl (cV 100 (CO.seq' (cV 100 ?_)))
 refine cI h (fun _ h => ?_) (fun _ h => ?_)
 ·refine cV 100 ?_
  cases h
  exact e1 4 id
 refine CO.skip (bB h fun r2 hx4 h => (cC 2 100 (ms_l4Digits_ok N a0 a1 hx4) cok260 ?_))
 refine CO.join (fun (⟨a0, a1, y9⟩ : (LU × Int × Int)) => ⟨tl 67 [(0, V.s a0), (1, V.i a1), (5, V.i y9)], []⟩) (fun i => ms_NumEnd_k1 N i = some r) ?_ ?_
 · rintro ⟨a0, a1, y9⟩ h18
   rw [ms_NumEnd_k1] at h18
   refine CO.seq' (cV 100 ?_)
   refine cI h18 (fun _ h18 => ?_) (fun _ h18 => ?_)
   ·refine cV 100 ?_
    cases h18
    exact e1 4 id
   refine CO.skip ?_
   refine CO.join (fun (y9 : Int) => ⟨tl 67 [(5, V.i y9)], []⟩) (fun i => ms_NumEnd_k2 N i = some r) ?_ ?_
   · rintro y9 h52
     rw [ms_NumEnd_k2] at h52
     refine cV 100 ?_
     cases h52
     exact e1 4 id
   intro hk53
   refine bB h18 fun y32 hv57 h18 => ?_
   refine CO.cutR (tl 67 [(0, V.s a0), (5, V.i y9), (43, V.b y32)]) [] mix (by
    refine wR 2 100 (bB hv57 fun r33 hx58 hv57 => (w0 (ms_l4Byte_ok a0 y9 hx58) cok261 (wR 2 100 ?_)))
    refine wJ 38 hv57 (fun hv57 => ?_) (fun hv57 => ?_)
    ·refine wR 5 100 ?_
     cases hv57
     exact fS [] [0, 5, 43]
    refine wR 2 100 (bB hv57 fun r34 hx60 hv57 => (w0 (ms_l4Byte_ok a0 y9 hx60) cok261 (wR 2 100 ?_)))
    cases hv57
    exact fS [] [0, 5, 43]
    ) ?_
   refine cI h18 (fun _ h18 => ?_) (fun _ h18 => ?_)
   ·refine cV 100 ?_
    refine CO.join (fun (⟨a0, y9, y40⟩ : (LU × Int × Int)) => ⟨tl 67 [(0, V.s a0), (5, V.i y9), (7, V.i y40)], []⟩) (fun i => ms_NumEnd_k3 N i = some r) ?_ ?_
    · rintro ⟨a0, y9, y40⟩ h70
      rw [ms_NumEnd_k3] at h70
      refine bB h70 fun r42 hx72 h70 => (cC 2 100 (ms_l4Digits_ok N a0 y40 hx72) cok260 ?_)
      refine cI h70 (fun _ h70 => ?_) (fun _ h70 => ?_)
      ·refine bB h70 fun r44 hx75 h70 => (cC 2 100 (ms_l4Digits_ok N a0 y40 hx75) cok260 ?_)
       cases h70
       exact e1 4 id
      exact sK hk53 y9 h70 [] [5]
    intro hk76
    refine bB h18 fun y47 hv80 h18 => ?_
    refine CO.cutR (tl 67 [(0, V.s a0), (5, V.i y9), (7, V.i (wr (y9 + 1))), (55, V.b y47)]) [] mix (by
     refine wR 2 100 (bB hv80 fun r48 hx81 hv80 => (w0 (ms_l4Byte_ok a0 (wr (y9 + 1)) hx81) cok261 (wR 2 100 ?_)))
     refine wJ 50 hv80 (fun hv80 => ?_) (fun hv80 => ?_)
     ·refine wR 5 100 ?_
      cases hv80
      exact fS [] [0, 5, 7, 55]
     refine wR 2 100 (bB hv80 fun r49 hx83 hv80 => (w0 (ms_l4Byte_ok a0 (wr (y9 + 1)) hx83) cok261 (wR 2 100 ?_)))
     cases hv80
     exact fS [] [0, 5, 7, 55]
     ) ?_
    refine cI h18 (fun _ h18 => ?_) (fun _ h18 => ?_)
    ·exact cK 100 hk76 (a0, y9, (wr ((wr (y9 + 1)) + 1))) h18 [] [0, 5, 7]
    exact sK hk76 (a0, y9, (wr (y9 + 1))) h18 [] [0, 5, 7]
   exact sK hk53 y9 h18 [] [5]
 intro hk85
 refine bB h fun r51 hx87 h => (cC 2 100 (ms_l4Byte_ok a0 r2 hx87) cok261 ?_)
 refine cI h (fun _ h => ?_) (fun _ h => ?_)
 ·refine bB h fun r53 hx90 h => (cC 3 100 (ms_l4Digits_ok N a0 (wr (r2 + 1)) hx90) cok260 (CO.seq' (bB h fun y55 hv96 h => ?_)))
  refine CO.cutR (tl 67 [(0, V.s a0), (1, V.i a1), (6, V.i r53), (29, V.b y55)]) [] mix (by
   refine wR 4 100 ?_
   refine wJ 24 hv96 (fun hv96 => ?_) (fun hv96 => ?_)
   ·refine wR 5 100 ?_
    cases hv96
    exact fS [] [0, 1, 6, 29]
   refine wR 5 100 ?_
   cases hv96
   exact fS [] [0, 1, 6, 29]
   ) ?_
  refine cI h (fun _ h => ?_) (fun _ h => ?_)
  ·refine cV 100 ?_
   cases h
   exact e1 4 id
  refine CO.skip ?_
  exact cK 100 hk85 (a0, a1, r53) h [] [0, 1, 5]
 exact sK hk85 (a0, a1, r2) h [] [0, 1, 5]

theorem ms_l4Quoted_ok (N : Nat) (a0 : LU) (a1 : Int) (a2 : Int) {r : Int} (h : ms_l4Quoted N a0 a1 a2 = some r) :
    AC Tryz.prog (GS []) 262 [V.s a0, V.i a1, V.i a2] [] (V.i r) [] := by
 rw [ms_l4Quoted] at h
 refine AC.enter Tryz.func262 rfl (cV 100 (CO.seq' (bB h fun r4 hx5 h => (cC 2 100 (ms_l4Byte_ok a0 a1 hx5) cok261 ?_))))
 refine cI h (fun _ h => ?_) (fun _ h => ?_)
 ·refine cV 100 ?_
  cases h
  exact e1 6 id
 refine CO.skip (CO.seq' (cV 100 (CO.block' (CO.loopJ (fun (⟨a0, a2, y43⟩ : (LU × Int × Int)) => ⟨tl 40 [(0, V.s a0), (2, V.i a2), (7, V.i y43)], []⟩) (fun n i => ms_l4Quoted_l1 N n i = some r) (n0 := N) (i0 := (a0, a2, (wr (a1 + 1)))) (wS [] [0, 2, 7]) h (fun i h => by simp [ms_l4Quoted_l1] at h) ?_))))
 rintro n1 ⟨a0, a2, y43⟩ h109 ih110
 rw [ms_l4Quoted_l1] at h109
 refine CO.seq' (cV 160 ?_)
 refine cI h109 (fun _ h109 => ?_) (fun _ h109 => ?_)
 ·refine CO.skip ?_
  refine CO.join (fun (⟨a0, a2, y58⟩ : (LU × Int × Int)) => ⟨tl 40 [(0, V.s a0), (2, V.i a2), (7, V.i y58)], []⟩) (fun i => ms_l4Quoted_k2 N (ms_l4Quoted_l1 N n1) i = some r) ?_ ?_
  · rintro ⟨a0, a2, y58⟩ h121
    rw [ms_l4Quoted_k2] at h121
    exact cK 160 ih110 (a0, a2, (wr (y58 + 1))) h121 [] [0, 2, 7]
  intro hk122
  refine CO.block' (bB h109 fun b60 hx124 h109 => (CO.sw mix (wR 2 160 (W.ixS Dk hx124 (by kernel_rfl) (wR 1 160 (wF (CO.block' (cV 160 ?_))))))))
  refine cI h109 (fun _ h109 => ?_) (fun _ h109 => ?_)
  ·refine cV 160 ?_
   cases h109
   exact e1 6 id
  refine cV 160 ?_
  refine cI h109 (fun _ h109 => ?_) (fun _ h109 => ?_)
  ·refine cV 160 ?_
   cases h109
   exact e1 6 id
  refine cV 160 ?_
  refine cI h109 (fun _ h109 => ?_) (fun _ h109 => ?_)
  ·refine cV 160 (bB h109 fun r62 hx129 h109 => (cC 2 160 (ms_l4Byte_ok a0 (wr (y43 + 1)) hx129) cok261 ?_))
   refine cI h109 (fun _ h109 => ?_) (fun _ h109 => ?_)
   ·refine cV 160 ?_
    cases h109
    exact e1 6 id
   exact sK hk122 (a0, a2, (wr (y43 + 1))) h109 [] [0, 2, 7]
  exact sK hk122 (a0, a2, y43) h109 [] [0, 2, 7]
 refine CO.exit (cV 160 ?_)
 cases h109
 exact e1 6 id

theorem ms_StrEnd_ok (N : Nat) (a0 : LU) (a1 : Int) {r : Int} (h : ms_StrEnd N a0 a1 = some r) :
    AC Tryz.prog (GS []) 232 [V.s a0, V.i a1] [] (V.i r) [] := by
 rw [ms_StrEnd] at h
 refine AC.enter Tryz.func232 rfl (cV 100 (bB h fun r2 hx2 h => (cC 2 100 (ms_l4Quoted_ok N a0 a1 34 hx2) cok262 ?_)))
 cases h
 exact e1 4 id

theorem ms_EreEnd_ok (N : Nat) (a0 : LU) (a1 : Int) {r : Int} (h : ms_EreEnd N a0 a1 = some r) :
    AC Tryz.prog (GS []) 233 [V.s a0, V.i a1] [] (V.i r) [] := by
 rw [ms_EreEnd] at h
 refine AC.enter Tryz.func233 rfl (cV 100 (bB h fun r2 hx2 h => (cC 2 100 (ms_l4Quoted_ok N a0 a1 47 hx2) cok262 (CO.seq' (cV 100 ?_)))))
 refine cI h (fun _ h => ?_) (fun _ h => ?_)
 ·refine cV 100 ?_
  cases h
  exact e1 4 id
 refine CO.skip (cV 100 ?_)
 cases h
 exact e1 4 id

theorem ms_l3Signs_ok {r : LLU} (h : ms_l3Signs = some r) :
    AC Tryz.prog (GS []) 263 [] [] (.own 100) [(100, vN r)] := by
 rw [ms_l3Signs] at h
 refine AC.enter Tryz.func263 rfl (cV 100 (cV 100 (CO.ret ?_)))
 cases h
 exact eG [(100, 100)] (.inr rfl) (RetV.one rfl (oT (t := 0) (r := .own 100)))

theorem ms_SpellOf_ok (a0 : Int) {r : LU} (h : ms_SpellOf a0 = some r) :
    AC Tryz.prog (GS []) 234 [V.i a0] [] (V.s r) [] := by
 rw [ms_SpellOf] at h
 refine AC.enter Tryz.func234 rfl (cV 100 (CO.seq' (CO.block' (cV 100 ?_))))
 refine cI h (fun _ h => ?_) (fun _ h => ?_)
 ·refine cV 100 ?_
  cases h
  exact e1 2 id
 refine bB h fun r14 hx18 h => (cC 1 100 (ms_l1In_ok a0 10 26 hx18) cok77 ?_)
 refine cI h (fun _ h => ?_) (fun _ h => ?_)
 ·refine bB h fun r17 hx22 h => (bB h fun e18 hx23 h => (CO.sw mix (wC (ms_l3Words_ok  hx22) cok259 [] [(100, 100)] [100] (wR 2 101 (W.ixO Dk eNS hx23 100 1 (by kernel_rfl) (W.ldO Dk eNS hx23 9 100 0 (V.s e18) (by kernel_rfl) (by kernel_rfl) (wR 1 101 (wF ?_))))))))
  cases h
  exact e1 2 id
 refine bB h fun r20 hx25 h => (cC 1 100 (ms_l1In_ok a0 30 68 hx25) cok77 ?_)
 refine cI h (fun _ h => ?_) (fun _ h => ?_)
 ·refine bB h fun r23 hx29 h => (bB h fun e24 hx30 h => (CO.sw mix (wC (ms_l3Signs_ok  hx29) cok263 [] [(100, 100)] [100] (wR 2 101 (W.ixO Dk eNS hx30 100 1 (by kernel_rfl) (W.ldO Dk eNS hx30 9 100 0 (V.s e24) (by kernel_rfl) (by kernel_rfl) (wR 1 101 (wF ?_))))))))
  cases h
  exact e1 2 id
 refine CO.skip (cV 100 ?_)
 cases h
 exact e1 2 id

theorem ms_TokenOk_ok (N : Nat) (a0 : SToken) {r : Bool} (h : ms_TokenOk N a0 = some r) :
    AC Tryz.prog (GS []) 192 [.agg [V.i a0.Kind, V.s a0.Text, V.i a0.At]] [] (V.b r) [] := by
 rw [ms_TokenOk] at h
 refine AC.enter Tryz.func192 rfl (cV 100 (cV 101 (CO.seq' (cV 101 (CO.block' (cV 101 ?_))))))
 refine cI h (fun _ h => ?_) (fun _ h => ?_)
 ·refine bB h fun y20 hv38 h => ?_
  refine CO.cutR (tl 71 [(2, V.b y20)]) [] mix (by
   refine wR 3 101 ?_
   refine wJ 13 hv38 (fun hv38 => ?_) (fun hv38 => ?_)
   ·refine wR 2 101 (bB hv38 fun b21 hx40 hv38 => (W.ixS Dk hx40 (by kernel_rfl) (wR 3 101 ?_)))
    refine wJ 19 hv38 (fun hv38 => ?_) (fun hv38 => ?_)
    ·refine wR 2 101 (bB hv38 fun r22 hx42 hv38 => (w0 (ms_l4Plain_ok N a0.Text hx42) cok230 (wR 2 101 ?_)))
     cases hv38
     exact fS [] [2]
    refine wR 5 101 ?_
    cases hv38
    exact fS [] [2]
   refine wR 11 101 ?_
   cases hv38
   exact fS [] [2]
   ) ?_
  cases h
  exact e1 2 id
 refine cV 101 ?_
 refine cI h (fun _ h => ?_) (fun _ h => ?_)
 ·refine bB h fun y24 hv46 h => ?_
  refine CO.cutR (tl 71 [(2, V.b y24)]) [] mix (by
   refine wR 3 101 ?_
   refine wJ 28 hv46 (fun hv46 => ?_) (fun hv46 => ?_)
   ·refine wR 2 101 (bB hv46 fun r25 hx48 hv46 => (w0 (ms_NumEnd_ok N a0.Text 0 hx48) cok231 (wR 4 101 ?_)))
    cases hv46
    exact fS [] [2]
   refine wR 7 101 ?_
   cases hv46
   exact fS [] [2]
   ) ?_
  cases h
  exact e1 2 id
 refine cV 101 ?_
 refine cI h (fun _ h => ?_) (fun _ h => ?_)
 ·refine bB h fun r27 hx51 h => (cC 2 101 (ms_StrEnd_ok N a0.Text 0 hx51) cok232 ?_)
  cases h
  exact e1 2 id
 refine cV 101 ?_
 refine cI h (fun _ h => ?_) (fun _ h => ?_)
 ·refine bB h fun r29 hx54 h => (cC 2 101 (ms_EreEnd_ok N a0.Text 0 hx54) cok233 ?_)
  cases h
  exact e1 2 id
 refine CO.join (fun (⟨a0, y30⟩ : (SToken × Bool)) => ⟨tl 71 [(1, .loc 100 0), (8, V.i a0.Kind), (49, V.b y30)], [(100, .cells 167 [V.i a0.Kind, V.s a0.Text, V.i a0.At])]⟩) (fun i => ms_TokenOk_k1 N i = some r) ?_ ?_
 · rintro ⟨a0, y30⟩ h56
   rw [ms_TokenOk_k1] at h56
   refine cI h56 (fun _ h56 => ?_) (fun _ h56 => ?_)
   ·refine bB h56 fun r32 hx59 h56 => (cC 2 101 (ms_NameOk_ok N a0.Text hx59) cok191 ?_)
    cases h56
    exact e1 2 id
   refine cV 101 ?_
   refine cI h56 (fun _ h56 => ?_) (fun _ h56 => ?_)
   ·refine bB h56 fun r34 hx62 h56 => (cC 2 101 (ms_IsBuiltin_ok N a0.Text hx62) cok193 ?_)
    cases h56
    exact e1 2 id
   refine CO.skip (bB h56 fun y36 hv65 h56 => ?_)
   refine CO.cutR (tl 71 [(2, V.b y36)]) [] mix (by
    refine wR 4 101 ?_
    refine wJ 63 hv65 (fun hv65 => ?_) (fun hv65 => ?_)
    ·refine wR 2 101 (bB hv65 fun r37 hx67 hv65 => (w0 (ms_SpellOf_ok a0.Kind hx67) cok234 (wR 5 101 ?_)))
     cases hv65
     exact fS [] [2]
    refine wR 8 101 ?_
    cases hv65
    exact fS [] [2]
    ) ?_
   cases h56
   exact e1 2 id
 intro hk68
 refine cV 101 ?_
 refine cI h (fun _ h => ?_) (fun _ h => ?_)
 ·exact sK hk68 (a0, (a0.Kind == 6)) h [(100, 100)] [1, 8, 49]
 exact cK 101 hk68 (a0, (a0.Kind == 7)) h [(100, 100)] [1, 8, 49]

theorem ms_l7Text_ok (N : Nat) (a0 : SNode) {r : Bool} (h : ms_l7Text N a0 = some r) :
    AC Tryz.prog (GS []) 134 [.agg [V.i a0.Kind, V.i a0.Op, V.s a0.Text, V.s a0.Other, sL eNI a0.Kids]] [] (V.b r) [] := by
 rw [ms_l7Text] at h
 refine AC.enter Tryz.func134 rfl (cV 100 (CO.seq' (cV 101 (CO.block' ?_))))
 refine CO.join (fun (⟨a0, y26⟩ : (SNode × Bool)) => ⟨tl 117 [(1, .loc 100 0), (4, V.i a0.Kind), (5, V.b y26)], [(100, .cells 37 [V.i a0.Kind, V.i a0.Op, V.s a0.Text, V.s a0.Other, sL eNI a0.Kids])]⟩) (fun i => ms_l7Text_k1 N i = some r) ?_ ?_
 · rintro ⟨a0, y26⟩ h72
   rw [ms_l7Text_k1] at h72
   refine cI h72 (fun _ h72 => ?_) (fun _ h72 => ?_)
   ·refine bB h72 fun y28 hv76 h72 => ?_
    refine CO.cutR (tl 117 [(2, V.b y28)]) [] mix (by
     refine wR 2 101 (bB hv76 fun r29 hx77 hv76 => (w0 (ms_NameOk_ok N a0.Text hx77) cok191 (wR 1 101 ?_)))
     refine wJ 15 hv76 (fun hv76 => ?_) (fun hv76 => ?_)
     ·refine wR 5 101 ?_
      cases hv76
      exact fS [] [2]
     refine wR 5 101 ?_
     cases hv76
     exact fS [] [2]
     ) ?_
    cases h72
    exact e1 2 id
   refine cV 101 ?_
   refine cI h72 (fun _ h72 => ?_) (fun _ h72 => ?_)
   ·refine bB h72 fun y31 hv82 h72 => ?_
    refine CO.cutR (tl 117 [(2, V.b y31)]) [] mix (by
     refine wR 3 101 (bB hv82 fun r32 hx83 hv82 => (w0 (ms_TokenOk_ok N (⟨3, a0.Text, 0⟩ : SToken) hx83) cok192 (wR 1 101 ?_)))
     refine wJ 26 hv82 (fun hv82 => ?_) (fun hv82 => ?_)
     ·refine wR 5 101 ?_
      cases hv82
      exact fS [] [2]
     refine wR 5 101 ?_
     cases hv82
     exact fS [] [2]
     ) ?_
    cases h72
    exact e1 2 id
   refine cV 101 ?_
   refine cI h72 (fun _ h72 => ?_) (fun _ h72 => ?_)
   ·refine bB h72 fun y34 hv88 h72 => ?_
    refine CO.cutR (tl 117 [(2, V.b y34)]) [] mix (by
     refine wR 3 101 (bB hv88 fun r35 hx89 hv88 => (w0 (ms_TokenOk_ok N (⟨4, a0.Text, 0⟩ : SToken) hx89) cok192 (wR 1 101 ?_)))
     refine wJ 37 hv88 (fun hv88 => ?_) (fun hv88 => ?_)
     ·refine wR 5 101 ?_
      cases hv88
      exact fS [] [2]
     refine wR 5 101 ?_
     cases hv88
     exact fS [] [2]
     ) ?_
    cases h72
    exact e1 2 id
   refine cV 101 ?_
   refine cI h72 (fun _ h72 => ?_) (fun _ h72 => ?_)
   ·refine bB h72 fun y37 hv94 h72 => ?_
    refine CO.cutR (tl 117 [(2, V.b y37)]) [] mix (by
     refine wR 3 101 (bB hv94 fun r38 hx95 hv94 => (w0 (ms_TokenOk_ok N (⟨5, a0.Text, 0⟩ : SToken) hx95) cok192 (wR 1 101 ?_)))
     refine wJ 48 hv94 (fun hv94 => ?_) (fun hv94 => ?_)
     ·refine wR 5 101 ?_
      cases hv94
      exact fS [] [2]
     refine wR 5 101 ?_
     cases hv94
     exact fS [] [2]
     ) ?_
    cases h72
    exact e1 2 id
   refine cV 101 ?_
   refine cI h72 (fun _ h72 => ?_) (fun _ h72 => ?_)
   ·refine bB h72 fun y40 hv100 h72 => ?_
    refine CO.cutR (tl 117 [(2, V.b y40)]) [] mix (by
     refine wR 3 101 (bB hv100 fun r41 hx101 hv100 => (w0 (ms_TokenOk_ok N (⟨2, a0.Text, 0⟩ : SToken) hx101) cok192 (wR 1 101 ?_)))
     refine wJ 59 hv100 (fun hv100 => ?_) (fun hv100 => ?_)
     ·refine wR 5 101 ?_
      cases hv100
      exact fS [] [2]
     refine wR 5 101 ?_
     cases hv100
     exact fS [] [2]
     ) ?_
    cases h72
    exact e1 2 id
   refine cV 101 ?_
   refine cI h72 (fun _ h72 => ?_) (fun _ h72 => ?_)
   ·refine bB h72 fun y43 hv106 h72 => ?_
    refine CO.cutR (tl 117 [(2, V.b y43)]) [] mix (by
     refine wR 2 101 (bB hv106 fun r44 hx107 hv106 => (w0 (ms_IsBuiltin_ok N a0.Text hx107) cok193 (wR 1 101 ?_)))
     refine wJ 69 hv106 (fun hv106 => ?_) (fun hv106 => ?_)
     ·refine wR 5 101 ?_
      cases hv106
      exact fS [] [2]
     refine wR 5 101 ?_
     cases hv106
     exact fS [] [2]
     ) ?_
    cases h72
    exact e1 2 id
   refine cV 101 ?_
   refine cI h72 (fun _ h72 => ?_) (fun _ h72 => ?_)
   ·refine bB h72 fun y47 hv113 h72 => ?_
    refine CO.cutR (tl 117 [(2, V.b y47)]) [] mix (by
     refine wR 2 101 (bB hv113 fun r48 hx114 hv113 => (w0 (ms_NameOk_ok N a0.Text hx114) cok191 (wR 1 101 ?_)))
     refine wJ 79 hv113 (fun hv113 => ?_) (fun hv113 => ?_)
     ·refine wR 2 101 (bB hv113 fun r49 hx116 hv113 => (w0 (ms_NameOk_ok N a0.Other hx116) cok191 (wR 2 101 ?_)))
      cases hv113
      exact fS [] [2]
     refine wR 5 101 ?_
     cases hv113
     exact fS [] [2]
     ) ?_
    cases h72
    exact e1 2 id
   refine cV 101 ?_
   refine cI h72 (fun _ h72 => ?_) (fun _ h72 => ?_)
   ·refine bB h72 fun y50 hv122 h72 => ?_
    refine CO.cutR (tl 117 [(2, V.b y50)]) [] mix (by
     refine wR 4 101 ?_
     refine wJ 89 hv122 (fun hv122 => ?_) (fun hv122 => ?_)
     ·refine wR 4 101 ?_
      refine wJ 93 hv122 (fun hv122 => ?_) (fun hv122 => ?_)
      ·refine wR 16 101 ?_
       cases hv122
       exact fS [] [2]
      refine wR 5 101 ?_
      refine wJ 98 hv122 (fun hv122 => ?_) (fun hv122 => ?_)
      ·refine wR 11 101 ?_
       cases hv122
       exact fS [] [2]
      refine wR 5 101 ?_
      refine wJ 103 hv122 (fun hv122 => ?_) (fun hv122 => ?_)
      ·refine wR 6 101 ?_
       cases hv122
       exact fS [] [2]
      refine wR 6 101 ?_
      cases hv122
      exact fS [] [2]
     refine wR 20 101 ?_
     cases hv122
     exact fS [] [2]
     ) ?_
    cases h72
    exact e1 2 id
   refine CO.skip (bB h72 fun y51 hv128 h72 => ?_)
   refine CO.cutR (tl 117 [(2, V.b y51)]) [] mix (by
    refine wR 4 101 ?_
    refine wJ 112 hv128 (fun hv128 => ?_) (fun hv128 => ?_)
    ·refine wR 5 101 ?_
     cases hv128
     exact fS [] [2]
    refine wR 5 101 ?_
    cases hv128
    exact fS [] [2]
    ) ?_
   cases h72
   exact e1 2 id
 intro hk130
 refine cV 101 ?_
 refine cI h (fun _ h => ?_) (fun _ h => ?_)
 ·exact sK hk130 (a0, (a0.Kind == 1)) h [(100, 100)] [1, 4, 5]
 refine cV 101 ?_
 refine cI h (fun _ h => ?_) (fun _ h => ?_)
 ·exact sK hk130 (a0, (a0.Kind == 5)) h [(100, 100)] [1, 4, 5]
 refine cV 101 ?_
 refine cI h (fun _ h => ?_) (fun _ h => ?_)
 ·exact sK hk130 (a0, (a0.Kind == 7)) h [(100, 100)] [1, 4, 5]
 refine cV 101 ?_
 refine cI h (fun _ h => ?_) (fun _ h => ?_)
 ·exact sK hk130 (a0, (a0.Kind == 13)) h [(100, 100)] [1, 4, 5]
 refine cV 101 ?_
 refine cI h (fun _ h => ?_) (fun _ h => ?_)
 ·exact sK hk130 (a0, (a0.Kind == 27)) h [(100, 100)] [1, 4, 5]
 exact cK 101 hk130 (a0, (a0.Kind == 44)) h [(100, 100)] [1, 4, 5]

theorem ms_FieldsOk_ok (N : Nat) (a0 : SNode) {r : Bool} (h : ms_FieldsOk N a0 = some r) :
    AC Tryz.prog (GS []) 58 [.agg [V.i a0.Kind, V.i a0.Op, V.s a0.Text, V.s a0.Other, sL eNI a0.Kids]] [] (V.b r) [] := by
 rw [ms_FieldsOk] at h
 refine AC.enter Tryz.func58 rfl (cV 100 (bB h fun r2 hx2 h => (cC 1 101 (ms_l7Many_ok a0 hx2) cok132 (bB h fun y6 hv8 h => ?_))))
 refine CO.cutR (tl 41 [(1, .loc 100 0), (3, V.i r2.1), (4, V.i r2.2), (5, V.b y6)]) [(100, .cells 37 [V.i a0.Kind, V.i a0.Op, V.s a0.Text, V.s a0.Other, sL eNI a0.Kids])] mix (by
  refine wR 2 101 (bB hv8 fun r7 hx9 hv8 => (w0 (ms_l1In_ok a0.Kind 1 16 hx9) cok77 (wR 1 101 ?_)))
  refine wJ 14 hv8 (fun hv8 => ?_) (fun hv8 => ?_)
  ·refine wR 10 101 ?_
   cases hv8
   exact fS [(100, 100)] [1, 3, 4, 5]
  refine wR 2 101 (bB hv8 fun r8 hx11 hv8 => (w0 (ms_l1In_ok a0.Kind 20 34 hx11) cok77 (wR 2 101 ?_)))
  refine wJ 19 hv8 (fun hv8 => ?_) (fun hv8 => ?_)
  ·refine wR 5 101 ?_
   cases hv8
   exact fS [(100, 100)] [1, 3, 4, 5]
  refine wR 2 101 (bB hv8 fun r9 hx13 hv8 => (w0 (ms_l1In_ok a0.Kind 40 45 hx13) cok77 (wR 2 101 ?_)))
  cases hv8
  exact fS [(100, 100)] [1, 3, 4, 5]
  ) ?_
 refine bB h fun y13 hv20 h => ?_
 refine CO.cutR (tl 41 [(2, V.b y13)]) [] mix (by
  refine wR 2 101 ?_
  refine wJ 25 hv20 (fun hv20 => ?_) (fun hv20 => ?_)
  ·refine wR 1 101 (bB hv20 fun r14 hx22 hv20 => (w0 (ms_l7Op_ok a0 hx22) cok133 (wR 2 101 ?_)))
   refine wJ 29 hv20 (fun hv20 => ?_) (fun hv20 => ?_)
   ·refine wR 1 101 (bB hv20 fun r15 hx24 hv20 => (w0 (ms_l7Text_ok N a0 hx24) cok134 (wR 2 101 ?_)))
    refine wJ 33 hv20 (fun hv20 => ?_) (fun hv20 => ?_)
    ·refine wR 2 101 (wN eNI a0.Kids [] (wR 2 101 (bB hv20 fun r16 hx26 hv20 => (w0 (ms_l1In_ok (a0.Kids.length : Int) r2.1 r2.2 hx26) cok77 (wR 2 101 ?_)))))
     cases hv20
     exact fS [] [2]
    refine wR 8 101 ?_
    cases hv20
    exact fS [] [2]
   refine wR 12 101 ?_
   cases hv20
   exact fS [] [2]
  refine wR 16 101 ?_
  cases hv20
  exact fS [] [2]
  ) ?_
 cases h
 exact e1 2 id

theorem ms_IsLvalue_ok (a0 : Int) {r : Bool} (h : ms_IsLvalue a0 = some r) :
    AC Tryz.prog (GS []) 135 [V.i a0] [] (V.b r) [] := by
 rw [ms_IsLvalue] at h
 refine AC.enter Tryz.func135 rfl (cV 100 (bB h fun y1 hv3 h => ?_))
 refine CO.cutR (tl 13 [(2, V.b y1)]) [] mix (by
  refine wR 3 100 ?_
  refine wJ 5 hv3 (fun hv3 => ?_) (fun hv3 => ?_)
  ·refine wR 8 100 ?_
   cases hv3
   exact fS [] [2]
  refine wR 4 100 ?_
  refine wJ 9 hv3 (fun hv3 => ?_) (fun hv3 => ?_)
  ·refine wR 4 100 ?_
   cases hv3
   exact fS [] [2]
  refine wR 4 100 ?_
  cases hv3
  exact fS [] [2]
  ) ?_
 cases h
 exact e1 2 id

theorem ms_IsExpr_ok (a0 : Int) {r : Bool} (h : ms_IsExpr a0 = some r) :
    AC Tryz.prog (GS []) 98 [V.i a0] [] (V.b r) [] := by
 rw [ms_IsExpr] at h
 refine AC.enter Tryz.func98 rfl (cV 100 (bB h fun r2 hx2 h => (cC 1 100 (ms_l1In_ok a0 1 15 hx2) cok77 ?_)))
 cases h
 exact e1 2 id

theorem ms_IsStmt_ok (a0 : Int) {r : Bool} (h : ms_IsStmt a0 = some r) :
    AC Tryz.prog (GS []) 40 [V.i a0] [] (V.b r) [] := by
 rw [ms_IsStmt] at h
 refine AC.enter Tryz.func40 rfl (cV 100 (bB h fun r2 hx2 h => (cC 1 100 (ms_l1In_ok a0 20 34 hx2) cok77 ?_)))
 cases h
 exact e1 2 id

theorem ms_l7Kid_ok (a0 : SNode) (a1 : Int) (a2 : Int) {r : Bool} (h : ms_l7Kid a0 a1 a2 = some r) :
    AC Tryz.prog (GS []) 59 [.agg [V.i a0.Kind, V.i a0.Op, V.s a0.Text, V.s a0.Other, sL eNI a0.Kids], V.i a1, V.i a2] [] (V.b r) [] := by
 rw [ms_l7Kid] at h
 refine AC.enter Tryz.func59 rfl (cV 100 (CO.sw mix (wR 3 101 (wN eNI a0.Kids [] (wR 3 101 (wF (cV 101 (CO.seq' ?_))))))))
 refine cV 101 (CO.block' ?_)
 refine CO.join (fun (⟨a1, a2, a0, y52⟩ : (Int × Int × SNode × Bool)) => ⟨tl 184 [(1, V.i a1), (2, V.i a2), (3, .loc 100 0), (7, V.b (a1 == (wr ((a0.Kids.length : Int) - 1)))), (8, V.b (a2 == 33)), (18, V.i a0.Kind), (19, V.b y52)], [(100, .cells 37 [V.i a0.Kind, V.i a0.Op, V.s a0.Text, V.s a0.Other, sL eNI a0.Kids])]⟩) (fun i => ms_l7Kid_k1 i = some r) ?_ ?_
 · rintro ⟨a1, a2, a0, y52⟩ h181
   rw [ms_l7Kid_k1] at h181
   refine cI h181 (fun _ h181 => ?_) (fun _ h181 => ?_)
   ·refine bB h181 fun r54 hx184 h181 => (cC 1 101 (ms_IsLvalue_ok a2 hx184) cok135 ?_)
    cases h181
    exact e1 6 id
   refine cV 101 ?_
   refine cI h181 (fun _ h181 => ?_) (fun _ h181 => ?_)
   ·refine bB h181 fun y57 hv190 h181 => ?_
    refine CO.cutR (tl 184 [(6, V.b y57)]) [] mix (by
     refine wR 1 101 (bB hv190 fun r58 hx191 hv190 => (w0 (ms_IsExpr_ok a2 hx191) cok98 (wR 1 101 ?_)))
     refine wJ 28 hv190 (fun hv190 => ?_) (fun hv190 => ?_)
     ·refine wR 3 101 ?_
      refine wJ 31 hv190 (fun hv190 => ?_) (fun hv190 => ?_)
      ·refine wR 5 101 ?_
       cases hv190
       exact fS [] [6]
      refine wR 1 101 (bB hv190 fun r59 hx194 hv190 => (w0 (ms_IsLvalue_ok a2 hx194) cok135 (wR 3 101 ?_)))
      cases hv190
      exact fS [] [6]
     refine wR 8 101 ?_
     cases hv190
     exact fS [] [6]
     ) ?_
    cases h181
    exact e1 6 id
   refine cV 101 ?_
   refine cI h181 (fun _ h181 => ?_) (fun _ h181 => ?_)
   ·refine bB h181 fun y61 hv201 h181 => ?_
    refine CO.cutR (tl 184 [(6, V.b y61)]) [] mix (by
     refine wR 3 101 ?_
     refine wJ 40 hv201 (fun hv201 => ?_) (fun hv201 => ?_)
     ·refine wR 1 101 (bB hv201 fun r62 hx203 hv201 => (w0 (ms_IsExpr_ok a2 hx203) cok98 (wR 2 101 ?_)))
      refine wJ 44 hv201 (fun hv201 => ?_) (fun hv201 => ?_)
      ·refine wR 7 101 ?_
       cases hv201
       exact fS [] [6]
      refine wR 3 101 ?_
      refine wJ 47 hv201 (fun hv201 => ?_) (fun hv201 => ?_)
      ·refine wR 4 101 ?_
       cases hv201
       exact fS [] [6]
      refine wR 4 101 ?_
      cases hv201
      exact fS [] [6]
     refine wR 7 101 ?_
     refine wJ 47 hv201 (fun hv201 => ?_) (fun hv201 => ?_)
     ·refine wR 4 101 ?_
      cases hv201
      exact fS [] [6]
     refine wR 4 101 ?_
     cases hv201
     exact fS [] [6]
     ) ?_
    cases h181
    exact e1 6 id
   refine cV 101 ?_
   refine cI h181 (fun _ h181 => ?_) (fun _ h181 => ?_)
   ·refine bB h181 fun y64 hv213 h181 => ?_
    refine CO.cutR (tl 184 [(6, V.b y64)]) [] mix (by
     refine wR 3 101 ?_
     refine wJ 55 hv213 (fun hv213 => ?_) (fun hv213 => ?_)
     ·refine wR 1 101 (bB hv213 fun r65 hx215 hv213 => (w0 (ms_IsExpr_ok a2 hx215) cok98 (wR 2 101 ?_)))
      refine wJ 59 hv213 (fun hv213 => ?_) (fun hv213 => ?_)
      ·refine wR 7 101 ?_
       cases hv213
       exact fS [] [6]
      refine wR 3 101 ?_
      refine wJ 62 hv213 (fun hv213 => ?_) (fun hv213 => ?_)
      ·refine wR 4 101 ?_
       cases hv213
       exact fS [] [6]
      refine wR 4 101 ?_
      cases hv213
      exact fS [] [6]
     refine wR 7 101 ?_
     refine wJ 62 hv213 (fun hv213 => ?_) (fun hv213 => ?_)
     ·refine wR 4 101 ?_
      cases hv213
      exact fS [] [6]
     refine wR 4 101 ?_
     cases hv213
     exact fS [] [6]
     ) ?_
    cases h181
    exact e1 6 id
   refine cV 101 ?_
   refine cI h181 (fun _ h181 => ?_) (fun _ h181 => ?_)
   ·refine bB h181 fun y68 hv226 h181 => ?_
    refine CO.cutR (tl 184 [(6, V.b y68)]) [] mix (by
     refine wR 3 101 ?_
     refine wJ 70 hv226 (fun hv226 => ?_) (fun hv226 => ?_)
     ·refine wR 3 101 ?_
      refine wJ 73 hv226 (fun hv226 => ?_) (fun hv226 => ?_)
      ·refine wR 8 101 ?_
       cases hv226
       exact fS [] [6]
      refine wR 3 101 ?_
      refine wJ 76 hv226 (fun hv226 => ?_) (fun hv226 => ?_)
      ·refine wR 1 101 (bB hv226 fun r69 hx230 hv226 => (w0 (ms_IsExpr_ok a2 hx230) cok98 (wR 3 101 ?_)))
       cases hv226
       exact fS [] [6]
      refine wR 5 101 ?_
      cases hv226
      exact fS [] [6]
     refine wR 6 101 ?_
     refine wJ 76 hv226 (fun hv226 => ?_) (fun hv226 => ?_)
     ·refine wR 1 101 (bB hv226 fun r70 hx232 hv226 => (w0 (ms_IsExpr_ok a2 hx232) cok98 (wR 3 101 ?_)))
      cases hv226
      exact fS [] [6]
     refine wR 5 101 ?_
     cases hv226
     exact fS [] [6]
     ) ?_
    cases h181
    exact e1 6 id
   refine cV 101 ?_
   refine cI h181 (fun _ h181 => ?_) (fun _ h181 => ?_)
   ·refine bB h181 fun y72 hv240 h181 => ?_
    refine CO.cutR (tl 184 [(6, V.b y72)]) [] mix (by
     refine wR 3 101 ?_
     refine wJ 85 hv240 (fun hv240 => ?_) (fun hv240 => ?_)
     ·refine wR 1 101 (bB hv240 fun r73 hx242 hv240 => (w0 (ms_IsExpr_ok a2 hx242) cok98 (wR 1 101 ?_)))
      refine wJ 88 hv240 (fun hv240 => ?_) (fun hv240 => ?_)
      ·refine wR 12 101 ?_
       cases hv240
       exact fS [] [6]
      refine wR 5 101 ?_
      refine wJ 93 hv240 (fun hv240 => ?_) (fun hv240 => ?_)
      ·refine wR 7 101 ?_
       cases hv240
       exact fS [] [6]
      refine wR 3 101 ?_
      refine wJ 96 hv240 (fun hv240 => ?_) (fun hv240 => ?_)
      ·refine wR 4 101 ?_
       cases hv240
       exact fS [] [6]
      refine wR 4 101 ?_
      cases hv240
      exact fS [] [6]
     refine wR 11 101 ?_
     refine wJ 96 hv240 (fun hv240 => ?_) (fun hv240 => ?_)
     ·refine wR 4 101 ?_
      cases hv240
      exact fS [] [6]
     refine wR 4 101 ?_
     cases hv240
     exact fS [] [6]
     ) ?_
    cases h181
    exact e1 6 id
   refine CO.join (fun (⟨a1, a2, a0, y74⟩ : (Int × Int × SNode × Bool)) => ⟨tl 184 [(1, V.i a1), (2, V.i a2), (3, .loc 100 0), (7, V.b (a1 == (wr ((a0.Kids.length : Int) - 1)))), (8, V.b (a2 == 33)), (18, V.i a0.Kind), (100, V.b y74)], [(100, .cells 37 [V.i a0.Kind, V.i a0.Op, V.s a0.Text, V.s a0.Other, sL eNI a0.Kids])]⟩) (fun i => ms_l7Kid_k2 i = some r) ?_ ?_
   · rintro ⟨a1, a2, a0, y74⟩ h249
     rw [ms_l7Kid_k2] at h249
     refine cI h249 (fun _ h249 => ?_) (fun _ h249 => ?_)
     ·refine cV 101 ?_
      cases h249
      exact e1 6 id
     refine cV 101 ?_
     refine cI h249 (fun _ h249 => ?_) (fun _ h249 => ?_)
     ·refine bB h249 fun r76 hx253 h249 => (cC 1 101 (ms_IsStmt_ok a2 hx253) cok40 ?_)
      cases h249
      exact e1 6 id
     refine cV 101 ?_
     refine cI h249 (fun _ h249 => ?_) (fun _ h249 => ?_)
     ·refine bB h249 fun y86 hv290 h249 => ?_
      refine CO.cutR (tl 184 [(6, V.b y86)]) [] mix (by
       refine wR 4 101 ?_
       refine wJ 114 hv290 (fun hv290 => ?_) (fun hv290 => ?_)
       ·refine wR 1 101 (bB hv290 fun r87 hx292 hv290 => (w0 (ms_IsExpr_ok a2 hx292) cok98 (wR 2 101 ?_)))
        refine wJ 118 hv290 (fun hv290 => ?_) (fun hv290 => ?_)
        ·refine wR 27 101 ?_
         cases hv290
         exact fS [] [6]
        refine wR 4 101 ?_
        refine wJ 122 hv290 (fun hv290 => ?_) (fun hv290 => ?_)
        ·refine wR 4 101 ?_
         refine wJ 126 hv290 (fun hv290 => ?_) (fun hv290 => ?_)
         ·refine wR 19 101 ?_
          cases hv290
          exact fS [] [6]
         refine wR 4 101 ?_
         refine wJ 130 hv290 (fun hv290 => ?_) (fun hv290 => ?_)
         ·refine wR 2 101 ?_
          refine wJ 132 hv290 (fun hv290 => ?_) (fun hv290 => ?_)
          ·refine wR 3 101 ?_
           refine wJ 135 hv290 (fun hv290 => ?_) (fun hv290 => ?_)
           ·refine wR 10 101 ?_
            cases hv290
            exact fS [] [6]
           refine wR 3 101 ?_
           refine wJ 138 hv290 (fun hv290 => ?_) (fun hv290 => ?_)
           ·refine wR 1 101 (bB hv290 fun r88 hx300 hv290 => (w0 (ms_IsExpr_ok a2 hx300) cok98 (wR 5 101 ?_)))
            cases hv290
            exact fS [] [6]
           refine wR 7 101 ?_
           cases hv290
           exact fS [] [6]
          refine wR 6 101 ?_
          refine wJ 138 hv290 (fun hv290 => ?_) (fun hv290 => ?_)
          ·refine wR 1 101 (bB hv290 fun r89 hx302 hv290 => (w0 (ms_IsExpr_ok a2 hx302) cok98 (wR 5 101 ?_)))
           cases hv290
           exact fS [] [6]
          refine wR 7 101 ?_
          cases hv290
          exact fS [] [6]
         refine wR 15 101 ?_
         cases hv290
         exact fS [] [6]
        refine wR 8 101 ?_
        refine wJ 130 hv290 (fun hv290 => ?_) (fun hv290 => ?_)
        ·refine wR 2 101 ?_
         refine wJ 132 hv290 (fun hv290 => ?_) (fun hv290 => ?_)
         ·refine wR 3 101 ?_
          refine wJ 135 hv290 (fun hv290 => ?_) (fun hv290 => ?_)
          ·refine wR 10 101 ?_
           cases hv290
           exact fS [] [6]
          refine wR 3 101 ?_
          refine wJ 138 hv290 (fun hv290 => ?_) (fun hv290 => ?_)
          ·refine wR 1 101 (bB hv290 fun r90 hx307 hv290 => (w0 (ms_IsExpr_ok a2 hx307) cok98 (wR 5 101 ?_)))
           cases hv290
           exact fS [] [6]
          refine wR 7 101 ?_
          cases hv290
          exact fS [] [6]
         refine wR 6 101 ?_
         refine wJ 138 hv290 (fun hv290 => ?_) (fun hv290 => ?_)
         ·refine wR 1 101 (bB hv290 fun r91 hx309 hv290 => (w0 (ms_IsExpr_ok a2 hx309) cok98 (wR 5 101 ?_)))
          cases hv290
          exact fS [] [6]
         refine wR 7 101 ?_
         cases hv290
         exact fS [] [6]
        refine wR 15 101 ?_
        cases hv290
        exact fS [] [6]
       refine wR 8 101 ?_
       refine wJ 122 hv290 (fun hv290 => ?_) (fun hv290 => ?_)
       ·refine wR 4 101 ?_
        refine wJ 126 hv290 (fun hv290 => ?_) (fun hv290 => ?_)
        ·refine wR 19 101 ?_
         cases hv290
         exact fS [] [6]
        refine wR 4 101 ?_
        refine wJ 130 hv290 (fun hv290 => ?_) (fun hv290 => ?_)
        ·refine wR 2 101 ?_
         refine wJ 132 hv290 (fun hv290 => ?_) (fun hv290 => ?_)
         ·refine wR 3 101 ?_
          refine wJ 135 hv290 (fun hv290 => ?_) (fun hv290 => ?_)
          ·refine wR 10 101 ?_
           cases hv290
           exact fS [] [6]
          refine wR 3 101 ?_
          refine wJ 138 hv290 (fun hv290 => ?_) (fun hv290 => ?_)
          ·refine wR 1 101 (bB hv290 fun r92 hx316 hv290 => (w0 (ms_IsExpr_ok a2 hx316) cok98 (wR 5 101 ?_)))
           cases hv290
           exact fS [] [6]
          refine wR 7 101 ?_
          cases hv290
          exact fS [] [6]
         refine wR 6 101 ?_
         refine wJ 138 hv290 (fun hv290 => ?_) (fun hv290 => ?_)
         ·refine wR 1 101 (bB hv290 fun r93 hx318 hv290 => (w0 (ms_IsExpr_ok a2 hx318) cok98 (wR 5 101 ?_)))
          cases hv290
          exact fS [] [6]
         refine wR 7 101 ?_
         cases hv290
         exact fS [] [6]
        refine wR 15 101 ?_
        cases hv290
        exact fS [] [6]
       refine wR 8 101 ?_
       refine wJ 130 hv290 (fun hv290 => ?_) (fun hv290 => ?_)
       ·refine wR 2 101 ?_
        refine wJ 132 hv290 (fun hv290 => ?_) (fun hv290 => ?_)
        ·refine wR 3 101 ?_
         refine wJ 135 hv290 (fun hv290 => ?_) (fun hv290 => ?_)
         ·refine wR 10 101 ?_
          cases hv290
          exact fS [] [6]
         refine wR 3 101 ?_
         refine wJ 138 hv290 (fun hv290 => ?_) (fun hv290 => ?_)
         ·refine wR 1 101 (bB hv290 fun r94 hx323 hv290 => (w0 (ms_IsExpr_ok a2 hx323) cok98 (wR 5 101 ?_)))
          cases hv290
          exact fS [] [6]
         refine wR 7 101 ?_
         cases hv290
         exact fS [] [6]
        refine wR 6 101 ?_
        refine wJ 138 hv290 (fun hv290 => ?_) (fun hv290 => ?_)
        ·refine wR 1 101 (bB hv290 fun r95 hx325 hv290 => (w0 (ms_IsExpr_ok a2 hx325) cok98 (wR 5 101 ?_)))
         cases hv290
         exact fS [] [6]
        refine wR 7 101 ?_
        cases hv290
        exact fS [] [6]
       refine wR 15 101 ?_
       cases hv290
       exact fS [] [6]
       ) ?_
      cases h249
      exact e1 6 id
     refine cV 101 ?_
     refine cI h249 (fun _ h249 => ?_) (fun _ h249 => ?_)
     ·refine bB h249 fun y97 hv332 h249 => ?_
      refine CO.cutR (tl 184 [(6, V.b y97)]) [] mix (by
       refine wR 3 101 ?_
       refine wJ 149 hv332 (fun hv332 => ?_) (fun hv332 => ?_)
       ·refine wR 1 101 (bB hv332 fun r98 hx334 hv332 => (w0 (ms_IsExpr_ok a2 hx334) cok98 (wR 2 101 ?_)))
        refine wJ 153 hv332 (fun hv332 => ?_) (fun hv332 => ?_)
        ·refine wR 7 101 ?_
         cases hv332
         exact fS [] [6]
        refine wR 3 101 ?_
        refine wJ 156 hv332 (fun hv332 => ?_) (fun hv332 => ?_)
        ·refine wR 4 101 ?_
         cases hv332
         exact fS [] [6]
        refine wR 4 101 ?_
        cases hv332
        exact fS [] [6]
       refine wR 7 101 ?_
       refine wJ 156 hv332 (fun hv332 => ?_) (fun hv332 => ?_)
       ·refine wR 4 101 ?_
        cases hv332
        exact fS [] [6]
       refine wR 4 101 ?_
       cases hv332
       exact fS [] [6]
       ) ?_
      cases h249
      exact e1 6 id
     refine cV 101 ?_
     refine cI h249 (fun _ h249 => ?_) (fun _ h249 => ?_)
     ·refine bB h249 fun y99 hv343 h249 => ?_
      refine CO.cutR (tl 184 [(6, V.b y99)]) [] mix (by
       refine wR 2 101 ?_
       refine wJ 163 hv343 (fun hv343 => ?_) (fun hv343 => ?_)
       ·refine wR 3 101 ?_
        refine wJ 166 hv343 (fun hv343 => ?_) (fun hv343 => ?_)
        ·refine wR 8 101 ?_
         cases hv343
         exact fS [] [6]
        refine wR 3 101 ?_
        refine wJ 169 hv343 (fun hv343 => ?_) (fun hv343 => ?_)
        ·refine wR 5 101 ?_
         cases hv343
         exact fS [] [6]
        refine wR 5 101 ?_
        cases hv343
        exact fS [] [6]
       refine wR 6 101 ?_
       refine wJ 169 hv343 (fun hv343 => ?_) (fun hv343 => ?_)
       ·refine wR 5 101 ?_
        cases hv343
        exact fS [] [6]
       refine wR 5 101 ?_
       cases hv343
       exact fS [] [6]
       ) ?_
      cases h249
      exact e1 6 id
     refine cV 101 ?_
     refine cI h249 (fun _ h249 => ?_) (fun _ h249 => ?_)
     ·refine bB h249 fun y101 hv351 h249 => ?_
      refine CO.cutR (tl 184 [(6, V.b y101)]) [] mix (by
       refine wR 1 101 (bB hv351 fun r102 hx352 hv351 => (w0 (ms_l1In_ok a2 40 44 hx352) cok77 (wR 1 101 ?_)))
       refine wJ 178 hv351 (fun hv351 => ?_) (fun hv351 => ?_)
       ·refine wR 4 101 ?_
        cases hv351
        exact fS [] [6]
       refine wR 4 101 ?_
       cases hv351
       exact fS [] [6]
       ) ?_
      cases h249
      exact e1 6 id
     refine CO.skip (bB h249 fun r104 hx355 h249 => (cC 1 101 (ms_IsExpr_ok a2 hx355) cok98 ?_))
     cases h249
     exact e1 6 id
   intro hk356
   refine cV 101 ?_
   refine cI h181 (fun _ h181 => ?_) (fun _ h181 => ?_)
   ·exact sK hk356 (a1, a2, a0, (a0.Kind == 32)) h181 [(100, 100)] [1, 2, 3, 7, 8, 18, 100]
   refine cV 101 ?_
   refine cI h181 (fun _ h181 => ?_) (fun _ h181 => ?_)
   ·exact sK hk356 (a1, a2, a0, (a0.Kind == 40)) h181 [(100, 100)] [1, 2, 3, 7, 8, 18, 100]
   exact cK 101 hk356 (a1, a2, a0, (a0.Kind == 41)) h181 [(100, 100)] [1, 2, 3, 7, 8, 18, 100]
 intro hk359
 refine cV 101 ?_
 refine cI h (fun _ h => ?_) (fun _ h => ?_)
 ·exact sK hk359 (a1, a2, a0, (a0.Kind == 9)) h [(100, 100)] [1, 2, 3, 7, 8, 18, 19]
 exact cK 101 hk359 (a1, a2, a0, (a0.Kind == 10)) h [(100, 100)] [1, 2, 3, 7, 8, 18, 19]

theorem ms_TreeOk_ok (N : Nat) (a0 : LN) {r : Bool} (h : ms_TreeOk N a0 = some r) :
    AC Tryz.prog (GS []) 13 [.sl false false (a0.map (eSN false))] [] (V.b r) [] := by
 rw [ms_TreeOk] at h
 refine AC.enter Tryz.func13 rfl (cV 100 (CO.seq' (bB h fun y8 hv12 h => ?_)))
 refine CO.cutR (tl 54 [(0, .sl false false (a0.map (eSN false))), (12, V.b y8)]) [] mix (by
  refine wR 1 100 (bB hv12 fun r9 hx13 hv12 => (w0 (ms_ShapeOk_ok N a0 hx13) cok57 (wR 2 100 ?_)))
  refine wJ 8 hv12 (fun hv12 => ?_) (fun hv12 => ?_)
  ·refine wR 4 100 ?_
   cases hv12
   exact fS [] [0, 12]
  refine wR 1 100 (bB hv12 fun r10 hx15 hv12 => (w0 (ms_DepthOf_ok N a0 hx15) cok34 (wR 2 100 ?_)))
  cases hv12
  exact fS [] [0, 12]
  ) ?_
 refine cI h (fun _ h => ?_) (fun _ h => ?_)
 ·refine cV 100 ?_
  cases h
  exact e1 2 id
 refine CO.skip (CO.seq' (cV 100 (CO.block' (CO.loopJ (fun (⟨a0, y669⟩ : (LN × Int)) => ⟨tl 54 [(0, .sl false false (a0.map (eSN false))), (3, V.i y669)], []⟩) (fun n i => ms_TreeOk_l1 N n i = some r) (n0 := N) (i0 := (a0, 0)) (wS [] [0, 3]) h (fun i h => by simp [ms_TreeOk_l1] at h) ?_))))
 rintro n1 ⟨a0, y669⟩ h989 ih990
 rw [ms_TreeOk_l1] at h989
 refine CO.seq' (CO.sw mix (wR 2 280 (wN (eSN false) a0 [] (wR 1 280 (wF ?_)))))
 refine cI h989 (fun _ h989 => ?_) (fun _ h989 => ?_)
 ·refine CO.skip (CO.seq' (CO.block' (CO.seq' (bB h989 fun e923 hx1096 h989 => (bB h989 fun r924 hx1097 h989 => (CO.sw mix (wR 2 280 (wX (eSN false) hx1096 5 ?_))))))))
  refine wR 1 280 (w0 (ms_FieldsOk_ok N e923 hx1097) cok58 (wR 1 280 (wF ?_)))
  refine cI h989 (fun _ h989 => ?_) (fun _ h989 => ?_)
  ·refine cV 280 ?_
   cases h989
   exact e1 2 id
  refine CO.skip (cV 280 (CO.block' (CO.loopJ (fun (⟨a0, y669, y949⟩ : (LN × Int × Int)) => ⟨tl 54 [(0, .sl false false (a0.map (eSN false))), (3, V.i y669), (4, V.i y949)], []⟩) (fun n i => ms_TreeOk_l2 N (ms_TreeOk_l1 N n1) n i = some r) (n0 := N) (i0 := (a0, y669, 0)) (wS [] [0, 3, 4]) h989 (fun i h => by simp [ms_TreeOk_l2] at h) ?_)))
  rintro n2 ⟨a0, y669, y949⟩ h1155 ih1156
  rw [ms_TreeOk_l2] at h1155
  refine CO.seq' (bB h1155 fun e978 hx1161 h1155 => (CO.sw mix (wR 3 340 (wX (eSN false) hx1161 5 (wR 2 340 (wN eNI e978.Kids [] (wR 1 340 (wF ?_))))))))
  refine cI h1155 (fun _ h1155 => ?_) (fun _ h1155 => ?_)
  ·refine CO.skip (CO.seq' (CO.block' (bB h1155 fun e994 hx1179 h1155 => (bB h1155 fun e995 hx1180 h1155 => (bB h1155 fun e996 hx1181 h1155 => (bB h1155 fun e997 hx1182 h1155 => (bB h1155 fun r998 hx1183 h1155 => (CO.sw mix ?_))))))))
   refine wR 2 340 (wX (eSN false) hx1179 5 (wR 5 340 (wX (eSN false) hx1180 5 (wR 3 340 (wX eNI hx1181 1 (wR 1 340 (wX (eSN false) hx1182 5 (wR 2 340 ?_))))))))
   refine w0 (ms_l7Kid_ok e994 y949 e997.Kind hx1183) cok59 (wR 1 340 (wF ?_))
   refine cI h1155 (fun _ h1155 => ?_) (fun _ h1155 => ?_)
   ·refine cV 340 ?_
    cases h1155
    exact e1 2 id
   refine CO.skip ?_
   exact cK 340 ih1156 (a0, y669, (wr (y949 + 1))) h1155 [] [0, 3, 4]
  refine CO.exit ?_
  exact cK 340 ih990 (a0, (wr (y669 + 1))) h1155 [] [0, 3]
 refine CO.exit (cV 280 ?_)
 cases h989
 exact e1 2 id

theorem ms_l6Copy_ok (N : Nat) (a0 : LN) {r : LN} (h : ms_l6Copy N a0 = some r) :
    AC Tryz.prog (GS []) 78 [.sl false false (a0.map (eSN false))] [] (.own 100) [(100, .vec false 37 5 (r.map (eSN true)))] := by
 rw [ms_l6Copy] at h
 refine AC.enter Tryz.func78 rfl (cV 100 (bB h fun r2 hx2 h => (CO.sw mix (wR 1 100 (wC (ms_l6Shift_ok N a0 0 hx2) cok148 [] [(100, 100)] [100] (wR 1 101 (wF (CO.ret ?_))))))))
 cases h
 exact eG [(100, 100)] (.inr rfl) (RetV.one rfl (oT (t := 2) (r := .own 100)))

structure RecOk7 (R : Rec7) : Prop where
 ms_l31Put : ∀ (a0 : LN) (a1 : Int) (a2 : Int) (a3 : Int) (a4 : LN) (r : LN), R.ms_l31Put a0 a1 a2 a3 a4 = some r → AC Tryz.prog (GS []) 80 [.sl false false (a0.map (eSN false)), V.i a1, V.i a2, V.i a3, .sl false false (a4.map (eSN false))] [] (.own 100) [(100, .vec false 37 5 (r.map (eSN true)))]

theorem ms_l31Put_F_ok (N : Nat) (R : Rec7) (HR : RecOk7 R) (a0 : LN) (a1 : Int) (a2 : Int) (a3 : Int) (a4 : LN) {r : LN} (h : ms_l31Put_F N R a0 a1 a2 a3 a4 = some r) :
    AC Tryz.prog (GS []) 80 [.sl false false (a0.map (eSN false)), V.i a1, V.i a2, V.i a3, .sl false false (a4.map (eSN false))] [] (.own 100) [(100, .vec false 37 5 (r.map (eSN true)))] := by
 rw [ms_l31Put_F] at h
 refine AC.enter Tryz.func80 rfl (cV 100 (CO.sw mix (W.layop Dk lO (by kernel_rfl) 100 { v := .own 100, R := [], new := [(100, .vec true 24 1 [])], N := [100] } (by kernel_rfl) (W.vecEq 100 (nn := true) (e := 24) (k := 1) (rows := []) (rows' := [].map (encL false (eSN false))) (by kernel_rfl) (by kernel_rfl) (wR 1 101 (wF (CO.seq' (cV 101 ?_))))))))
 refine CO.block' (CO.loopJ (fun (⟨a0, a1, a2, a3, a4, y141, y142⟩ : (LN × Int × Int × Int × LN × Int × (List LN))) => ⟨tl 75 [(0, .sl false false (a0.map (eSN false))), (1, V.i a1), (2, V.i a2), (3, V.i a3), (4, .sl false false (a4.map (eSN false))), (11, .own 100), (12, V.i y141)], [(100, .vec false 24 1 (y142.map (encL false (eSN false))))]⟩) (fun n i => ms_l31Put_l1 N R n i = some r) (n0 := N) (i0 := (a0, a1, a2, a3, a4, 0, [])) (wS [(100, 100)] [0, 1, 2, 3, 4, 11, 12]) h (fun i h => by simp [ms_l31Put_l1] at h) ?_)
 rintro n1 ⟨a0, a1, a2, a3, a4, y141, y142⟩ h253 ih254
 rw [ms_l31Put_l1] at h253
 refine CO.seq' (bB h253 fun e182 hx259 h253 => (CO.sw mix (wR 3 171 (wX (eSN false) hx259 5 (wR 2 171 (wN eNI e182.Kids [] (wR 1 171 (wF ?_))))))))
 refine cI h253 (fun _ h253 => ?_) (fun _ h253 => ?_)
 ·refine CO.skip (CO.seq' (CO.block' ?_))
  refine CO.join (fun (⟨a0, a1, a2, a3, a4, y141, y201⟩ : (LN × Int × Int × Int × LN × Int × (List LN))) => ⟨tl 75 [(0, .sl false false (a0.map (eSN false))), (1, V.i a1), (2, V.i a2), (3, V.i a3), (4, .sl false false (a4.map (eSN false))), (11, .own 100), (12, V.i y141)], [(100, .vec false 24 1 (y201.map (encL false (eSN false))))]⟩) (fun i => ms_l31Put_k2 N R (ms_l31Put_l1 N R n1) i = some r) ?_ ?_
  · rintro ⟨a0, a1, a2, a3, a4, y141, y201⟩ h289
    rw [ms_l31Put_k2] at h289
    refine bB h289 fun e206 hx294 h289 => (bB h289 fun e207 hx295 h289 => (bB h289 fun r208 hx296 h289 => (bB h289 fun x209 hx297 h289 => ?_)))
    refine CO.endR (tl 75 [(0, .sl false false (a0.map (eSN false))), (1, V.i a1), (2, V.i a2), (3, V.i a3), (4, .sl false false (a4.map (eSN false))), (11, .own 175), (12, V.i y141)]) [(175, .vec false 24 1 (x209.map (encL false (eSN false))))] mix (by
     refine wR 4 173 (wX (eSN false) hx294 5 (wR 3 173 (wX eNI hx295 1 (wR 4 173 (wC (HR.ms_l31Put a0 e207 a2 a3 a4 _ hx296) cok80 [] [(100, 173)] [173] (W.layop Dk (LayOk.cons (j := 173) (eSN true) (eSN false) r208 (by kernel_rfl) (sh_eSN _) lO) (by kernel_rfl) 174 { v := .own 174, R := [], new := [(174, .vec true 24 1 [[.sl false false (r208.map (eSN false))]])], N := [174] } (by kernel_rfl) (W.vecEq 174 (nn := true) (e := 24) (k := 1) (rows := [[.sl false false (r208.map (eSN false))]]) (rows' := [r208].map (encL false (eSN false))) (by kernel_rfl) (by kernel_rfl) (W.appO Dk (encL false (eSN false)) (a := 100) (c := 174) (el := 24) (sz := 1) 24 hx297 rfl 175 (by kernel_rfl) ?_))))))))
     refine wR 1 176 ?_
     exact fI
     ) (fun st hw => ?_)
    refine CO.weak hw ?_
    exact cK 176 ih254 (a0, a1, a2, a3, a4, (wr (y141 + 1)), x209) h289 [(175, 100)] [0, 1, 2, 3, 4, 11, 12]
  intro hk298
  refine bB h253 fun y210 hv300 h253 => ?_
  refine CO.cutR (tl 75 [(0, .sl false false (a0.map (eSN false))), (1, V.i a1), (2, V.i a2), (3, V.i a3), (4, .sl false false (a4.map (eSN false))), (11, .own 100), (12, V.i y141), (31, V.b y210)]) [(100, .vec false 24 1 (y142.map (encL false (eSN false))))] mix (by
   refine wR 4 171 ?_
   refine wJ 27 hv300 (fun hv300 => ?_) (fun hv300 => ?_)
   ·refine wR 4 171 ?_
    cases hv300
    exact fS [(100, 100)] [0, 1, 2, 3, 4, 11, 12, 31]
   refine wR 4 171 ?_
   cases hv300
   exact fS [(100, 100)] [0, 1, 2, 3, 4, 11, 12, 31]
   ) ?_
  refine cI h253 (fun _ h253 => ?_) (fun _ h253 => ?_)
  ·refine bB h253 fun x212 hx304 h253 => (CO.w mix (wR 3 171 (W.appO Dk (encL false (eSN false)) (a := 100) (c := 171) (el := 24) (sz := 1) 24 hx304 rfl 172 (by kernel_rfl) (wR 1 173 ?_))))
   exact wK hk298 (a0, a1, a2, a3, a4, y141, x212) h253 [(172, 100)] [0, 1, 2, 3, 4, 11, 12]
  exact sK hk298 (a0, a1, a2, a3, a4, y141, y142) h253 [(100, 100)] [0, 1, 2, 3, 4, 11, 12]
 refine CO.exit ?_
 refine CO.join (fun (⟨a0, a1, y218⟩ : (LN × Int × (List LN))) => ⟨tl 75 [(0, .sl false false (a0.map (eSN false))), (1, V.i a1), (11, .own 100)], [(100, .vec false 24 1 (y218.map (encL false (eSN false))))]⟩) (fun i => ms_l31Put_k3 N R (ms_l31Put_l1 N R n1) i = some r) ?_ ?_
 · rintro ⟨a0, a1, y218⟩ h313
   rw [ms_l31Put_k3] at h313
   refine bB h313 fun e221 hx316 h313 => (bB h313 fun r222 hx317 h313 => (CO.sw mix (wR 2 173 (wX (eSN false) hx316 5 (wR 2 173 (W.lend (ms_l6Make_ok N e221 y218 hx317) cok87 [(100, 173)] [173] (LayOk.cons (j := 100) (encL false (eSN false)) (encL false (eSN false)) y218 (by kernel_rfl) (share_encL _ (sh_eSN _)) lO) (.own _) (.cons (DeepR.map (fun _ => (.cons (.c _) (.cons (.c _) (.cons (.c _) (.cons (.c _) (.cons (.sl _ _ (DeepR.map (fun _ => (.cons (.c _) .nil)) _)) .nil)))))) _) .nil) (by kernel_rfl) (by kernel_rfl) (wR 1 174 (wF ?_))))))))
   refine CO.ret ?_
   cases h313
   exact eG [(173, 100)] (.inr rfl) (RetV.one rfl (oT (t := 10) (r := .own 173)))
 intro hk318
 refine bB h253 fun y224 hv321 h253 => ?_
 refine CO.cutR (tl 75 [(0, .sl false false (a0.map (eSN false))), (1, V.i a1), (4, .sl false false (a4.map (eSN false))), (11, .own 100), (64, V.b y224)]) [(100, .vec false 24 1 (y142.map (encL false (eSN false))))] mix (by
  refine wR 4 171 ?_
  refine wJ 55 hv321 (fun hv321 => ?_) (fun hv321 => ?_)
  ·refine wR 3 171 (bB hv321 fun e225 hx323 hv321 => (wX (eSN false) hx323 5 (wR 2 171 (wN eNI e225.Kids [] (wR 2 171 ?_)))))
   cases hv321
   exact fS [(100, 100)] [0, 1, 4, 11, 64]
  refine wR 9 171 ?_
  cases hv321
  exact fS [(100, 100)] [0, 1, 4, 11, 64]
  ) ?_
 refine cI h253 (fun _ h253 => ?_) (fun _ h253 => ?_)
 ·refine bB h253 fun x227 hx326 h253 => (CO.w mix (wR 3 171 (W.appO Dk (encL false (eSN false)) (a := 100) (c := 171) (el := 24) (sz := 1) 24 hx326 rfl 172 (by kernel_rfl) (wR 1 173 ?_))))
  exact wK hk318 (a0, a1, x227) h253 [(172, 100)] [0, 1, 11]
 exact sK hk318 (a0, a1, y142) h253 [(100, 100)] [0, 1, 11]

theorem scc7_ok : ∀ N, RecOk7 (scc7 N)
 | 0 => ⟨fun _ _ _ _ _ _ h => (by cases h)⟩
 | N + 1 => ⟨fun a0 a1 a2 a3 a4 _ h => ms_l31Put_F_ok N (scc7 N) (scc7_ok N) a0 a1 a2 a3 a4 h⟩

theorem ms_l31Put_ok (N : Nat) (a0 : LN) (a1 : Int) (a2 : Int) (a3 : Int) (a4 : LN) {r : LN} (h : ms_l31Put N a0 a1 a2 a3 a4 = some r) :
  AC Tryz.prog (GS []) 80 [.sl false false (a0.map (eSN false)), V.i a1, V.i a2, V.i a3, .sl false false (a4.map (eSN false))] [] (.own 100) [(100, .vec false 37 5 (r.map (eSN true)))] :=
 (scc7_ok N).ms_l31Put a0 a1 a2 a3 a4 r h

theorem ms_l31Told_ok (N : Nat) (a0 : LN) (a1 : LN) {r : (LN × Bool)} (h : ms_l31Told N a0 a1 = some r) :
    AC Tryz.prog (GS []) 79 [.sl false false (a0.map (eSN false)), .sl false false (a1.map (eSN false))] [] (.tup [.sl false false (r.1.map (eSN false)), V.b r.2]) [] := by
 rw [ms_l31Told] at h
 refine AC.enter Tryz.func79 rfl (cV 100 (CO.seq' (bB h fun r6 hx7 h => (cC 1 100 (ms_TreeOk_ok N a0 hx7) cok13 ?_))))
 refine cI h (fun _ h => ?_) (fun _ h => ?_)
 ·refine bB h fun r8 hx10 h => ?_
  refine CO.cutR (tl 12 [(4, .own 100), (5, V.b false)]) [(100, .vec false 37 5 (r8.map (eSN true)))] mix (by
   refine wR 1 100 (wC (ms_l6Copy_ok N a1 hx10) cok78 [] [(100, 100)] [100] (wR 2 101 ?_))
   exact fI
   ) ?_
  refine CO.lay (tl 12 [(4, .sl false false (r8.map (eSN false))), (5, V.b false)]) [] (LayOk.cons (j := 100) (eSN true) (eSN false) r8 (by kernel_rfl) (sh_eSN _) lO) (by kernel_rfl) (by kernel_rfl) (by kernel_rfl) (CO.ret ?_)
  have h := sI h
  subst h
  exact eG [] (.inr rfl) (RetV.two rfl (oT (t := 4) (r := .sl false false (r8.map (eSN false)))) (oT (t := 5) (r := V.b false)))
 refine CO.skip (cV 100 (CO.ret ?_))
 have h := sI h
 subst h
 exact eG [] (.inr rfl) (RetV.two rfl (oT (t := 4) (r := .sl false false (a0.map (eSN false)))) (oT (t := 5) (r := V.b true)))

theorem ms_Insert_ok (N : Nat) (a0 : LN) (a1 : Int) (a2 : Int) (a3 : LN) {r : (LN × Bool)} (h : ms_Insert N a0 a1 a2 a3 = some r) :
    AC Tryz.prog (GS []) 19 [.sl false false (a0.map (eSN false)), V.i a1, V.i a2, .sl false false (a3.map (eSN false))] [] (.tup [.sl false false (r.1.map (eSN false)), V.b r.2]) [] := by
 rw [ms_Insert] at h
 refine AC.enter Tryz.func19 rfl (cV 100 (CO.seq' (bB h fun y19 hv29 h => ?_)))
 refine CO.cutR (tl 56 [(0, .sl false false (a0.map (eSN false))), (1, V.i a1), (2, V.i a2), (3, .sl false false (a3.map (eSN false))), (38, V.b y19)]) [] mix (by
  refine wR 1 100 (bB hv29 fun r20 hx30 hv29 => (w0 (ms_TreeOk_ok N a0 hx30) cok13 (wR 2 100 ?_)))
  refine wJ 15 hv29 (fun hv29 => ?_) (fun hv29 => ?_)
  ·refine wR 23 100 ?_
   cases hv29
   exact fS [] [0, 1, 2, 3, 38]
  refine wR 1 100 (bB hv29 fun r21 hx32 hv29 => (w0 (ms_TreeOk_ok N a3 hx32) cok13 (wR 3 100 ?_)))
  refine wJ 20 hv29 (fun hv29 => ?_) (fun hv29 => ?_)
  ·refine wR 18 100 ?_
   cases hv29
   exact fS [] [0, 1, 2, 3, 38]
  refine wR 2 100 (wN (eSN false) a0 [] (wR 1 100 (bB hv29 fun r22 hx34 hv29 => (w0 (ms_l1In_ok a1 0 (wr ((a0.length : Int) - 1)) hx34) cok77 (wR 3 100 ?_)))))
  refine wJ 28 hv29 (fun hv29 => ?_) (fun hv29 => ?_)
  ·refine wR 10 100 ?_
   cases hv29
   exact fS [] [0, 1, 2, 3, 38]
  refine wR 3 100 (bB hv29 fun e23 hx36 hv29 => (wX (eSN false) hx36 5 (wR 2 100 (wN eNI e23.Kids [] (bB hv29 fun r24 hx37 hv29 => (w0 (ms_l1In_ok a2 0 (e23.Kids.length : Int) hx37) cok77 (wR 2 100 ?_)))))))
  cases hv29
  exact fS [] [0, 1, 2, 3, 38]
  ) ?_
 refine cI h (fun _ h => ?_) (fun _ h => ?_)
 ·refine bB h fun r26 hx40 h => ?_
  refine CO.cutR (tl 56 [(8, .own 100), (9, V.b false)]) [(100, .vec false 37 5 (r26.map (eSN true)))] mix (by
   refine wR 1 100 (wC (ms_l6Copy_ok N a0 hx40) cok78 [] [(100, 100)] [100] (wR 2 101 ?_))
   exact fI
   ) ?_
  refine CO.lay (tl 56 [(8, .sl false false (r26.map (eSN false))), (9, V.b false)]) [] (LayOk.cons (j := 100) (eSN true) (eSN false) r26 (by kernel_rfl) (sh_eSN _) lO) (by kernel_rfl) (by kernel_rfl) (by kernel_rfl) (CO.ret ?_)
  have h := sI h
  subst h
  exact eG [] (.inr rfl) (RetV.two rfl (oT (t := 8) (r := .sl false false (r26.map (eSN false)))) (oT (t := 9) (r := V.b false)))
 refine CO.skip (bB h fun r29 hx43 h => (bB h fun r30 hx44 h => (CO.sw mix (wR 2 100 (wN (eSN false) a0 [] (wR 4 100 (wC (ms_l31Put_ok N a0 (wr ((a0.length : Int) - 1)) a1 a2 a3 hx43) cok80 [] [(100, 100)] [100] (wR 1 101 ?_))))))))
 refine wD (ms_l31Told_ok N r29 a0 hx44) cok79 [] [] [] (LayOk.cons (j := 100) (eSN true) (eSN false) r29 (by kernel_rfl) (sh_eSN _) lO) (wR 5 101 (wF (cV 101 (CO.ret ?_))))
 have h := sI h
 subst h
 exact eG [] (.inr rfl) (RetV.two rfl (oT (t := 8) (r := .sl false false (r30.1.map (eSN false)))) (oT (t := 9) (r := V.b r30.2)))

theorem ms_l6Ints_ok (N : Nat) (a0 : List Int) (a1 : List Int) {r : Bool} (h : ms_l6Ints N a0 a1 = some r) :
    AC Tryz.prog (GS []) 60 [sL eNI a0, sL eNI a1] [] (V.b r) [] := by
 rw [ms_l6Ints] at h
 refine AC.enter Tryz.func60 rfl (cV 100 (CO.seq' (CO.sw mix (wR 1 100 (wN eNI a0 [] (wR 1 100 (wN eNI a1 [] (wR 1 100 ?_))))))))
 refine wF ?_
 refine cI h (fun _ h => ?_) (fun _ h => ?_)
 ·refine cV 100 ?_
  cases h
  exact e1 4 id
 refine CO.skip (CO.seq' (cV 100 (CO.block' (CO.loopJ (fun (⟨a0, a1, y35⟩ : ((List Int) × (List Int) × Int)) => ⟨tl 26 [(0, sL eNI a0), (1, sL eNI a1), (5, V.i y35)], []⟩) (fun n i => ms_l6Ints_l1 N n i = some r) (n0 := N) (i0 := (a0, a1, 0)) (wS [] [0, 1, 5]) h (fun i h => by simp [ms_l6Ints_l1] at h) ?_))))
 rintro n1 ⟨a0, a1, y35⟩ h65 ih66
 rw [ms_l6Ints_l1] at h65
 refine CO.seq' (CO.sw mix (wR 2 160 (wN eNI a0 [] (wR 1 160 (wF ?_)))))
 refine cI h65 (fun _ h65 => ?_) (fun _ h65 => ?_)
 ·refine CO.skip (CO.seq' (CO.block' (bB h65 fun e51 hx76 h65 => (bB h65 fun e52 hx77 h65 => (CO.sw mix (wR 2 160 (wX eNI hx76 1 (wR 3 160 ?_))))))))
  refine wX eNI hx77 1 (wR 2 160 (wF ?_))
  refine cI h65 (fun _ h65 => ?_) (fun _ h65 => ?_)
  ·refine cV 160 ?_
   cases h65
   exact e1 4 id
  refine CO.skip ?_
  exact cK 160 ih66 (a0, a1, (wr (y35 + 1))) h65 [] [0, 1, 5]
 refine CO.exit (cV 160 ?_)
 cases h65
 exact e1 4 id

theorem ms_SameTree_ok (N : Nat) (a0 : LN) (a1 : LN) {r : Bool} (h : ms_SameTree N a0 a1 = some r) :
    AC Tryz.prog (GS []) 14 [.sl false false (a0.map (eSN false)), .sl false false (a1.map (eSN false))] [] (V.b r) [] := by
 rw [ms_SameTree] at h
 refine AC.enter Tryz.func14 rfl (cV 100 (CO.seq' (CO.sw mix (wR 1 100 (wN (eSN false) a0 [] (wR 1 100 (wN (eSN false) a1 [] (wR 1 100 ?_))))))))
 refine wF ?_
 refine cI h (fun _ h => ?_) (fun _ h => ?_)
 ·refine cV 100 ?_
  cases h
  exact e1 4 id
 refine CO.skip (CO.seq' (cV 100 (CO.block' (CO.loopJ (fun (⟨a0, a1, y187⟩ : (LN × LN × Int)) => ⟨tl 81 [(0, .sl false false (a0.map (eSN false))), (1, .sl false false (a1.map (eSN false))), (5, V.i y187)], []⟩) (fun n i => ms_SameTree_l1 N n i = some r) (n0 := N) (i0 := (a0, a1, 0)) (wS [] [0, 1, 5]) h (fun i h => by simp [ms_SameTree_l1] at h) ?_))))
 rintro n1 ⟨a0, a1, y187⟩ h335 ih336
 rw [ms_SameTree_l1] at h335
 refine CO.seq' (CO.sw mix (wR 2 160 (wN (eSN false) a0 [] (wR 1 160 (wF ?_)))))
 refine cI h335 (fun _ h335 => ?_) (fun _ h335 => ?_)
 ·refine CO.skip (CO.seq' (CO.block' (bB h335 fun y269 hv386 h335 => ?_)))
  refine CO.cutR (tl 81 [(0, .sl false false (a0.map (eSN false))), (1, .sl false false (a1.map (eSN false))), (5, V.i y187), (80, V.b y269)]) [] mix (by
   refine wR 2 160 (bB hv386 fun e270 hx387 hv386 => (wX (eSN false) hx387 5 (wR 4 160 (bB hv386 fun e271 hx388 hv386 => (wX (eSN false) hx388 5 (wR 4 160 ?_))))))
   refine wJ 28 hv386 (fun hv386 => ?_) (fun hv386 => ?_)
   ·refine wR 52 160 ?_
    cases hv386
    exact fS [] [0, 1, 5, 80]
   refine wR 2 160 (bB hv386 fun e272 hx390 hv386 => (wX (eSN false) hx390 5 (wR 4 160 (bB hv386 fun e273 hx391 hv386 => (wX (eSN false) hx391 5 (wR 5 160 ?_))))))
   refine wJ 41 hv386 (fun hv386 => ?_) (fun hv386 => ?_)
   ·refine wR 39 160 ?_
    cases hv386
    exact fS [] [0, 1, 5, 80]
   refine wR 2 160 (bB hv386 fun e274 hx393 hv386 => (wX (eSN false) hx393 5 (wR 4 160 (bB hv386 fun e275 hx394 hv386 => (wX (eSN false) hx394 5 (wR 5 160 ?_))))))
   refine wJ 54 hv386 (fun hv386 => ?_) (fun hv386 => ?_)
   ·refine wR 26 160 ?_
    cases hv386
    exact fS [] [0, 1, 5, 80]
   refine wR 2 160 (bB hv386 fun e276 hx396 hv386 => (wX (eSN false) hx396 5 (wR 4 160 (bB hv386 fun e277 hx397 hv386 => (wX (eSN false) hx397 5 (wR 5 160 ?_))))))
   refine wJ 67 hv386 (fun hv386 => ?_) (fun hv386 => ?_)
   ·refine wR 13 160 ?_
    cases hv386
    exact fS [] [0, 1, 5, 80]
   refine wR 2 160 (bB hv386 fun e278 hx399 hv386 => (wX (eSN false) hx399 5 (wR 4 160 (bB hv386 fun e279 hx400 hv386 => (wX (eSN false) hx400 5 (wR 2 160 (bB hv386 fun r280 hx401 hv386 => (w0 (ms_l6Ints_ok N e278.Kids e279.Kids hx401) cok60 ?_))))))))
   refine wR 2 160 ?_
   cases hv386
   exact fS [] [0, 1, 5, 80]
   ) ?_
  refine cI h335 (fun _ h335 => ?_) (fun _ h335 => ?_)
  ·refine cV 160 ?_
   cases h335
   exact e1 4 id
  refine CO.skip ?_
  exact cK 160 ih336 (a0, a1, (wr (y187 + 1))) h335 [] [0, 1, 5]
 refine CO.exit (cV 160 ?_)
 cases h335
 exact e1 4 id

theorem ms_l6Part_ok (N : Nat) (a0 : LN) (a1 : Int) {r : LN} (h : ms_l6Part N a0 a1 = some r) :
    AC Tryz.prog (GS []) 81 [.sl false false (a0.map (eSN false)), V.i a1] [] (.own 100) [(100, .vec false 37 5 (r.map (eSN true)))] := by
 rw [ms_l6Part] at h
 refine AC.enter Tryz.func81 rfl (cV 100 (bB h fun r2 hx2 h => (CO.sw mix (wR 1 100 (wC (ms_l6Starts_ok N a0 hx2) cok131 [] [(100, 100)] [100] (wR 5 101 (wF (bB h fun e7 hx7 h => ?_))))))))
 refine bB h fun l8 hx8 h => (bB h fun e9 hx9 h => (bB h fun r10 hx10 h => (CO.sw mix (wR 3 101 (W.ixO Dk eNI hx7 100 1 (by kernel_rfl) (W.ldO Dk eNI hx7 3 100 0 (V.i e7) (by kernel_rfl) (by kernel_rfl) (wR 2 101 (W.cutD Dk (eSN false) hx8 false 5 (fun _ => by first | rfl | kernel_rfl) (by kernel_rfl) ?_))))))))
 refine wR 2 101 (W.ixO Dk eNI hx9 100 1 (by kernel_rfl) (W.ldO Dk eNI hx9 3 100 0 (V.i e9) (by kernel_rfl) (by kernel_rfl) (wR 1 101 (wC (ms_l6Shift_ok N l8 (wr (0 - e9)) hx10) cok148 [] [(100, 101)] [101] (wR 1 102 (wF (CO.ret ?_)))))))
 cases h
 exact eG [(101, 100)] (.inr rfl) (RetV.one rfl (oT (t := 4) (r := .own 101)))

theorem ms_Part_ok (N : Nat) (a0 : LN) (a1 : Int) {r : LN} (h : ms_Part N a0 a1 = some r) :
    AC Tryz.prog (GS []) 20 [.sl false false (a0.map (eSN false)), V.i a1] [] (.own 100) [(100, .vec false 37 5 (r.map (eSN true)))] := by
 rw [ms_Part] at h
 refine AC.enter Tryz.func20 rfl (cV 100 (CO.seq' (bB h fun y8 hv12 h => ?_)))
 refine CO.cutR (tl 20 [(0, .sl false false (a0.map (eSN false))), (1, V.i a1), (15, V.b y8)]) [] mix (by
  refine wR 1 100 (bB hv12 fun r9 hx13 hv12 => (w0 (ms_ShapeOk_ok N a0 hx13) cok57 (wR 2 100 ?_)))
  refine wJ 8 hv12 (fun hv12 => ?_) (fun hv12 => ?_)
  ·refine wR 7 100 ?_
   cases hv12
   exact fS [] [0, 1, 15]
  refine wR 2 100 (wN (eSN false) a0 [] (wR 1 100 (bB hv12 fun r10 hx15 hv12 => (w0 (ms_l1In_ok a1 0 (wr ((a0.length : Int) - 1)) hx15) cok77 (wR 2 100 ?_)))))
  cases hv12
  exact fS [] [0, 1, 15]
  ) ?_
 refine cI h (fun _ h => ?_) (fun _ h => ?_)
 ·refine cV 100 (CO.ret ?_)
  cases h
  exact eG [(100, 100)] (.inr rfl) (RetV.one rfl (oT (t := 4) (r := .own 100)))
 refine CO.skip (bB h fun r12 hx18 h => (CO.sw mix (wR 2 100 (wC (ms_l6Part_ok N a0 a1 hx18) cok81 [] [(100, 100)] [100] (wR 1 101 (wF (CO.ret ?_)))))))
 cases h
 exact eG [(100, 100)] (.inr rfl) (RetV.one rfl (oT (t := 4) (r := .own 100)))

theorem mi_Remove_1_ok (a0 : Int) (a1 : STree) (pa : Int) {r : LS} (h : mi_Remove_1 a0 a1 pa = some r) :
    AC Tryz.prog (GS []) 82 [V.i a0, .agg [V.i a1.kind, V.i a1.op, V.s a1.text, V.s a1.other, sL eST a1.kids], .loc 0 0] [(0, .cells 3 [V.i pa])] (.own 100) [(0, .cells 3 [V.i pa]), (100, vX 88 5 eST r)] := by
 rw [mi_Remove_1] at h
 refine AC.enter Tryz.func82 rfl (cV 100 (CO.seq' (cV 101 ?_)))
 refine cI h (fun _ h => ?_) (fun _ h => ?_)
 ·refine cV 101 (CO.weak (Weak.nil 5 101 88 5 (by kernel_rfl) (by kernel_rfl)) (CO.ret ?_))
  cases h
  exact eG [(0, 0), (101, 100)] (.inr rfl) (RetV.one rfl (oT (t := 5) (r := .own 101)))
 refine CO.skip (CO.sw mix (wR 1 101 (W.layop Dk lO (by kernel_rfl) 101 { v := .own 101, R := [], new := [(101, .vec true 88 5 [[V.i a1.kind, V.i a1.op, V.s a1.text, V.s a1.other, sL eST a1.kids]])], N := [101] } (by kernel_rfl) (W.vecEq 101 (nn := true) (e := 88) (k := 5) (rows := [[V.i a1.kind, V.i a1.op, V.s a1.text, V.s a1.other, sL eST a1.kids]]) (rows' := [a1].map eST) (by kernel_rfl) (by simp only [List.map_cons, List.map_nil, encSTree_eq]) (wR 1 102 (wF (CO.ret ?_)))))))
 cases h
 exact eG [(0, 0), (101, 100)] (.inr rfl) (RetV.one rfl (oT (t := 5) (r := .own 101)))

structure RecOk8 (R : Rec8) : Prop where
 mi_edited_v2 : ∀ (a0 : LN) (a1 : Int) (pa : Int) (r : LS), R.mi_edited_v2 a0 a1 pa = some r → AC Tryz.prog (GS []) 145 [.sl false false (a0.map (eSN false)), V.i a1, .fn 82 [.loc 0 0]] [(0, .cells 3 [V.i pa])] (.own 100) [(0, .cells 3 [V.i pa]), (100, vX 88 5 eST r)]

theorem mi_edited_v2_F_ok (N : Nat) (R : Rec8) (HR : RecOk8 R) (a0 : LN) (a1 : Int) (pa : Int) {r : LS} (h : mi_edited_v2_F N R a0 a1 pa = some r) :
    AC Tryz.prog (GS []) 145 [.sl false false (a0.map (eSN false)), V.i a1, .fn 82 [.loc 0 0]] [(0, .cells 3 [V.i pa])] (.own 100) [(0, .cells 3 [V.i pa]), (100, vX 88 5 eST r)] := by
 rw [mi_edited_v2_F] at h
 refine AC.enter Tryz.func145 rfl (cV 100 (bB h fun e2 hx2 h => (CO.sw mix (wR 2 100 (wX (eSN false) hx2 5 (wR 3 100 (wF (cV 101 ?_))))))))
 refine CO.seq' (CO.sw mix (wR 2 102 (wN eNI e2.Kids [] (wR 1 102 (wF (CO.block' (CO.loopJ (fun (⟨a0, a1, e2, y63, y64⟩ : (LN × Int × SNode × Int × LS)) => ⟨tl 44 [(0, .sl false false (a0.map (eSN false))), (1, V.i a1), (2, .fn 82 [.loc 0 0]), (8, .loc 100 0), (25, sL eNI e2.Kids), (26, V.i (e2.Kids.length : Int)), (27, V.i y63)], [(0, .cells 3 [V.i pa]), (100, .cells 88 [V.i e2.Kind, V.i e2.Op, V.s e2.Text, V.s e2.Other, .own 101]), (101, vX 88 5 eST y64)]⟩) (fun n i => mi_edited_v2_l1 N R pa n i = some r) (n0 := N) (i0 := (a0, a1, e2, 0, [])) ((Weak.nilCell 101 4 102 88 5 (ety := 88) (cs := [V.i e2.Kind, V.i e2.Op, V.s e2.Text, V.s e2.Other, .c (.slice none 0 0)]) (by kernel_rfl) (by kernel_rfl) (by kernel_rfl)).trans (wS [(0, 0), (101, 100), (102, 101)] [0, 1, 2, 8, 25, 26, 27])) h (fun i h => by simp [mi_edited_v2_l1] at h) ?_)))))))
 rintro n1 ⟨a0, a1, e2, y63, y64⟩ h83 ih84
 rw [mi_edited_v2_l1] at h83
 refine cV 167 (CO.seq' ?_)
 refine cI h83 (fun _ h83 => ?_) (fun _ h83 => ?_)
 ·refine CO.skip (CO.seq' (CO.block' (bB h83 fun e86 hx94 h83 => (CO.sw mix (wX eNI hx94 1 (wR 2 167 (wF (bB h83 fun r89 hx97 h83 => ?_))))))))
  refine bB h83 fun x90 hx98 h83 => ?_
  refine CO.endR (tl 44 [(0, .sl false false (a0.map (eSN false))), (1, V.i a1), (2, .fn 82 [.loc 0 0]), (8, .loc 100 0), (25, sL eNI e2.Kids), (26, V.i (e2.Kids.length : Int)), (27, V.i y63)]) [(100, .cells 88 [V.i e2.Kind, V.i e2.Op, V.s e2.Text, V.s e2.Other, .own 168]), (168, vX 88 5 eST x90), (0, .cells 3 [V.i pa])] mix (by
   refine wR 5 167 (wC (HR.mi_edited_v2 a0 e86 pa _ hx97) cok145 [(0, 0)] [(0, 0), (100, 167)] [167] (W.appO Dk eST (a := 101) (c := 167) (el := 88) (sz := 5) 72 hx98 rfl 168 (by kernel_rfl) (wR 2 169 ?_)))
   exact fI
   ) (fun st hw => ?_)
  refine CO.weak hw ?_
  exact cK 169 ih84 (a0, a1, e2, (wr (y63 + 1)), x90) h83 [(0, 0), (100, 100), (168, 101)] [0, 1, 2, 8, 25, 26, 27]
 refine CO.exit (bB h83 fun r92 hx100 h83 => (CO.sw mix (wR 3 167 (wD (mi_Remove_1_ok a1 (⟨e2.Kind, e2.Op, e2.Text, e2.Other, y64⟩ : STree) pa hx100) cok82 [(0, 0)] [(0, 0), (100, 167)] [167] (LayOk.cons (j := 101) eST eST y64 (by kernel_rfl) (share_encSTree) lO) (wR 1 168 (wF (CO.ret ?_)))))))
 cases h83
 exact eG [(0, 0), (167, 100)] (.inr rfl) (RetV.one rfl (oT (t := 6) (r := .own 167)))

theorem scc8_ok : ∀ N, RecOk8 (scc8 N)
 | 0 => ⟨fun _ _ _ _ h => (by cases h)⟩
 | N + 1 => ⟨fun a0 a1 pa _ h => mi_edited_v2_F_ok N (scc8 N) (scc8_ok N) a0 a1 pa h⟩

theorem mi_edited_v2_ok (N : Nat) (a0 : LN) (a1 : Int) (pa : Int) {r : LS} (h : mi_edited_v2 N a0 a1 pa = some r) :
  AC Tryz.prog (GS []) 145 [.sl false false (a0.map (eSN false)), V.i a1, .fn 82 [.loc 0 0]] [(0, .cells 3 [V.i pa])] (.own 100) [(0, .cells 3 [V.i pa]), (100, vX 88 5 eST r)] :=
 (scc8_ok N).mi_edited_v2 a0 a1 pa r h

theorem mi_edit_v3_ok (N : Nat) (a0 : LN) (a1 : Int) (pa : Int) {r : (LN × Bool)} (h : mi_edit_v3 N a0 a1 pa = some r) :
    AC Tryz.prog (GS [0, 1, 2]) 72 [.sl false false (a0.map (eSN false)), V.i a1, .fn 82 [.loc 0 0]] [(0, .cells 3 [V.i pa])] (.tup [.own 100, V.b r.2]) [(0, .cells 3 [V.i pa]), (100, .vec false 37 5 (r.1.map (eSN true)))] := by
 rw [mi_edit_v3] at h
 refine AC.enter Tryz.func72 rfl (cV 100 (CO.seq' (bB h fun y10 hv14 h => ?_)))
 refine CO.cutR (tl 44 [(0, .sl false false (a0.map (eSN false))), (2, .fn 82 [.loc 0 0]), (20, V.b y10)]) [(0, .cells 3 [V.i pa])] mix (by
  refine wR 1 100 (bB hv14 fun r11 hx15 hv14 => (w0 (mi_TreeOk_ok N a0 hx15) cok51 (wR 2 100 ?_)))
  refine wJ 13 hv14 (fun hv14 => ?_) (fun hv14 => ?_)
  ·refine wR 7 100 ?_
   cases hv14
   exact fS [(0, 0)] [0, 2, 20]
  refine wR 2 100 (wN (eSN false) a0 [] (wR 1 100 (bB hv14 fun r12 hx17 hv14 => (w0 (AC.gs (mi_within_ok a1 0 (wr ((a0.length : Int) - 1)) hx17) (by decide)) cok70 (wR 2 100 ?_)))))
  cases hv14
  exact fS [(0, 0)] [0, 2, 20]
  ) ?_
 refine cI h (fun _ h => ?_) (fun _ h => ?_)
 ·refine bB h fun r14 hx20 h => (CO.sw mix (wR 1 100 (wC (AC.gs (mi_copyNodes_ok N a0 hx20) (by decide)) cok71 [] [(100, 100)] [100] (wR 2 101 (wF (CO.ret ?_))))))
  cases h
  exact eG [(0, 0), (100, 100)] (.inr rfl) (RetV.two rfl (oT (t := 6) (r := .own 100)) (oT (t := 7) (r := V.b false)))
 refine CO.skip (bB h fun r16 hx22 h => (CO.sw mix (wR 2 100 (wN (eSN false) a0 [] (wR 2 100 (wC (AC.gs (mi_edited_v2_ok N a0 (wr ((a0.length : Int) - 1)) pa hx22) (by decide)) cok145 [(0, 0)] [(0, 0), (100, 100)] [100] (wR 1 101 (wF ?_))))))))
 refine CO.seq' ?_
 refine CO.cutR (tl 44 [(0, .sl false false (a0.map (eSN false))), (8, .own 100), (31, V.b ((r16.length : Int) != 1))]) [(100, vX 88 5 eST r16), (0, .cells 3 [V.i pa])] mix (by
  refine wR 1 101 (wN eST r16 [100] (wR 1 101 ?_))
  exact fI
  ) ?_
 refine cI h (fun _ h => ?_) (fun _ h => ?_)
 ·refine bB h fun r20 hx28 h => (CO.sw mix (wR 1 101 (wC (AC.gs (mi_copyNodes_ok N a0 hx28) (by decide)) cok71 [] [(100, 101)] [101] (wR 2 102 (wF (CO.ret ?_))))))
  cases h
  exact eG [(0, 0), (101, 100)] (.inr rfl) (RetV.two rfl (oT (t := 6) (r := .own 101)) (oT (t := 7) (r := V.b false)))
 refine CO.skip (CO.lay (tl 44 [(0, .sl false false (a0.map (eSN false))), (8, sL eST r16), (31, V.b ((r16.length : Int) != 1))]) [(0, .cells 3 [V.i pa])] (LayOk.cons (j := 100) eST eST r16 (by kernel_rfl) (share_encSTree) lO) (by kernel_rfl) (by kernel_rfl) (by kernel_rfl) (bB h fun e25 hx33 h => (bB h fun r26 hx34 h => (CO.sw mix (wR 1 101 (W.ixDr Dk eST hx33 5 (by kernel_rfl) (encSTree_eq e25) (by kernel_rfl) (wR 1 101 (wC (AC.gs (mi_tree__list_ok N e25 hx34) (by decide)) cok92 [] [(100, 101)] [101] ?_))))))))
 refine wR 1 102 (wF (CO.seq' (bB h fun r32 hx41 h => (CO.sw mix (wR 1 102 (W.lend (mi_TreeOk_ok N r26 hx41) cok51 [] [] (LayOk.cons (j := 101) (eSN true) (eSN false) r26 (by kernel_rfl) (sh_eSN _) lO) (.c _) .nil (by kernel_rfl) (by kernel_rfl) (wR 1 102 (wF ?_))))))))
 refine cI h (fun _ h => ?_) (fun _ h => ?_)
 ·refine bB h fun r34 hx44 h => (CO.sw mix (wR 1 102 (wC (AC.gs (mi_copyNodes_ok N a0 hx44) (by decide)) cok71 [] [(100, 102)] [102] (wR 2 103 (wF (CO.ret ?_))))))
  cases h
  exact eG [(0, 0), (102, 100)] (.inr rfl) (RetV.two rfl (oT (t := 6) (r := .own 102)) (oT (t := 7) (r := V.b false)))
 refine CO.skip (cV 102 (CO.ret ?_))
 cases h
 exact eG [(0, 0), (101, 100)] (.inr rfl) (RetV.two rfl (oT (t := 6) (r := .own 101)) (oT (t := 7) (r := V.b true)))

theorem mi_Remove_ok (N : Nat) (a0 : LN) (a1 : Int) {r : (LN × Bool)} (h : mi_Remove N a0 a1 = some r) :
    AC Tryz.prog (GS [0, 1, 2]) 21 [.sl false false (a0.map (eSN false)), V.i a1] [] (.tup [.own 100, V.b r.2]) [(100, .vec false 37 5 (r.1.map (eSN true)))] := by
 rw [mi_Remove] at h
 refine AC.enter Tryz.func21 rfl (cV 100 (CO.seq' (CO.sw mix (wR 2 101 (wN (eSN false) a0 [] (wR 2 101 (wF ?_)))))))
 refine cI h (fun _ h => ?_) (fun _ h => ?_)
 ·refine bB h fun r4 hx6 h => (CO.sw mix (wR 1 101 (wC (AC.gs (mi_copyNodes_ok N a0 hx6) (by decide)) cok71 [] [(100, 101)] [101] (wR 2 102 (wF (CO.ret ?_))))))
  cases h
  exact eG [(101, 100)] (.inr rfl) (RetV.two rfl (oT (t := 4) (r := .own 101)) (oT (t := 5) (r := V.b false)))
 refine CO.skip (bB h fun r6 hx8 h => (CO.sw mix (wR 3 101 (wC (mi_edit_v3_ok N a0 a1 a1 hx8) cok72 [(100, 0)] [(0, 100), (100, 101)] [101] (wR 4 102 (wF (CO.ret ?_)))))))
 have h := sI h
 subst h
 exact eG [(101, 100)] (.inr rfl) (RetV.two rfl (oT (t := 4) (r := .own 101)) (oT (t := 5) (r := V.b r6.2)))

theorem mi_Replace_1_ok (N : Nat) (a0 : Int) (a1 : STree) (pa : Int) (p1_0 : LN) {r : LS} (h : mi_Replace_1 N a0 a1 pa p1_0 = some r) :
    AC Tryz.prog (GS []) 83 [V.i a0, .agg [V.i a1.kind, V.i a1.op, V.s a1.text, V.s a1.other, sL eST a1.kids], .loc 0 0, .loc 1 0] [(0, .cells 3 [V.i pa]), (1, .cells 24 [.sl false false (p1_0.map (eSN false))])] (.own 100) [(0, .cells 3 [V.i pa]), (1, .cells 24 [.sl false false (p1_0.map (eSN false))]), (100, vX 88 5 eST r)] := by
 rw [mi_Replace_1] at h
 refine AC.enter Tryz.func83 rfl (cV 100 (CO.seq' (cV 101 ?_)))
 refine cI h (fun _ h => ?_) (fun _ h => ?_)
 ·refine bB h fun r4 hx6 h => (CO.sw mix (wR 1 101 (w0 (mi_rootOf_ok N p1_0 hx6) cok76 (W.layop Dk lO (by kernel_rfl) 101 { v := .own 101, R := [], new := [(101, .vec true 88 5 [[V.i r4.kind, V.i r4.op, V.s r4.text, V.s r4.other, sL eST r4.kids]])], N := [101] } (by kernel_rfl) (W.vecEq 101 (nn := true) (e := 88) (k := 5) (rows := [[V.i r4.kind, V.i r4.op, V.s r4.text, V.s r4.other, sL eST r4.kids]]) (rows' := [r4].map eST) (by kernel_rfl) (by simp only [List.map_cons, List.map_nil, encSTree_eq]) (wR 1 102 (wF (CO.ret ?_))))))))
  cases h
  exact eG [(0, 0), (1, 1), (101, 100)] (.inr rfl) (RetV.one rfl (oT (t := 6) (r := .own 101)))
 refine CO.skip (CO.sw mix (wR 1 101 (W.layop Dk lO (by kernel_rfl) 101 { v := .own 101, R := [], new := [(101, .vec true 88 5 [[V.i a1.kind, V.i a1.op, V.s a1.text, V.s a1.other, sL eST a1.kids]])], N := [101] } (by kernel_rfl) (W.vecEq 101 (nn := true) (e := 88) (k := 5) (rows := [[V.i a1.kind, V.i a1.op, V.s a1.text, V.s a1.other, sL eST a1.kids]]) (rows' := [a1].map eST) (by kernel_rfl) (by simp only [List.map_cons, List.map_nil, encSTree_eq]) (wR 1 102 (wF (CO.ret ?_)))))))
 cases h
 exact eG [(0, 0), (1, 1), (101, 100)] (.inr rfl) (RetV.one rfl (oT (t := 6) (r := .own 101)))

structure RecOk9 (R : Rec9) : Prop where
 mi_edited_v3 : ∀ (a0 : LN) (a1 : Int) (pa : Int) (p1_0 : LN) (r : LS), R.mi_edited_v3 a0 a1 pa p1_0 = some r → AC Tryz.prog (GS []) 145 [.sl false false (a0.map (eSN false)), V.i a1, .fn 83 [.loc 0 0, .loc 1 0]] [(0, .cells 3 [V.i pa]), (1, .cells 24 [.sl false false (p1_0.map (eSN false))])] (.own 100) [(0, .cells 3 [V.i pa]), (1, .cells 24 [.sl false false (p1_0.map (eSN false))]), (100, vX 88 5 eST r)]

theorem mi_edited_v3_F_ok (N : Nat) (R : Rec9) (HR : RecOk9 R) (a0 : LN) (a1 : Int) (pa : Int) (p1_0 : LN) {r : LS} (h : mi_edited_v3_F N R a0 a1 pa p1_0 = some r) :
    AC Tryz.prog (GS []) 145 [.sl false false (a0.map (eSN false)), V.i a1, .fn 83 [.loc 0 0, .loc 1 0]] [(0, .cells 3 [V.i pa]), (1, .cells 24 [.sl false false (p1_0.map (eSN false))])] (.own 100) [(0, .cells 3 [V.i pa]), (1, .cells 24 [.sl false false (p1_0.map (eSN false))]), (100, vX 88 5 eST r)] := by
 rw [mi_edited_v3_F] at h
 refine AC.enter Tryz.func145 rfl (cV 100 (bB h fun e2 hx2 h => (CO.sw mix (wR 2 100 (wX (eSN false) hx2 5 (wR 3 100 (wF (cV 101 ?_))))))))
 refine CO.seq' (CO.sw mix (wR 2 102 (wN eNI e2.Kids [] (wR 1 102 (wF (CO.block' (CO.loopJ (fun (⟨a0, a1, e2, y63, y64⟩ : (LN × Int × SNode × Int × LS)) => ⟨tl 44 [(0, .sl false false (a0.map (eSN false))), (1, V.i a1), (2, .fn 83 [.loc 0 0, .loc 1 0]), (8, .loc 100 0), (25, sL eNI e2.Kids), (26, V.i (e2.Kids.length : Int)), (27, V.i y63)], [(0, .cells 3 [V.i pa]), (1, .cells 24 [.sl false false (p1_0.map (eSN false))]), (100, .cells 88 [V.i e2.Kind, V.i e2.Op, V.s e2.Text, V.s e2.Other, .own 101]), (101, vX 88 5 eST y64)]⟩) (fun n i => mi_edited_v3_l1 N R pa p1_0 n i = some r) (n0 := N) (i0 := (a0, a1, e2, 0, [])) ((Weak.nilCell 101 4 102 88 5 (ety := 88) (cs := [V.i e2.Kind, V.i e2.Op, V.s e2.Text, V.s e2.Other, .c (.slice none 0 0)]) (by kernel_rfl) (by kernel_rfl) (by kernel_rfl)).trans (wS [(0, 0), (1, 1), (101, 100), (102, 101)] [0, 1, 2, 8, 25, 26, 27])) h (fun i h => by simp [mi_edited_v3_l1] at h) ?_)))))))
 rintro n1 ⟨a0, a1, e2, y63, y64⟩ h83 ih84
 rw [mi_edited_v3_l1] at h83
 refine cV 167 (CO.seq' ?_)
 refine cI h83 (fun _ h83 => ?_) (fun _ h83 => ?_)
 ·refine CO.skip (CO.seq' (CO.block' (bB h83 fun e86 hx94 h83 => (CO.sw mix (wX eNI hx94 1 (wR 2 167 (wF (bB h83 fun r89 hx97 h83 => ?_))))))))
  refine bB h83 fun x90 hx98 h83 => ?_
  refine CO.endR (tl 44 [(0, .sl false false (a0.map (eSN false))), (1, V.i a1), (2, .fn 83 [.loc 0 0, .loc 1 0]), (8, .loc 100 0), (25, sL eNI e2.Kids), (26, V.i (e2.Kids.length : Int)), (27, V.i y63)]) [(100, .cells 88 [V.i e2.Kind, V.i e2.Op, V.s e2.Text, V.s e2.Other, .own 168]), (168, vX 88 5 eST x90), (0, .cells 3 [V.i pa]), (1, .cells 24 [.sl false false (p1_0.map (eSN false))])] mix (by
   refine wR 5 167 (wC (HR.mi_edited_v3 a0 e86 pa p1_0 _ hx97) cok145 [(0, 0), (1, 1)] [(0, 0), (1, 1), (100, 167)] [167] (W.appO Dk eST (a := 101) (c := 167) (el := 88) (sz := 5) 72 hx98 rfl 168 (by kernel_rfl) (wR 2 169 ?_)))
   exact fI
   ) (fun st hw => ?_)
  refine CO.weak hw ?_
  exact cK 169 ih84 (a0, a1, e2, (wr (y63 + 1)), x90) h83 [(0, 0), (1, 1), (100, 100), (168, 101)] [0, 1, 2, 8, 25, 26, 27]
 refine CO.exit (bB h83 fun r92 hx100 h83 => (CO.sw mix (wR 3 167 (wD (mi_Replace_1_ok N a1 (⟨e2.Kind, e2.Op, e2.Text, e2.Other, y64⟩ : STree) pa p1_0 hx100) cok83 [(0, 0), (1, 1)] [(0, 0), (1, 1), (100, 167)] [167] (LayOk.cons (j := 101) eST eST y64 (by kernel_rfl) (share_encSTree) lO) (wR 1 168 (wF (CO.ret ?_)))))))
 cases h83
 exact eG [(0, 0), (1, 1), (167, 100)] (.inr rfl) (RetV.one rfl (oT (t := 6) (r := .own 167)))

theorem scc9_ok : ∀ N, RecOk9 (scc9 N)
 | 0 => ⟨fun _ _ _ _ _ h => (by cases h)⟩
 | N + 1 => ⟨fun a0 a1 pa p1_0 _ h => mi_edited_v3_F_ok N (scc9 N) (scc9_ok N) a0 a1 pa p1_0 h⟩

theorem mi_edited_v3_ok (N : Nat) (a0 : LN) (a1 : Int) (pa : Int) (p1_0 : LN) {r : LS} (h : mi_edited_v3 N a0 a1 pa p1_0 = some r) :
  AC Tryz.prog (GS []) 145 [.sl false false (a0.map (eSN false)), V.i a1, .fn 83 [.loc 0 0, .loc 1 0]] [(0, .cells 3 [V.i pa]), (1, .cells 24 [.sl false false (p1_0.map (eSN false))])] (.own 100) [(0, .cells 3 [V.i pa]), (1, .cells 24 [.sl false false (p1_0.map (eSN false))]), (100, vX 88 5 eST r)] :=
 (scc9_ok N).mi_edited_v3 a0 a1 pa p1_0 r h

end Go.Proofs.Tryz
