/-
 The walks that show that the code computes the models, part 4.
-/
import Derived.Test.YtkfcajnnbhahoaaGreatDoorLgFW3
namespace Go.Proofs.Tryz
open Go.Av
set_option maxRecDepth 100000
set_option maxHeartbeats 8000000
set_option linter.unusedSimpArgs false
set_option linter.unusedVariables false

theorem ms_l7Op_ok (a0 : SNode) {r : Bool} (h : ms_l7Op a0 = some r) :
    AC Tryz.prog (GS []) 133 [.agg [V.i a0.Kind, V.i a0.Op, V.s a0.Text, V.s a0.Other, sL eNI a0.Kids]] [] (V.b r) [] := by
 rw [ms_l7Op] at h
 refine AC.enter Tryz.func133 rfl (cV 100 (CO.seq' (cV 101 (CO.block' ?_))))
 refine CO.join (fun (⟨a0, y13⟩ : (SNode × Bool)) => ⟨tl 64 [(1, .loc 100 0), (4, V.i a0.Kind), (5, V.b y13)], [(100, .cells 37 [V.i a0.Kind, V.i a0.Op, V.s a0.Text, V.s a0.Other, sL eNI a0.Kids])]⟩) (fun i => ms_l7Op_k1 i = some r) ?_ ?_
 · rintro ⟨a0, y13⟩ h32
   rw [ms_l7Op_k1] at h32
   refine cI h32 (fun _ h32 => ?_) (fun _ h32 => ?_)
   ·refine bB h32 fun y14 hv35 h32 => ?_
    refine CO.cutR (tl 64 [(2, V.b y14)]) [] mix (by
     refine wR 4 101 ?_
     refine wJ 11 hv35 (fun hv35 => ?_) (fun hv35 => ?_)
     ·refine wR 5 101 ?_
      cases hv35
      exact fS [] [2]
     refine wR 5 101 ?_
     cases hv35
     exact fS [] [2]
     ) ?_
    cases h32
    exact e1 2 id
   refine cV 101 ?_
   refine cI h32 (fun _ h32 => ?_) (fun _ h32 => ?_)
   ·refine bB h32 fun y15 hv40 h32 => ?_
    refine CO.cutR (tl 64 [(2, V.b y15)]) [] mix (by
     refine wR 4 101 ?_
     refine wJ 21 hv40 (fun hv40 => ?_) (fun hv40 => ?_)
     ·refine wR 10 101 ?_
      cases hv40
      exact fS [] [2]
     refine wR 5 101 ?_
     refine wJ 26 hv40 (fun hv40 => ?_) (fun hv40 => ?_)
     ·refine wR 5 101 ?_
      cases hv40
      exact fS [] [2]
     refine wR 5 101 ?_
     cases hv40
     exact fS [] [2]
     ) ?_
    cases h32
    exact e1 2 id
   refine cV 101 ?_
   refine cI h32 (fun _ h32 => ?_) (fun _ h32 => ?_)
   ·refine bB h32 fun r17 hx45 h32 => (cC 2 101 (ms_l7IsBin_ok a0.Op hx45) cok189 ?_)
    cases h32
    exact e1 2 id
   refine cV 101 ?_
   refine cI h32 (fun _ h32 => ?_) (fun _ h32 => ?_)
   ·refine bB h32 fun r19 hx48 h32 => (cC 2 101 (ms_l7IsAssign_ok a0.Op hx48) cok190 ?_)
    cases h32
    exact e1 2 id
   refine cV 101 ?_
   refine cI h32 (fun _ h32 => ?_) (fun _ h32 => ?_)
   ·refine bB h32 fun r21 hx51 h32 => (cC 2 101 (ms_l1In_ok a0.Op 0 1 hx51) cok77 ?_)
    cases h32
    exact e1 2 id
   refine cV 101 ?_
   refine cI h32 (fun _ h32 => ?_) (fun _ h32 => ?_)
   ·refine bB h32 fun r23 hx54 h32 => (cC 2 101 (ms_l1In_ok a0.Op 1 3 hx54) cok77 ?_)
    cases h32
    exact e1 2 id
   refine cV 101 ?_
   refine cI h32 (fun _ h32 => ?_) (fun _ h32 => ?_)
   ·refine bB h32 fun y24 hv57 h32 => ?_
    refine CO.cutR (tl 64 [(2, V.b y24)]) [] mix (by
     refine wR 4 101 ?_
     refine wJ 56 hv57 (fun hv57 => ?_) (fun hv57 => ?_)
     ·refine wR 5 101 ?_
      cases hv57
      exact fS [] [2]
     refine wR 5 101 ?_
     cases hv57
     exact fS [] [2]
     ) ?_
    cases h32
    exact e1 2 id
   refine CO.skip (cV 101 ?_)
   cases h32
   exact e1 2 id
 intro hk59
 refine cV 101 ?_
 refine cI h (fun _ h => ?_) (fun _ h => ?_)
 ·exact sK hk59 (a0, (a0.Kind == 9)) h [(100, 100)] [1, 4, 5]
 exact cK 101 hk59 (a0, (a0.Kind == 10)) h [(100, 100)] [1, 4, 5]

theorem ms_IsLetter_ok (a0 : Int) {r : Bool} (h : ms_IsLetter a0 = some r) :
    AC Tryz.prog (GS []) 258 [V.i a0] [] (V.b r) [] := by
 rw [ms_IsLetter] at h
 refine AC.enter Tryz.func258 rfl (cV 100 (bB h fun y3 hv5 h => ?_))
 refine CO.cutR (tl 13 [(2, V.b y3)]) [] mix (by
  refine wR 1 100 (bB hv5 fun r4 hx6 hv5 => (w0 (ms_l1In_ok a0 97 122 hx6) cok77 (wR 1 100 ?_)))
  refine wJ 5 hv5 (fun hv5 => ?_) (fun hv5 => ?_)
  ·refine wR 8 100 ?_
   cases hv5
   exact fS [] [2]
  refine wR 1 100 (bB hv5 fun r5 hx8 hv5 => (w0 (ms_l1In_ok a0 65 90 hx8) cok77 (wR 2 100 ?_)))
  refine wJ 9 hv5 (fun hv5 => ?_) (fun hv5 => ?_)
  ·refine wR 4 100 ?_
   cases hv5
   exact fS [] [2]
  refine wR 4 100 ?_
  cases hv5
  exact fS [] [2]
  ) ?_
 cases h
 exact e1 2 id

theorem ms_IsDigit_ok (a0 : Int) {r : Bool} (h : ms_IsDigit a0 = some r) :
    AC Tryz.prog (GS []) 287 [V.i a0] [] (V.b r) [] := by
 rw [ms_IsDigit] at h
 refine AC.enter Tryz.func287 rfl (cV 100 (bB h fun r2 hx2 h => (cC 1 100 (ms_l1In_ok a0 48 57 hx2) cok77 ?_)))
 cases h
 exact e1 2 id

theorem ms_IsWordByte_ok (a0 : Int) {r : Bool} (h : ms_IsWordByte a0 = some r) :
    AC Tryz.prog (GS []) 257 [V.i a0] [] (V.b r) [] := by
 rw [ms_IsWordByte] at h
 refine AC.enter Tryz.func257 rfl (cV 100 (bB h fun y3 hv4 h => ?_))
 refine CO.cutR (tl 9 [(2, V.b y3)]) [] mix (by
  refine wR 1 100 (bB hv4 fun r4 hx5 hv4 => (w0 (ms_IsLetter_ok a0 hx5) cok258 (wR 1 100 ?_)))
  refine wJ 5 hv4 (fun hv4 => ?_) (fun hv4 => ?_)
  ·refine wR 4 100 ?_
   cases hv4
   exact fS [] [2]
  refine wR 1 100 (bB hv4 fun r5 hx7 hv4 => (w0 (ms_IsDigit_ok a0 hx7) cok287 (wR 2 100 ?_)))
  cases hv4
  exact fS [] [2]
  ) ?_
 cases h
 exact e1 2 id

theorem ms_NameShape_ok (N : Nat) (a0 : LU) {r : Bool} (h : ms_NameShape N a0 = some r) :
    AC Tryz.prog (GS []) 228 [V.s a0] [] (V.b r) [] := by
 rw [ms_NameShape] at h
 refine AC.enter Tryz.func228 rfl (cV 100 (CO.seq' (cV 100 (CO.block' (CO.loopJ (fun (⟨a0, y35⟩ : (LU × Int)) => ⟨tl 25 [(0, V.s a0), (3, V.i y35)], []⟩) (fun n i => ms_NameShape_l1 N n i = some r) (n0 := N) (i0 := (a0, 0)) (wS [] [0, 3]) h (fun i h => by simp [ms_NameShape_l1] at h) ?_)))))
 rintro n1 ⟨a0, y35⟩ h63 ih64
 rw [ms_NameShape_l1] at h63
 refine CO.seq' (cV 160 ?_)
 refine cI h63 (fun _ h63 => ?_) (fun _ h63 => ?_)
 ·refine CO.skip (CO.seq' (CO.block' (bB h63 fun b51 hx74 h63 => (bB h63 fun r52 hx75 h63 => (CO.sw mix (wR 2 160 (W.ixS Dk hx74 (by kernel_rfl) (wR 1 160 ?_))))))))
  refine w0 (ms_IsWordByte_ok (wr ((b51).toNat : Int)) hx75) cok257 (wR 1 160 (wF ?_))
  refine cI h63 (fun _ h63 => ?_) (fun _ h63 => ?_)
  ·refine cV 160 ?_
   cases h63
   exact e1 2 id
  refine CO.skip ?_
  exact cK 160 ih64 (a0, (wr (y35 + 1))) h63 [] [0, 3]
 refine CO.exit (bB h63 fun y56 hv81 h63 => ?_)
 refine CO.cutR (tl 25 [(2, V.b y56)]) [] mix (by
  refine wR 2 160 (bB hv81 fun r57 hx82 hv81 => (w0 (ms_l1In_ok (a0.length : Int) 1 12 hx82) cok77 (wR 1 160 ?_)))
  refine wJ 19 hv81 (fun hv81 => ?_) (fun hv81 => ?_)
  ·refine wR 1 160 (bB hv81 fun b58 hx84 hv81 => (W.ixS Dk hx84 (by kernel_rfl) (wR 1 160 (bB hv81 fun r59 hx85 hv81 => (w0 (ms_IsLetter_ok (wr ((b58).toNat : Int)) hx85) cok258 (wR 2 160 ?_))))))
   cases hv81
   exact fS [] [2]
  refine wR 6 160 ?_
  cases hv81
  exact fS [] [2]
  ) ?_
 cases h63
 exact e1 2 id

theorem ms_l3Words_ok {r : LLU} (h : ms_l3Words = some r) :
    AC Tryz.prog (GS []) 259 [] [] (.own 100) [(100, vN r)] := by
 rw [ms_l3Words] at h
 refine AC.enter Tryz.func259 rfl (cV 100 (cV 100 (CO.ret ?_)))
 cases h
 exact eG [(100, 100)] (.inr rfl) (RetV.one rfl (oT (t := 0) (r := .own 100)))

theorem ms_l3Find_ok (N : Nat) (a0 : LLU) (a1 : LU) {r : Int} (h : ms_l3Find N a0 a1 = some r) :
    AC Tryz.prog (GS []) 235 [sL eNS a0, V.s a1] [] (V.i r) [] := by
 rw [ms_l3Find] at h
 refine AC.enter Tryz.func235 rfl (cV 100 (CO.seq' (cV 100 (CO.block' (CO.loopJ (fun (⟨a0, a1, y19⟩ : (LLU × LU × Int)) => ⟨tl 19 [(0, sL eNS a0), (1, V.s a1), (5, V.i y19)], []⟩) (fun n i => ms_l3Find_l1 N n i = some r) (n0 := N) (i0 := (a0, a1, 0)) (wS [] [0, 1, 5]) h (fun i h => by simp [ms_l3Find_l1] at h) ?_)))))
 rintro n1 ⟨a0, a1, y19⟩ h43 ih44
 rw [ms_l3Find_l1] at h43
 refine CO.seq' (CO.sw mix (wR 2 160 (wN eNS a0 [] (wR 1 160 (wF ?_)))))
 refine cI h43 (fun _ h43 => ?_) (fun _ h43 => ?_)
 ·refine CO.skip (CO.seq' (CO.block' (bB h43 fun e28 hx51 h43 => (CO.sw mix (wR 2 160 (wX eNS hx51 1 (wR 3 160 (wF ?_))))))))
  refine cI h43 (fun _ h43 => ?_) (fun _ h43 => ?_)
  ·refine cV 160 ?_
   cases h43
   exact e1 4 id
  refine CO.skip ?_
  exact cK 160 ih44 (a0, a1, (wr (y19 + 1))) h43 [] [0, 1, 5]
 refine CO.exit (cV 160 ?_)
 cases h43
 exact e1 4 id

theorem ms_KeywordOf_ok (N : Nat) (a0 : LU) {r : Int} (h : ms_KeywordOf N a0 = some r) :
    AC Tryz.prog (GS []) 229 [V.s a0] [] (V.i r) [] := by
 rw [ms_KeywordOf] at h
 refine AC.enter Tryz.func229 rfl (cV 100 (bB h fun r3 hx3 h => (bB h fun r4 hx4 h => (CO.sw mix (wC (ms_l3Words_ok  hx3) cok259 [] [(100, 100)] [100] (wR 1 101 (W.lend (ms_l3Find_ok N r3 a0 hx4) cok235 [] [] (LayOk.cons (j := 100) eNS eNS r3 (by kernel_rfl) (fun _ => rfl) lO) (.c _) .nil (by kernel_rfl) (by kernel_rfl) (wR 1 101 ?_))))))))
 refine wF (CO.seq' (cV 101 ?_))
 refine cI h (fun _ h => ?_) (fun _ h => ?_)
 ·refine cV 101 ?_
  cases h
  exact e1 2 id
 refine CO.skip (cV 101 ?_)
 cases h
 exact e1 2 id

theorem ms_l3Builtins_ok {r : LLU} (h : ms_l3Builtins = some r) :
    AC Tryz.prog (GS []) 236 [] [] (.own 100) [(100, vN r)] := by
 rw [ms_l3Builtins] at h
 refine AC.enter Tryz.func236 rfl (cV 100 (cV 100 (CO.ret ?_)))
 cases h
 exact eG [(100, 100)] (.inr rfl) (RetV.one rfl (oT (t := 0) (r := .own 100)))

theorem ms_IsBuiltin_ok (N : Nat) (a0 : LU) {r : Bool} (h : ms_IsBuiltin N a0 = some r) :
    AC Tryz.prog (GS []) 193 [V.s a0] [] (V.b r) [] := by
 rw [ms_IsBuiltin] at h
 refine AC.enter Tryz.func193 rfl (cV 100 (bB h fun r3 hx3 h => (bB h fun r4 hx4 h => (CO.sw mix (wC (ms_l3Builtins_ok  hx3) cok236 [] [(100, 100)] [100] (wR 1 101 (W.lend (ms_l3Find_ok N r3 a0 hx4) cok235 [] [] (LayOk.cons (j := 100) eNS eNS r3 (by kernel_rfl) (fun _ => rfl) lO) (.c _) .nil (by kernel_rfl) (by kernel_rfl) (wR 2 101 ?_))))))))
 refine wF ?_
 cases h
 exact e1 2 id

theorem ms_NameOk_ok (N : Nat) (a0 : LU) {r : Bool} (h : ms_NameOk N a0 = some r) :
    AC Tryz.prog (GS []) 191 [V.s a0] [] (V.b r) [] := by
 rw [ms_NameOk] at h
 refine AC.enter Tryz.func191 rfl (cV 100 (bB h fun y4 hv6 h => ?_))
 refine CO.cutR (tl 15 [(2, V.b y4)]) [] mix (by
  refine wR 1 100 (bB hv6 fun r5 hx7 hv6 => (w0 (ms_NameShape_ok N a0 hx7) cok228 (wR 1 100 ?_)))
  refine wJ 5 hv6 (fun hv6 => ?_) (fun hv6 => ?_)
  ·refine wR 1 100 (bB hv6 fun r6 hx9 hv6 => (w0 (ms_KeywordOf_ok N a0 hx9) cok229 (wR 3 100 ?_)))
   refine wJ 10 hv6 (fun hv6 => ?_) (fun hv6 => ?_)
   ·refine wR 1 100 (bB hv6 fun r7 hx11 hv6 => (w0 (ms_IsBuiltin_ok N a0 hx11) cok193 (wR 3 100 ?_)))
    cases hv6
    exact fS [] [2]
   refine wR 5 100 ?_
   cases hv6
   exact fS [] [2]
  refine wR 10 100 ?_
  cases hv6
  exact fS [] [2]
  ) ?_
 cases h
 exact e1 2 id

theorem ms_l4Plain_ok (N : Nat) (a0 : LU) {r : Bool} (h : ms_l4Plain N a0 = some r) :
    AC Tryz.prog (GS []) 230 [V.s a0] [] (V.b r) [] := by
 rw [ms_l4Plain] at h
 refine AC.enter Tryz.func230 rfl (cV 100 (CO.seq' (cV 100 (CO.block' (CO.loopJ (fun (⟨a0, y19⟩ : (LU × Int)) => ⟨tl 14 [(0, V.s a0), (3, V.i y19)], []⟩) (fun n i => ms_l4Plain_l1 N n i = some r) (n0 := N) (i0 := (a0, 0)) (wS [] [0, 3]) h (fun i h => by simp [ms_l4Plain_l1] at h) ?_)))))
 rintro n1 ⟨a0, y19⟩ h43 ih44
 rw [ms_l4Plain_l1] at h43
 refine CO.seq' (cV 160 ?_)
 refine cI h43 (fun _ h43 => ?_) (fun _ h43 => ?_)
 ·refine CO.skip (CO.seq' (CO.block' (bB h43 fun b28 hx51 h43 => (CO.sw mix (wR 2 160 (W.ixS Dk hx51 (by kernel_rfl) (wR 1 160 (wF ?_))))))))
  refine cI h43 (fun _ h43 => ?_) (fun _ h43 => ?_)
  ·refine cV 160 ?_
   cases h43
   exact e1 2 id
  refine CO.skip ?_
  exact cK 160 ih44 (a0, (wr (y19 + 1))) h43 [] [0, 3]
 refine CO.exit (cV 160 ?_)
 cases h43
 exact e1 2 id

theorem ms_l4Byte_ok (a0 : LU) (a1 : Int) {r : Int} (h : ms_l4Byte a0 a1 = some r) :
    AC Tryz.prog (GS []) 261 [V.s a0, V.i a1] [] (V.i r) [] := by
 rw [ms_l4Byte] at h
 refine AC.enter Tryz.func261 rfl (cV 100 (CO.seq' (bB h fun y2 hv6 h => ?_)))
 refine CO.cutR (tl 17 [(0, V.s a0), (1, V.i a1), (12, V.b y2)]) [] mix (by
  refine wR 3 100 ?_
  refine wJ 7 hv6 (fun hv6 => ?_) (fun hv6 => ?_)
  ·refine wR 5 100 ?_
   cases hv6
   exact fS [] [0, 1, 12]
  refine wR 5 100 ?_
  cases hv6
  exact fS [] [0, 1, 12]
  ) ?_
 refine cI h (fun _ h => ?_) (fun _ h => ?_)
 ·refine cV 100 ?_
  cases h
  exact e1 4 id
 refine CO.skip (bB h fun b4 hx10 h => (CO.sw mix (wR 2 100 (W.ixS Dk hx10 (by kernel_rfl) (wR 2 100 (wF ?_))))))
 cases h
 exact e1 4 id

theorem ms_l4Digits_ok (N : Nat) (a0 : LU) (a1 : Int) {r : Int} (h : ms_l4Digits N a0 a1 = some r) :
    AC Tryz.prog (GS []) 260 [V.s a0, V.i a1] [] (V.i r) [] := by
 rw [ms_l4Digits] at h
 refine AC.enter Tryz.func260 rfl (cV 100 (CO.seq' (CO.block' (CO.loopJ (fun (⟨a0, a1⟩ : (LU × Int)) => ⟨tl 12 [(0, V.s a0), (1, V.i a1)], []⟩) (fun n i => ms_l4Digits_l1 N n i = some r) (n0 := N) (i0 := (a0, a1)) (wS [] [0, 1]) h (fun i h => by simp [ms_l4Digits_l1] at h) ?_))))
 rintro n1 ⟨a0, a1⟩ h33 ih34
 rw [ms_l4Digits_l1] at h33
 refine CO.seq' (bB h33 fun r33 hx42 h33 => (bB h33 fun r34 hx43 h33 => (CO.sw mix (wR 2 140 (w0 (ms_l4Byte_ok a0 a1 hx42) cok261 (w0 (ms_IsDigit_ok r33 hx43) cok287 (wF ?_)))))))
 refine cI h33 (fun _ h33 => ?_) (fun _ h33 => ?_)
 ·refine CO.skip (CO.block' ?_)
  exact cK 140 ih34 (a0, (wr (a1 + 1))) h33 [] [0, 1]
 refine CO.exit (cV 140 ?_)
 cases h33
 exact e1 4 id

theorem ms_NumEnd_ok (N : Nat) (a0 : LU) (a1 : Int) {r : Int} (h : ms_NumEnd N a0 a1 = some r) :
    AC Tryz.prog (GS []) 231 [V.s a0, V.i a1] [] (V.i r) [] := by
 rw [ms_NumEnd] at h
 refine AC.enter Tryz.func231 rfl (cV 100 (CO.seq' (cV 100 ?_)))
 refine cI h (fun _ h => ?_) (fun _ h => ?_)
 ·refine cV 100 ?_
  cases h
  exact e1 4 id
 refine CO.skip (bB h fun r2 hx4 h => (cC 2 100 (ms_l4Digits_ok N a0 a1 hx4) cok260 ?_))
 refine CO.join (fun (⟨a0, a1, y9⟩ : (LU × Int × Int)) => ⟨tl 67 [(0, V.s a0), (1, V.i a1), (5, V.i y9)], []⟩) (fun i => ms_NumEnd_k1 N i = some r) ?_ ?_
 · rintro ⟨a0, a1, y9⟩ h18
   rw [ms_NumEnd_k1] at h18
   refine CO.seq' (cV 100 ?_)
   refine cI h18 (fun _ h18 => ?_) (fun _ h18 => ?_)
   ·refine cV 100 ?_
    cases h18
    exact e1 4 id
   refine CO.skip ?_
   refine CO.join (fun (y9 : Int) => ⟨tl 67 [(5, V.i y9)], []⟩) (fun i => ms_NumEnd_k2 N i = some r) ?_ ?_
   · rintro y9 h52
     rw [ms_NumEnd_k2] at h52
     refine cV 100 ?_
     cases h52
     exact e1 4 id
   intro hk53
   refine bB h18 fun y32 hv57 h18 => ?_
   refine CO.cutR (tl 67 [(0, V.s a0), (5, V.i y9), (43, V.b y32)]) [] mix (by
    refine wR 2 100 (bB hv57 fun r33 hx58 hv57 => (w0 (ms_l4Byte_ok a0 y9 hx58) cok261 (wR 2 100 ?_)))
    refine wJ 38 hv57 (fun hv57 => ?_) (fun hv57 => ?_)
    ·refine wR 5 100 ?_
     cases hv57
     exact fS [] [0, 5, 43]
    refine wR 2 100 (bB hv57 fun r34 hx60 hv57 => (w0 (ms_l4Byte_ok a0 y9 hx60) cok261 (wR 2 100 ?_)))
    cases hv57
    exact fS [] [0, 5, 43]
    ) ?_
   refine cI h18 (fun _ h18 => ?_) (fun _ h18 => ?_)
   ·refine cV 100 ?_
    refine CO.join (fun (⟨a0, y9, y40⟩ : (LU × Int × Int)) => ⟨tl 67 [(0, V.s a0), (5, V.i y9), (7, V.i y40)], []⟩) (fun i => ms_NumEnd_k3 N i = some r) ?_ ?_
    · rintro ⟨a0, y9, y40⟩ h70
      rw [ms_NumEnd_k3] at h70
      refine bB h70 fun r42 hx72 h70 => (cC 2 100 (ms_l4Digits_ok N a0 y40 hx72) cok260 ?_)
      refine cI h70 (fun _ h70 => ?_) (fun _ h70 => ?_)
      ·refine bB h70 fun r44 hx75 h70 => (cC 2 100 (ms_l4Digits_ok N a0 y40 hx75) cok260 ?_)
       cases h70
       exact e1 4 id
      exact sK hk53 y9 h70 [] [5]
    intro hk76
    refine bB h18 fun y47 hv80 h18 => ?_
    refine CO.cutR (tl 67 [(0, V.s a0), (5, V.i y9), (7, V.i (wr (y9 + 1))), (55, V.b y47)]) [] mix (by
     refine wR 2 100 (bB hv80 fun r48 hx81 hv80 => (w0 (ms_l4Byte_ok a0 (wr (y9 + 1)) hx81) cok261 (wR 2 100 ?_)))
     refine wJ 50 hv80 (fun hv80 => ?_) (fun hv80 => ?_)
     ·refine wR 5 100 ?_
      cases hv80
      exact fS [] [0, 5, 7, 55]
     refine wR 2 100 (bB hv80 fun r49 hx83 hv80 => (w0 (ms_l4Byte_ok a0 (wr (y9 + 1)) hx83) cok261 (wR 2 100 ?_)))
     cases hv80
     exact fS [] [0, 5, 7, 55]
     ) ?_
    refine cI h18 (fun _ h18 => ?_) (fun _ h18 => ?_)
    ·exact cK 100 hk76 (a0, y9, (wr ((wr (y9 + 1)) + 1))) h18 [] [0, 5, 7]
    exact sK hk76 (a0, y9, (wr (y9 + 1))) h18 [] [0, 5, 7]
   exact sK hk53 y9 h18 [] [5]
 intro hk85
 refine bB h fun r51 hx87 h => (cC 2 100 (ms_l4Byte_ok a0 r2 hx87) cok261 ?_)
 refine cI h (fun _ h => ?_) (fun _ h => ?_)
 ·refine bB h fun r53 hx90 h => (cC 3 100 (ms_l4Digits_ok N a0 (wr (r2 + 1)) hx90) cok260 (CO.seq' (bB h fun y55 hv96 h => ?_)))
  refine CO.cutR (tl 67 [(0, V.s a0), (1, V.i a1), (6, V.i r53), (29, V.b y55)]) [] mix (by
   refine wR 4 100 ?_
   refine wJ 24 hv96 (fun hv96 => ?_) (fun hv96 => ?_)
   ·refine wR 5 100 ?_
    cases hv96
    exact fS [] [0, 1, 6, 29]
   refine wR 5 100 ?_
   cases hv96
   exact fS [] [0, 1, 6, 29]
   ) ?_
  refine cI h (fun _ h => ?_) (fun _ h => ?_)
  ·refine cV 100 ?_
   cases h
   exact e1 4 id
  refine CO.skip ?_
  exact cK 100 hk85 (a0, a1, r53) h [] [0, 1, 5]
 exact sK hk85 (a0, a1, r2) h [] [0, 1, 5]

theorem ms_l4Quoted_ok (N : Nat) (a0 : LU) (a1 : Int) (a2 : Int) {r : Int} (h : ms_l4Quoted N a0 a1 a2 = some r) :
    AC Tryz.prog (GS []) 262 [V.s a0, V.i a1, V.i a2] [] (V.i r) [] := by
 rw [ms_l4Quoted] at h
 refine AC.enter Tryz.func262 rfl (cV 100 (CO.seq' (bB h fun r4 hx5 h => (cC 2 100 (ms_l4Byte_ok a0 a1 hx5) cok261 ?_))))
 refine cI h (fun _ h => ?_) (fun _ h => ?_)
 ·refine cV 100 ?_
  cases h
  exact e1 6 id
 refine CO.skip (CO.seq' (cV 100 (CO.block' (CO.loopJ (fun (⟨a0, a2, y43⟩ : (LU × Int × Int)) => ⟨tl 40 [(0, V.s a0), (2, V.i a2), (7, V.i y43)], []⟩) (fun n i => ms_l4Quoted_l1 N n i = some r) (n0 := N) (i0 := (a0, a2, (wr (a1 + 1)))) (wS [] [0, 2, 7]) h (fun i h => by simp [ms_l4Quoted_l1] at h) ?_))))
 rintro n1 ⟨a0, a2, y43⟩ h109 ih110
 rw [ms_l4Quoted_l1] at h109
 refine CO.seq' (cV 160 ?_)
 refine cI h109 (fun _ h109 => ?_) (fun _ h109 => ?_)
 ·refine CO.skip ?_
  refine CO.join (fun (⟨a0, a2, y58⟩ : (LU × Int × Int)) => ⟨tl 40 [(0, V.s a0), (2, V.i a2), (7, V.i y58)], []⟩) (fun i => ms_l4Quoted_k2 N (ms_l4Quoted_l1 N n1) i = some r) ?_ ?_
  · rintro ⟨a0, a2, y58⟩ h121
    rw [ms_l4Quoted_k2] at h121
    exact cK 160 ih110 (a0, a2, (wr (y58 + 1))) h121 [] [0, 2, 7]
  intro hk122
  refine CO.block' (bB h109 fun b60 hx124 h109 => (CO.sw mix (wR 2 160 (W.ixS Dk hx124 (by kernel_rfl) (wR 1 160 (wF (CO.block' (cV 160 ?_))))))))
  refine cI h109 (fun _ h109 => ?_) (fun _ h109 => ?_)
  ·refine cV 160 ?_
   cases h109
   exact e1 6 id
  refine cV 160 ?_
  refine cI h109 (fun _ h109 => ?_) (fun _ h109 => ?_)
  ·refine cV 160 ?_
   cases h109
   exact e1 6 id
  refine cV 160 ?_
  refine cI h109 (fun _ h109 => ?_) (fun _ h109 => ?_)
  ·refine cV 160 (bB h109 fun r62 hx129 h109 => (cC 2 160 (ms_l4Byte_ok a0 (wr (y43 + 1)) hx129) cok261 ?_))
   refine cI h109 (fun _ h109 => ?_) (fun _ h109 => ?_)
   ·refine cV 160 ?_
    cases h109
    exact e1 6 id
   exact sK hk122 (a0, a2, (wr (y43 + 1))) h109 [] [0, 2, 7]
  exact sK hk122 (a0, a2, y43) h109 [] [0, 2, 7]
 refine CO.exit (cV 160 ?_)
 cases h109
 exact e1 6 id

theorem ms_StrEnd_ok (N : Nat) (a0 : LU) (a1 : Int) {r : Int} (h : ms_StrEnd N a0 a1 = some r) :
    AC Tryz.prog (GS []) 232 [V.s a0, V.i a1] [] (V.i r) [] := by
 rw [ms_StrEnd] at h
 refine AC.enter Tryz.func232 rfl (cV 100 (bB h fun r2 hx2 h => (cC 2 100 (ms_l4Quoted_ok N a0 a1 34 hx2) cok262 ?_)))
 cases h
 exact e1 4 id

theorem ms_EreEnd_ok (N : Nat) (a0 : LU) (a1 : Int) {r : Int} (h : ms_EreEnd N a0 a1 = some r) :
    AC Tryz.prog (GS []) 233 [V.s a0, V.i a1] [] (V.i r) [] := by
 rw [ms_EreEnd] at h
 refine AC.enter Tryz.func233 rfl (cV 100 (bB h fun r2 hx2 h => (cC 2 100 (ms_l4Quoted_ok N a0 a1 47 hx2) cok262 (CO.seq' (cV 100 ?_)))))
 refine cI h (fun _ h => ?_) (fun _ h => ?_)
 ·refine cV 100 ?_
  cases h
  exact e1 4 id
 refine CO.skip (cV 100 ?_)
 cases h
 exact e1 4 id

theorem ms_l3Signs_ok {r : LLU} (h : ms_l3Signs = some r) :
    AC Tryz.prog (GS []) 263 [] [] (.own 100) [(100, vN r)] := by
 rw [ms_l3Signs] at h
 refine AC.enter Tryz.func263 rfl (cV 100 (cV 100 (CO.ret ?_)))
 cases h
 exact eG [(100, 100)] (.inr rfl) (RetV.one rfl (oT (t := 0) (r := .own 100)))

theorem ms_SpellOf_ok (a0 : Int) {r : LU} (h : ms_SpellOf a0 = some r) :
    AC Tryz.prog (GS []) 234 [V.i a0] [] (V.s r) [] := by
 rw [ms_SpellOf] at h
 refine AC.enter Tryz.func234 rfl (cV 100 (CO.seq' (CO.block' (cV 100 ?_))))
 refine cI h (fun _ h => ?_) (fun _ h => ?_)
 ·refine cV 100 ?_
  cases h
  exact e1 2 id
 refine bB h fun r14 hx18 h => (cC 1 100 (ms_l1In_ok a0 10 26 hx18) cok77 ?_)
 refine cI h (fun _ h => ?_) (fun _ h => ?_)
 ·refine bB h fun r17 hx22 h => (bB h fun e18 hx23 h => (CO.sw mix (wC (ms_l3Words_ok  hx22) cok259 [] [(100, 100)] [100] (wR 2 101 (W.ixO Dk eNS hx23 100 1 (by kernel_rfl) (W.ldO Dk eNS hx23 9 100 0 (V.s e18) (by kernel_rfl) (by kernel_rfl) (wR 1 101 (wF ?_))))))))
  cases h
  exact e1 2 id
 refine bB h fun r20 hx25 h => (cC 1 100 (ms_l1In_ok a0 30 68 hx25) cok77 ?_)
 refine cI h (fun _ h => ?_) (fun _ h => ?_)
 ·refine bB h fun r23 hx29 h => (bB h fun e24 hx30 h => (CO.sw mix (wC (ms_l3Signs_ok  hx29) cok263 [] [(100, 100)] [100] (wR 2 101 (W.ixO Dk eNS hx30 100 1 (by kernel_rfl) (W.ldO Dk eNS hx30 9 100 0 (V.s e24) (by kernel_rfl) (by kernel_rfl) (wR 1 101 (wF ?_))))))))
  cases h
  exact e1 2 id
 refine CO.skip (cV 100 ?_)
 cases h
 exact e1 2 id

theorem ms_TokenOk_ok (N : Nat) (a0 : SToken) {r : Bool} (h : ms_TokenOk N a0 = some r) :
    AC Tryz.prog (GS []) 192 [.agg [V.i a0.Kind, V.s a0.Text, V.i a0.At]] [] (V.b r) [] := by
 rw [ms_TokenOk] at h
 refine AC.enter Tryz.func192 rfl (cV 100 (cV 101 (CO.seq' (cV 101 (CO.block' (cV 101 ?_))))))
 refine cI h (fun _ h => ?_) (fun _ h => ?_)
 ·refine bB h fun y20 hv38 h => ?_
  refine CO.cutR (tl 71 [(2, V.b y20)]) [] mix (by
   refine wR 3 101 ?_
   refine wJ 13 hv38 (fun hv38 => ?_) (fun hv38 => ?_)
   ·refine wR 2 101 (bB hv38 fun b21 hx40 hv38 => (W.ixS Dk hx40 (by kernel_rfl) (wR 3 101 ?_)))
    refine wJ 19 hv38 (fun hv38 => ?_) (fun hv38 => ?_)
    ·refine wR 2 101 (bB hv38 fun r22 hx42 hv38 => (w0 (ms_l4Plain_ok N a0.Text hx42) cok230 (wR 2 101 ?_)))
     cases hv38
     exact fS [] [2]
    refine wR 5 101 ?_
    cases hv38
    exact fS [] [2]
   refine wR 11 101 ?_
   cases hv38
   exact fS [] [2]
   ) ?_
  cases h
  exact e1 2 id
 refine cV 101 ?_
 refine cI h (fun _ h => ?_) (fun _ h => ?_)
 ·refine bB h fun y24 hv46 h => ?_
  refine CO.cutR (tl 71 [(2, V.b y24)]) [] mix (by
   refine wR 3 101 ?_
   refine wJ 28 hv46 (fun hv46 => ?_) (fun hv46 => ?_)
   ·refine wR 2 101 (bB hv46 fun r25 hx48 hv46 => (w0 (ms_NumEnd_ok N a0.Text 0 hx48) cok231 (wR 4 101 ?_)))
    cases hv46
    exact fS [] [2]
   refine wR 7 101 ?_
   cases hv46
   exact fS [] [2]
   ) ?_
  cases h
  exact e1 2 id
 refine cV 101 ?_
 refine cI h (fun _ h => ?_) (fun _ h => ?_)
 ·refine bB h fun r27 hx51 h => (cC 2 101 (ms_StrEnd_ok N a0.Text 0 hx51) cok232 ?_)
  cases h
  exact e1 2 id
 refine cV 101 ?_
 refine cI h (fun _ h => ?_) (fun _ h => ?_)
 ·refine bB h fun r29 hx54 h => (cC 2 101 (ms_EreEnd_ok N a0.Text 0 hx54) cok233 ?_)
  cases h
  exact e1 2 id
 refine CO.join (fun (⟨a0, y30⟩ : (SToken × Bool)) => ⟨tl 71 [(1, .loc 100 0), (8, V.i a0.Kind), (49, V.b y30)], [(100, .cells 167 [V.i a0.Kind, V.s a0.Text, V.i a0.At])]⟩) (fun i => ms_TokenOk_k1 N i = some r) ?_ ?_
 · rintro ⟨a0, y30⟩ h56
   rw [ms_TokenOk_k1] at h56
   refine cI h56 (fun _ h56 => ?_) (fun _ h56 => ?_)
   ·refine bB h56 fun r32 hx59 h56 => (cC 2 101 (ms_NameOk_ok N a0.Text hx59) cok191 ?_)
    cases h56
    exact e1 2 id
   refine cV 101 ?_
   refine cI h56 (fun _ h56 => ?_) (fun _ h56 => ?_)
   ·refine bB h56 fun r34 hx62 h56 => (cC 2 101 (ms_IsBuiltin_ok N a0.Text hx62) cok193 ?_)
    cases h56
    exact e1 2 id
   refine CO.skip (bB h56 fun y36 hv65 h56 => ?_)
   refine CO.cutR (tl 71 [(2, V.b y36)]) [] mix (by
    refine wR 4 101 ?_
    refine wJ 63 hv65 (fun hv65 => ?_) (fun hv65 => ?_)
    ·refine wR 2 101 (bB hv65 fun r37 hx67 hv65 => (w0 (ms_SpellOf_ok a0.Kind hx67) cok234 (wR 5 101 ?_)))
     cases hv65
     exact fS [] [2]
    refine wR 8 101 ?_
    cases hv65
    exact fS [] [2]
    ) ?_
   cases h56
   exact e1 2 id
 intro hk68
 refine cV 101 ?_
 refine cI h (fun _ h => ?_) (fun _ h => ?_)
 ·exact sK hk68 (a0, (a0.Kind == 6)) h [(100, 100)] [1, 8, 49]
 exact cK 101 hk68 (a0, (a0.Kind == 7)) h [(100, 100)] [1, 8, 49]

theorem ms_l7Text_ok (N : Nat) (a0 : SNode) {r : Bool} (h : ms_l7Text N a0 = some r) :
    AC Tryz.prog (GS []) 134 [.agg [V.i a0.Kind, V.i a0.Op, V.s a0.Text, V.s a0.Other, sL eNI a0.Kids]] [] (V.b r) [] := by
 rw [ms_l7Text] at h
 refine AC.enter Tryz.func134 rfl (cV 100 (CO.seq' (cV 101 (CO.block' ?_))))
 refine CO.join (fun (⟨a0, y26⟩ : (SNode × Bool)) => ⟨tl 117 [(1, .loc 100 0), (4, V.i a0.Kind), (5, V.b y26)], [(100, .cells 37 [V.i a0.Kind, V.i a0.Op, V.s a0.Text, V.s a0.Other, sL eNI a0.Kids])]⟩) (fun i => ms_l7Text_k1 N i = some r) ?_ ?_
 · rintro ⟨a0, y26⟩ h72
   rw [ms_l7Text_k1] at h72
   refine cI h72 (fun _ h72 => ?_) (fun _ h72 => ?_)
   ·refine bB h72 fun y28 hv76 h72 => ?_
    refine CO.cutR (tl 117 [(2, V.b y28)]) [] mix (by
     refine wR 2 101 (bB hv76 fun r29 hx77 hv76 => (w0 (ms_NameOk_ok N a0.Text hx77) cok191 (wR 1 101 ?_)))
     refine wJ 15 hv76 (fun hv76 => ?_) (fun hv76 => ?_)
     ·refine wR 5 101 ?_
      cases hv76
      exact fS [] [2]
     refine wR 5 101 ?_
     cases hv76
     exact fS [] [2]
     ) ?_
    cases h72
    exact e1 2 id
   refine cV 101 ?_
   refine cI h72 (fun _ h72 => ?_) (fun _ h72 => ?_)
   ·refine bB h72 fun y31 hv82 h72 => ?_
    refine CO.cutR (tl 117 [(2, V.b y31)]) [] mix (by
     refine wR 3 101 (bB hv82 fun r32 hx83 hv82 => (w0 (ms_TokenOk_ok N (⟨3, a0.Text, 0⟩ : SToken) hx83) cok192 (wR 1 101 ?_)))
     refine wJ 26 hv82 (fun hv82 => ?_) (fun hv82 => ?_)
     ·refine wR 5 101 ?_
      cases hv82
      exact fS [] [2]
     refine wR 5 101 ?_
     cases hv82
     exact fS [] [2]
     ) ?_
    cases h72
    exact e1 2 id
   refine cV 101 ?_
   refine cI h72 (fun _ h72 => ?_) (fun _ h72 => ?_)
   ·refine bB h72 fun y34 hv88 h72 => ?_
    refine CO.cutR (tl 117 [(2, V.b y34)]) [] mix (by
     refine wR 3 101 (bB hv88 fun r35 hx89 hv88 => (w0 (ms_TokenOk_ok N (⟨4, a0.Text, 0⟩ : SToken) hx89) cok192 (wR 1 101 ?_)))
     refine wJ 37 hv88 (fun hv88 => ?_) (fun hv88 => ?_)
     ·refine wR 5 101 ?_
      cases hv88
      exact fS [] [2]
     refine wR 5 101 ?_
     cases hv88
     exact fS [] [2]
     ) ?_
    cases h72
    exact e1 2 id
   refine cV 101 ?_
   refine cI h72 (fun _ h72 => ?_) (fun _ h72 => ?_)
   ·refine bB h72 fun y37 hv94 h72 => ?_
    refine CO.cutR (tl 117 [(2, V.b y37)]) [] mix (by
     refine wR 3 101 (bB hv94 fun r38 hx95 hv94 => (w0 (ms_TokenOk_ok N (⟨5, a0.Text, 0⟩ : SToken) hx95) cok192 (wR 1 101 ?_)))
     refine wJ 48 hv94 (fun hv94 => ?_) (fun hv94 => ?_)
     ·refine wR 5 101 ?_
      cases hv94
      exact fS [] [2]
     refine wR 5 101 ?_
     cases hv94
     exact fS [] [2]
     ) ?_
    cases h72
    exact e1 2 id
   refine cV 101 ?_
   refine cI h72 (fun _ h72 => ?_) (fun _ h72 => ?_)
   ·refine bB h72 fun y40 hv100 h72 => ?_
    refine CO.cutR (tl 117 [(2, V.b y40)]) [] mix (by
     refine wR 3 101 (bB hv100 fun r41 hx101 hv100 => (w0 (ms_TokenOk_ok N (⟨2, a0.Text, 0⟩ : SToken) hx101) cok192 (wR 1 101 ?_)))
     refine wJ 59 hv100 (fun hv100 => ?_) (fun hv100 => ?_)
     ·refine wR 5 101 ?_
      cases hv100
      exact fS [] [2]
     refine wR 5 101 ?_
     cases hv100
     exact fS [] [2]
     ) ?_
    cases h72
    exact e1 2 id
   refine cV 101 ?_
   refine cI h72 (fun _ h72 => ?_) (fun _ h72 => ?_)
   ·refine bB h72 fun y43 hv106 h72 => ?_
    refine CO.cutR (tl 117 [(2, V.b y43)]) [] mix (by
     refine wR 2 101 (bB hv106 fun r44 hx107 hv106 => (w0 (ms_IsBuiltin_ok N a0.Text hx107) cok193 (wR 1 101 ?_)))
     refine wJ 69 hv106 (fun hv106 => ?_) (fun hv106 => ?_)
     ·refine wR 5 101 ?_
      cases hv106
      exact fS [] [2]
     refine wR 5 101 ?_
     cases hv106
     exact fS [] [2]
     ) ?_
    cases h72
    exact e1 2 id
   refine cV 101 ?_
   refine cI h72 (fun _ h72 => ?_) (fun _ h72 => ?_)
   ·refine bB h72 fun y47 hv113 h72 => ?_
    refine CO.cutR (tl 117 [(2, V.b y47)]) [] mix (by
     refine wR 2 101 (bB hv113 fun r48 hx114 hv113 => (w0 (ms_NameOk_ok N a0.Text hx114) cok191 (wR 1 101 ?_)))
     refine wJ 79 hv113 (fun hv113 => ?_) (fun hv113 => ?_)
     ·refine wR 2 101 (bB hv113 fun r49 hx116 hv113 => (w0 (ms_NameOk_ok N a0.Other hx116) cok191 (wR 2 101 ?_)))
      cases hv113
      exact fS [] [2]
     refine wR 5 101 ?_
     cases hv113
     exact fS [] [2]
     ) ?_
    cases h72
    exact e1 2 id
   refine cV 101 ?_
   refine cI h72 (fun _ h72 => ?_) (fun _ h72 => ?_)
   ·refine bB h72 fun y50 hv122 h72 => ?_
    refine CO.cutR (tl 117 [(2, V.b y50)]) [] mix (by
     refine wR 4 101 ?_
     refine wJ 89 hv122 (fun hv122 => ?_) (fun hv122 => ?_)
     ·refine wR 4 101 ?_
      refine wJ 93 hv122 (fun hv122 => ?_) (fun hv122 => ?_)
      ·refine wR 16 101 ?_
       cases hv122
       exact fS [] [2]
      refine wR 5 101 ?_
      refine wJ 98 hv122 (fun hv122 => ?_) (fun hv122 => ?_)
      ·refine wR 11 101 ?_
       cases hv122
       exact fS [] [2]
      refine wR 5 101 ?_
      refine wJ 103 hv122 (fun hv122 => ?_) (fun hv122 => ?_)
      ·refine wR 6 101 ?_
       cases hv122
       exact fS [] [2]
      refine wR 6 101 ?_
      cases hv122
      exact fS [] [2]
     refine wR 20 101 ?_
     cases hv122
     exact fS [] [2]
     ) ?_
    cases h72
    exact e1 2 id
   refine CO.skip (bB h72 fun y51 hv128 h72 => ?_)
   refine CO.cutR (tl 117 [(2, V.b y51)]) [] mix (by
    refine wR 4 101 ?_
    refine wJ 112 hv128 (fun hv128 => ?_) (fun hv128 => ?_)
    ·refine wR 5 101 ?_
     cases hv128
     exact fS [] [2]
    refine wR 5 101 ?_
    cases hv128
    exact fS [] [2]
    ) ?_
   cases h72
   exact e1 2 id
 intro hk130
 refine cV 101 ?_
 refine cI h (fun _ h => ?_) (fun _ h => ?_)
 ·exact sK hk130 (a0, (a0.Kind == 1)) h [(100, 100)] [1, 4, 5]
 refine cV 101 ?_
 refine cI h (fun _ h => ?_) (fun _ h => ?_)
 ·exact sK hk130 (a0, (a0.Kind == 5)) h [(100, 100)] [1, 4, 5]
 refine cV 101 ?_
 refine cI h (fun _ h => ?_) (fun _ h => ?_)
 ·exact sK hk130 (a0, (a0.Kind == 7)) h [(100, 100)] [1, 4, 5]
 refine cV 101 ?_
 refine cI h (fun _ h => ?_) (fun _ h => ?_)
 ·exact sK hk130 (a0, (a0.Kind == 13)) h [(100, 100)] [1, 4, 5]
 refine cV 101 ?_
 refine cI h (fun _ h => ?_) (fun _ h => ?_)
 ·exact sK hk130 (a0, (a0.Kind == 27)) h [(100, 100)] [1, 4, 5]
 exact cK 101 hk130 (a0, (a0.Kind == 44)) h [(100, 100)] [1, 4, 5]

theorem ms_FieldsOk_ok (N : Nat) (a0 : SNode) {r : Bool} (h : ms_FieldsOk N a0 = some r) :
    AC Tryz.prog (GS []) 58 [.agg [V.i a0.Kind, V.i a0.Op, V.s a0.Text, V.s a0.Other, sL eNI a0.Kids]] [] (V.b r) [] := by
 rw [ms_FieldsOk] at h
 refine AC.enter Tryz.func58 rfl (cV 100 (bB h fun r2 hx2 h => (cC 1 101 (ms_l7Many_ok a0 hx2) cok132 (bB h fun y6 hv8 h => ?_))))
 refine CO.cutR (tl 41 [(1, .loc 100 0), (3, V.i r2.1), (4, V.i r2.2), (5, V.b y6)]) [(100, .cells 37 [V.i a0.Kind, V.i a0.Op, V.s a0.Text, V.s a0.Other, sL eNI a0.Kids])] mix (by
  refine wR 2 101 (bB hv8 fun r7 hx9 hv8 => (w0 (ms_l1In_ok a0.Kind 1 16 hx9) cok77 (wR 1 101 ?_)))
  refine wJ 14 hv8 (fun hv8 => ?_) (fun hv8 => ?_)
  ·refine wR 10 101 ?_
   cases hv8
   exact fS [(100, 100)] [1, 3, 4, 5]
  refine wR 2 101 (bB hv8 fun r8 hx11 hv8 => (w0 (ms_l1In_ok a0.Kind 20 34 hx11) cok77 (wR 2 101 ?_)))
  refine wJ 19 hv8 (fun hv8 => ?_) (fun hv8 => ?_)
  ·refine wR 5 101 ?_
   cases hv8
   exact fS [(100, 100)] [1, 3, 4, 5]
  refine wR 2 101 (bB hv8 fun r9 hx13 hv8 => (w0 (ms_l1In_ok a0.Kind 40 45 hx13) cok77 (wR 2 101 ?_)))
  cases hv8
  exact fS [(100, 100)] [1, 3, 4, 5]
  ) ?_
 refine bB h fun y13 hv20 h => ?_
 refine CO.cutR (tl 41 [(2, V.b y13)]) [] mix (by
  refine wR 2 101 ?_
  refine wJ 25 hv20 (fun hv20 => ?_) (fun hv20 => ?_)
  ·refine wR 1 101 (bB hv20 fun r14 hx22 hv20 => (w0 (ms_l7Op_ok a0 hx22) cok133 (wR 2 101 ?_)))
   refine wJ 29 hv20 (fun hv20 => ?_) (fun hv20 => ?_)
   ·refine wR 1 101 (bB hv20 fun r15 hx24 hv20 => (w0 (ms_l7Text_ok N a0 hx24) cok134 (wR 2 101 ?_)))
    refine wJ 33 hv20 (fun hv20 => ?_) (fun hv20 => ?_)
    ·refine wR 2 101 (wN eNI a0.Kids [] (wR 2 101 (bB hv20 fun r16 hx26 hv20 => (w0 (ms_l1In_ok (a0.Kids.length : Int) r2.1 r2.2 hx26) cok77 (wR 2 101 ?_)))))
     cases hv20
     exact fS [] [2]
    refine wR 8 101 ?_
    cases hv20
    exact fS [] [2]
   refine wR 12 101 ?_
   cases hv20
   exact fS [] [2]
  refine wR 16 101 ?_
  cases hv20
  exact fS [] [2]
  ) ?_
 cases h
 exact e1 2 id

theorem ms_IsLvalue_ok (a0 : Int) {r : Bool} (h : ms_IsLvalue a0 = some r) :
    AC Tryz.prog (GS []) 135 [V.i a0] [] (V.b r) [] := by
 rw [ms_IsLvalue] at h
 refine AC.enter Tryz.func135 rfl (cV 100 (bB h fun y1 hv3 h => ?_))
 refine CO.cutR (tl 13 [(2, V.b y1)]) [] mix (by
  refine wR 3 100 ?_
  refine wJ 5 hv3 (fun hv3 => ?_) (fun hv3 => ?_)
  ·refine wR 8 100 ?_
   cases hv3
   exact fS [] [2]
  refine wR 4 100 ?_
  refine wJ 9 hv3 (fun hv3 => ?_) (fun hv3 => ?_)
  ·refine wR 4 100 ?_
   cases hv3
   exact fS [] [2]
  refine wR 4 100 ?_
  cases hv3
  exact fS [] [2]
  ) ?_
 cases h
 exact e1 2 id

theorem ms_IsExpr_ok (a0 : Int) {r : Bool} (h : ms_IsExpr a0 = some r) :
    AC Tryz.prog (GS []) 98 [V.i a0] [] (V.b r) [] := by
 rw [ms_IsExpr] at h
 refine AC.enter Tryz.func98 rfl (cV 100 (bB h fun r2 hx2 h => (cC 1 100 (ms_l1In_ok a0 1 15 hx2) cok77 ?_)))
 cases h
 exact e1 2 id

theorem ms_IsStmt_ok (a0 : Int) {r : Bool} (h : ms_IsStmt a0 = some r) :
    AC Tryz.prog (GS []) 40 [V.i a0] [] (V.b r) [] := by
 rw [ms_IsStmt] at h
 refine AC.enter Tryz.func40 rfl (cV 100 (bB h fun r2 hx2 h => (cC 1 100 (ms_l1In_ok a0 20 34 hx2) cok77 ?_)))
 cases h
 exact e1 2 id

theorem ms_l7Kid_ok (a0 : SNode) (a1 : Int) (a2 : Int) {r : Bool} (h : ms_l7Kid a0 a1 a2 = some r) :
    AC Tryz.prog (GS []) 59 [.agg [V.i a0.Kind, V.i a0.Op, V.s a0.Text, V.s a0.Other, sL eNI a0.Kids], V.i a1, V.i a2] [] (V.b r) [] := by
 rw [ms_l7Kid] at h
 refine AC.enter Tryz.func59 rfl (cV 100 (CO.sw mix (wR 3 101 (wN eNI a0.Kids [] (wR 3 101 (wF (cV 101 (CO.seq' ?_))))))))
 refine cV 101 (CO.block' ?_)
 refine CO.join (fun (⟨a1, a2, a0, y52⟩ : (Int × Int × SNode × Bool)) => ⟨tl 184 [(1, V.i a1), (2, V.i a2), (3, .loc 100 0), (7, V.b (a1 == (wr ((a0.Kids.length : Int) - 1)))), (8, V.b (a2 == 33)), (18, V.i a0.Kind), (19, V.b y52)], [(100, .cells 37 [V.i a0.Kind, V.i a0.Op, V.s a0.Text, V.s a0.Other, sL eNI a0.Kids])]⟩) (fun i => ms_l7Kid_k1 i = some r) ?_ ?_
 · rintro ⟨a1, a2, a0, y52⟩ h181
   rw [ms_l7Kid_k1] at h181
   refine cI h181 (fun _ h181 => ?_) (fun _ h181 => ?_)
   ·refine bB h181 fun r54 hx184 h181 => (cC 1 101 (ms_IsLvalue_ok a2 hx184) cok135 ?_)
    cases h181
    exact e1 6 id
   refine cV 101 ?_
   refine cI h181 (fun _ h181 => ?_) (fun _ h181 => ?_)
   ·refine bB h181 fun y57 hv190 h181 => ?_
    refine CO.cutR (tl 184 [(6, V.b y57)]) [] mix (by
     refine wR 1 101 (bB hv190 fun r58 hx191 hv190 => (w0 (ms_IsExpr_ok a2 hx191) cok98 (wR 1 101 ?_)))
     refine wJ 28 hv190 (fun hv190 => ?_) (fun hv190 => ?_)
     ·refine wR 3 101 ?_
      refine wJ 31 hv190 (fun hv190 => ?_) (fun hv190 => ?_)
      ·refine wR 5 101 ?_
       cases hv190
       exact fS [] [6]
      refine wR 1 101 (bB hv190 fun r59 hx194 hv190 => (w0 (ms_IsLvalue_ok a2 hx194) cok135 (wR 3 101 ?_)))
      cases hv190
      exact fS [] [6]
     refine wR 8 101 ?_
     cases hv190
     exact fS [] [6]
     ) ?_
    cases h181
    exact e1 6 id
   refine cV 101 ?_
   refine cI h181 (fun _ h181 => ?_) (fun _ h181 => ?_)
   ·refine bB h181 fun y61 hv201 h181 => ?_
    refine CO.cutR (tl 184 [(6, V.b y61)]) [] mix (by
     refine wR 3 101 ?_
     refine wJ 40 hv201 (fun hv201 => ?_) (fun hv201 => ?_)
     ·refine wR 1 101 (bB hv201 fun r62 hx203 hv201 => (w0 (ms_IsExpr_ok a2 hx203) cok98 (wR 2 101 ?_)))
      refine wJ 44 hv201 (fun hv201 => ?_) (fun hv201 => ?_)
      ·refine wR 7 101 ?_
       cases hv201
       exact fS [] [6]
      refine wR 3 101 ?_
      refine wJ 47 hv201 (fun hv201 => ?_) (fun hv201 => ?_)
      ·refine wR 4 101 ?_
       cases hv201
       exact fS [] [6]
      refine wR 4 101 ?_
      cases hv201
      exact fS [] [6]
     refine wR 7 101 ?_
     refine wJ 47 hv201 (fun hv201 => ?_) (fun hv201 => ?_)
     ·refine wR 4 101 ?_
      cases hv201
      exact fS [] [6]
     refine wR 4 101 ?_
     cases hv201
     exact fS [] [6]
     ) ?_
    cases h181
    exact e1 6 id
   refine cV 101 ?_
   refine cI h181 (fun _ h181 => ?_) (fun _ h181 => ?_)
   ·refine bB h181 fun y64 hv213 h181 => ?_
    refine CO.cutR (tl 184 [(6, V.b y64)]) [] mix (by
     refine wR 3 101 ?_
     refine wJ 55 hv213 (fun hv213 => ?_) (fun hv213 => ?_)
     ·refine wR 1 101 (bB hv213 fun r65 hx215 hv213 => (w0 (ms_IsExpr_ok a2 hx215) cok98 (wR 2 101 ?_)))
      refine wJ 59 hv213 (fun hv213 => ?_) (fun hv213 => ?_)
      ·refine wR 7 101 ?_
       cases hv213
       exact fS [] [6]
      refine wR 3 101 ?_
      refine wJ 62 hv213 (fun hv213 => ?_) (fun hv213 => ?_)
      ·refine wR 4 101 ?_
       cases hv213
       exact fS [] [6]
      refine wR 4 101 ?_
      cases hv213
      exact fS [] [6]
     refine wR 7 101 ?_
     refine wJ 62 hv213 (fun hv213 => ?_) (fun hv213 => ?_)
     ·refine wR 4 101 ?_
      cases hv213
      exact fS [] [6]
     refine wR 4 101 ?_
     cases hv213
     exact fS [] [6]
     ) ?_
    cases h181
    exact e1 6 id
   refine cV 101 ?_
   refine cI h181 (fun _ h181 => ?_) (fun _ h181 => ?_)
   ·refine bB h181 fun y68 hv226 h181 => ?_
    refine CO.cutR (tl 184 [(6, V.b y68)]) [] mix (by
     refine wR 3 101 ?_
     refine wJ 70 hv226 (fun hv226 => ?_) (fun hv226 => ?_)
     ·refine wR 3 101 ?_
      refine wJ 73 hv226 (fun hv226 => ?_) (fun hv226 => ?_)
      ·refine wR 8 101 ?_
       cases hv226
       exact fS [] [6]
      refine wR 3 101 ?_
      refine wJ 76 hv226 (fun hv226 => ?_) (fun hv226 => ?_)
      ·refine wR 1 101 (bB hv226 fun r69 hx230 hv226 => (w0 (ms_IsExpr_ok a2 hx230) cok98 (wR 3 101 ?_)))
       cases hv226
       exact fS [] [6]
      refine wR 5 101 ?_
      cases hv226
      exact fS [] [6]
     refine wR 6 101 ?_
     refine wJ 76 hv226 (fun hv226 => ?_) (fun hv226 => ?_)
     ·refine wR 1 101 (bB hv226 fun r70 hx232 hv226 => (w0 (ms_IsExpr_ok a2 hx232) cok98 (wR 3 101 ?_)))
      cases hv226
      exact fS [] [6]
     refine wR 5 101 ?_
     cases hv226
     exact fS [] [6]
     ) ?_
    cases h181
    exact e1 6 id
   refine cV 101 ?_
   refine cI h181 (fun _ h181 => ?_) (fun _ h181 => ?_)
   ·refine bB h181 fun y72 hv240 h181 => ?_
    refine CO.cutR (tl 184 [(6, V.b y72)]) [] mix (by
     refine wR 3 101 ?_
     refine wJ 85 hv240 (fun hv240 => ?_) (fun hv240 => ?_)
     ·refine wR 1 101 (bB hv240 fun r73 hx242 hv240 => (w0 (ms_IsExpr_ok a2 hx242) cok98 (wR 1 101 ?_)))
      refine wJ 88 hv240 (fun hv240 => ?_) (fun hv240 => ?_)
      ·refine wR 12 101 ?_
       cases hv240
       exact fS [] [6]
      refine wR 5 101 ?_
      refine wJ 93 hv240 (fun hv240 => ?_) (fun hv240 => ?_)
      ·refine wR 7 101 ?_
       cases hv240
       exact fS [] [6]
      refine wR 3 101 ?_
      refine wJ 96 hv240 (fun hv240 => ?_) (fun hv240 => ?_)
      ·refine wR 4 101 ?_
       cases hv240
       exact fS [] [6]
      refine wR 4 101 ?_
      cases hv240
      exact fS [] [6]
     refine wR 11 101 ?_
     refine wJ 96 hv240 (fun hv240 => ?_) (fun hv240 => ?_)
     ·refine wR 4 101 ?_
      cases hv240
      exact fS [] [6]
     refine wR 4 101 ?_
     cases hv240
     exact fS [] [6]
     ) ?_
    cases h181
    exact e1 6 id
   refine CO.join (fun (⟨a1, a2, a0, y74⟩ : (Int × Int × SNode × Bool)) => ⟨tl 184 [(1, V.i a1), (2, V.i a2), (3, .loc 100 0), (7, V.b (a1 == (wr ((a0.Kids.length : Int) - 1)))), (8, V.b (a2 == 33)), (18, V.i a0.Kind), (100, V.b y74)], [(100, .cells 37 [V.i a0.Kind, V.i a0.Op, V.s a0.Text, V.s a0.Other, sL eNI a0.Kids])]⟩) (fun i => ms_l7Kid_k2 i = some r) ?_ ?_
   · rintro ⟨a1, a2, a0, y74⟩ h249
     rw [ms_l7Kid_k2] at h249
     refine cI h249 (fun _ h249 => ?_) (fun _ h249 => ?_)
     ·refine cV 101 ?_
      cases h249
      exact e1 6 id
     refine cV 101 ?_
     refine cI h249 (fun _ h249 => ?_) (fun _ h249 => ?_)
     ·refine bB h249 fun r76 hx253 h249 => (cC 1 101 (ms_IsStmt_ok a2 hx253) cok40 ?_)
      cases h249
      exact e1 6 id
     refine cV 101 ?_
     refine cI h249 (fun _ h249 => ?_) (fun _ h249 => ?_)
     ·refine bB h249 fun y86 hv290 h249 => ?_
      refine CO.cutR (tl 184 [(6, V.b y86)]) [] mix (by
       refine wR 4 101 ?_
       refine wJ 114 hv290 (fun hv290 => ?_) (fun hv290 => ?_)
       ·refine wR 1 101 (bB hv290 fun r87 hx292 hv290 => (w0 (ms_IsExpr_ok a2 hx292) cok98 (wR 2 101 ?_)))
        refine wJ 118 hv290 (fun hv290 => ?_) (fun hv290 => ?_)
        ·refine wR 27 101 ?_
         cases hv290
         exact fS [] [6]
        refine wR 4 101 ?_
        refine wJ 122 hv290 (fun hv290 => ?_) (fun hv290 => ?_)
        ·refine wR 4 101 ?_
         refine wJ 126 hv290 (fun hv290 => ?_) (fun hv290 => ?_)
         ·refine wR 19 101 ?_
          cases hv290
          exact fS [] [6]
         refine wR 4 101 ?_
         refine wJ 130 hv290 (fun hv290 => ?_) (fun hv290 => ?_)
         ·refine wR 2 101 ?_
          refine wJ 132 hv290 (fun hv290 => ?_) (fun hv290 => ?_)
          ·refine wR 3 101 ?_
           refine wJ 135 hv290 (fun hv290 => ?_) (fun hv290 => ?_)
           ·refine wR 10 101 ?_
            cases hv290
            exact fS [] [6]
           refine wR 3 101 ?_
           refine wJ 138 hv290 (fun hv290 => ?_) (fun hv290 => ?_)
           ·refine wR 1 101 (bB hv290 fun r88 hx300 hv290 => (w0 (ms_IsExpr_ok a2 hx300) cok98 (wR 5 101 ?_)))
            cases hv290
            exact fS [] [6]
           refine wR 7 101 ?_
           cases hv290
           exact fS [] [6]
          refine wR 6 101 ?_
          refine wJ 138 hv290 (fun hv290 => ?_) (fun hv290 => ?_)
          ·refine wR 1 101 (bB hv290 fun r89 hx302 hv290 => (w0 (ms_IsExpr_ok a2 hx302) cok98 (wR 5 101 ?_)))
           cases hv290
           exact fS [] [6]
          refine wR 7 101 ?_
          cases hv290
          exact fS [] [6]
         refine wR 15 101 ?_
         cases hv290
         exact fS [] [6]
        refine wR 8 101 ?_
        refine wJ 130 hv290 (fun hv290 => ?_) (fun hv290 => ?_)
        ·refine wR 2 101 ?_
         refine wJ 132 hv290 (fun hv290 => ?_) (fun hv290 => ?_)
         ·refine wR 3 101 ?_
          refine wJ 135 hv290 (fun hv290 => ?_) (fun hv290 => ?_)
          ·refine wR 10 101 ?_
           cases hv290
           exact fS [] [6]
          refine wR 3 101 ?_
          refine wJ 138 hv290 (fun hv290 => ?_) (fun hv290 => ?_)
          ·refine wR 1 101 (bB hv290 fun r90 hx307 hv290 => (w0 (ms_IsExpr_ok a2 hx307) cok98 (wR 5 101 ?_)))
           cases hv290
           exact fS [] [6]
          refine wR 7 101 ?_
          cases hv290
          exact fS [] [6]
         refine wR 6 101 ?_
         refine wJ 138 hv290 (fun hv290 => ?_) (fun hv290 => ?_)
         ·refine wR 1 101 (bB hv290 fun r91 hx309 hv290 => (w0 (ms_IsExpr_ok a2 hx309) cok98 (wR 5 101 ?_)))
          cases hv290
          exact fS [] [6]
         refine wR 7 101 ?_
         cases hv290
         exact fS [] [6]
        refine wR 15 101 ?_
        cases hv290
        exact fS [] [6]
       refine wR 8 101 ?_
       refine wJ 122 hv290 (fun hv290 => ?_) (fun hv290 => ?_)
       ·refine wR 4 101 ?_
        refine wJ 126 hv290 (fun hv290 => ?_) (fun hv290 => ?_)
        ·refine wR 19 101 ?_
         cases hv290
         exact fS [] [6]
        refine wR 4 101 ?_
        refine wJ 130 hv290 (fun hv290 => ?_) (fun hv290 => ?_)
        ·refine wR 2 101 ?_
         refine wJ 132 hv290 (fun hv290 => ?_) (fun hv290 => ?_)
         ·refine wR 3 101 ?_
          refine wJ 135 hv290 (fun hv290 => ?_) (fun hv290 => ?_)
          ·refine wR 10 101 ?_
           cases hv290
           exact fS [] [6]
          refine wR 3 101 ?_
          refine wJ 138 hv290 (fun hv290 => ?_) (fun hv290 => ?_)
          ·refine wR 1 101 (bB hv290 fun r92 hx316 hv290 => (w0 (ms_IsExpr_ok a2 hx316) cok98 (wR 5 101 ?_)))
           cases hv290
           exact fS [] [6]
          refine wR 7 101 ?_
          cases hv290
          exact fS [] [6]
         refine wR 6 101 ?_
         refine wJ 138 hv290 (fun hv290 => ?_) (fun hv290 => ?_)
         ·refine wR 1 101 (bB hv290 fun r93 hx318 hv290 => (w0 (ms_IsExpr_ok a2 hx318) cok98 (wR 5 101 ?_)))
          cases hv290
          exact fS [] [6]
         refine wR 7 101 ?_
         cases hv290
         exact fS [] [6]
        refine wR 15 101 ?_
        cases hv290
        exact fS [] [6]
       refine wR 8 101 ?_
       refine wJ 130 hv290 (fun hv290 => ?_) (fun hv290 => ?_)
       ·refine wR 2 101 ?_
        refine wJ 132 hv290 (fun hv290 => ?_) (fun hv290 => ?_)
        ·refine wR 3 101 ?_
         refine wJ 135 hv290 (fun hv290 => ?_) (fun hv290 => ?_)
         ·refine wR 10 101 ?_
          cases hv290
          exact fS [] [6]
         refine wR 3 101 ?_
         refine wJ 138 hv290 (fun hv290 => ?_) (fun hv290 => ?_)
         ·refine wR 1 101 (bB hv290 fun r94 hx323 hv290 => (w0 (ms_IsExpr_ok a2 hx323) cok98 (wR 5 101 ?_)))
          cases hv290
          exact fS [] [6]
         refine wR 7 101 ?_
         cases hv290
         exact fS [] [6]
        refine wR 6 101 ?_
        refine wJ 138 hv290 (fun hv290 => ?_) (fun hv290 => ?_)
        ·refine wR 1 101 (bB hv290 fun r95 hx325 hv290 => (w0 (ms_IsExpr_ok a2 hx325) cok98 (wR 5 101 ?_)))
         cases hv290
         exact fS [] [6]
        refine wR 7 101 ?_
        cases hv290
        exact fS [] [6]
       refine wR 15 101 ?_
       cases hv290
       exact fS [] [6]
       ) ?_
      cases h249
      exact e1 6 id
     refine cV 101 ?_
     refine cI h249 (fun _ h249 => ?_) (fun _ h249 => ?_)
     ·refine bB h249 fun y97 hv332 h249 => ?_
      refine CO.cutR (tl 184 [(6, V.b y97)]) [] mix (by
       refine wR 3 101 ?_
       refine wJ 149 hv332 (fun hv332 => ?_) (fun hv332 => ?_)
       ·refine wR 1 101 (bB hv332 fun r98 hx334 hv332 => (w0 (ms_IsExpr_ok a2 hx334) cok98 (wR 2 101 ?_)))
        refine wJ 153 hv332 (fun hv332 => ?_) (fun hv332 => ?_)
        ·refine wR 7 101 ?_
         cases hv332
         exact fS [] [6]
        refine wR 3 101 ?_
        refine wJ 156 hv332 (fun hv332 => ?_) (fun hv332 => ?_)
        ·refine wR 4 101 ?_
         cases hv332
         exact fS [] [6]
        refine wR 4 101 ?_
        cases hv332
        exact fS [] [6]
       refine wR 7 101 ?_
       refine wJ 156 hv332 (fun hv332 => ?_) (fun hv332 => ?_)
       ·refine wR 4 101 ?_
        cases hv332
        exact fS [] [6]
       refine wR 4 101 ?_
       cases hv332
       exact fS [] [6]
       ) ?_
      cases h249
      exact e1 6 id
     refine cV 101 ?_
     refine cI h249 (fun _ h249 => ?_) (fun _ h249 => ?_)
     ·refine bB h249 fun y99 hv343 h249 => ?_
      refine CO.cutR (tl 184 [(6, V.b y99)]) [] mix (by
       refine wR 2 101 ?_
       refine wJ 163 hv343 (fun hv343 => ?_) (fun hv343 => ?_)
       ·refine wR 3 101 ?_
        refine wJ 166 hv343 (fun hv343 => ?_) (fun hv343 => ?_)
        ·refine wR 8 101 ?_
         cases hv343
         exact fS [] [6]
        refine wR 3 101 ?_
        refine wJ 169 hv343 (fun hv343 => ?_) (fun hv343 => ?_)
        ·refine wR 5 101 ?_
         cases hv343
         exact fS [] [6]
        refine wR 5 101 ?_
        cases hv343
        exact fS [] [6]
       refine wR 6 101 ?_
       refine wJ 169 hv343 (fun hv343 => ?_) (fun hv343 => ?_)
       ·refine wR 5 101 ?_
        cases hv343
        exact fS [] [6]
       refine wR 5 101 ?_
       cases hv343
       exact fS [] [6]
       ) ?_
      cases h249
      exact e1 6 id
     refine cV 101 ?_
     refine cI h249 (fun _ h249 => ?_) (fun _ h249 => ?_)
     ·refine bB h249 fun y101 hv351 h249 => ?_
      refine CO.cutR (tl 184 [(6, V.b y101)]) [] mix (by
       refine wR 1 101 (bB hv351 fun r102 hx352 hv351 => (w0 (ms_l1In_ok a2 40 44 hx352) cok77 (wR 1 101 ?_)))
       refine wJ 178 hv351 (fun hv351 => ?_) (fun hv351 => ?_)
       ·refine wR 4 101 ?_
        cases hv351
        exact fS [] [6]
       refine wR 4 101 ?_
       cases hv351
       exact fS [] [6]
       ) ?_
      cases h249
      exact e1 6 id
     refine CO.skip (bB h249 fun r104 hx355 h249 => (cC 1 101 (ms_IsExpr_ok a2 hx355) cok98 ?_))
     cases h249
     exact e1 6 id
   intro hk356
   refine cV 101 ?_
   refine cI h181 (fun _ h181 => ?_) (fun _ h181 => ?_)
   ·exact sK hk356 (a1, a2, a0, (a0.Kind == 32)) h181 [(100, 100)] [1, 2, 3, 7, 8, 18, 100]
   refine cV 101 ?_
   refine cI h181 (fun _ h181 => ?_) (fun _ h181 => ?_)
   ·exact sK hk356 (a1, a2, a0, (a0.Kind == 40)) h181 [(100, 100)] [1, 2, 3, 7, 8, 18, 100]
   exact cK 101 hk356 (a1, a2, a0, (a0.Kind == 41)) h181 [(100, 100)] [1, 2, 3, 7, 8, 18, 100]
 intro hk359
 refine cV 101 ?_
 refine cI h (fun _ h => ?_) (fun _ h => ?_)
 ·exact sK hk359 (a1, a2, a0, (a0.Kind == 9)) h [(100, 100)] [1, 2, 3, 7, 8, 18, 19]
 exact cK 101 hk359 (a1, a2, a0, (a0.Kind == 10)) h [(100, 100)] [1, 2, 3, 7, 8, 18, 19]

theorem ms_TreeOk_ok (N : Nat) (a0 : LN) {r : Bool} (h : ms_TreeOk N a0 = some r) :
    AC Tryz.prog (GS []) 13 [.sl false false (a0.map (eSN false))] [] (V.b r) [] := by
 rw [ms_TreeOk] at h
 refine AC.enter Tryz.func13 rfl (cV 100 (CO.seq' (bB h fun y8 hv12 h => ?_)))
 refine CO.cutR (tl 54 [(0, .sl false false (a0.map (eSN false))), (12, V.b y8)]) [] mix (by
  refine wR 1 100 (bB hv12 fun r9 hx13 hv12 => (w0 (ms_ShapeOk_ok N a0 hx13) cok57 (wR 2 100 ?_)))
  refine wJ 8 hv12 (fun hv12 => ?_) (fun hv12 => ?_)
  ·refine wR 4 100 ?_
   cases hv12
   exact fS [] [0, 12]
  refine wR 1 100 (bB hv12 fun r10 hx15 hv12 => (w0 (ms_DepthOf_ok N a0 hx15) cok34 (wR 2 100 ?_)))
  cases hv12
  exact fS [] [0, 12]
  ) ?_
 refine cI h (fun _ h => ?_) (fun _ h => ?_)
 ·refine cV 100 ?_
  cases h
  exact e1 2 id
 refine CO.skip (CO.seq' (cV 100 (CO.block' (CO.loopJ (fun (⟨a0, y669⟩ : (LN × Int)) => ⟨tl 54 [(0, .sl false false (a0.map (eSN false))), (3, V.i y669)], []⟩) (fun n i => ms_TreeOk_l1 N n i = some r) (n0 := N) (i0 := (a0, 0)) (wS [] [0, 3]) h (fun i h => by simp [ms_TreeOk_l1] at h) ?_))))
 rintro n1 ⟨a0, y669⟩ h989 ih990
 rw [ms_TreeOk_l1] at h989
 refine CO.seq' (CO.sw mix (wR 2 280 (wN (eSN false) a0 [] (wR 1 280 (wF ?_)))))
 refine cI h989 (fun _ h989 => ?_) (fun _ h989 => ?_)
 ·refine CO.skip (CO.seq' (CO.block' (CO.seq' (bB h989 fun e923 hx1096 h989 => (bB h989 fun r924 hx1097 h989 => (CO.sw mix (wR 2 280 (wX (eSN false) hx1096 5 ?_))))))))
  refine wR 1 280 (w0 (ms_FieldsOk_ok N e923 hx1097) cok58 (wR 1 280 (wF ?_)))
  refine cI h989 (fun _ h989 => ?_) (fun _ h989 => ?_)
  ·refine cV 280 ?_
   cases h989
   exact e1 2 id
  refine CO.skip (cV 280 (CO.block' (CO.loopJ (fun (⟨a0, y669, y949⟩ : (LN × Int × Int)) => ⟨tl 54 [(0, .sl false false (a0.map (eSN false))), (3, V.i y669), (4, V.i y949)], []⟩) (fun n i => ms_TreeOk_l2 N (ms_TreeOk_l1 N n1) n i = some r) (n0 := N) (i0 := (a0, y669, 0)) (wS [] [0, 3, 4]) h989 (fun i h => by simp [ms_TreeOk_l2] at h) ?_)))
  rintro n2 ⟨a0, y669, y949⟩ h1155 ih1156
  rw [ms_TreeOk_l2] at h1155
  refine CO.seq' (bB h1155 fun e978 hx1161 h1155 => (CO.sw mix (wR 3 340 (wX (eSN false) hx1161 5 (wR 2 340 (wN eNI e978.Kids [] (wR 1 340 (wF ?_))))))))
  refine cI h1155 (fun _ h1155 => ?_) (fun _ h1155 => ?_)
  ·refine CO.skip (CO.seq' (CO.block' (bB h1155 fun e994 hx1179 h1155 => (bB h1155 fun e995 hx1180 h1155 => (bB h1155 fun e996 hx1181 h1155 => (bB h1155 fun e997 hx1182 h1155 => (bB h1155 fun r998 hx1183 h1155 => (CO.sw mix ?_))))))))
   refine wR 2 340 (wX (eSN false) hx1179 5 (wR 5 340 (wX (eSN false) hx1180 5 (wR 3 340 (wX eNI hx1181 1 (wR 1 340 (wX (eSN false) hx1182 5 (wR 2 340 ?_))))))))
   refine w0 (ms_l7Kid_ok e994 y949 e997.Kind hx1183) cok59 (wR 1 340 (wF ?_))
   refine cI h1155 (fun _ h1155 => ?_) (fun _ h1155 => ?_)
   ·refine cV 340 ?_
    cases h1155
    exact e1 2 id
   refine CO.skip ?_
   exact cK 340 ih1156 (a0, y669, (wr (y949 + 1))) h1155 [] [0, 3, 4]
  refine CO.exit ?_
  exact cK 340 ih990 (a0, (wr (y669 + 1))) h1155 [] [0, 3]
 refine CO.exit (cV 280 ?_)
 cases h989
 exact e1 2 id

theorem ms_ExprOk_ok (N : Nat) (a0 : LN) {r : Bool} (h : ms_ExprOk N a0 = some r) :
    AC Tryz.prog (GS []) 32 [.sl false false (a0.map (eSN false))] [] (V.b r) [] := by
 rw [ms_ExprOk] at h
 refine AC.enter Tryz.func32 rfl (cV 100 (bB h fun y4 hv5 h => ?_))
 refine CO.cutR (tl 15 [(2, V.b y4)]) [] mix (by
  refine wR 1 100 (bB hv5 fun r5 hx6 hv5 => (w0 (ms_TreeOk_ok N a0 hx6) cok13 (wR 1 100 ?_)))
  refine wJ 5 hv5 (fun hv5 => ?_) (fun hv5 => ?_)
  ·refine wR 2 100 (wN (eSN false) a0 [] (wR 1 100 (bB hv5 fun e6 hx8 hv5 => (wX (eSN false) hx8 5 (wR 2 100 (bB hv5 fun r7 hx9 hv5 => (w0 (ms_IsExpr_ok e6.Kind hx9) cok98 (wR 2 100 ?_))))))))
   cases hv5
   exact fS [] [2]
  refine wR 10 100 ?_
  cases hv5
  exact fS [] [2]
  ) ?_
 cases h
 exact e1 2 id

theorem ml_at_ok (a0 : LU) (a1 : Int) {r : Int} (h : ml_at a0 a1 = some r) :
    AC Tryz.prog (GS []) 27 [sL byteRow a0, V.i a1] [] (V.i r) [] := by
 rw [ml_at] at h
 refine AC.enter Tryz.func27 rfl (cV 100 (CO.seq' (CO.sw mix (wR 2 100 (wN byteRow a0 [] (wR 1 100 (wF ?_)))))))
 refine cI h (fun _ h => ?_) (fun _ h => ?_)
 ·refine bB h fun e4 hx6 h => (CO.sw mix (wR 2 100 (wX byteRow hx6 1 (wR 3 100 (wF ?_)))))
  cases h
  exact e1 4 id
 refine CO.skip (CO.sw mix (wR 3 100 (wN byteRow a0 [] (wR 4 100 (wF (CO.ret ?_))))))
 have h := sI h
 subst h
 exact eG [] (.inr rfl) (RetV.one rfl (OneR.t (t := 4) (r := V.i (Int.tmod (wr ((wr (a1 * 37)) + (wr ((a0.length : Int) * 11)))) 256)) (by kernel_rfl)))

theorem ms_VarOf_ok (N : Nat) (a0 : List SBind) (a1 : LU) {r : Int} (h : ms_VarOf N a0 a1 = some r) :
    AC Tryz.prog (GS []) 201 [sL encSBind a0, V.s a1] [] (V.i r) [] := by
 rw [ms_VarOf] at h
 refine AC.enter Tryz.func201 rfl (cV 100 (CO.seq' (cV 100 (CO.block' (CO.loopJ (fun (⟨a0, a1, y35⟩ : ((List SBind) × LU × Int)) => ⟨tl 24 [(0, sL encSBind a0), (1, V.s a1), (5, V.i y35)], []⟩) (fun n i => ms_VarOf_l1 N n i = some r) (n0 := N) (i0 := (a0, a1, 0)) (wS [] [0, 1, 5]) h (fun i h => by simp [ms_VarOf_l1] at h) ?_)))))
 rintro n1 ⟨a0, a1, y35⟩ h63 ih64
 rw [ms_VarOf_l1] at h63
 refine CO.seq' (CO.sw mix (wR 2 160 (wN encSBind a0 [] (wR 1 160 (wF ?_)))))
 refine cI h63 (fun _ h63 => ?_) (fun _ h63 => ?_)
 ·refine CO.skip (CO.seq' (CO.block' (bB h63 fun e50 hx73 h63 => (CO.sw mix (wR 2 160 (wX encSBind hx73 2 (wR 4 160 (wF ?_))))))))
  refine cI h63 (fun _ h63 => ?_) (fun _ h63 => ?_)
  ·refine bB h63 fun e52 hx76 h63 => (CO.sw mix (wR 2 160 (wX encSBind hx76 2 (wR 3 160 (wF ?_)))))
   cases h63
   exact e1 4 id
  refine CO.skip ?_
  exact cK 160 ih64 (a0, a1, (wr (y35 + 1))) h63 [] [0, 1, 5]
 refine CO.exit (cV 160 ?_)
 cases h63
 exact e1 4 id

theorem ms_Dec_ok (N : Nat) (a0 : Int) {r : LU} (h : ms_Dec N a0 = some r) :
    AC Tryz.prog (GS []) 268 [V.i a0] [] (V.s r) [] := by
 rw [ms_Dec] at h
 refine AC.enter Tryz.func268 rfl (cV 100 (CO.seq' (cV 100 ?_)))
 refine cI h (fun _ h => ?_) (fun _ h => ?_)
 ·refine cV 100 ?_
  cases h
  exact e1 2 id
 refine CO.skip (cV 100 (cV 100 (CO.seq' (CO.block' (CO.loopJ (fun (⟨a0, y17, y18⟩ : (Int × Int × LU)) => ⟨tl 31 [(0, V.i y17), (3, V.s y18), (4, V.b (decide (a0 < 0)))], []⟩) (fun n i => ms_Dec_l1 N n i = some r) (n0 := N) (i0 := (a0, a0, [])) (wS [] [0, 3, 4]) h (fun i h => by simp [ms_Dec_l1] at h) ?_)))))
 rintro n1 ⟨a0, y17, y18⟩ h45 ih46
 rw [ms_Dec_l1] at h45
 refine CO.seq' (cV 162 ?_)
 refine cI h45 (fun _ h45 => ?_) (fun _ h45 => ?_)
 ·refine CO.skip (CO.block' (cV 162 ?_))
  refine CO.join (fun (⟨y17, y18, a0, y24⟩ : (Int × LU × Int × Int)) => ⟨tl 31 [(0, V.i y17), (3, V.s y18), (4, V.b (decide (a0 < 0))), (5, V.i y24)], []⟩) (fun i => ms_Dec_k2 N (ms_Dec_l1 N n1) i = some r) ?_ ?_
  · rintro ⟨y17, y18, a0, y24⟩ h50
    rw [ms_Dec_k2] at h50
    refine bB h50 fun s26 hx52 h50 => (CO.sw mix (wR 3 162 (wR 1 162 (W.vecEq 162 (nn := true) (e := 5) (k := 1) (rows := [[.c (.int .u8 (IntKind.wrap .u8 (wr (48 + y24))))]]) (rows' := [(bytI (wr (48 + y24)))].map byteRow) (by kernel_rfl) (by first | (simp only [List.map_cons, List.map_nil, ← bytI_row]; done) | (simp only [List.map_cons, List.map_nil, ← bytI_row]; rfl)) (W.strO Dk ([(bytI (wr (48 + y24)))] : LU) (a := 162) (by kernel_rfl) (wR 1 163 (W.cat hx52 (by kernel_rfl) (wR 1 163 ?_))))))))
    refine wF ?_
    exact cK 163 ih46 (a0, (wr (Int.tdiv y17 10)), s26) h50 [] [0, 3, 4]
  intro hk53
  refine cV 162 ?_
  refine cI h45 (fun _ h45 => ?_) (fun _ h45 => ?_)
  ·exact cK 162 hk53 (y17, y18, a0, (wr (0 - (Int.tmod y17 10)))) h45 [] [0, 3, 4, 5]
  exact sK hk53 (y17, y18, a0, (Int.tmod y17 10)) h45 [] [0, 3, 4, 5]
 refine CO.exit (CO.seq' (cV 162 ?_))
 refine cI h45 (fun _ h45 => ?_) (fun _ h45 => ?_)
 ·refine bB h45 fun s30 hx60 h45 => (CO.sw mix (wR 1 162 (W.cat hx60 (by kernel_rfl) (wR 1 162 (wF ?_)))))
  cases h45
  exact e1 2 id
 refine CO.skip (cV 162 ?_)
 cases h45
 exact e1 2 id

theorem ms_ReadDec_ok (N : Nat) (a0 : LU) {r : (Int × Bool)} (h : ms_ReadDec N a0 = some r) :
    AC Tryz.prog (GS []) 241 [V.s a0] [] (.tup [V.i r.1, V.b r.2]) [] := by
 rw [ms_ReadDec] at h
 refine AC.enter Tryz.func241 rfl (cV 100 (cV 100 (cV 100 (CO.seq' (cV 100 (CO.block' (CO.loopJ (fun (⟨a0, y79, y80, y81⟩ : (LU × Int × Int × Int)) => ⟨tl 61 [(0, V.s a0), (4, V.i y79), (5, V.i y80), (6, V.i y81)], []⟩) (fun n i => ms_ReadDec_l1 N n i = some r) (n0 := N) (i0 := (a0, 0, 0, 0)) (wS [] [0, 4, 5, 6]) h (fun i h => by simp [ms_ReadDec_l1] at h) ?_)))))))
 rintro n1 ⟨a0, y79, y80, y81⟩ h153 ih154
 rw [ms_ReadDec_l1] at h153
 refine CO.seq' (bB h153 fun y104 hv160 h153 => ?_)
 refine CO.cutR (tl 61 [(0, V.s a0), (4, V.i y79), (5, V.i y80), (6, V.i y81), (14, V.b y104)]) [] mix (by
  refine wR 5 160 ?_
  refine wJ 11 hv160 (fun hv160 => ?_) (fun hv160 => ?_)
  ·refine wR 3 160 ?_
   cases hv160
   exact fS [] [0, 4, 5, 6, 14]
  refine wR 3 160 ?_
  cases hv160
  exact fS [] [0, 4, 5, 6, 14]
  ) ?_
 refine cI h153 (fun _ h153 => ?_) (fun _ h153 => ?_)
 ·refine CO.skip ?_
  refine CO.join (fun (⟨a0, y81, y112, y113⟩ : (LU × Int × Int × Int)) => ⟨tl 61 [(0, V.s a0), (4, V.i y112), (5, V.i y113), (6, V.i y81)], []⟩) (fun i => ms_ReadDec_k2 N (ms_ReadDec_l1 N n1) i = some r) ?_ ?_
  · rintro ⟨a0, y81, y112, y113⟩ h173
    rw [ms_ReadDec_k2] at h173
    exact cK 160 ih154 (a0, y112, y113, (wr (y81 + 1))) h173 [] [0, 4, 5, 6]
  intro hk174
  refine CO.block' (bB h153 fun y116 hv178 h153 => ?_)
  refine CO.cutR (tl 61 [(0, V.s a0), (4, V.i y79), (5, V.i y80), (6, V.i y81), (26, V.b y116)]) [] mix (by
   refine wR 2 160 (bB hv178 fun b117 hx179 hv178 => (W.ixS Dk hx179 (by kernel_rfl) (wR 2 160 ?_)))
   refine wJ 21 hv178 (fun hv178 => ?_) (fun hv178 => ?_)
   ·refine wR 2 160 (bB hv178 fun b118 hx181 hv178 => (W.ixS Dk hx181 (by kernel_rfl) (wR 2 160 ?_)))
    cases hv178
    exact fS [] [0, 4, 5, 6, 26]
   refine wR 5 160 ?_
   cases hv178
   exact fS [] [0, 4, 5, 6, 26]
   ) ?_
  refine cI h153 (fun _ h153 => ?_) (fun _ h153 => ?_)
  ·refine bB h153 fun b120 hx184 h153 => (CO.sw mix (wR 4 160 (W.ixS Dk hx184 (by kernel_rfl) (wR 4 160 (wF ?_)))))
   exact cK 160 hk174 (a0, y81, (wr ((wr (y79 * 10)) + (wr (IntKind.wrap .u8 (((b120).toNat : Int) - 48))))), (wr (y80 + 1))) h153 [] [0, 4, 5, 6]
  exact sK hk174 (a0, y81, y79, y80) h153 [] [0, 4, 5, 6]
 refine CO.exit ?_
 refine CO.join (fun (⟨a0, y80, y124⟩ : (LU × Int × Int)) => ⟨tl 61 [(0, V.s a0), (4, V.i y124), (5, V.i y80)], []⟩) (fun i => ms_ReadDec_k3 N (ms_ReadDec_l1 N n1) i = some r) ?_ ?_
 · rintro ⟨a0, y80, y124⟩ h191
   rw [ms_ReadDec_k3] at h191
   refine CO.seq' (bB h191 fun y129 hv203 h191 => ?_)
   refine CO.cutR (tl 61 [(4, V.i y124), (59, V.b y129)]) [] mix (by
    refine wR 3 160 ?_
    refine wJ 49 hv203 (fun hv203 => ?_) (fun hv203 => ?_)
    ·refine wR 10 160 ?_
     cases hv203
     exact fS [] [4, 59]
    refine wR 5 160 ?_
    refine wJ 54 hv203 (fun hv203 => ?_) (fun hv203 => ?_)
    ·refine wR 5 160 ?_
     cases hv203
     exact fS [] [4, 59]
    refine wR 1 160 (bB hv203 fun r130 hx206 hv203 => (w0 (ms_Dec_ok N y124 hx206) cok268 (wR 3 160 ?_)))
    cases hv203
    exact fS [] [4, 59]
    ) ?_
   refine cI h191 (fun _ h191 => ?_) (fun _ h191 => ?_)
   ·refine cV 160 (CO.ret ?_)
    cases h191
    exact eG [] (.inr rfl) (RetV.two rfl (oT (t := 2) (r := V.i 0)) (oT (t := 3) (r := V.b false)))
   refine CO.skip (cV 160 (CO.ret ?_))
   have h191 := sI h191
   subst h191
   exact eG [] (.inr rfl) (RetV.two rfl (oT (t := 2) (r := V.i y124)) (oT (t := 3) (r := V.b true)))
 intro hk208
 refine bB h153 fun y132 hv211 h153 => ?_
 refine CO.cutR (tl 61 [(0, V.s a0), (4, V.i y79), (5, V.i y80), (44, V.b y132)]) [] mix (by
  refine wR 4 160 ?_
  refine wJ 40 hv211 (fun hv211 => ?_) (fun hv211 => ?_)
  ·refine wR 1 160 (bB hv211 fun b133 hx213 hv211 => (W.ixS Dk hx213 (by kernel_rfl) (wR 2 160 ?_)))
   cases hv211
   exact fS [] [0, 4, 5, 44]
  refine wR 4 160 ?_
  cases hv211
  exact fS [] [0, 4, 5, 44]
  ) ?_
 refine cI h153 (fun _ h153 => ?_) (fun _ h153 => ?_)
 ·exact cK 160 hk208 (a0, y80, (wr (0 - y79))) h153 [] [0, 4, 5]
 exact sK hk208 (a0, y80, y79) h153 [] [0, 4, 5]

theorem ms_Numeral_ok (N : Nat) (a0 : LU) {r : (Int × Bool)} (h : ms_Numeral N a0 = some r) :
    AC Tryz.prog (GS []) 202 [V.s a0] [] (.tup [V.i r.1, V.b r.2]) [] := by
 rw [ms_Numeral] at h
 refine AC.enter Tryz.func202 rfl (cV 100 (bB h fun r2 hx2 h => (cC 1 100 (ms_ReadDec_ok N a0 hx2) cok241 (CO.seq' (bB h fun y4 hv8 h => ?_)))))
 refine CO.cutR (tl 18 [(4, V.i r2.1), (16, V.b y4)]) [] mix (by
  refine wR 3 100 ?_
  refine wJ 13 hv8 (fun hv8 => ?_) (fun hv8 => ?_)
  ·refine wR 3 100 ?_
   cases hv8
   exact fS [] [4, 16]
  refine wR 3 100 ?_
  cases hv8
  exact fS [] [4, 16]
  ) ?_
 refine cI h (fun _ h => ?_) (fun _ h => ?_)
 ·refine cV 100 (CO.ret ?_)
  cases h
  exact eG [] (.inr rfl) (RetV.two rfl (oT (t := 2) (r := V.i 0)) (oT (t := 3) (r := V.b false)))
 refine CO.skip (cV 100 (CO.ret ?_))
 have h := sI h
 subst h
 exact eG [] (.inr rfl) (RetV.two rfl (oT (t := 2) (r := V.i r2.1)) (oT (t := 3) (r := V.b true)))

theorem ms_l27Bool_ok (a0 : Bool) {r : Int} (h : ms_l27Bool a0 = some r) :
    AC Tryz.prog (GS []) 203 [V.b a0] [] (V.i r) [] := by
 rw [ms_l27Bool] at h
 refine AC.enter Tryz.func203 rfl (cV 100 (CO.seq' (cV 100 ?_)))
 refine cI h (fun _ h => ?_) (fun _ h => ?_)
 ·refine cV 100 ?_
  cases h
  exact e1 2 id
 refine CO.skip (cV 100 ?_)
 cases h
 exact e1 2 id

theorem ms_l27Two_ok (a0 : Int) (a1 : Int) (a2 : Int) {r : (Int × Bool)} (h : ms_l27Two a0 a1 a2 = some r) :
    AC Tryz.prog (GS []) 205 [V.i a0, V.i a1, V.i a2] [] (.tup [V.i r.1, V.b r.2]) [] := by
 rw [ms_l27Two] at h
 refine AC.enter Tryz.func205 rfl (cV 100 (CO.seq' (cV 100 (CO.block' (cV 100 ?_)))))
 refine cI h (fun _ h => ?_) (fun _ h => ?_)
 ·refine cV 100 (CO.ret ?_)
  have h := sI h
  subst h
  exact eG [] (.inr rfl) (RetV.two rfl (oT (t := 6) (r := V.i (wr (a1 + a2)))) (oT (t := 7) (r := V.b true)))
 refine cV 100 ?_
 refine cI h (fun _ h => ?_) (fun _ h => ?_)
 ·refine cV 100 (CO.ret ?_)
  have h := sI h
  subst h
  exact eG [] (.inr rfl) (RetV.two rfl (oT (t := 6) (r := V.i (wr (a1 - a2)))) (oT (t := 7) (r := V.b true)))
 refine cV 100 ?_
 refine cI h (fun _ h => ?_) (fun _ h => ?_)
 ·refine cV 100 (CO.ret ?_)
  have h := sI h
  subst h
  exact eG [] (.inr rfl) (RetV.two rfl (oT (t := 6) (r := V.i (wr (a1 * a2)))) (oT (t := 7) (r := V.b true)))
 refine cV 100 ?_
 refine cI h (fun _ h => ?_) (fun _ h => ?_)
 ·refine CO.seq' (cV 100 ?_)
  refine cI h (fun _ h => ?_) (fun _ h => ?_)
  ·refine cV 100 (CO.ret ?_)
   cases h
   exact eG [] (.inr rfl) (RetV.two rfl (oT (t := 6) (r := V.i 0)) (oT (t := 7) (r := V.b false)))
  refine CO.skip (bB h fun x16 hx34 h => (CO.sw mix (wR 2 100 (W.rem (k := .i64) hx34 (by kernel_rfl) (wR 2 100 (wF (CO.ret ?_)))))))
  have h := sI h
  subst h
  exact eG [] (.inr rfl) (RetV.two rfl (oT (t := 6) (r := V.i x16)) (oT (t := 7) (r := V.b true)))
 refine cV 100 ?_
 refine cI h (fun _ h => ?_) (fun _ h => ?_)
 ·refine bB h fun r18 hx37 h => (cC 3 100 (ms_l27Bool_ok (decide (a1 < a2)) hx37) cok203 (CO.ret ?_))
  have h := sI h
  subst h
  exact eG [] (.inr rfl) (RetV.two rfl (oT (t := 6) (r := V.i r18)) (oT (t := 7) (r := V.b true)))
 refine cV 100 ?_
 refine cI h (fun _ h => ?_) (fun _ h => ?_)
 ·refine bB h fun r20 hx40 h => (cC 3 100 (ms_l27Bool_ok (decide (a1 ≤ a2)) hx40) cok203 (CO.ret ?_))
  have h := sI h
  subst h
  exact eG [] (.inr rfl) (RetV.two rfl (oT (t := 6) (r := V.i r20)) (oT (t := 7) (r := V.b true)))
 refine cV 100 ?_
 refine cI h (fun _ h => ?_) (fun _ h => ?_)
 ·refine bB h fun r22 hx43 h => (cC 3 100 (ms_l27Bool_ok (a1 == a2) hx43) cok203 (CO.ret ?_))
  have h := sI h
  subst h
  exact eG [] (.inr rfl) (RetV.two rfl (oT (t := 6) (r := V.i r22)) (oT (t := 7) (r := V.b true)))
 refine cV 100 ?_
 refine cI h (fun _ h => ?_) (fun _ h => ?_)
 ·refine bB h fun r24 hx46 h => (cC 3 100 (ms_l27Bool_ok (a1 != a2) hx46) cok203 (CO.ret ?_))
  have h := sI h
  subst h
  exact eG [] (.inr rfl) (RetV.two rfl (oT (t := 6) (r := V.i r24)) (oT (t := 7) (r := V.b true)))
 refine cV 100 ?_
 refine cI h (fun _ h => ?_) (fun _ h => ?_)
 ·refine bB h fun r26 hx49 h => (cC 3 100 (ms_l27Bool_ok (decide (a1 > a2)) hx49) cok203 (CO.ret ?_))
  have h := sI h
  subst h
  exact eG [] (.inr rfl) (RetV.two rfl (oT (t := 6) (r := V.i r26)) (oT (t := 7) (r := V.b true)))
 refine cV 100 ?_
 refine cI h (fun _ h => ?_) (fun _ h => ?_)
 ·refine bB h fun r28 hx52 h => (cC 3 100 (ms_l27Bool_ok (decide (a1 ≥ a2)) hx52) cok203 (CO.ret ?_))
  have h := sI h
  subst h
  exact eG [] (.inr rfl) (RetV.two rfl (oT (t := 6) (r := V.i r28)) (oT (t := 7) (r := V.b true)))
 refine CO.skip (cV 100 (CO.ret ?_))
 cases h
 exact eG [] (.inr rfl) (RetV.two rfl (oT (t := 6) (r := V.i 0)) (oT (t := 7) (r := V.b false)))

end Go.Proofs.Tryz
