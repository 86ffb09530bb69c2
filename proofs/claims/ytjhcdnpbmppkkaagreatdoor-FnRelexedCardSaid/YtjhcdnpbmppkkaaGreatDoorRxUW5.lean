/-
 The walks that show that the code computes the models, part 5.
-/
import Derived.Test.YtjhcdnpbmppkkaaGreatDoorRxUW4
namespace Go.Proofs.Tryz
open Go.Av
set_option maxRecDepth 100000
set_option maxHeartbeats 8000000
set_option linter.unusedSimpArgs false
set_option linter.unusedVariables false

theorem mi_quotedEnd_ok (N : Nat) (a0 : LU) (a1 : Int) (a2 : Int) {r : Int} (h : mi_quotedEnd N a0 a1 a2 = some r) :
    AC Tryz.prog (GS []) 100 [V.s a0, V.i a1, V.i a2] [] (V.i r) [] := by
 rw [mi_quotedEnd] at h
 refine AC.enter Tryz.func100 rfl (cV 100 (CO.seq' (bB h fun r4 hx5 h => (cC 2 100 (mi_byteAt_ok a0 a1 hx5) cok51 ?_))))
 refine cI h (fun _ h => ?_) (fun _ h => ?_)
 ·refine cV 100 ?_
  cases h
  exact e1 6 id
 refine CO.skip (CO.seq' (cV 100 (CO.block' (CO.loopJ (fun (⟨a0, a2, y91⟩ : (LU × Int × Int)) => ⟨tl 50 [(0, V.s a0), (2, V.i a2), (7, V.i y91)], []⟩) (fun n i => mi_quotedEnd_l1 N n i = some r) (n0 := N) (i0 := (a0, a2, (wr (a1 + 1)))) (wS [] [0, 2, 7]) h (fun i h => by simp [mi_quotedEnd_l1] at h) ?_))))
 rintro n1 ⟨a0, a2, y91⟩ h189 ih190
 rw [mi_quotedEnd_l1] at h189
 refine CO.seq' (bB h189 fun y118 hv199 h189 => ?_)
 refine CO.cutR (tl 50 [(0, V.s a0), (2, V.i a2), (7, V.i y91), (24, V.b y118)]) [] mix (by
  refine wR 5 160 ?_
  refine wJ 19 hv199 (fun hv199 => ?_) (fun hv199 => ?_)
  ·refine wR 2 160 (bB hv199 fun b119 hx201 hv199 => (W.ixS Dk hx201 (by kernel_rfl) (wR 2 160 ?_)))
   cases hv199
   exact fS [] [0, 2, 7, 24]
  refine wR 5 160 ?_
  cases hv199
  exact fS [] [0, 2, 7, 24]
  ) ?_
 refine cI h189 (fun _ h189 => ?_) (fun _ h189 => ?_)
 ·refine CO.skip ?_
  refine CO.join (fun (⟨a0, a2, y127⟩ : (LU × Int × Int)) => ⟨tl 50 [(0, V.s a0), (2, V.i a2), (7, V.i y127)], []⟩) (fun i => mi_quotedEnd_k2 N (mi_quotedEnd_l1 N n1) i = some r) ?_ ?_
  · rintro ⟨a0, a2, y127⟩ h214
    rw [mi_quotedEnd_k2] at h214
    exact cK 160 ih190 (a0, a2, (wr (y127 + 1))) h214 [] [0, 2, 7]
  intro hk215
  refine CO.block' (CO.block' (bB h189 fun b129 hx217 h189 => (CO.sw mix (wR 2 160 (W.ixS Dk hx217 (by kernel_rfl) (wR 4 160 (wF ?_)))))))
  refine cI h189 (fun _ h189 => ?_) (fun _ h189 => ?_)
  ·refine cV 160 ?_
   cases h189
   exact e1 6 id
  refine bB h189 fun y132 hv222 h189 => ?_
  refine CO.cutR (tl 50 [(0, V.s a0), (2, V.i a2), (7, V.i y91), (36, V.b y132)]) [] mix (by
   refine wR 2 160 (bB hv222 fun b133 hx223 hv222 => (W.ixS Dk hx223 (by kernel_rfl) (wR 2 160 ?_)))
   refine wJ 41 hv222 (fun hv222 => ?_) (fun hv222 => ?_)
   ·refine wR 3 160 (bB hv222 fun r134 hx225 hv222 => (w0 (mi_byteAt_ok a0 (wr (y91 + 1)) hx225) cok51 (wR 3 160 ?_)))
    cases hv222
    exact fS [] [0, 2, 7, 36]
   refine wR 7 160 ?_
   cases hv222
   exact fS [] [0, 2, 7, 36]
   ) ?_
  refine cI h189 (fun _ h189 => ?_) (fun _ h189 => ?_)
  ·exact cK 160 hk215 (a0, a2, (wr (y91 + 1))) h189 [] [0, 2, 7]
  exact sK hk215 (a0, a2, y91) h189 [] [0, 2, 7]
 refine CO.exit (cV 160 ?_)
 cases h189
 exact e1 6 id

theorem mi_StrEnd_ok (N : Nat) (a0 : LU) (a1 : Int) {r : Int} (h : mi_StrEnd N a0 a1 = some r) :
    AC Tryz.prog (GS []) 77 [V.s a0, V.i a1] [] (V.i r) [] := by
 rw [mi_StrEnd] at h
 refine AC.enter Tryz.func77 rfl (cV 100 (bB h fun r2 hx2 h => (cC 2 100 (mi_quotedEnd_ok N a0 a1 34 hx2) cok100 ?_)))
 cases h
 exact e1 4 id

theorem mi_EndsOperand_ok (a0 : Int) {r : Bool} (h : mi_EndsOperand a0 = some r) :
    AC Tryz.prog (GS []) 78 [V.i a0] [] (V.b r) [] := by
 rw [mi_EndsOperand] at h
 refine AC.enter Tryz.func78 rfl (cV 100 (CO.seq' (cV 100 (CO.block' ?_))))
 refine CO.join (fun (y2 : Bool) => ⟨tl 14 [(4, V.b y2)], []⟩) (fun i => mi_EndsOperand_k1 i = some r) ?_ ?_
 · rintro y2 h28
   rw [mi_EndsOperand_k1] at h28
   refine cI h28 (fun _ h28 => ?_) (fun _ h28 => ?_)
   ·refine cV 100 ?_
    cases h28
    exact e1 2 id
   refine CO.skip (cV 100 ?_)
   cases h28
   exact e1 2 id
 intro hk30
 refine cV 100 ?_
 refine cI h (fun _ h => ?_) (fun _ h => ?_)
 ·exact sK hk30 (a0 == 3) h [] [4]
 refine cV 100 ?_
 refine cI h (fun _ h => ?_) (fun _ h => ?_)
 ·exact sK hk30 (a0 == 4) h [] [4]
 refine cV 100 ?_
 refine cI h (fun _ h => ?_) (fun _ h => ?_)
 ·exact sK hk30 (a0 == 5) h [] [4]
 refine cV 100 ?_
 refine cI h (fun _ h => ?_) (fun _ h => ?_)
 ·exact sK hk30 (a0 == 6) h [] [4]
 refine cV 100 ?_
 refine cI h (fun _ h => ?_) (fun _ h => ?_)
 ·exact sK hk30 (a0 == 8) h [] [4]
 refine cV 100 ?_
 refine cI h (fun _ h => ?_) (fun _ h => ?_)
 ·exact sK hk30 (a0 == 33) h [] [4]
 refine cV 100 ?_
 refine cI h (fun _ h => ?_) (fun _ h => ?_)
 ·exact sK hk30 (a0 == 35) h [] [4]
 refine cV 100 ?_
 refine cI h (fun _ h => ?_) (fun _ h => ?_)
 ·exact sK hk30 (a0 == 51) h [] [4]
 exact cK 100 hk30 (a0 == 52) h [] [4]

theorem mi_EreEnd_ok (N : Nat) (a0 : LU) (a1 : Int) {r : Int} (h : mi_EreEnd N a0 a1 = some r) :
    AC Tryz.prog (GS []) 79 [V.s a0, V.i a1] [] (V.i r) [] := by
 rw [mi_EreEnd] at h
 refine AC.enter Tryz.func79 rfl (cV 100 (bB h fun r2 hx2 h => (cC 2 100 (mi_quotedEnd_ok N a0 a1 47 hx2) cok100 (CO.seq' (cV 100 ?_)))))
 refine cI h (fun _ h => ?_) (fun _ h => ?_)
 ·refine cV 100 ?_
  cases h
  exact e1 4 id
 refine CO.skip (cV 100 ?_)
 cases h
 exact e1 4 id

theorem mi_IsLetter_ok (a0 : Int) {r : Bool} (h : mi_IsLetter a0 = some r) :
    AC Tryz.prog (GS []) 80 [V.i a0] [] (V.b r) [] := by
 rw [mi_IsLetter] at h
 refine AC.enter Tryz.func80 rfl (cV 100 (bB h fun y1 hv7 h => ?_))
 refine CO.cutR (tl 21 [(2, V.b y1)]) [] mix (by
  refine wR 3 100 ?_
  refine wJ 5 hv7 (fun hv7 => ?_) (fun hv7 => ?_)
  ·refine wR 4 100 ?_
   refine wJ 9 hv7 (fun hv7 => ?_) (fun hv7 => ?_)
   ·refine wR 12 100 ?_
    cases hv7
    exact fS [] [2]
   refine wR 3 100 ?_
   refine wJ 12 hv7 (fun hv7 => ?_) (fun hv7 => ?_)
   ·refine wR 5 100 ?_
    refine wJ 17 hv7 (fun hv7 => ?_) (fun hv7 => ?_)
    ·refine wR 4 100 ?_
     cases hv7
     exact fS [] [2]
    refine wR 4 100 ?_
    cases hv7
    exact fS [] [2]
   refine wR 9 100 ?_
   cases hv7
   exact fS [] [2]
  refine wR 7 100 ?_
  refine wJ 12 hv7 (fun hv7 => ?_) (fun hv7 => ?_)
  ·refine wR 5 100 ?_
   refine wJ 17 hv7 (fun hv7 => ?_) (fun hv7 => ?_)
   ·refine wR 4 100 ?_
    cases hv7
    exact fS [] [2]
   refine wR 4 100 ?_
   cases hv7
   exact fS [] [2]
  refine wR 9 100 ?_
  cases hv7
  exact fS [] [2]
  ) ?_
 cases h
 exact e1 2 id

theorem mi_IsWordByte_ok (a0 : Int) {r : Bool} (h : mi_IsWordByte a0 = some r) :
    AC Tryz.prog (GS []) 101 [V.i a0] [] (V.b r) [] := by
 rw [mi_IsWordByte] at h
 refine AC.enter Tryz.func101 rfl (cV 100 (bB h fun y3 hv4 h => ?_))
 refine CO.cutR (tl 9 [(2, V.b y3)]) [] mix (by
  refine wR 1 100 (bB hv4 fun r4 hx5 hv4 => (w0 (mi_IsLetter_ok a0 hx5) cok80 (wR 1 100 ?_)))
  refine wJ 5 hv4 (fun hv4 => ?_) (fun hv4 => ?_)
  ·refine wR 4 100 ?_
   cases hv4
   exact fS [] [2]
  refine wR 1 100 (bB hv4 fun r5 hx7 hv4 => (w0 (mi_IsDigit_ok a0 hx7) cok75 (wR 2 100 ?_)))
  cases hv4
  exact fS [] [2]
  ) ?_
 cases h
 exact e1 2 id

theorem mi_NameEnd_ok (N : Nat) (a0 : LU) (a1 : Int) {r : Int} (h : mi_NameEnd N a0 a1 = some r) :
    AC Tryz.prog (GS []) 81 [V.s a0, V.i a1] [] (V.i r) [] := by
 rw [mi_NameEnd] at h
 refine AC.enter Tryz.func81 rfl (cV 100 (CO.seq' (bB h fun r7 hx8 h => (bB h fun r8 hx9 h => (CO.sw mix (wR 2 100 (w0 (mi_byteAt_ok a0 a1 hx8) cok51 (w0 (mi_IsLetter_ok r7 hx9) cok80 ?_))))))))
 refine wR 1 100 (wF ?_)
 refine cI h (fun _ h => ?_) (fun _ h => ?_)
 ·refine cV 100 ?_
  cases h
  exact e1 4 id
 refine CO.skip (CO.seq' (CO.block' (CO.loopJ (fun (⟨a0, a1⟩ : (LU × Int)) => ⟨tl 17 [(0, V.s a0), (1, V.i a1)], []⟩) (fun n i => mi_NameEnd_l1 N n i = some r) (n0 := N) (i0 := (a0, a1)) (wS [] [0, 1]) h (fun i h => by simp [mi_NameEnd_l1] at h) ?_)))
 rintro n1 ⟨a0, a1⟩ h43 ih44
 rw [mi_NameEnd_l1] at h43
 refine CO.seq' (bB h43 fun r41 hx52 h43 => (bB h43 fun r42 hx53 h43 => (CO.sw mix (wR 2 140 (w0 (mi_byteAt_ok a0 a1 hx52) cok51 (w0 (mi_IsWordByte_ok r41 hx53) cok101 (wF ?_)))))))
 refine cI h43 (fun _ h43 => ?_) (fun _ h43 => ?_)
 ·refine CO.skip (CO.block' ?_)
  exact cK 140 ih44 (a0, (wr (a1 + 1))) h43 [] [0, 1]
 refine CO.exit (cV 140 ?_)
 cases h43
 exact e1 4 id

theorem mi_NameShape_ok (N : Nat) (a0 : LU) {r : Bool} (h : mi_NameShape N a0 = some r) :
    AC Tryz.prog (GS []) 82 [V.s a0] [] (V.b r) [] := by
 rw [mi_NameShape] at h
 refine AC.enter Tryz.func82 rfl (cV 100 (CO.seq' (cV 100 (CO.block' (CO.loopJ (fun (⟨a0, y35⟩ : (LU × Int)) => ⟨tl 25 [(0, V.s a0), (5, V.i (a0.length : Int)), (6, V.i y35)], []⟩) (fun n i => mi_NameShape_l1 N n i = some r) (n0 := N) (i0 := (a0, 0)) (wS [] [0, 5, 6]) h (fun i h => by simp [mi_NameShape_l1] at h) ?_)))))
 rintro n1 ⟨a0, y35⟩ h63 ih64
 rw [mi_NameShape_l1] at h63
 refine cV 160 (CO.seq' ?_)
 refine cI h63 (fun _ h63 => ?_) (fun _ h63 => ?_)
 ·refine CO.skip (CO.seq' (CO.block' (cV 160 (bB h63 fun b51 hx74 h63 => (bB h63 fun r52 hx75 h63 => (CO.sw mix (wR 2 160 (W.ixS Dk hx74 (by kernel_rfl) ?_))))))))
  refine wR 1 160 (w0 (mi_IsWordByte_ok (wr ((b51).toNat : Int)) hx75) cok101 (wR 1 160 (wF ?_)))
  refine cI h63 (fun _ h63 => ?_) (fun _ h63 => ?_)
  ·refine cV 160 ?_
   cases h63
   exact e1 2 id
  refine CO.skip ?_
  exact cK 160 ih64 (a0, (wr (y35 + 1))) h63 [] [0, 5, 6]
 refine CO.exit (bB h63 fun y56 hv81 h63 => ?_)
 refine CO.cutR (tl 25 [(2, V.b y56)]) [] mix (by
  refine wR 2 160 (bB hv81 fun r57 hx82 hv81 => (w0 (mi_within_ok (a0.length : Int) 1 12 hx82) cok24 (wR 1 160 ?_)))
  refine wJ 19 hv81 (fun hv81 => ?_) (fun hv81 => ?_)
  ·refine wR 1 160 (bB hv81 fun b58 hx84 hv81 => (W.ixS Dk hx84 (by kernel_rfl) (wR 1 160 (bB hv81 fun r59 hx85 hv81 => (w0 (mi_IsLetter_ok (wr ((b58).toNat : Int)) hx85) cok80 (wR 2 160 ?_))))))
   cases hv81
   exact fS [] [2]
  refine wR 6 160 ?_
  cases hv81
  exact fS [] [2]
  ) ?_
 cases h63
 exact e1 2 id

theorem m_slices_Index_string_ok (N : Nat) (a0 : LLU) (a1 : LU) {r : Int} (h : m_slices_Index_string N a0 a1 = some r) :
    AC Tryz.prog (GS []) 123 [sL eNS a0, V.s a1] [] (V.i r) [] := by
 rw [m_slices_Index_string] at h
 refine AC.enter Tryz.func123 rfl (cV 100 (CO.seq' (CO.sw mix (wR 1 100 (wN eNS a0 [] (wR 1 100 (wF (CO.block' ?_))))))))
 refine CO.loopJ (fun (⟨a0, a1, y19⟩ : (LLU × LU × Int)) => ⟨tl 19 [(0, sL eNS a0), (1, V.s a1), (7, V.i (a0.length : Int)), (8, V.i y19)], []⟩) (fun n i => m_slices_Index_string_l1 N n i = some r) (n0 := N) (i0 := (a0, a1, 0)) (wS [] [0, 1, 7, 8]) h (fun i h => by simp [m_slices_Index_string_l1] at h) ?_
 rintro n1 ⟨a0, a1, y19⟩ h43 ih44
 rw [m_slices_Index_string_l1] at h43
 refine cV 160 (CO.seq' ?_)
 refine cI h43 (fun _ h43 => ?_) (fun _ h43 => ?_)
 ·refine CO.skip (CO.seq' (CO.block' (cV 160 (bB h43 fun e28 hx51 h43 => (CO.sw mix (wR 3 160 (wX eNS hx51 1 (wR 2 160 ?_))))))))
  refine wF ?_
  refine cI h43 (fun _ h43 => ?_) (fun _ h43 => ?_)
  ·refine cV 160 ?_
   cases h43
   exact e1 4 id
  refine CO.skip ?_
  exact cK 160 ih44 (a0, a1, (wr (y19 + 1))) h43 [] [0, 1, 7, 8]
 refine CO.exit (cV 160 ?_)
 cases h43
 exact e1 4 id

theorem mi_KeywordOf_ok (N : Nat) (a0 : LU) {r : Int} (h : mi_KeywordOf N a0 = some r) :
    AC Tryz.prog (GS [2]) 102 [V.s a0] [] (V.i r) [] := by
 rw [mi_KeywordOf] at h
 refine AC.enter Tryz.func102 rfl (cV 100 (bB h fun r2 hx2 h => (CO.sw mix (W.cutG Dk V.s tab_keywords (by kernel_rfl) (wR 1 100 (w0 (AC.gs (m_slices_Index_string_ok N tab_keywords a0 hx2) (by decide)) cok123 (wR 1 100 (wF ?_))))))))
 refine CO.seq' (cV 100 ?_)
 refine cI h (fun _ h => ?_) (fun _ h => ?_)
 ·refine cV 100 ?_
  cases h
  exact e1 2 id
 refine CO.skip (cV 100 ?_)
 cases h
 exact e1 2 id

theorem m_slices_Contains_string_ok (N : Nat) (a0 : LLU) (a1 : LU) {r : Bool} (h : m_slices_Contains_string N a0 a1 = some r) :
    AC Tryz.prog (GS []) 124 [sL eNS a0, V.s a1] [] (V.b r) [] := by
 rw [m_slices_Contains_string] at h
 refine AC.enter Tryz.func124 rfl (cV 100 (bB h fun r2 hx2 h => (cC 2 100 (m_slices_Index_string_ok N a0 a1 hx2) cok123 ?_)))
 cases h
 exact e1 4 id

theorem mi_IsBuiltin_ok (N : Nat) (a0 : LU) {r : Bool} (h : mi_IsBuiltin N a0 = some r) :
    AC Tryz.prog (GS [3]) 103 [V.s a0] [] (V.b r) [] := by
 rw [mi_IsBuiltin] at h
 refine AC.enter Tryz.func103 rfl (cV 100 (bB h fun r2 hx2 h => (CO.sw mix (W.cutG Dk V.s tab_builtins (by kernel_rfl) (wR 1 100 (w0 (AC.gs (m_slices_Contains_string_ok N tab_builtins a0 hx2) (by decide)) cok124 (wR 1 100 (wF ?_))))))))
 cases h
 exact e1 2 id

theorem mi_wordToken_ok (N : Nat) (a0 : LU) (a1 : Int) (a2 : Int) {r : SToken} (h : mi_wordToken N a0 a1 a2 = some r) :
    AC Tryz.prog (GS [2, 3]) 83 [V.s a0, V.i a1, V.i a2] [] (.agg [V.i r.Kind, V.s r.Text, V.i r.At]) [] := by
 rw [mi_wordToken] at h
 refine AC.enter Tryz.func83 rfl (cV 100 (bB h fun s2 hx2 h => (CO.sw mix (wR 3 101 (W.cutS Dk hx2 (by kernel_rfl) (wR 1 101 (wF (CO.seq' ?_))))))))
 refine CO.block' (bB h fun r12 hx15 h => (cC 1 101 (AC.gs (mi_KeywordOf_ok N s2 hx15) (by decide)) cok102 ?_))
 refine cI h (fun _ h => ?_) (fun _ h => ?_)
 ·refine bB h fun r14 hx18 h => (cC 1 101 (AC.gs (mi_KeywordOf_ok N s2 hx18) (by decide)) cok102 (CO.ret ?_))
  have h := sI h
  subst h
  exact eG [] (.inr rfl) (RetV.one rfl (OneR.cell Dk (r := .agg [V.i r14, V.s s2, V.i a1]) (i := 100) (ety := 36) (cs := [V.i r14, V.s s2, V.i a1]) (by kernel_rfl) (by kernel_rfl) (by kernel_rfl)))
 refine bB h fun r16 hx20 h => (cC 1 101 (AC.gs (mi_IsBuiltin_ok N s2 hx20) (by decide)) cok103 ?_)
 refine cI h (fun _ h => ?_) (fun _ h => ?_)
 ·refine cV 101 (CO.ret ?_)
  have h := sI h
  subst h
  exact eG [] (.inr rfl) (RetV.one rfl (OneR.cell Dk (r := .agg [V.i 8, V.s s2, V.i a1]) (i := 100) (ety := 36) (cs := [V.i 8, V.s s2, V.i a1]) (by kernel_rfl) (by kernel_rfl) (by kernel_rfl)))
 refine bB h fun r18 hx23 h => (cC 2 101 (AC.gs (mi_byteAt_ok a0 a2 hx23) (by decide)) cok51 ?_)
 refine cI h (fun _ h => ?_) (fun _ h => ?_)
 ·refine cV 101 (CO.ret ?_)
  have h := sI h
  subst h
  exact eG [] (.inr rfl) (RetV.one rfl (OneR.cell Dk (r := .agg [V.i 7, V.s s2, V.i a1]) (i := 100) (ety := 36) (cs := [V.i 7, V.s s2, V.i a1]) (by kernel_rfl) (by kernel_rfl) (by kernel_rfl)))
 refine CO.skip (cV 101 (CO.ret ?_))
 have h := sI h
 subst h
 exact eG [] (.inr rfl) (RetV.one rfl (OneR.cell Dk (r := .agg [V.i 6, V.s s2, V.i a1]) (i := 100) (ety := 36) (cs := [V.i 6, V.s s2, V.i a1]) (by kernel_rfl) (by kernel_rfl) (by kernel_rfl)))

theorem m_stringslite_HasPrefix_ok (a0 : LU) (a1 : LU) {r : Bool} (h : m_stringslite_HasPrefix a0 a1 = some r) :
    AC Tryz.prog (GS []) 125 [V.s a0, V.s a1] [] (V.b r) [] := by
 rw [m_stringslite_HasPrefix] at h
 refine AC.enter Tryz.func125 rfl (cV 100 (bB h fun y2 hv3 h => ?_))
 refine CO.cutR (tl 18 [(4, V.b y2)]) [] mix (by
  refine wR 6 100 ?_
  refine wJ 10 hv3 (fun hv3 => ?_) (fun hv3 => ?_)
  ·refine wR 3 100 (bB hv3 fun s3 hx5 hv3 => (W.cutS Dk hx5 (by kernel_rfl) (wR 4 100 ?_)))
   cases hv3
   exact fS [] [4]
  refine wR 8 100 ?_
  cases hv3
  exact fS [] [4]
  ) ?_
 cases h
 exact e1 4 id

theorem m_strings_HasPrefix_ok (a0 : LU) (a1 : LU) {r : Bool} (h : m_strings_HasPrefix a0 a1 = some r) :
    AC Tryz.prog (GS []) 104 [V.s a0, V.s a1] [] (V.b r) [] := by
 rw [m_strings_HasPrefix] at h
 refine AC.enter Tryz.func104 rfl (cV 100 (bB h fun r2 hx2 h => (cC 2 100 (m_stringslite_HasPrefix_ok a0 a1 hx2) cok125 ?_)))
 cases h
 exact e1 4 id

theorem mi_OpAt_ok (N : Nat) (a0 : LU) (a1 : Int) {r : (Int × Int)} (h : mi_OpAt N a0 a1 = some r) :
    AC Tryz.prog (GS [1]) 84 [V.s a0, V.i a1] [] (.tup [V.i r.1, V.i r.2]) [] := by
 rw [mi_OpAt] at h
 refine AC.enter Tryz.func84 rfl (cV 100 (CO.seq' (bB h fun r4 hx5 h => (cC 4 100 (AC.gs (mi_within_ok a1 0 (wr ((a0.length : Int) - 1)) hx5) (by decide)) cok24 ?_))))
 refine cI h (fun _ h => ?_) (fun _ h => ?_)
 ·refine cV 100 (CO.ret ?_)
  cases h
  exact eG [] (.inr rfl) (RetV.two rfl (oT (t := 4) (r := V.i 0)) (oT (t := 5) (r := V.i 0)))
 refine CO.skip (cV 100 (CO.seq' (cV 100 (CO.block' (CO.loopJ (fun (⟨a0, a1, y75, y76, y77⟩ : (LU × Int × Int × Int × Int)) => ⟨tl 39 [(0, V.s a0), (1, V.i a1), (6, V.i y75), (7, V.i y76), (16, .agg (tab_signs.map V.s)), (17, V.i y77)], []⟩) (fun n i => mi_OpAt_l1 N n i = some r) (n0 := N) (i0 := (a0, a1, 0, 0, 0)) (wS [] [0, 1, 6, 7, 16, 17]) h (fun i h => by simp [mi_OpAt_l1] at h) ?_)))))
 rintro n1 ⟨a0, a1, y75, y76, y77⟩ h125 ih126
 rw [mi_OpAt_l1] at h125
 refine cV 160 (CO.seq' ?_)
 refine cI h125 (fun _ h125 => ?_) (fun _ h125 => ?_)
 ·refine CO.skip ?_
  refine CO.join (fun (⟨a0, a1, y77, y104, y105⟩ : (LU × Int × Int × Int × Int)) => ⟨tl 39 [(0, V.s a0), (1, V.i a1), (6, V.i y104), (7, V.i y105), (16, .agg (tab_signs.map V.s)), (17, V.i y77)], []⟩) (fun i => mi_OpAt_k2 N (mi_OpAt_l1 N n1) i = some r) ?_ ?_
  · rintro ⟨a0, a1, y77, y104, y105⟩ h139
    rw [mi_OpAt_k2] at h139
    exact cK 160 ih126 (a0, a1, y104, y105, (wr (y77 + 1))) h139 [] [0, 1, 6, 7, 16, 17]
  intro hk140
  refine CO.block' (bB h125 fun e107 hx142 h125 => (CO.sw mix (wR 1 160 (W.ixA Dk V.s (l := tab_signs) hx142 (by kernel_rfl) (wR 2 160 (wF (bB h125 fun y110 hv146 h125 => ?_)))))))
  refine CO.cutR (tl 39 [(0, V.s a0), (1, V.i a1), (6, V.i y75), (7, V.i y76), (8, V.i y77), (9, V.s e107), (16, .agg (tab_signs.map V.s)), (17, V.i y77), (31, V.b y110)]) [] mix (by
   refine wR 5 160 ?_
   refine wJ 25 hv146 (fun hv146 => ?_) (fun hv146 => ?_)
   ·refine wR 2 160 (bB hv146 fun s111 hx148 hv146 => (W.cutS Dk hx148 (by kernel_rfl) (wR 1 160 (bB hv146 fun r112 hx149 hv146 => (w0 (AC.gs (m_strings_HasPrefix_ok s111 e107 hx149) (by decide)) cok104 (wR 1 160 ?_))))))
    cases hv146
    exact fS [] [0, 1, 6, 7, 8, 9, 16, 17, 31]
   refine wR 6 160 ?_
   cases hv146
   exact fS [] [0, 1, 6, 7, 8, 9, 16, 17, 31]
   ) ?_
  refine cI h125 (fun _ h125 => ?_) (fun _ h125 => ?_)
  ·exact cK 160 hk140 (a0, a1, y77, (wr (30 + y77)), (e107.length : Int)) h125 [] [0, 1, 6, 7, 16, 17]
  exact sK hk140 (a0, a1, y77, y75, y76) h125 [] [0, 1, 6, 7, 16, 17]
 refine CO.exit (cV 160 (CO.ret ?_))
 have h125 := sI h125
 subst h125
 exact eG [] (.inr rfl) (RetV.two rfl (oT (t := 4) (r := V.i y75)) (oT (t := 5) (r := V.i y76)))

theorem mi_tokenAt_ok (N : Nat) (a0 : LU) (a1 : Int) (a2 : Int) {r : SToken} (h : mi_tokenAt N a0 a1 a2 = some r) :
    AC Tryz.prog (GS [1, 2, 3]) 52 [V.s a0, V.i a1, V.i a2] [] (.agg [V.i r.Kind, V.s r.Text, V.i r.At]) [] := by
 rw [mi_tokenAt] at h
 refine AC.enter Tryz.func52 rfl (cV 100 (cV 101 ?_))
 refine CO.join (fun (⟨a0, a1, y31, y32⟩ : (LU × Int × Int × Int)) => ⟨tl 102 [(0, V.s a0), (1, V.i a1), (6, .loc 100 0), (7, V.i y31), (8, V.i y32)], [(100, .cells 36 [V.i 0, V.s [], V.i 0])]⟩) (fun i => mi_tokenAt_k1 N i = some r) ?_ ?_
 · rintro ⟨a0, a1, y31, y32⟩ h43
   rw [mi_tokenAt_k1] at h43
   refine CO.seq' (bB h43 fun y34 hv49 h43 => ?_)
   refine CO.cutR (tl 102 [(0, V.s a0), (1, V.i a1), (6, .loc 100 0), (7, V.i y31), (8, V.i y32), (93, V.b y34)]) [(100, .cells 36 [V.i 0, V.s [], V.i 0])] mix (by
    refine wR 3 101 ?_
    refine wJ 90 hv49 (fun hv49 => ?_) (fun hv49 => ?_)
    ·refine wR 3 101 ?_
     cases hv49
     exact fS [(100, 100)] [0, 1, 6, 7, 8, 93]
    refine wR 3 101 ?_
    cases hv49
    exact fS [(100, 100)] [0, 1, 6, 7, 8, 93]
    ) ?_
   refine cI h43 (fun _ h43 => ?_) (fun _ h43 => ?_)
   ·refine cV 101 (CO.ret ?_)
    cases h43
    exact eG [] (.inr rfl) (RetV.one rfl (OneR.cell Dk (r := .agg [V.i 0, V.s [], V.i 0]) (i := 100) (ety := 36) (cs := [V.i 0, V.s [], V.i 0]) (by kernel_rfl) (by kernel_rfl) (by kernel_rfl)))
   refine CO.skip (bB h43 fun s36 hx53 h43 => (CO.sw mix (wR 4 101 (W.cutS Dk hx53 (by kernel_rfl) (wR 3 101 (wF (CO.ret ?_)))))))
   have h43 := sI h43
   subst h43
   exact eG [] (.inr rfl) (RetV.one rfl (OneR.cell Dk (r := .agg [V.i y31, V.s s36, V.i a1]) (i := 100) (ety := 36) (cs := [V.i y31, V.s s36, V.i a1]) (by kernel_rfl) (by kernel_rfl) (by kernel_rfl)))
 intro hk54
 refine bB h fun b38 hx56 h => (CO.sw mix (wR 2 101 (W.ixS Dk hx56 (by kernel_rfl) (wR 2 101 (wF (CO.block' (cV 101 ?_)))))))
 refine cI h (fun _ h => ?_) (fun _ h => ?_)
 ·exact cK 101 hk54 (a0, a1, 1, (wr (a1 + 1))) h [(100, 100)] [0, 1, 6, 7, 8]
 refine cV 101 ?_
 refine cI h (fun _ h => ?_) (fun _ h => ?_)
 ·refine cV 101 (bB h fun s41 hx61 h => (bB h fun r42 hx62 h => (CO.sw mix (wR 2 101 (W.cutS Dk hx61 (by kernel_rfl) (w0 (AC.gs (m_strings_IndexByte_ok s41 10 hx62) (by decide)) cok74 (wR 1 101 (wF ?_))))))))
  refine cV 101 ?_
  refine cI h (fun _ h => ?_) (fun _ h => ?_)
  ·exact cK 101 hk54 (a0, a1, 2, (wr (a1 + r42))) h [(100, 100)] [0, 1, 6, 7, 8]
  exact sK hk54 (a0, a1, 2, (a0.length : Int)) h [(100, 100)] [0, 1, 6, 7, 8]
 refine bB h fun y44 hv66 h => ?_
 refine CO.cutR (tl 102 [(0, V.s a0), (1, V.i a1), (2, V.i a2), (6, .loc 100 0), (7, V.i 0), (9, V.i (wr ((b38).toNat : Int))), (46, V.b y44)]) [(100, .cells 36 [V.i 0, V.s [], V.i 0])] mix (by
  refine wR 1 101 (bB hv66 fun r45 hx67 hv66 => (w0 (AC.gs (mi_IsDigit_ok (wr ((b38).toNat : Int)) hx67) (by decide)) cok75 (wR 1 101 ?_)))
  refine wJ 49 hv66 (fun hv66 => ?_) (fun hv66 => ?_)
  ·refine wR 4 101 ?_
   cases hv66
   exact fS [(100, 100)] [0, 1, 2, 6, 7, 9, 46]
  refine wR 4 101 ?_
  cases hv66
  exact fS [(100, 100)] [0, 1, 2, 6, 7, 9, 46]
  ) ?_
 refine cI h (fun _ h => ?_) (fun _ h => ?_)
 ·refine bB h fun r47 hx71 h => (CO.w mix (wR 2 101 (w0 (AC.gs (mi_NumEnd_ok N a0 a1 hx71) (by decide)) cok76 (wR 2 101 ?_))))
  exact wK hk54 (a0, a1, 3, r47) h [(100, 100)] [0, 1, 6, 7, 8]
 refine cV 101 ?_
 refine cI h (fun _ h => ?_) (fun _ h => ?_)
 ·refine bB h fun r49 hx74 h => (CO.w mix (wR 2 101 (w0 (AC.gs (mi_StrEnd_ok N a0 a1 hx74) (by decide)) cok77 (wR 2 101 ?_))))
  exact wK hk54 (a0, a1, 4, r49) h [(100, 100)] [0, 1, 6, 7, 8]
 refine bB h fun y51 hv77 h => ?_
 refine CO.cutR (tl 102 [(0, V.s a0), (1, V.i a1), (6, .loc 100 0), (7, V.i 0), (9, V.i (wr ((b38).toNat : Int))), (62, V.b y51)]) [(100, .cells 36 [V.i 0, V.s [], V.i 0])] mix (by
  refine wR 3 101 ?_
  refine wJ 65 hv77 (fun hv77 => ?_) (fun hv77 => ?_)
  ·refine wR 1 101 (bB hv77 fun r52 hx79 hv77 => (w0 (AC.gs (mi_EndsOperand_ok a2 hx79) (by decide)) cok78 (wR 3 101 ?_)))
   cases hv77
   exact fS [(100, 100)] [0, 1, 6, 7, 9, 62]
  refine wR 5 101 ?_
  cases hv77
  exact fS [(100, 100)] [0, 1, 6, 7, 9, 62]
  ) ?_
 refine cI h (fun _ h => ?_) (fun _ h => ?_)
 ·refine bB h fun r54 hx82 h => (CO.w mix (wR 2 101 (w0 (AC.gs (mi_EreEnd_ok N a0 a1 hx82) (by decide)) cok79 (wR 2 101 ?_))))
  exact wK hk54 (a0, a1, 5, r54) h [(100, 100)] [0, 1, 6, 7, 8]
 refine bB h fun r56 hx84 h => (cC 1 101 (AC.gs (mi_IsLetter_ok (wr ((b38).toNat : Int)) hx84) (by decide)) cok80 ?_)
 refine cI h (fun _ h => ?_) (fun _ h => ?_)
 ·refine bB h fun r58 hx87 h => (cC 2 101 (AC.gs (mi_NameEnd_ok N a0 a1 hx87) (by decide)) cok81 (bB h fun s61 hx90 h => (bB h fun r62 hx91 h => (CO.sw mix (wR 3 101 (W.cutS Dk hx90 (by kernel_rfl) (w0 (AC.gs (mi_NameShape_ok N s61 hx91) (by decide)) cok82 (wF ?_))))))))
  refine cI h (fun _ h => ?_) (fun _ h => ?_)
  ·refine bB h fun r64 hx94 h => (cC 3 101 (AC.gs (mi_wordToken_ok N a0 a1 r58 hx94) (by decide)) cok83 (CO.ret ?_))
   have h := sI h
   subst h
   exact eG [] (.inr rfl) (RetV.one rfl (OneR.cell Dk (r := .agg [V.i r64.Kind, V.s r64.Text, V.i r64.At]) (i := 100) (ety := 36) (cs := [V.i r64.Kind, V.s r64.Text, V.i r64.At]) (by kernel_rfl) (by kernel_rfl) (by kernel_rfl)))
  exact sK hk54 (a0, a1, 0, r58) h [(100, 100)] [0, 1, 6, 7, 8]
 refine bB h fun r66 hx96 h => (cC 2 101 (AC.gs (mi_OpAt_ok N a0 a1 hx96) (by decide)) cok84 ?_)
 exact cK 101 hk54 (a0, a1, r66.1, (wr (a1 + r66.2))) h [(100, 100)] [0, 1, 6, 7, 8]

theorem mi_lexFrom_ok (N : Nat) (a0 : LU) (a1 : Int) (a2 : Int) {r : (LT × SFault)} (h : mi_lexFrom N a0 a1 a2 = some r) :
    AC Tryz.prog (GS [1, 2, 3]) 26 [V.s a0, V.i a1, V.i a2] [] (.tup [.own 100, .agg [V.i r.2.Kind, V.i r.2.At]]) [(100, vX 36 3 eTk r.1)] := by
 rw [mi_lexFrom] at h
 refine AC.enter Tryz.func26 rfl (cV 100 (cV 101 (CO.seq' (CO.block' (CO.loopJ (fun (⟨a0, y95, y96, y97⟩ : (LU × Int × Int × LT)) => ⟨tl 59 [(0, V.s a0), (1, V.i y95), (2, V.i y96), (7, .loc 100 0), (8, .own 101)], [(100, .cells 30 [V.i 0, V.i 0]), (101, vX 36 3 eTk y97)]⟩) (fun n i => mi_lexFrom_l1 N n i = some r) (n0 := N) (i0 := (a0, a1, a2, [])) (wS [(100, 100), (101, 101)] [0, 1, 2, 7, 8]) h (fun i h => by simp [mi_lexFrom_l1] at h) ?_)))))
 rintro n1 ⟨a0, y95, y96, y97⟩ h173 ih174
 rw [mi_lexFrom_l1] at h173
 refine CO.seq' (cV 168 ?_)
 refine cI h173 (fun _ h173 => ?_) (fun _ h173 => ?_)
 ·refine CO.skip (CO.block' (CO.seq' (CO.block' (bB h173 fun b134 hx192 h173 => (bB h173 fun r135 hx193 h173 => (CO.sw mix (wR 2 168 (W.ixS Dk hx192 (by kernel_rfl) ?_))))))))
  refine wR 1 168 (w0 (AC.gs (mi_IsBlank_ok (wr ((b134).toNat : Int)) hx193) (by decide)) cok50 (wR 1 168 (wF ?_)))
  refine cI h173 (fun _ h173 => ?_) (fun _ h173 => ?_)
  ·refine cV 168 (CO.exit ?_)
   exact ih174 (a0, (wr (y95 + 1)), y96, y97) h173 _ (wS [(100, 100), (101, 101)] [0, 1, 2, 7, 8])
  refine bB h173 fun y138 hv198 h173 => ?_
  refine CO.cutR (tl 59 [(0, V.s a0), (1, V.i y95), (2, V.i y96), (7, .loc 100 0), (8, .own 101), (23, V.b y138)]) [(100, .cells 30 [V.i 0, V.i 0]), (101, vX 36 3 eTk y97)] mix (by
   refine wR 2 168 (bB hv198 fun b139 hx199 hv198 => (W.ixS Dk hx199 (by kernel_rfl) (wR 2 168 ?_)))
   refine wJ 28 hv198 (fun hv198 => ?_) (fun hv198 => ?_)
   ·refine wR 3 168 (bB hv198 fun r140 hx201 hv198 => (w0 (AC.gs (mi_byteAt_ok a0 (wr (y95 + 1)) hx201) (by decide)) cok51 (wR 3 168 ?_)))
    cases hv198
    exact fS [(100, 100), (101, 101)] [0, 1, 2, 7, 8, 23]
   refine wR 7 168 ?_
   cases hv198
   exact fS [(100, 100), (101, 101)] [0, 1, 2, 7, 8, 23]
   ) ?_
  refine cI h173 (fun _ h173 => ?_) (fun _ h173 => ?_)
  ·refine cV 168 (CO.exit ?_)
   exact ih174 (a0, (wr (y95 + 2)), y96, y97) h173 _ (wS [(100, 100), (101, 101)] [0, 1, 2, 7, 8])
  refine CO.skip (bB h173 fun r142 hx204 h173 => (cC 3 168 (mi_tokenAt_ok N a0 y95 y96 hx204) cok52 (CO.seq' (cV 169 ?_))))
  refine cI h173 (fun _ h173 => ?_) (fun _ h173 => ?_)
  ·refine cV 169 (CO.weak (Weak.nil 6 169 36 3 (by kernel_rfl) (by kernel_rfl)) (CO.ret ?_))
   have h173 := sI h173
   subst h173
   exact eG [(169, 100)] (.inr rfl) (RetV.two rfl (oT (t := 6) (r := .own 169)) (OneR.cell Dk (r := .agg [V.i 2, V.i y95]) (i := 100) (ety := 30) (cs := [V.i 2, V.i y95]) (by kernel_rfl) (by kernel_rfl) (by kernel_rfl)))
  refine CO.skip (bB h173 fun x144 hx208 h173 => (CO.sw mix (wR 3 169 (W.appO Dk eTk (a := 101) (c := 169) (el := 36) (sz := 3) 32 hx208 rfl 170 (by kernel_rfl) (wR 1 171 (wF ?_))))))
  exact cK 171 ih174 (a0, (wr (y95 + (r142.Text.length : Int))), r142.Kind, x144) h173 [(100, 100), (170, 101)] [0, 1, 2, 7, 8]
 refine CO.exit (cV 168 (CO.ret ?_))
 cases h173
 exact eG [(101, 100)] (.inr rfl) (RetV.two rfl (oT (t := 6) (r := .own 101)) (OneR.cell Dk (r := .agg [V.i 0, V.i 0]) (i := 100) (ety := 30) (cs := [V.i 0, V.i 0]) (by kernel_rfl) (by kernel_rfl) (by kernel_rfl)))

theorem mi_Relex_ok (N : Nat) (a0 : LT) (a1 : LU) (a2 : Int) (a3 : Int) (a4 : LU) {r : (LT × SFault)} (h : mi_Relex N a0 a1 a2 a3 a4 = some r) :
    AC Tryz.prog (GS [1, 2, 3]) 9 [sL eTk a0, V.s a1, V.i a2, V.i a3, V.s a4] [] (.tup [.own 100, .agg [V.i r.2.Kind, V.i r.2.At]]) [(100, vX 36 3 eTk r.1)] := by
 rw [mi_Relex] at h
 refine AC.enter Tryz.func9 rfl (cV 100 (bB h fun r2 hx2 h => (cC 4 101 (AC.gs (mi_Splice_ok a1 a2 a3 a4 hx2) (by decide)) cok8 (CO.seq' (bB h fun y4 hv8 h => ?_)))))
 refine CO.cutR (tl 74 [(0, sL eTk a0), (2, V.i a2), (11, .loc 100 0), (12, V.s r2.1), (34, V.b y4)]) [(100, .cells 30 [V.i 0, V.i 0])] mix (by
  refine wR 3 101 ?_
  refine wJ 30 hv8 (fun hv8 => ?_) (fun hv8 => ?_)
  ·refine wR 4 101 ?_
   cases hv8
   exact fS [(100, 100)] [0, 2, 11, 12, 34]
  refine wR 4 101 ?_
  cases hv8
  exact fS [(100, 100)] [0, 2, 11, 12, 34]
  ) ?_
 refine cI h (fun _ h => ?_) (fun _ h => ?_)
 ·refine cV 101 (CO.weak (Weak.nil 10 101 36 3 (by kernel_rfl) (by kernel_rfl)) (CO.ret ?_))
  cases h
  exact eG [(101, 100)] (.inr rfl) (RetV.two rfl (oT (t := 10) (r := .own 101)) (OneR.cell Dk (r := .agg [V.i 1, V.i 0]) (i := 100) (ety := 30) (cs := [V.i 1, V.i 0]) (by kernel_rfl) (by kernel_rfl) (by kernel_rfl)))
 refine CO.skip (bB h fun r8 hx14 h => (bB h fun l9 hx15 h => (bB h fun r10 hx16 h => (CO.sw mix (wR 3 101 (w0 (AC.gs (mi_KeptTokens_ok N a0 a2 hx14) (by decide)) cok12 (W.cutD Dk eTk hx15 false 3 (fun _ => by first | rfl | kernel_rfl) (by kernel_rfl) (wC (AC.gs (m_slices_Clone_Token_ok l9 hx16) (by decide)) cok25 [] [(100, 101)] [101] ?_))))))))
 refine wR 1 102 (wF (cV 102 ?_))
 refine CO.join (fun (⟨r2, r10, y13, y14⟩ : ((LU × Bool) × LT × Int × Int)) => ⟨tl 74 [(11, .loc 100 0), (12, V.s r2.1), (14, .own 101), (15, V.i y13), (16, V.i y14)], [(100, .cells 30 [V.i 0, V.i 0]), (101, vX 36 3 eTk r10)]⟩) (fun i => mi_Relex_k1 N i = some r) ?_ ?_
 · rintro ⟨r2, r10, y13, y14⟩ h20
   rw [mi_Relex_k1] at h20
   refine bB h20 fun r16 hx22 h20 => (CO.sw mix (wR 3 103 (wC (mi_lexFrom_ok N r2.1 y13 y14 hx22) cok26 [] [(100, 103)] [103] (wR 6 104 (wF (CO.seq' (cV 105 ?_)))))))
   refine cI h20 (fun _ h20 => ?_) (fun _ h20 => ?_)
   ·refine cV 105 (CO.weak (Weak.nil 10 105 36 3 (by kernel_rfl) (by kernel_rfl)) (CO.ret ?_))
    have h20 := sI h20
    subst h20
    exact eG [(105, 100)] (.inr rfl) (RetV.two rfl (oT (t := 10) (r := .own 105)) (OneR.cell Dk (r := .agg [V.i r16.2.Kind, V.i r16.2.At]) (i := 100) (ety := 30) (cs := [V.i r16.2.Kind, V.i r16.2.At]) (by kernel_rfl) (by kernel_rfl) (by kernel_rfl)))
   refine CO.skip (bB h20 fun x18 hx26 h20 => (CO.sw mix (wR 2 105 (W.appO Dk eTk (a := 101) (c := 103) (el := 36) (sz := 3) 32 hx26 rfl 105 (by kernel_rfl) (wR 3 106 (wF (CO.ret ?_)))))))
   cases h20
   exact eG [(105, 100)] (.inr rfl) (RetV.two rfl (oT (t := 10) (r := .own 105)) (OneR.cell Dk (r := .agg [V.i 0, V.i 0]) (i := 100) (ety := 30) (cs := [V.i 0, V.i 0]) (by kernel_rfl) (by kernel_rfl) (by kernel_rfl)))
 intro hk27
 refine CO.sw mix (wR 1 102 (wN eTk r10 [101] (wR 1 102 (wF ?_))))
 refine cI h (fun _ h => ?_) (fun _ h => ?_)
 ·refine bB h fun e20 hx30 h => (CO.sw mix (wR 2 102 (wN eTk r10 [101] (wR 1 102 (W.ixO Dk eTk hx30 101 3 (by kernel_rfl) (W.ldO Dk eTk hx30 36 101 0 (.agg [V.i e20.Kind, V.s e20.Text, V.i e20.At]) (by kernel_rfl) (by kernel_rfl) (wR 2 102 (wF ?_))))))))
  exact cK 103 hk27 (r2, r10, (wr (e20.At + (e20.Text.length : Int))), e20.Kind) h [(100, 100), (101, 101)] [11, 12, 14, 15, 16]
 exact sK hk27 (r2, r10, 0, 0) h [(100, 100), (101, 101)] [11, 12, 14, 15, 16]

theorem ms_Splice_ok (a0 : LU) (a1 : Int) (a2 : Int) (a3 : LU) {r : (LU × Bool)} (h : ms_Splice a0 a1 a2 a3 = some r) :
    AC Tryz.prog (GS []) 10 [V.s a0, V.i a1, V.i a2, V.s a3] [] (.tup [V.s r.1, V.b r.2]) [] := by
 rw [ms_Splice] at h
 refine AC.enter Tryz.func10 rfl (cV 100 (CO.seq' (bB h fun y8 hv12 h => ?_)))
 refine CO.cutR (tl 36 [(0, V.s a0), (1, V.i a1), (2, V.i a2), (3, V.s a3), (23, V.b y8)]) [] mix (by
  refine wR 3 100 (bB hv12 fun r9 hx13 hv12 => (w0 (ms_l1In_ok a1 0 (a0.length : Int) hx13) cok27 (wR 2 100 ?_)))
  refine wJ 15 hv12 (fun hv12 => ?_) (fun hv12 => ?_)
  ·refine wR 8 100 ?_
   cases hv12
   exact fS [] [0, 1, 2, 3, 23]
  refine wR 5 100 (bB hv12 fun r10 hx15 hv12 => (w0 (ms_l1In_ok a2 0 (wr ((a0.length : Int) - a1)) hx15) cok27 (wR 2 100 ?_)))
  cases hv12
  exact fS [] [0, 1, 2, 3, 23]
  ) ?_
 refine cI h (fun _ h => ?_) (fun _ h => ?_)
 ·refine cV 100 (CO.ret ?_)
  have h := sI h
  subst h
  exact eG [] (.inr rfl) (RetV.two rfl (oT (t := 8) (r := V.s a0)) (oT (t := 9) (r := V.b false)))
 refine CO.skip (bB h fun s15 hx21 h => (bB h fun s16 hx22 h => (bB h fun s17 hx23 h => (bB h fun s18 hx24 h => (CO.sw mix (wR 2 100 (W.cutS Dk hx21 (by kernel_rfl) (wR 1 100 ?_))))))))
 refine W.cat hx22 (by kernel_rfl) (wR 4 100 (W.cutS Dk hx23 (by kernel_rfl) (W.cat hx24 (by kernel_rfl) (wR 2 100 (wF (CO.ret ?_))))))
 have h := sI h
 subst h
 exact eG [] (.inr rfl) (RetV.two rfl (oT (t := 8) (r := V.s s18)) (oT (t := 9) (r := V.b true)))

theorem ml_FnRelexed_ok (N : Nat) (a0 : LU) {r : Bool} (h : ml_FnRelexed N a0 = some r) :
    AC Tryz.prog (GS [1, 2, 3]) 3 [sL byteRow a0] [] (V.b r) [] := by
 rw [ml_FnRelexed] at h
 refine AC.enter Tryz.func3 rfl (cV 100 (CO.seq' (bB h fun r4 hx5 h => (cC 1 100 (AC.gs (ml_big_ok a0 hx5) (by decide)) cok6 ?_))))
 refine cI h (fun _ h => ?_) (fun _ h => ?_)
 ·refine cV 100 ?_
  cases h
  exact e1 2 id
 refine CO.skip (bB h fun r6 hx8 h => (CO.sw mix (wR 1 100 (wC (AC.gs (ms_DrawRelex_ok N a0 hx8) (by decide)) cok7 [] [(100, 100)] [100] (wR 11 101 (wF (bB h fun r8 hx10 h => (cC 4 101 (AC.gs (mi_Splice_ok r6.2.1 r6.2.2.1 r6.2.2.2.1 r6.2.2.2.2 hx10) (by decide)) cok8 ?_))))))))
 refine bB h fun r10 hx12 h => (CO.sw mix (wR 5 101 (W.lend (mi_Relex_ok N r6.1 r6.2.1 r6.2.2.1 r6.2.2.2.1 r6.2.2.2.2 hx12) cok9 [(100, 101)] [101] (LayOk.cons (j := 100) eTk eTk r6.1 (by kernel_rfl) (fun _ => rfl) lO) (.tup _ (.cons (.own _) (.cons (.agg _ (.cons (.c _) (.cons (.c _) .nil))) .nil))) (.cons (DeepR.map (fun _ => (.cons (.c _) (.cons (.c _) (.cons (.c _) .nil)))) _) .nil) (by kernel_rfl) (by kernel_rfl) (wR 6 102 (wF (CO.seq' (cV 103 ?_)))))))
 refine cI h (fun _ h => ?_) (fun _ h => ?_)
 ·refine bB h fun r15 hx25 h => (cC 4 103 (AC.gs (ms_Splice_ok r6.2.1 r6.2.2.1 r6.2.2.2.1 r6.2.2.2.2 hx25) (by decide)) cok10 (bB h fun y16 hv29 h => ?_))
  refine CO.cutR (tl 143 [(2, V.b y16)]) [] mix (by
   refine wR 3 103 ?_
   refine wJ 57 hv29 (fun hv29 => ?_) (fun hv29 => ?_)
   ·refine wR 5 103 ?_
    refine wJ 62 hv29 (fun hv29 => ?_) (fun hv29 => ?_)
    ·refine wR 5 103 ?_
     refine wJ 67 hv29 (fun hv29 => ?_) (fun hv29 => ?_)
     ·refine wR 1 103 (wN eTk r10.1 [101] (wR 3 103 ?_))
      cases hv29
      exact fS [] [2]
     refine wR 5 103 ?_
     cases hv29
     exact fS [] [2]
    refine wR 10 103 ?_
    cases hv29
    exact fS [] [2]
   refine wR 15 103 ?_
   cases hv29
   exact fS [] [2]
   ) ?_
  cases h
  exact e1 2 id
 refine CO.skip (bB h fun r18 hx34 h => (CO.sw mix (wR 1 103 (wC (AC.gs (ms_Lex_ok N r8.1 hx34) (by decide)) cok11 [] [(100, 103)] [103] (wR 6 104 (wF (bB h fun r20 hx36 h => (CO.sw mix ?_))))))))
 refine wR 2 105 (W.lend (AC.gs (mi_KeptTokens_ok N r6.1 r6.2.2.1 hx36) (by decide)) cok12 [] [] (LayOk.cons (j := 100) eTk eTk r6.1 (by kernel_rfl) (fun _ => rfl) lO) (.c _) .nil (by kernel_rfl) (by kernel_rfl) (wR 1 105 (wF (CO.seq' (bB h fun y22 hv51 h => ?_)))))
 refine CO.cutR (tl 143 [(3, .own 100), (10, .own 101), (14, .own 102), (16, V.i r20), (111, V.b y22)]) [(100, vX 36 3 eTk r6.1), (101, vX 36 3 eTk r10.1), (102, vX 36 3 eTk r18.1)] mix (by
  refine wR 3 105 ?_
  refine wJ 82 hv51 (fun hv51 => ?_) (fun hv51 => ?_)
  ·refine wR 29 105 ?_
   cases hv51
   exact fS [(100, 100), (101, 101), (103, 102)] [3, 10, 14, 16, 111]
  refine wR 2 105 (wN eTk r6.1 [100] (wR 3 105 ?_))
  refine wJ 88 hv51 (fun hv51 => ?_) (fun hv51 => ?_)
  ·refine wR 23 105 ?_
   cases hv51
   exact fS [(100, 100), (101, 101), (103, 102)] [3, 10, 14, 16, 111]
  refine wR 5 105 ?_
  refine wJ 93 hv51 (fun hv51 => ?_) (fun hv51 => ?_)
  ·refine wR 18 105 ?_
   cases hv51
   exact fS [(100, 100), (101, 101), (103, 102)] [3, 10, 14, 16, 111]
  refine wR 1 105 (wN eTk r10.1 [101] (wR 1 105 (wN eTk r18.1 [103] (wR 3 105 ?_))))
  refine wJ 100 hv51 (fun hv51 => ?_) (fun hv51 => ?_)
  ·refine wR 11 105 ?_
   cases hv51
   exact fS [(100, 100), (101, 101), (103, 102)] [3, 10, 14, 16, 111]
  refine wR 11 105 ?_
  cases hv51
  exact fS [(100, 100), (101, 101), (103, 102)] [3, 10, 14, 16, 111]
  ) ?_
 refine cI h (fun _ h => ?_) (fun _ h => ?_)
 ·refine cV 105 ?_
  cases h
  exact e1 2 id
 refine CO.skip (CO.seq' (cV 105 (CO.block' (CO.loopJ (fun (⟨r20, r6, r10, r18, y97⟩ : (Int × (LT × LU × Int × Int × LU) × (LT × SFault) × (LT × SFault) × Int)) => ⟨tl 143 [(3, .own 100), (10, .own 101), (14, .own 102), (16, V.i r20), (17, V.i y97)], [(100, vX 36 3 eTk r6.1), (101, vX 36 3 eTk r10.1), (102, vX 36 3 eTk r18.1)]⟩) (fun n i => ml_FnRelexed_l1 N n i = some r) (n0 := N) (i0 := (r20, r6, r10, r18, 0)) (wS [(100, 100), (101, 101), (102, 102)] [3, 10, 14, 16, 17]) h (fun i h => by simp [ml_FnRelexed_l1] at h) ?_))))
 rintro n1 ⟨r20, r6, r10, r18, y97⟩ h209 ih210
 rw [ml_FnRelexed_l1] at h209
 refine CO.seq' (CO.sw mix (wR 2 165 (wN eTk r10.1 [101] (wR 1 165 (wF ?_)))))
 refine cI h209 (fun _ h209 => ?_) (fun _ h209 => ?_)
 ·refine CO.skip (CO.seq' (CO.block' (bB h209 fun y130 hv233 h209 => ?_)))
  refine CO.cutR (tl 143 [(3, .own 100), (10, .own 101), (14, .own 102), (16, V.i r20), (17, V.i y97), (142, V.b y130)]) [(100, vX 36 3 eTk r6.1), (101, vX 36 3 eTk r10.1), (102, vX 36 3 eTk r18.1)] mix (by
   refine wR 2 165 (bB hv233 fun e131 hx234 hv233 => (W.ixO Dk eTk hx234 101 3 (by kernel_rfl) (W.ldO Dk eTk hx234 36 101 0 (.agg [V.i e131.Kind, V.s e131.Text, V.i e131.At]) (by kernel_rfl) (by kernel_rfl) (wR 2 165 (bB hv233 fun e132 hx235 hv233 => (W.ixO Dk eTk hx235 102 3 (by kernel_rfl) (W.ldO Dk eTk hx235 36 102 0 (.agg [V.i e132.Kind, V.s e132.Text, V.i e132.At]) (by kernel_rfl) (by kernel_rfl) (wR 2 165 ?_))))))))
   refine wJ 127 hv233 (fun hv233 => ?_) (fun hv233 => ?_)
   ·refine wR 15 165 ?_
    cases hv233
    exact fS [(100, 100), (101, 101), (102, 102)] [3, 10, 14, 16, 17, 142]
   refine wR 4 165 ?_
   refine wJ 131 hv233 (fun hv233 => ?_) (fun hv233 => ?_)
   ·refine wR 2 165 (bB hv233 fun e133 hx238 hv233 => (W.ixO Dk eTk hx238 101 3 (by kernel_rfl) (W.ldO Dk eTk hx238 36 101 0 (.agg [V.i e133.Kind, V.s e133.Text, V.i e133.At]) (by kernel_rfl) (by kernel_rfl) (wR 2 165 (bB hv233 fun e134 hx239 hv233 => (W.ixO Dk eTk hx239 100 3 (by kernel_rfl) (W.ldO Dk eTk hx239 36 100 0 (.agg [V.i e134.Kind, V.s e134.Text, V.i e134.At]) (by kernel_rfl) (by kernel_rfl) (wR 3 165 ?_))))))))
    cases hv233
    exact fS [(100, 100), (101, 101), (102, 102)] [3, 10, 14, 16, 17, 142]
   refine wR 11 165 ?_
   cases hv233
   exact fS [(100, 100), (101, 101), (102, 102)] [3, 10, 14, 16, 17, 142]
   ) ?_
  refine cI h209 (fun _ h209 => ?_) (fun _ h209 => ?_)
  ·refine cV 165 ?_
   cases h209
   exact e1 2 id
  refine CO.skip ?_
  exact cK 165 ih210 (r20, r6, r10, r18, (wr (y97 + 1))) h209 [(100, 100), (101, 101), (102, 102)] [3, 10, 14, 16, 17]
 refine CO.exit (cV 165 ?_)
 cases h209
 exact e1 2 id

end Go.Proofs.Tryz
