/-
 The walks that show that the code computes the models, part 4.
-/
import Derived.Test.YtgnkbpkhbcmhlaaGreatDoorHoVW3
import Derived.Shelf.Strings.OnBuilder
namespace Go.Proofs.Tryz
open Go.Av
set_option maxRecDepth 100000
set_option maxHeartbeats 8000000
set_option linter.unusedSimpArgs false
set_option linter.unusedVariables false

theorem mi_quotedEnd_ok (N : Nat) (a0 : LU) (a1 : Int) (a2 : Int) {r : Int} (h : mi_quotedEnd N a0 a1 a2 = some r) :
    AC Tryz.prog (GS []) 192 [V.s a0, V.i a1, V.i a2] [] (V.i r) [] := by
 rw [mi_quotedEnd] at h
 refine AC.enter Tryz.func192 rfl (cV 100 (CO.seq' (bB h fun r4 hx5 h => (cC 2 100 (mi_byteAt_ok a0 a1 hx5) cok191 ?_))))
 refine cI h (fun _ h => ?_) (fun _ h => ?_)
 ·refine cV 100 ?_
  cases h
  exact e1 6 id
 refine CO.skip (CO.seq' (cV 100 (CO.block' (CO.loopJ (fun (⟨a0, a2, y91⟩ : (LU × Int × Int)) => ⟨tl 50 [(0, V.s a0), (2, V.i a2), (7, V.i y91)], []⟩) (fun n i => mi_quotedEnd_l1 N n i = some r) (n0 := N) (i0 := (a0, a2, (wr (a1 + 1)))) (wS [] [0, 2, 7]) h (fun i h => by simp [mi_quotedEnd_l1] at h) ?_))))
 rintro n1 ⟨a0, a2, y91⟩ h189 ih190
 rw [mi_quotedEnd_l1] at h189
 refine CO.seq' (bB h189 fun y118 hv199 h189 => ?_)
 refine CO.cutR (tl 50 [(0, V.s a0), (2, V.i a2), (7, V.i y91), (24, V.b y118)]) [] mix (by
  refine wR 5 160 ?_
  refine wJ 19 hv199 (fun hv199 => ?_) (fun hv199 => ?_)
  ·refine wR 2 160 (bB hv199 fun b119 hx201 hv199 => (W.ixS Dk hx201 (by kernel_rfl) (wR 2 160 ?_)))
   cases hv199
   exact fS [] [0, 2, 7, 24]
  refine wR 5 160 ?_
  cases hv199
  exact fS [] [0, 2, 7, 24]
  ) ?_
 refine cI h189 (fun _ h189 => ?_) (fun _ h189 => ?_)
 ·refine CO.skip ?_
  refine CO.join (fun (⟨a0, a2, y127⟩ : (LU × Int × Int)) => ⟨tl 50 [(0, V.s a0), (2, V.i a2), (7, V.i y127)], []⟩) (fun i => mi_quotedEnd_k2 N (mi_quotedEnd_l1 N n1) i = some r) ?_ ?_
  · rintro ⟨a0, a2, y127⟩ h214
    rw [mi_quotedEnd_k2] at h214
    exact cK 160 ih190 (a0, a2, (wr (y127 + 1))) h214 [] [0, 2, 7]
  intro hk215
  refine CO.block' (CO.block' (bB h189 fun b129 hx217 h189 => (CO.sw mix (wR 2 160 (W.ixS Dk hx217 (by kernel_rfl) (wR 4 160 (wF ?_)))))))
  refine cI h189 (fun _ h189 => ?_) (fun _ h189 => ?_)
  ·refine cV 160 ?_
   cases h189
   exact e1 6 id
  refine bB h189 fun y132 hv222 h189 => ?_
  refine CO.cutR (tl 50 [(0, V.s a0), (2, V.i a2), (7, V.i y91), (36, V.b y132)]) [] mix (by
   refine wR 2 160 (bB hv222 fun b133 hx223 hv222 => (W.ixS Dk hx223 (by kernel_rfl) (wR 2 160 ?_)))
   refine wJ 41 hv222 (fun hv222 => ?_) (fun hv222 => ?_)
   ·refine wR 3 160 (bB hv222 fun r134 hx225 hv222 => (w0 (mi_byteAt_ok a0 (wr (y91 + 1)) hx225) cok191 (wR 3 160 ?_)))
    cases hv222
    exact fS [] [0, 2, 7, 36]
   refine wR 7 160 ?_
   cases hv222
   exact fS [] [0, 2, 7, 36]
   ) ?_
  refine cI h189 (fun _ h189 => ?_) (fun _ h189 => ?_)
  ·exact cK 160 hk215 (a0, a2, (wr (y91 + 1))) h189 [] [0, 2, 7]
  exact sK hk215 (a0, a2, y91) h189 [] [0, 2, 7]
 refine CO.exit (cV 160 ?_)
 cases h189
 exact e1 6 id

theorem mi_StrEnd_ok (N : Nat) (a0 : LU) (a1 : Int) {r : Int} (h : mi_StrEnd N a0 a1 = some r) :
    AC Tryz.prog (GS []) 176 [V.s a0, V.i a1] [] (V.i r) [] := by
 rw [mi_StrEnd] at h
 refine AC.enter Tryz.func176 rfl (cV 100 (bB h fun r2 hx2 h => (cC 2 100 (mi_quotedEnd_ok N a0 a1 34 hx2) cok192 ?_)))
 cases h
 exact e1 4 id

theorem mi_EreEnd_ok (N : Nat) (a0 : LU) (a1 : Int) {r : Int} (h : mi_EreEnd N a0 a1 = some r) :
    AC Tryz.prog (GS []) 177 [V.s a0, V.i a1] [] (V.i r) [] := by
 rw [mi_EreEnd] at h
 refine AC.enter Tryz.func177 rfl (cV 100 (bB h fun r2 hx2 h => (cC 2 100 (mi_quotedEnd_ok N a0 a1 47 hx2) cok192 (CO.seq' (cV 100 ?_)))))
 refine cI h (fun _ h => ?_) (fun _ h => ?_)
 ·refine cV 100 ?_
  cases h
  exact e1 4 id
 refine CO.skip (cV 100 ?_)
 cases h
 exact e1 4 id

theorem mi_isKeywordKind_ok (a0 : Int) {r : Bool} (h : mi_isKeywordKind a0 = some r) :
    AC Tryz.prog (GS []) 129 [V.i a0] [] (V.b r) [] := by
 rw [mi_isKeywordKind] at h
 refine AC.enter Tryz.func129 rfl (cV 100 (bB h fun r2 hx2 h => (cC 1 100 (mi_within_ok a0 10 26 hx2) cok41 ?_)))
 cases h
 exact e1 2 id

theorem mi_isSignKind_ok (a0 : Int) {r : Bool} (h : mi_isSignKind a0 = some r) :
    AC Tryz.prog (GS []) 130 [V.i a0] [] (V.b r) [] := by
 rw [mi_isSignKind] at h
 refine AC.enter Tryz.func130 rfl (cV 100 (bB h fun r2 hx2 h => (cC 1 100 (mi_within_ok a0 30 68 hx2) cok41 ?_)))
 cases h
 exact e1 2 id

theorem mi_SpellOf_ok (a0 : Int) {r : LU} (h : mi_SpellOf a0 = some r) :
    AC Tryz.prog (GS [0, 1]) 94 [V.i a0] [] (V.s r) [] := by
 rw [mi_SpellOf] at h
 refine AC.enter Tryz.func94 rfl (cV 100 (CO.seq' (CO.block' (cV 100 ?_))))
 refine cI h (fun _ h => ?_) (fun _ h => ?_)
 ·refine cV 100 ?_
  cases h
  exact e1 2 id
 refine bB h fun r10 hx14 h => (cC 1 100 (AC.gs (mi_isKeywordKind_ok a0 hx14) (by decide)) cok129 ?_)
 refine cI h (fun _ h => ?_) (fun _ h => ?_)
 ·refine bB h fun e12 hx17 h => (CO.sw mix (wR 2 100 (W.ixG Dk V.s (l := tab_keywords) hx17 (by kernel_rfl) (wR 2 100 (wF ?_)))))
  cases h
  exact e1 2 id
 refine bB h fun r14 hx19 h => (cC 1 100 (AC.gs (mi_isSignKind_ok a0 hx19) (by decide)) cok130 ?_)
 refine cI h (fun _ h => ?_) (fun _ h => ?_)
 ·refine bB h fun e16 hx22 h => (CO.sw mix (wR 2 100 (W.ixG Dk V.s (l := tab_signs) hx22 (by kernel_rfl) (wR 2 100 (wF ?_)))))
  cases h
  exact e1 2 id
 refine CO.skip (cV 100 ?_)
 cases h
 exact e1 2 id

theorem mi_TokenOk_ok (N : Nat) (a0 : SToken) {r : Bool} (h : mi_TokenOk N a0 = some r) :
    AC Tryz.prog (GS [0, 1, 2]) 146 [.agg [V.i a0.Kind, V.s a0.Text, V.i a0.At]] [] (V.b r) [] := by
 rw [mi_TokenOk] at h
 refine AC.enter Tryz.func146 rfl (cV 100 (CO.seq' (cV 101 ?_)))
 refine cI h (fun _ h => ?_) (fun _ h => ?_)
 ·refine cV 101 ?_
  cases h
  exact e1 2 id
 refine CO.skip (CO.seq' (cV 101 (CO.block' (cV 101 ?_))))
 refine cI h (fun _ h => ?_) (fun _ h => ?_)
 ·refine bB h fun y19 hv34 h => ?_
  refine CO.cutR (tl 64 [(2, V.b y19)]) [] mix (by
   refine wR 2 101 (bB hv34 fun b20 hx35 hv34 => (W.ixS Dk hx35 (by kernel_rfl) (wR 2 101 ?_)))
   refine wJ 14 hv34 (fun hv34 => ?_) (fun hv34 => ?_)
   ·refine wR 2 101 (bB hv34 fun r21 hx37 hv34 => (w0 (AC.gs (m_strings_Contains_ok a0.Text hx37) (by decide)) cok137 (wR 3 101 ?_)))
    cases hv34
    exact fS [] [2]
   refine wR 6 101 ?_
   cases hv34
   exact fS [] [2]
   ) ?_
  cases h
  exact e1 2 id
 refine cV 101 ?_
 refine cI h (fun _ h => ?_) (fun _ h => ?_)
 ·refine bB h fun r23 hx40 h => (cC 2 101 (AC.gs (mi_NumEnd_ok N a0.Text 0 hx40) (by decide)) cok175 ?_)
  cases h
  exact e1 2 id
 refine cV 101 ?_
 refine cI h (fun _ h => ?_) (fun _ h => ?_)
 ·refine bB h fun r25 hx43 h => (cC 2 101 (AC.gs (mi_StrEnd_ok N a0.Text 0 hx43) (by decide)) cok176 ?_)
  cases h
  exact e1 2 id
 refine cV 101 ?_
 refine cI h (fun _ h => ?_) (fun _ h => ?_)
 ·refine bB h fun r27 hx46 h => (cC 2 101 (AC.gs (mi_EreEnd_ok N a0.Text 0 hx46) (by decide)) cok177 ?_)
  cases h
  exact e1 2 id
 refine CO.join (fun (⟨a0, y28⟩ : (SToken × Bool)) => ⟨tl 64 [(1, .loc 100 0), (7, V.i a0.Kind), (47, V.b y28)], [(100, .cells 105 [V.i a0.Kind, V.s a0.Text, V.i a0.At])]⟩) (fun i => mi_TokenOk_k1 N i = some r) ?_ ?_
 · rintro ⟨a0, y28⟩ h48
   rw [mi_TokenOk_k1] at h48
   refine cI h48 (fun _ h48 => ?_) (fun _ h48 => ?_)
   ·refine bB h48 fun r30 hx51 h48 => (cC 2 101 (AC.gs (mi_NameOk_ok N a0.Text hx51) (by decide)) cok145 ?_)
    cases h48
    exact e1 2 id
   refine cV 101 ?_
   refine cI h48 (fun _ h48 => ?_) (fun _ h48 => ?_)
   ·refine bB h48 fun r32 hx54 h48 => (cC 2 101 (AC.gs (mi_IsBuiltin_ok N a0.Text hx54) (by decide)) cok147 ?_)
    cases h48
    exact e1 2 id
   refine CO.skip (bB h48 fun r34 hx56 h48 => (cC 4 101 (AC.gs (mi_SpellOf_ok a0.Kind hx56) (by decide)) cok94 ?_))
   cases h48
   exact e1 2 id
 intro hk57
 refine cV 101 ?_
 refine cI h (fun _ h => ?_) (fun _ h => ?_)
 ·exact sK hk57 (a0, (a0.Kind == 6)) h [(100, 100)] [1, 7, 47]
 exact cK 101 hk57 (a0, (a0.Kind == 7)) h [(100, 100)] [1, 7, 47]

theorem mi_isStep_ok (a0 : Int) {r : Bool} (h : mi_isStep a0 = some r) :
    AC Tryz.prog (GS []) 148 [V.i a0] [] (V.b r) [] := by
 rw [mi_isStep] at h
 refine AC.enter Tryz.func148 rfl (cV 100 (bB h fun y1 hv2 h => ?_))
 refine CO.cutR (tl 9 [(2, V.b y1)]) [] mix (by
  refine wR 3 100 ?_
  refine wJ 5 hv2 (fun hv2 => ?_) (fun hv2 => ?_)
  ·refine wR 4 100 ?_
   cases hv2
   exact fS [] [2]
  refine wR 4 100 ?_
  cases hv2
  exact fS [] [2]
  ) ?_
 cases h
 exact e1 2 id

theorem mi_OpLevel_ok (a0 : Int) {r : Int} (h : mi_OpLevel a0 = some r) :
    AC Tryz.prog (GS []) 128 [V.i a0] [] (V.i r) [] := by
 rw [mi_OpLevel] at h
 refine AC.enter Tryz.func128 rfl (cV 100 (CO.seq' (cV 100 (CO.block' (cV 100 ?_)))))
 refine cI h (fun _ h => ?_) (fun _ h => ?_)
 ·refine cV 100 ?_
  cases h
  exact e1 2 id
 refine cV 100 ?_
 refine cI h (fun _ h => ?_) (fun _ h => ?_)
 ·refine cV 100 ?_
  cases h
  exact e1 2 id
 refine CO.join (fun (⟨a0, y5⟩ : (Int × Bool)) => ⟨tl 29 [(3, V.i a0), (8, V.b y5)], []⟩) (fun i => mi_OpLevel_k1 i = some r) ?_ ?_
 · rintro ⟨a0, y5⟩ h38
   rw [mi_OpLevel_k1] at h38
   refine cI h38 (fun _ h38 => ?_) (fun _ h38 => ?_)
   ·refine cV 100 ?_
    cases h38
    exact e1 2 id
   refine CO.join (fun (⟨a0, y6⟩ : (Int × Bool)) => ⟨tl 29 [(3, V.i a0), (11, V.b y6)], []⟩) (fun i => mi_OpLevel_k2 i = some r) ?_ ?_
   · rintro ⟨a0, y6⟩ h45
     rw [mi_OpLevel_k2] at h45
     refine cI h45 (fun _ h45 => ?_) (fun _ h45 => ?_)
     ·refine cV 100 ?_
      cases h45
      exact e1 2 id
     refine cV 100 ?_
     refine cI h45 (fun _ h45 => ?_) (fun _ h45 => ?_)
     ·refine cV 100 ?_
      cases h45
      exact e1 2 id
     refine CO.join (fun (⟨a0, y7⟩ : (Int × Bool)) => ⟨tl 29 [(3, V.i a0), (20, V.b y7)], []⟩) (fun i => mi_OpLevel_k3 i = some r) ?_ ?_
     · rintro ⟨a0, y7⟩ h49
       rw [mi_OpLevel_k3] at h49
       refine cI h49 (fun _ h49 => ?_) (fun _ h49 => ?_)
       ·refine cV 100 ?_
        cases h49
        exact e1 2 id
       refine CO.join (fun (⟨a0, y8⟩ : (Int × Bool)) => ⟨tl 29 [(3, V.i a0), (23, V.b y8)], []⟩) (fun i => mi_OpLevel_k4 i = some r) ?_ ?_
       · rintro ⟨a0, y8⟩ h53
         rw [mi_OpLevel_k4] at h53
         refine cI h53 (fun _ h53 => ?_) (fun _ h53 => ?_)
         ·refine cV 100 ?_
          cases h53
          exact e1 2 id
         refine cV 100 ?_
         refine cI h53 (fun _ h53 => ?_) (fun _ h53 => ?_)
         ·refine cV 100 ?_
          cases h53
          exact e1 2 id
         refine CO.skip (cV 100 ?_)
         cases h53
         exact e1 2 id
       intro hk56
       refine cV 100 ?_
       refine cI h49 (fun _ h49 => ?_) (fun _ h49 => ?_)
       ·exact sK hk56 (a0, (a0 == 57)) h49 [] [3, 23]
       refine cV 100 ?_
       refine cI h49 (fun _ h49 => ?_) (fun _ h49 => ?_)
       ·exact sK hk56 (a0, (a0 == 58)) h49 [] [3, 23]
       exact cK 100 hk56 (a0, (a0 == 59)) h49 [] [3, 23]
     intro hk59
     refine cV 100 ?_
     refine cI h45 (fun _ h45 => ?_) (fun _ h45 => ?_)
     ·exact sK hk59 (a0, (a0 == 55)) h45 [] [3, 20]
     exact cK 100 hk59 (a0, (a0 == 56)) h45 [] [3, 20]
   intro hk61
   refine cV 100 ?_
   refine cI h38 (fun _ h38 => ?_) (fun _ h38 => ?_)
   ·exact sK hk61 (a0, (a0 == 63)) h38 [] [3, 11]
   refine cV 100 ?_
   refine cI h38 (fun _ h38 => ?_) (fun _ h38 => ?_)
   ·exact sK hk61 (a0, (a0 == 48)) h38 [] [3, 11]
   refine cV 100 ?_
   refine cI h38 (fun _ h38 => ?_) (fun _ h38 => ?_)
   ·exact sK hk61 (a0, (a0 == 47)) h38 [] [3, 11]
   refine cV 100 ?_
   refine cI h38 (fun _ h38 => ?_) (fun _ h38 => ?_)
   ·exact sK hk61 (a0, (a0 == 50)) h38 [] [3, 11]
   refine cV 100 ?_
   refine cI h38 (fun _ h38 => ?_) (fun _ h38 => ?_)
   ·exact sK hk61 (a0, (a0 == 62)) h38 [] [3, 11]
   exact cK 100 hk61 (a0, (a0 == 49)) h38 [] [3, 11]
 intro hk67
 refine cV 100 ?_
 refine cI h (fun _ h => ?_) (fun _ h => ?_)
 ·exact sK hk67 (a0, (a0 == 67)) h [] [3, 8]
 exact cK 100 hk67 (a0, (a0 == 46)) h [] [3, 8]

theorem mi_isAssign_ok (a0 : Int) {r : Bool} (h : mi_isAssign a0 = some r) :
    AC Tryz.prog (GS []) 149 [V.i a0] [] (V.b r) [] := by
 rw [mi_isAssign] at h
 refine AC.enter Tryz.func149 rfl (cV 100 (bB h fun y2 hv3 h => ?_))
 refine CO.cutR (tl 9 [(2, V.b y2)]) [] mix (by
  refine wR 3 100 ?_
  refine wJ 5 hv3 (fun hv3 => ?_) (fun hv3 => ?_)
  ·refine wR 4 100 ?_
   cases hv3
   exact fS [] [2]
  refine wR 1 100 (bB hv3 fun r3 hx5 hv3 => (w0 (mi_within_ok a0 38 43 hx5) cok41 (wR 2 100 ?_)))
  cases hv3
  exact fS [] [2]
  ) ?_
 cases h
 exact e1 2 id

theorem mi_exprForm_ok (N : Nat) (a0 : SNode) {r : SForm} (h : mi_exprForm N a0 = some r) :
    AC Tryz.prog (GS [0, 1, 2]) 112 [.agg [V.i a0.Kind, V.i a0.Op, V.s a0.Text, V.s a0.Other, sL eNI a0.Kids]] [] (.agg [V.b r.op, V.b r.text, V.b r.other, V.i r.least, V.i r.most]) [] := by
 rw [mi_exprForm] at h
 refine AC.enter Tryz.func112 rfl (cV 100 (CO.seq' (cV 102 (CO.block' (cV 102 ?_)))))
 refine cI h (fun _ h => ?_) (fun _ h => ?_)
 ·refine bB h fun r22 hx48 h => (cC 5 102 (AC.gs (mi_NameOk_ok N a0.Text hx48) (by decide)) cok145 (CO.ret ?_))
  have h := sI h
  subst h
  exact eG [] (.inr rfl) (RetV.one rfl (OneR.cell Dk (r := .agg [V.b (a0.Op == 0), V.b r22, V.b false, V.i 0, V.i 0]) (i := 101) (ety := 131) (cs := [V.b (a0.Op == 0), V.b r22, V.b false, V.i 0, V.i 0]) (by kernel_rfl) (by kernel_rfl) (by kernel_rfl)))
 refine CO.join (fun (⟨a0, y23⟩ : (SNode × Bool)) => ⟨tl 123 [(1, .loc 100 0), (2, .loc 101 0), (4, V.i a0.Kind), (14, V.b y23)], [(100, .cells 49 [V.i a0.Kind, V.i a0.Op, V.s a0.Text, V.s a0.Other, sL eNI a0.Kids]), (101, .cells 131 [V.b false, V.b false, V.b false, V.i 0, V.i 0])]⟩) (fun i => mi_exprForm_k1 N i = some r) ?_ ?_
 · rintro ⟨a0, y23⟩ h51
   rw [mi_exprForm_k1] at h51
   refine cI h51 (fun _ h51 => ?_) (fun _ h51 => ?_)
   ·refine bB h51 fun e26 hx55 h51 => (bB h51 fun r27 hx56 h51 => (CO.sw mix (wR 7 102 (W.ixA Dk V.i hx55 (by kernel_rfl) (wR 3 102 (w0 (mi_TokenOk_ok N (⟨e26, a0.Text, 0⟩ : SToken) hx56) cok146 (wR 2 102 (wF ?_))))))))
    refine CO.ret ?_
    have h51 := sI h51
    subst h51
    exact eG [] (.inr rfl) (RetV.one rfl (OneR.cell Dk (r := .agg [V.b (a0.Op == 0), V.b r27, V.b false, V.i 0, V.i 0]) (i := 101) (ety := 131) (cs := [V.b (a0.Op == 0), V.b r27, V.b false, V.i 0, V.i 0]) (by kernel_rfl) (by kernel_rfl) (by kernel_rfl)))
   refine CO.join (fun (⟨a0, y28⟩ : (SNode × Bool)) => ⟨tl 123 [(1, .loc 100 0), (2, .loc 101 0), (4, V.i a0.Kind), (31, V.b y28)], [(100, .cells 49 [V.i a0.Kind, V.i a0.Op, V.s a0.Text, V.s a0.Other, sL eNI a0.Kids]), (101, .cells 131 [V.b false, V.b false, V.b false, V.i 0, V.i 0])]⟩) (fun i => mi_exprForm_k2 N i = some r) ?_ ?_
   · rintro ⟨a0, y28⟩ h58
     rw [mi_exprForm_k2] at h58
     refine cI h58 (fun _ h58 => ?_) (fun _ h58 => ?_)
     ·refine bB h58 fun r30 hx61 h58 => (cC 5 102 (AC.gs (mi_NameOk_ok N a0.Text hx61) (by decide)) cok145 (CO.ret ?_))
      have h58 := sI h58
      subst h58
      exact eG [] (.inr rfl) (RetV.one rfl (OneR.cell Dk (r := .agg [V.b (a0.Op == 0), V.b r30, V.b false, V.i 1, V.i 6]) (i := 101) (ety := 131) (cs := [V.b (a0.Op == 0), V.b r30, V.b false, V.i 1, V.i 6]) (by kernel_rfl) (by kernel_rfl) (by kernel_rfl)))
     refine cV 102 ?_
     refine cI h58 (fun _ h58 => ?_) (fun _ h58 => ?_)
     ·refine cV 102 (CO.ret ?_)
      have h58 := sI h58
      subst h58
      exact eG [] (.inr rfl) (RetV.one rfl (OneR.cell Dk (r := .agg [V.b (a0.Op == 0), V.b (a0.Text == []), V.b false, V.i 1, V.i 1]) (i := 101) (ety := 131) (cs := [V.b (a0.Op == 0), V.b (a0.Text == []), V.b false, V.i 1, V.i 1]) (by kernel_rfl) (by kernel_rfl) (by kernel_rfl)))
     refine cV 102 ?_
     refine cI h58 (fun _ h58 => ?_) (fun _ h58 => ?_)
     ·refine bB h58 fun r32 hx65 h58 => (cC 5 102 (AC.gs (mi_NameOk_ok N a0.Text hx65) (by decide)) cok145 (CO.ret ?_))
      have h58 := sI h58
      subst h58
      exact eG [] (.inr rfl) (RetV.one rfl (OneR.cell Dk (r := .agg [V.b (a0.Op == 0), V.b r32, V.b false, V.i 0, V.i 6]) (i := 101) (ety := 131) (cs := [V.b (a0.Op == 0), V.b r32, V.b false, V.i 0, V.i 6]) (by kernel_rfl) (by kernel_rfl) (by kernel_rfl)))
     refine cV 102 ?_
     refine cI h58 (fun _ h58 => ?_) (fun _ h58 => ?_)
     ·refine bB h58 fun r34 hx68 h58 => (cC 5 102 (AC.gs (mi_IsBuiltin_ok N a0.Text hx68) (by decide)) cok147 (CO.ret ?_))
      have h58 := sI h58
      subst h58
      exact eG [] (.inr rfl) (RetV.one rfl (OneR.cell Dk (r := .agg [V.b (a0.Op == 0), V.b r34, V.b false, V.i 0, V.i 6]) (i := 101) (ety := 131) (cs := [V.b (a0.Op == 0), V.b r34, V.b false, V.i 0, V.i 6]) (by kernel_rfl) (by kernel_rfl) (by kernel_rfl)))
     refine CO.join (fun (⟨a0, y35⟩ : (SNode × Bool)) => ⟨tl 123 [(1, .loc 100 0), (2, .loc 101 0), (4, V.i a0.Kind), (68, V.b y35)], [(100, .cells 49 [V.i a0.Kind, V.i a0.Op, V.s a0.Text, V.s a0.Other, sL eNI a0.Kids]), (101, .cells 131 [V.b false, V.b false, V.b false, V.i 0, V.i 0])]⟩) (fun i => mi_exprForm_k3 N i = some r) ?_ ?_
     · rintro ⟨a0, y35⟩ h70
       rw [mi_exprForm_k3] at h70
       refine cI h70 (fun _ h70 => ?_) (fun _ h70 => ?_)
       ·refine bB h70 fun r37 hx73 h70 => (cC 2 102 (AC.gs (mi_isStep_ok a0.Op hx73) (by decide)) cok148 (CO.ret ?_))
        have h70 := sI h70
        subst h70
        exact eG [] (.inr rfl) (RetV.one rfl (OneR.cell Dk (r := .agg [V.b r37, V.b (a0.Text == []), V.b false, V.i 1, V.i 1]) (i := 101) (ety := 131) (cs := [V.b r37, V.b (a0.Text == []), V.b false, V.i 1, V.i 1]) (by kernel_rfl) (by kernel_rfl) (by kernel_rfl)))
       refine cV 102 ?_
       refine cI h70 (fun _ h70 => ?_) (fun _ h70 => ?_)
       ·refine bB h70 fun y38 hv77 h70 => ?_
        refine CO.cutR (tl 123 [(2, .loc 100 0)]) [(100, .cells 131 [V.b y38, V.b (a0.Text == []), V.b false, V.i 1, V.i 1])] mix (by
         refine wR 4 102 ?_
         refine wJ 83 hv77 (fun hv77 => ?_) (fun hv77 => ?_)
         ·refine wR 14 102 ?_
          cases hv77
          exact fS [(101, 100)] [2]
         refine wR 5 102 ?_
         refine wJ 88 hv77 (fun hv77 => ?_) (fun hv77 => ?_)
         ·refine wR 9 102 ?_
          cases hv77
          exact fS [(101, 100)] [2]
         refine wR 9 102 ?_
         cases hv77
         exact fS [(101, 100)] [2]
         ) ?_
        refine CO.ret ?_
        have h70 := sI h70
        subst h70
        exact eG [] (.inr rfl) (RetV.one rfl (OneR.cell Dk (r := .agg [V.b y38, V.b (a0.Text == []), V.b false, V.i 1, V.i 1]) (i := 100) (ety := 131) (cs := [V.b y38, V.b (a0.Text == []), V.b false, V.i 1, V.i 1]) (by kernel_rfl) (by kernel_rfl) (by kernel_rfl)))
       refine cV 102 ?_
       refine cI h70 (fun _ h70 => ?_) (fun _ h70 => ?_)
       ·refine bB h70 fun r40 hx82 h70 => (cC 2 102 (AC.gs (mi_OpLevel_ok a0.Op hx82) (by decide)) cok128 (CO.ret ?_))
        have h70 := sI h70
        subst h70
        exact eG [] (.inr rfl) (RetV.one rfl (OneR.cell Dk (r := .agg [V.b (r40 != 0), V.b (a0.Text == []), V.b false, V.i 2, V.i 2]) (i := 101) (ety := 131) (cs := [V.b (r40 != 0), V.b (a0.Text == []), V.b false, V.i 2, V.i 2]) (by kernel_rfl) (by kernel_rfl) (by kernel_rfl)))
       refine cV 102 ?_
       refine cI h70 (fun _ h70 => ?_) (fun _ h70 => ?_)
       ·refine cV 102 (CO.ret ?_)
        have h70 := sI h70
        subst h70
        exact eG [] (.inr rfl) (RetV.one rfl (OneR.cell Dk (r := .agg [V.b (a0.Op == 0), V.b (a0.Text == []), V.b false, V.i 3, V.i 3]) (i := 101) (ety := 131) (cs := [V.b (a0.Op == 0), V.b (a0.Text == []), V.b false, V.i 3, V.i 3]) (by kernel_rfl) (by kernel_rfl) (by kernel_rfl)))
       refine CO.skip (bB h70 fun r42 hx85 h70 => (cC 2 102 (AC.gs (mi_isAssign_ok a0.Op hx85) (by decide)) cok149 (CO.ret ?_)))
       have h70 := sI h70
       subst h70
       exact eG [] (.inr rfl) (RetV.one rfl (OneR.cell Dk (r := .agg [V.b r42, V.b (a0.Text == []), V.b false, V.i 2, V.i 2]) (i := 101) (ety := 131) (cs := [V.b r42, V.b (a0.Text == []), V.b false, V.i 2, V.i 2]) (by kernel_rfl) (by kernel_rfl) (by kernel_rfl)))
     intro hk86
     refine cV 102 ?_
     refine cI h58 (fun _ h58 => ?_) (fun _ h58 => ?_)
     ·exact sK hk86 (a0, (a0.Kind == 9)) h58 [(100, 100), (101, 101)] [1, 2, 4, 68]
     exact cK 102 hk86 (a0, (a0.Kind == 10)) h58 [(100, 100), (101, 101)] [1, 2, 4, 68]
   intro hk88
   refine cV 102 ?_
   refine cI h51 (fun _ h51 => ?_) (fun _ h51 => ?_)
   ·exact sK hk88 (a0, (a0.Kind == 5)) h51 [(100, 100), (101, 101)] [1, 2, 4, 31]
   exact cK 102 hk88 (a0, (a0.Kind == 13)) h51 [(100, 100), (101, 101)] [1, 2, 4, 31]
 intro hk90
 refine cV 102 ?_
 refine cI h (fun _ h => ?_) (fun _ h => ?_)
 ·exact sK hk90 (a0, (a0.Kind == 2)) h [(100, 100), (101, 101)] [1, 2, 4, 14]
 refine cV 102 ?_
 refine cI h (fun _ h => ?_) (fun _ h => ?_)
 ·exact sK hk90 (a0, (a0.Kind == 3)) h [(100, 100), (101, 101)] [1, 2, 4, 14]
 exact cK 102 hk90 (a0, (a0.Kind == 4)) h [(100, 100), (101, 101)] [1, 2, 4, 14]

theorem mi_IsStmt_ok (a0 : Int) {r : Bool} (h : mi_IsStmt a0 = some r) :
    AC Tryz.prog (GS []) 113 [V.i a0] [] (V.b r) [] := by
 rw [mi_IsStmt] at h
 refine AC.enter Tryz.func113 rfl (cV 100 (bB h fun r2 hx2 h => (cC 1 100 (mi_within_ok a0 20 34 hx2) cok41 ?_)))
 cases h
 exact e1 2 id

theorem mi_stmtForm_ok (N : Nat) (a0 : SNode) {r : SForm} (h : mi_stmtForm N a0 = some r) :
    AC Tryz.prog (GS [0, 1, 2]) 114 [.agg [V.i a0.Kind, V.i a0.Op, V.s a0.Text, V.s a0.Other, sL eNI a0.Kids]] [] (.agg [V.b r.op, V.b r.text, V.b r.other, V.i r.least, V.i r.most]) [] := by
 rw [mi_stmtForm] at h
 refine AC.enter Tryz.func114 rfl (cV 100 (cV 102 ?_))
 refine CO.join (fun (⟨y14, y15, y16, y17, y18⟩ : (Bool × Bool × Bool × Int × Int)) => ⟨tl 98 [(2, .loc 100 0), (3, .loc 101 0)], [(100, .cells 131 [V.b false, V.b false, V.b false, V.i 0, V.i 0]), (101, .cells 131 [V.b y14, V.b y15, V.b y16, V.i y17, V.i y18])]⟩) (fun i => mi_stmtForm_k1 N i = some r) ?_ ?_
 · rintro ⟨y14, y15, y16, y17, y18⟩ h33
   rw [mi_stmtForm_k1] at h33
   refine cV 104 (CO.ret ?_)
   have h33 := sI h33
   subst h33
   exact eG [] (.inr rfl) (RetV.one rfl (OneR.cell Dk (r := .agg [V.b y14, V.b y15, V.b y16, V.i y17, V.i y18]) (i := 100) (ety := 131) (cs := [V.b y14, V.b y15, V.b y16, V.i y17, V.i y18]) (by kernel_rfl) (by kernel_rfl) (by kernel_rfl)))
 intro hk34
 refine cV 103 (CO.block' (cV 103 ?_))
 refine cI h (fun _ h => ?_) (fun _ h => ?_)
 ·exact cK 103 hk34 ((a0.Op == 0), (a0.Text == []), (a0.Other == []), 1, 1) h [(101, 100), (102, 101)] [2, 3]
 refine cV 103 ?_
 refine cI h (fun _ h => ?_) (fun _ h => ?_)
 ·refine bB h fun y19 hv38 h => ?_
  refine CO.cutR (tl 98 [(1, .loc 100 0), (2, .loc 101 0), (3, .loc 102 0)]) [(100, .cells 49 [V.i a0.Kind, V.i a0.Op, V.s a0.Text, V.s a0.Other, sL eNI a0.Kids]), (101, .cells 131 [V.b false, V.b false, V.b false, V.i 0, V.i 0]), (102, .cells 131 [V.b y19, V.b (a0.Text == []), V.b (a0.Other == []), V.i 0, V.i 0])] mix (by
   refine wR 4 103 ?_
   refine wJ 25 hv38 (fun hv38 => ?_) (fun hv38 => ?_)
   ·refine wR 6 103 ?_
    cases hv38
    exact fS [(100, 100), (101, 101), (102, 102)] [1, 2, 3]
   refine wR 6 103 ?_
   cases hv38
   exact fS [(100, 100), (101, 101), (102, 102)] [1, 2, 3]
   ) ?_
  refine bB h fun r21 hx41 h => (CO.sw mix (wR 3 103 (W.lend (AC.gs (m_slices_Contains_string_ok N [[], [62], [62, 62], [124]] a0.Other hx41) (by decide)) cok150 [] [] (LayOk.cons (j := 103) eNS eNS ([[], [62], [62, 62], [124]] : LLU) (by kernel_rfl) (fun _ => rfl) lO) (.c _) .nil (by kernel_rfl) (by kernel_rfl) (wR 2 104 (wF (cV 104 (cV 104 ?_)))))))
  refine cI h (fun _ h => ?_) (fun _ h => ?_)
  ·exact cK 104 hk34 (y19, (a0.Text == []), r21, (wr (a0.Op + 1)), 7) h [(101, 100), (102, 101)] [2, 3]
  exact sK hk34 (y19, (a0.Text == []), r21, a0.Op, 6) h [(101, 100), (102, 101)] [2, 3]
 refine CO.join (fun (⟨a0, y22⟩ : (SNode × Bool)) => ⟨tl 98 [(1, .loc 100 0), (2, .loc 101 0), (3, .loc 102 0), (15, V.i a0.Kind), (51, V.b y22)], [(100, .cells 49 [V.i a0.Kind, V.i a0.Op, V.s a0.Text, V.s a0.Other, sL eNI a0.Kids]), (101, .cells 131 [V.b false, V.b false, V.b false, V.i 0, V.i 0]), (102, .cells 131 [V.b (a0.Op == 0), V.b (a0.Text == []), V.b (a0.Other == []), V.i 0, V.i 0])]⟩) (fun i => mi_stmtForm_k2 N i = some r) ?_ ?_
 · rintro ⟨a0, y22⟩ h44
   rw [mi_stmtForm_k2] at h44
   refine cI h44 (fun _ h44 => ?_) (fun _ h44 => ?_)
   ·exact cK 103 hk34 ((a0.Op == 0), (a0.Text == []), (a0.Other == []), 0, 1) h44 [(101, 100), (102, 101)] [2, 3]
   refine cV 103 ?_
   refine cI h44 (fun _ h44 => ?_) (fun _ h44 => ?_)
   ·refine bB h44 fun r24 hx48 h44 => (CO.w mix (wR 2 103 (w0 (AC.gs (mi_NameOk_ok N a0.Text hx48) (by decide)) cok145 (wR 4 103 ?_))))
    exact wK hk34 ((a0.Op == 0), r24, (a0.Other == []), 0, 6) h44 [(101, 100), (102, 101)] [2, 3]
   refine cV 103 ?_
   refine cI h44 (fun _ h44 => ?_) (fun _ h44 => ?_)
   ·exact cK 103 hk34 ((a0.Op == 0), (a0.Text == []), (a0.Other == []), 2, 3) h44 [(101, 100), (102, 101)] [2, 3]
   refine CO.join (fun (⟨a0, y25⟩ : (SNode × Bool)) => ⟨tl 98 [(1, .loc 100 0), (2, .loc 101 0), (3, .loc 102 0), (15, V.i a0.Kind), (66, V.b y25)], [(100, .cells 49 [V.i a0.Kind, V.i a0.Op, V.s a0.Text, V.s a0.Other, sL eNI a0.Kids]), (101, .cells 131 [V.b false, V.b false, V.b false, V.i 0, V.i 0]), (102, .cells 131 [V.b (a0.Op == 0), V.b (a0.Text == []), V.b (a0.Other == []), V.i 0, V.i 0])]⟩) (fun i => mi_stmtForm_k3 N i = some r) ?_ ?_
   · rintro ⟨a0, y25⟩ h51
     rw [mi_stmtForm_k3] at h51
     refine cI h51 (fun _ h51 => ?_) (fun _ h51 => ?_)
     ·exact cK 103 hk34 ((a0.Op == 0), (a0.Text == []), (a0.Other == []), 2, 2) h51 [(101, 100), (102, 101)] [2, 3]
     refine cV 103 ?_
     refine cI h51 (fun _ h51 => ?_) (fun _ h51 => ?_)
     ·exact cK 103 hk34 ((a0.Op == 0), (a0.Text == []), (a0.Other == []), 4, 4) h51 [(101, 100), (102, 101)] [2, 3]
     refine cV 103 ?_
     refine cI h51 (fun _ h51 => ?_) (fun _ h51 => ?_)
     ·refine bB h51 fun r28 hx57 h51 => (bB h51 fun r29 hx58 h51 => (CO.w mix (wR 2 103 (w0 (AC.gs (mi_NameOk_ok N a0.Text hx57) (by decide)) cok145 (wR 2 103 (w0 (AC.gs (mi_NameOk_ok N a0.Other hx58) (by decide)) cok145 (wR 8 103 ?_)))))))
      exact wK hk34 ((a0.Op == 0), r28, r29, 1, 1) h51 [(101, 100), (102, 101)] [2, 3]
     refine cV 103 ?_
     refine cI h51 (fun _ h51 => ?_) (fun _ h51 => ?_)
     ·exact cK 103 hk34 ((a0.Op == 0), (a0.Text == []), (a0.Other == []), 0, 400) h51 [(101, 100), (102, 101)] [2, 3]
     refine cV 103 ?_
     refine cI h51 (fun _ h51 => ?_) (fun _ h51 => ?_)
     ·refine bB h51 fun r31 hx62 h51 => (CO.w mix (wR 3 103 (w0 (mi_TokenOk_ok N (⟨2, a0.Text, 0⟩ : SToken) hx62) cok146 (wR 2 103 ?_))))
      exact wK hk34 ((a0.Op == 0), r31, (a0.Other == []), 0, 0) h51 [(101, 100), (102, 101)] [2, 3]
     exact sK hk34 ((a0.Op == 0), (a0.Text == []), (a0.Other == []), 0, 0) h51 [(101, 100), (102, 101)] [2, 3]
   intro hk63
   refine cV 103 ?_
   refine cI h44 (fun _ h44 => ?_) (fun _ h44 => ?_)
   ·exact sK hk63 (a0, (a0.Kind == 29)) h44 [(100, 100), (101, 101), (102, 102)] [1, 2, 3, 15, 66]
   exact cK 103 hk63 (a0, (a0.Kind == 30)) h44 [(100, 100), (101, 101), (102, 102)] [1, 2, 3, 15, 66]
 intro hk65
 refine cV 103 ?_
 refine cI h (fun _ h => ?_) (fun _ h => ?_)
 ·exact sK hk65 (a0, (a0.Kind == 23)) h [(100, 100), (101, 101), (102, 102)] [1, 2, 3, 15, 51]
 exact cK 103 hk65 (a0, (a0.Kind == 24)) h [(100, 100), (101, 101), (102, 102)] [1, 2, 3, 15, 51]

theorem mi_itemForm_ok (N : Nat) (a0 : SNode) {r : SForm} (h : mi_itemForm N a0 = some r) :
    AC Tryz.prog (GS [0, 2]) 115 [.agg [V.i a0.Kind, V.i a0.Op, V.s a0.Text, V.s a0.Other, sL eNI a0.Kids]] [] (.agg [V.b r.op, V.b r.text, V.b r.other, V.i r.least, V.i r.most]) [] := by
 rw [mi_itemForm] at h
 refine AC.enter Tryz.func115 rfl (cV 100 (cV 102 ?_))
 refine CO.join (fun (⟨a0, y9, y10, y11, y12⟩ : (SNode × Bool × Bool × Int × Int)) => ⟨tl 64 [(2, .loc 100 0), (3, .loc 101 0)], [(100, .cells 131 [V.b false, V.b false, V.b false, V.i 0, V.i 0]), (101, .cells 131 [V.b y9, V.b y10, V.b (a0.Other == []), V.i y11, V.i y12])]⟩) (fun i => mi_itemForm_k1 N i = some r) ?_ ?_
 · rintro ⟨a0, y9, y10, y11, y12⟩ h24
   rw [mi_itemForm_k1] at h24
   refine cV 103 (CO.ret ?_)
   have h24 := sI h24
   subst h24
   exact eG [] (.inr rfl) (RetV.one rfl (OneR.cell Dk (r := .agg [V.b y9, V.b y10, V.b (a0.Other == []), V.i y11, V.i y12]) (i := 100) (ety := 131) (cs := [V.b y9, V.b y10, V.b (a0.Other == []), V.i y11, V.i y12]) (by kernel_rfl) (by kernel_rfl) (by kernel_rfl)))
 intro hk25
 refine cV 103 (CO.block' ?_)
 refine CO.join (fun (⟨a0, y13⟩ : (SNode × Bool)) => ⟨tl 64 [(1, .loc 100 0), (2, .loc 101 0), (3, .loc 102 0), (15, V.i a0.Kind), (17, V.b y13)], [(100, .cells 49 [V.i a0.Kind, V.i a0.Op, V.s a0.Text, V.s a0.Other, sL eNI a0.Kids]), (101, .cells 131 [V.b false, V.b false, V.b false, V.i 0, V.i 0]), (102, .cells 131 [V.b (a0.Op == 0), V.b (a0.Text == []), V.b (a0.Other == []), V.i 0, V.i 0])]⟩) (fun i => mi_itemForm_k2 N i = some r) ?_ ?_
 · rintro ⟨a0, y13⟩ h27
   rw [mi_itemForm_k2] at h27
   refine cI h27 (fun _ h27 => ?_) (fun _ h27 => ?_)
   ·exact cK 103 hk25 (a0, (a0.Op == 0), (a0.Text == []), 1, 1) h27 [(101, 100), (102, 101)] [2, 3]
   refine cV 103 ?_
   refine cI h27 (fun _ h27 => ?_) (fun _ h27 => ?_)
   ·refine bB h27 fun r15 hx31 h27 => (cC 2 103 (AC.gs (mi_within_ok a0.Op 1 3 hx31) (by decide)) cok41 ?_)
    refine CO.join (fun (⟨r15, a0, y16⟩ : (Bool × SNode × Int)) => ⟨tl 64 [(2, .loc 100 0), (3, .loc 101 0)], [(100, .cells 131 [V.b false, V.b false, V.b false, V.i 0, V.i 0]), (101, .cells 131 [V.b r15, V.b (a0.Text == []), V.b (a0.Other == []), V.i y16, V.i 0])]⟩) (fun i => mi_itemForm_k3 N i = some r) ?_ ?_
    · rintro ⟨r15, a0, y16⟩ h33
      rw [mi_itemForm_k3] at h33
      exact cK 103 hk25 (a0, r15, (a0.Text == []), y16, y16) h33 [(100, 100), (101, 101)] [2, 3]
    intro hk34
    refine cV 103 ?_
    refine cI h27 (fun _ h27 => ?_) (fun _ h27 => ?_)
    ·exact cK 103 hk34 (r15, a0, 2) h27 [(101, 100), (102, 101)] [2, 3]
    exact sK hk34 (r15, a0, 1) h27 [(101, 100), (102, 101)] [2, 3]
   refine cV 103 ?_
   refine cI h27 (fun _ h27 => ?_) (fun _ h27 => ?_)
   ·refine bB h27 fun y17 hv38 h27 => ?_
    refine CO.cutR (tl 64 [(1, .loc 100 0), (2, .loc 101 0), (3, .loc 102 0)]) [(100, .cells 49 [V.i a0.Kind, V.i a0.Op, V.s a0.Text, V.s a0.Other, sL eNI a0.Kids]), (101, .cells 131 [V.b false, V.b false, V.b false, V.i 0, V.i 0]), (102, .cells 131 [V.b y17, V.b (a0.Text == []), V.b (a0.Other == []), V.i 2, V.i 0])] mix (by
     refine wR 4 103 ?_
     refine wJ 41 hv38 (fun hv38 => ?_) (fun hv38 => ?_)
     ·refine wR 8 103 ?_
      cases hv38
      exact fS [(100, 100), (101, 101), (102, 102)] [1, 2, 3]
     refine wR 8 103 ?_
     cases hv38
     exact fS [(100, 100), (101, 101), (102, 102)] [1, 2, 3]
     ) ?_
    refine CO.join (fun (⟨y17, a0, y18⟩ : (Bool × SNode × Int)) => ⟨tl 64 [(2, .loc 100 0), (3, .loc 101 0)], [(100, .cells 131 [V.b false, V.b false, V.b false, V.i 0, V.i 0]), (101, .cells 131 [V.b y17, V.b (a0.Text == []), V.b (a0.Other == []), V.i y18, V.i 0])]⟩) (fun i => mi_itemForm_k4 N i = some r) ?_ ?_
    · rintro ⟨y17, a0, y18⟩ h41
      rw [mi_itemForm_k4] at h41
      exact cK 103 hk25 (a0, y17, (a0.Text == []), y18, y18) h41 [(100, 100), (101, 101)] [2, 3]
    intro hk42
    refine cV 103 ?_
    refine cI h27 (fun _ h27 => ?_) (fun _ h27 => ?_)
    ·exact cK 103 hk42 (y17, a0, 3) h27 [(101, 100), (102, 101)] [2, 3]
    exact sK hk42 (y17, a0, 2) h27 [(101, 100), (102, 101)] [2, 3]
   refine cV 103 ?_
   refine cI h27 (fun _ h27 => ?_) (fun _ h27 => ?_)
   ·refine bB h27 fun r20 hx46 h27 => (CO.w mix (wR 2 103 (w0 (mi_NameOk_ok N a0.Text hx46) cok145 (wR 6 103 ?_))))
    exact wK hk25 (a0, (a0.Op == 0), r20, 1, 7) h27 [(101, 100), (102, 101)] [2, 3]
   exact cK 103 hk25 (a0, (a0.Op == 0), (a0.Text == []), 0, 400) h27 [(101, 100), (102, 101)] [2, 3]
 intro hk47
 refine cV 103 ?_
 refine cI h (fun _ h => ?_) (fun _ h => ?_)
 ·exact sK hk47 (a0, (a0.Kind == 40)) h [(100, 100), (101, 101), (102, 102)] [1, 2, 3, 15, 17]
 exact cK 103 hk47 (a0, (a0.Kind == 41)) h [(100, 100), (101, 101), (102, 102)] [1, 2, 3, 15, 17]

theorem mi_FieldsOk_ok (N : Nat) (a0 : SNode) {r : Bool} (h : mi_FieldsOk N a0 = some r) :
    AC Tryz.prog (GS [0, 1, 2]) 73 [.agg [V.i a0.Kind, V.i a0.Op, V.s a0.Text, V.s a0.Other, sL eNI a0.Kids]] [] (V.b r) [] := by
 rw [mi_FieldsOk] at h
 refine AC.enter Tryz.func73 rfl (cV 100 (cV 101 ?_))
 refine CO.join (fun (⟨a0, y13, y14, y15, y16, y17⟩ : (SNode × Bool × Bool × Bool × Int × Int)) => ⟨tl 61 [(1, .loc 100 0), (3, .loc 101 0)], [(100, .cells 49 [V.i a0.Kind, V.i a0.Op, V.s a0.Text, V.s a0.Other, sL eNI a0.Kids]), (101, .cells 131 [V.b y13, V.b y14, V.b y15, V.i y16, V.i y17])]⟩) (fun i => mi_FieldsOk_k1 N i = some r) ?_ ?_
 · rintro ⟨a0, y13, y14, y15, y16, y17⟩ h17
   rw [mi_FieldsOk_k1] at h17
   refine bB h17 fun y19 hv22 h17 => ?_
   refine CO.cutR (tl 61 [(2, V.b y19)]) [] mix (by
    refine wR 3 102 ?_
    refine wJ 43 hv22 (fun hv22 => ?_) (fun hv22 => ?_)
    ·refine wR 4 102 ?_
     refine wJ 47 hv22 (fun hv22 => ?_) (fun hv22 => ?_)
     ·refine wR 4 102 ?_
      refine wJ 51 hv22 (fun hv22 => ?_) (fun hv22 => ?_)
      ·refine wR 2 102 (wN eNI a0.Kids [] (wR 4 102 (bB hv22 fun r20 hx26 hv22 => (w0 (AC.gs (mi_within_ok (a0.Kids.length : Int) y16 y17 hx26) (by decide)) cok41 (wR 2 102 ?_)))))
       cases hv22
       exact fS [] [2]
      refine wR 10 102 ?_
      cases hv22
      exact fS [] [2]
     refine wR 14 102 ?_
     cases hv22
     exact fS [] [2]
    refine wR 18 102 ?_
    cases hv22
    exact fS [] [2]
    ) ?_
   cases h17
   exact e1 2 id
 intro hk27
 refine CO.block' (bB h fun r22 hx29 h => (cC 2 102 (AC.gs (mi_IsExpr_ok a0.Kind hx29) (by decide)) cok55 ?_))
 refine cI h (fun _ h => ?_) (fun _ h => ?_)
 ·refine bB h fun r24 hx32 h => (cC 1 102 (mi_exprForm_ok N a0 hx32) cok112 ?_)
  exact cK 102 hk27 (a0, r24.op, r24.text, (a0.Other == []), r24.least, r24.most) h [(100, 100), (101, 101)] [1, 3]
 refine cV 102 ?_
 refine cI h (fun _ h => ?_) (fun _ h => ?_)
 ·exact cK 102 hk27 (a0, (a0.Op == 0), (a0.Text == []), (a0.Other == []), 0, 0) h [(100, 100), (101, 101)] [1, 3]
 refine bB h fun r26 hx35 h => (cC 2 102 (AC.gs (mi_IsStmt_ok a0.Kind hx35) (by decide)) cok113 ?_)
 refine cI h (fun _ h => ?_) (fun _ h => ?_)
 ·refine bB h fun r28 hx38 h => (CO.w mix (wR 1 102 (w0 (mi_stmtForm_ok N a0 hx38) cok114 (wR 1 102 ?_))))
  exact wK hk27 (a0, r28.op, r28.text, r28.other, r28.least, r28.most) h [(100, 100), (101, 101)] [1, 3]
 refine bB h fun r30 hx40 h => (cC 2 102 (AC.gs (mi_within_ok a0.Kind 40 45 hx40) (by decide)) cok41 ?_)
 refine cI h (fun _ h => ?_) (fun _ h => ?_)
 ·refine bB h fun r32 hx43 h => (CO.w mix (wR 1 102 (w0 (AC.gs (mi_itemForm_ok N a0 hx43) (by decide)) cok115 (wR 1 102 ?_))))
  exact wK hk27 (a0, r32.op, r32.text, r32.other, r32.least, r32.most) h [(100, 100), (101, 101)] [1, 3]
 refine cV 102 ?_
 cases h
 exact e1 2 id

theorem mi_IsLvalue_ok (a0 : Int) {r : Bool} (h : mi_IsLvalue a0 = some r) :
    AC Tryz.prog (GS []) 116 [V.i a0] [] (V.b r) [] := by
 rw [mi_IsLvalue] at h
 refine AC.enter Tryz.func116 rfl (cV 100 (bB h fun y1 hv3 h => ?_))
 refine CO.cutR (tl 13 [(2, V.b y1)]) [] mix (by
  refine wR 3 100 ?_
  refine wJ 5 hv3 (fun hv3 => ?_) (fun hv3 => ?_)
  ·refine wR 8 100 ?_
   cases hv3
   exact fS [] [2]
  refine wR 4 100 ?_
  refine wJ 9 hv3 (fun hv3 => ?_) (fun hv3 => ?_)
  ·refine wR 4 100 ?_
   cases hv3
   exact fS [] [2]
  refine wR 4 100 ?_
  cases hv3
  exact fS [] [2]
  ) ?_
 cases h
 exact e1 2 id

theorem mi_isItem_ok (a0 : Int) {r : Bool} (h : mi_isItem a0 = some r) :
    AC Tryz.prog (GS []) 117 [V.i a0] [] (V.b r) [] := by
 rw [mi_isItem] at h
 refine AC.enter Tryz.func117 rfl (cV 100 (bB h fun r2 hx2 h => (cC 1 100 (mi_within_ok a0 40 44 hx2) cok41 ?_)))
 cases h
 exact e1 2 id

theorem mi_kidOk_ok (a0 : SNode) (a1 : Int) (a2 : Int) {r : Bool} (h : mi_kidOk a0 a1 a2 = some r) :
    AC Tryz.prog (GS []) 74 [.agg [V.i a0.Kind, V.i a0.Op, V.s a0.Text, V.s a0.Other, sL eNI a0.Kids], V.i a1, V.i a2] [] (V.b r) [] := by
 rw [mi_kidOk] at h
 refine AC.enter Tryz.func74 rfl (cV 100 (CO.sw mix (wR 3 101 (wN eNI a0.Kids [] (wR 3 101 (wF (cV 101 ?_)))))))
 refine CO.join (fun (⟨a2, y22⟩ : (Int × Bool)) => ⟨tl 99 [(2, V.i a2), (8, V.b y22)], []⟩) (fun i => mi_kidOk_k1 i = some r) ?_ ?_
 · rintro ⟨a2, y22⟩ h66
   rw [mi_kidOk_k1] at h66
   refine CO.seq' (cV 101 ?_)
   refine cI h66 (fun _ h66 => ?_) (fun _ h66 => ?_)
   ·refine cV 101 ?_
    cases h66
    exact e1 6 id
   refine CO.skip (bB h66 fun r24 hx70 h66 => (cC 1 101 (mi_IsExpr_ok a2 hx70) cok55 ?_))
   cases h66
   exact e1 6 id
 intro hk71
 refine cV 101 (CO.block' ?_)
 refine CO.join (fun (⟨a1, a2, a0, y25⟩ : (Int × Int × SNode × Bool)) => ⟨tl 99 [(1, V.i a1), (2, V.i a2), (3, .loc 100 0), (7, V.b (a1 == (wr ((a0.Kids.length : Int) - 1)))), (8, V.b false), (16, V.i a0.Kind), (17, V.b y25)], [(100, .cells 49 [V.i a0.Kind, V.i a0.Op, V.s a0.Text, V.s a0.Other, sL eNI a0.Kids])]⟩) (fun i => mi_kidOk_k2 i = some r) ?_ ?_
 · rintro ⟨a1, a2, a0, y25⟩ h73
   rw [mi_kidOk_k2] at h73
   refine cI h73 (fun _ h73 => ?_) (fun _ h73 => ?_)
   ·refine bB h73 fun r27 hx76 h73 => (cC 1 101 (mi_IsLvalue_ok a2 hx76) cok116 ?_)
    cases h73
    exact e1 6 id
   refine cV 101 ?_
   refine cI h73 (fun _ h73 => ?_) (fun _ h73 => ?_)
   ·refine bB h73 fun y31 hv85 h73 => ?_
    refine CO.cutR (tl 99 [(6, V.b y31)]) [] mix (by
     refine wR 3 101 ?_
     refine wJ 26 hv85 (fun hv85 => ?_) (fun hv85 => ?_)
     ·refine wR 1 101 (bB hv85 fun r32 hx87 hv85 => (w0 (mi_IsLvalue_ok a2 hx87) cok116 (wR 2 101 ?_)))
      refine wJ 30 hv85 (fun hv85 => ?_) (fun hv85 => ?_)
      ·refine wR 8 101 ?_
       cases hv85
       exact fS [] [6]
      refine wR 3 101 ?_
      refine wJ 33 hv85 (fun hv85 => ?_) (fun hv85 => ?_)
      ·refine wR 1 101 (bB hv85 fun r33 hx90 hv85 => (w0 (mi_IsExpr_ok a2 hx90) cok55 (wR 3 101 ?_)))
       cases hv85
       exact fS [] [6]
      refine wR 5 101 ?_
      cases hv85
      exact fS [] [6]
     refine wR 7 101 ?_
     refine wJ 33 hv85 (fun hv85 => ?_) (fun hv85 => ?_)
     ·refine wR 1 101 (bB hv85 fun r34 hx92 hv85 => (w0 (mi_IsExpr_ok a2 hx92) cok55 (wR 3 101 ?_)))
      cases hv85
      exact fS [] [6]
     refine wR 5 101 ?_
     cases hv85
     exact fS [] [6]
     ) ?_
    cases h73
    exact e1 6 id
   refine CO.join (fun (⟨a1, a2, a0, y35⟩ : (Int × Int × SNode × Bool)) => ⟨tl 99 [(1, V.i a1), (2, V.i a2), (3, .loc 100 0), (7, V.b (a1 == (wr ((a0.Kids.length : Int) - 1)))), (8, V.b false), (16, V.i a0.Kind), (38, V.b y35)], [(100, .cells 49 [V.i a0.Kind, V.i a0.Op, V.s a0.Text, V.s a0.Other, sL eNI a0.Kids])]⟩) (fun i => mi_kidOk_k3 i = some r) ?_ ?_
   · rintro ⟨a1, a2, a0, y35⟩ h94
     rw [mi_kidOk_k3] at h94
     refine cI h94 (fun _ h94 => ?_) (fun _ h94 => ?_)
     ·exact cK 101 hk71 (a2, (decide (a1 > 0))) h94 [] [2, 8]
     refine cV 101 ?_
     refine cI h94 (fun _ h94 => ?_) (fun _ h94 => ?_)
     ·refine CO.seq' (bB h94 fun y37 hv102 h94 => ?_)
      refine CO.cutR (tl 99 [(2, V.i a2), (7, V.b (a1 == (wr ((a0.Kids.length : Int) - 1)))), (50, V.b y37)]) [] mix (by
       refine wR 3 101 ?_
       refine wJ 47 hv102 (fun hv102 => ?_) (fun hv102 => ?_)
       ·refine wR 3 101 ?_
        cases hv102
        exact fS [] [2, 7, 50]
       refine wR 3 101 ?_
       cases hv102
       exact fS [] [2, 7, 50]
       ) ?_
      refine cI h94 (fun _ h94 => ?_) (fun _ h94 => ?_)
      ·refine cV 101 ?_
       cases h94
       exact e1 6 id
      refine CO.skip ?_
      exact cK 101 hk71 (a2, (a1 == (wr ((a0.Kids.length : Int) - 1)))) h94 [] [2, 8]
     refine cV 101 ?_
     refine cI h94 (fun _ h94 => ?_) (fun _ h94 => ?_)
     ·exact cK 101 hk71 (a2, (a1 == 0)) h94 [] [2, 8]
     refine CO.join (fun (⟨a2, a1, a0, y38⟩ : (Int × Int × SNode × Bool)) => ⟨tl 99 [(2, V.i a2), (3, .loc 100 0), (7, V.b (a1 == (wr ((a0.Kids.length : Int) - 1)))), (8, V.b false), (16, V.i a0.Kind), (56, V.b y38)], [(100, .cells 49 [V.i a0.Kind, V.i a0.Op, V.s a0.Text, V.s a0.Other, sL eNI a0.Kids])]⟩) (fun i => mi_kidOk_k4 i = some r) ?_ ?_
     · rintro ⟨a2, a1, a0, y38⟩ h108
       rw [mi_kidOk_k4] at h108
       refine cI h108 (fun _ h108 => ?_) (fun _ h108 => ?_)
       ·exact cK 101 hk71 (a2, true) h108 [] [2, 8]
       refine cV 101 ?_
       refine cI h108 (fun _ h108 => ?_) (fun _ h108 => ?_)
       ·refine bB h108 fun r40 hx112 h108 => (cC 1 101 (mi_IsStmt_ok a2 hx112) cok113 ?_)
        cases h108
        exact e1 6 id
       refine cV 101 ?_
       refine cI h108 (fun _ h108 => ?_) (fun _ h108 => ?_)
       ·refine bB h108 fun y41 hv115 h108 => ?_
        refine CO.endR (tl 99 [(2, V.i a2), (8, V.b y41)]) [] mix (by
         refine wR 2 101 ?_
         refine wJ 67 hv115 (fun hv115 => ?_) (fun hv115 => ?_)
         ·refine wR 5 101 ?_
          cases hv115
          exact fS [] [2, 8]
         refine wR 5 101 ?_
         cases hv115
         exact fS [] [2, 8]
         ) (fun st hw => ?_)
        exact hk71 (a2, y41) h108 _ (hw.trans (wS [] [2, 8]))
       refine cV 101 ?_
       refine cI h108 (fun _ h108 => ?_) (fun _ h108 => ?_)
       ·refine bB h108 fun y42 hv119 h108 => ?_
        refine CO.endR (tl 99 [(2, V.i a2), (8, V.b y42)]) [] mix (by
         refine wR 2 101 ?_
         refine wJ 75 hv119 (fun hv119 => ?_) (fun hv119 => ?_)
         ·refine wR 5 101 ?_
          cases hv119
          exact fS [] [2, 8]
         refine wR 5 101 ?_
         cases hv119
         exact fS [] [2, 8]
         ) (fun st hw => ?_)
        exact hk71 (a2, y42) h108 _ (hw.trans (wS [] [2, 8]))
       refine cV 101 ?_
       refine cI h108 (fun _ h108 => ?_) (fun _ h108 => ?_)
       ·refine CO.seq' (cV 101 ?_)
        refine cI h108 (fun _ h108 => ?_) (fun _ h108 => ?_)
        ·refine cV 101 ?_
         cases h108
         exact e1 6 id
        refine CO.skip ?_
        exact cK 101 hk71 (a2, true) h108 [] [2, 8]
       refine cV 101 ?_
       refine cI h108 (fun _ h108 => ?_) (fun _ h108 => ?_)
       ·refine bB h108 fun y44 hv127 h108 => ?_
        refine CO.cutR (tl 99 [(6, V.b y44)]) [] mix (by
         refine wR 1 101 (bB hv127 fun r45 hx128 hv127 => (w0 (mi_isItem_ok a2 hx128) cok117 (wR 1 101 ?_)))
         refine wJ 90 hv127 (fun hv127 => ?_) (fun hv127 => ?_)
         ·refine wR 4 101 ?_
          cases hv127
          exact fS [] [6]
         refine wR 4 101 ?_
         cases hv127
         exact fS [] [6]
         ) ?_
        cases h108
        exact e1 6 id
       exact sK hk71 (a2, false) h108 [] [2, 8]
     intro hk130
     refine cV 101 ?_
     refine cI h94 (fun _ h94 => ?_) (fun _ h94 => ?_)
     ·exact sK hk130 (a2, a1, a0, (a0.Kind == 32)) h94 [(100, 100)] [2, 3, 7, 8, 16, 56]
     refine cV 101 ?_
     refine cI h94 (fun _ h94 => ?_) (fun _ h94 => ?_)
     ·exact sK hk130 (a2, a1, a0, (a0.Kind == 40)) h94 [(100, 100)] [2, 3, 7, 8, 16, 56]
     exact cK 101 hk130 (a2, a1, a0, (a0.Kind == 41)) h94 [(100, 100)] [2, 3, 7, 8, 16, 56]
   intro hk133
   refine cV 101 ?_
   refine cI h73 (fun _ h73 => ?_) (fun _ h73 => ?_)
   ·exact sK hk133 (a1, a2, a0, (a0.Kind == 28)) h73 [(100, 100)] [1, 2, 3, 7, 8, 16, 38]
   exact cK 101 hk133 (a1, a2, a0, (a0.Kind == 29)) h73 [(100, 100)] [1, 2, 3, 7, 8, 16, 38]
 intro hk135
 refine cV 101 ?_
 refine cI h (fun _ h => ?_) (fun _ h => ?_)
 ·exact sK hk135 (a1, a2, a0, (a0.Kind == 9)) h [(100, 100)] [1, 2, 3, 7, 8, 16, 17]
 exact cK 101 hk135 (a1, a2, a0, (a0.Kind == 10)) h [(100, 100)] [1, 2, 3, 7, 8, 16, 17]

structure RecOk3 (R : Rec3) : Prop where
 mi_treeAt : ∀ (a0 : LN) (a1 : Int) (r : STree), R.mi_treeAt a0 a1 = some r → AC Tryz.prog (GS []) 42 [.sl false false (a0.map (eSN false)), V.i a1] [] (.agg [V.i r.kind, V.i r.op, V.s r.text, V.s r.other, sL eST r.kids]) []

theorem mi_treeAt_F_ok (N : Nat) (R : Rec3) (HR : RecOk3 R) (a0 : LN) (a1 : Int) {r : STree} (h : mi_treeAt_F N R a0 a1 = some r) :
    AC Tryz.prog (GS []) 42 [.sl false false (a0.map (eSN false)), V.i a1] [] (.agg [V.i r.kind, V.i r.op, V.s r.text, V.s r.other, sL eST r.kids]) [] := by
 rw [mi_treeAt_F] at h
 refine AC.enter Tryz.func42 rfl (cV 100 (bB h fun e2 hx2 h => (CO.sw mix (wR 2 101 (wX (eSN false) hx2 5 (wR 3 101 (wF (cV 102 ?_))))))))
 refine CO.seq' (CO.sw mix (wR 2 103 (wN eNI e2.Kids [] (wR 1 103 (wF (CO.block' (CO.loopJ (fun (⟨a0, e2, y63, y64⟩ : (LN × SNode × Int × LS)) => ⟨tl 39 [(0, .sl false false (a0.map (eSN false))), (4, .loc 100 0), (6, .loc 101 0), (23, sL eNI e2.Kids), (24, V.i (e2.Kids.length : Int)), (25, V.i y63)], [(100, .cells 57 [V.i 0, V.i 0, V.s [], V.s [], .c (.slice none 0 0)]), (101, .cells 57 [V.i e2.Kind, V.i e2.Op, V.s e2.Text, V.s e2.Other, .own 102]), (102, vX 57 5 eST y64)]⟩) (fun n i => mi_treeAt_l1 N R n i = some r) (n0 := N) (i0 := (a0, e2, 0, [])) ((Weak.nilCell 102 4 103 57 5 (ety := 57) (cs := [V.i e2.Kind, V.i e2.Op, V.s e2.Text, V.s e2.Other, .c (.slice none 0 0)]) (by kernel_rfl) (by kernel_rfl) (by kernel_rfl)).trans (wS [(100, 100), (102, 101), (103, 102)] [0, 4, 6, 23, 24, 25])) h (fun i h => by simp [mi_treeAt_l1] at h) ?_)))))))
 rintro n1 ⟨a0, e2, y63, y64⟩ h83 ih84
 rw [mi_treeAt_l1] at h83
 refine cV 168 (CO.seq' ?_)
 refine cI h83 (fun _ h83 => ?_) (fun _ h83 => ?_)
 ·refine CO.skip (CO.seq' (CO.block' (bB h83 fun e86 hx94 h83 => (CO.sw mix (wX eNI hx94 1 (wR 2 168 (wF (bB h83 fun r89 hx97 h83 => ?_))))))))
  refine bB h83 fun x90 hx98 h83 => ?_
  refine CO.endR (tl 39 [(0, .sl false false (a0.map (eSN false))), (4, .loc 100 0), (6, .loc 101 0), (23, sL eNI e2.Kids), (24, V.i (e2.Kids.length : Int)), (25, V.i y63)]) [(101, .cells 57 [V.i e2.Kind, V.i e2.Op, V.s e2.Text, V.s e2.Other, .own 169]), (169, vX 57 5 eST x90), (100, .cells 57 [V.i 0, V.i 0, V.s [], V.s [], .c (.slice none 0 0)])] mix (by
   refine wR 4 168 (w0 (HR.mi_treeAt a0 e86 _ hx97) cok42 (W.layop Dk lO (by kernel_rfl) 168 { v := .own 168, R := [], new := [(168, .vec true 57 5 [[V.i r89.kind, V.i r89.op, V.s r89.text, V.s r89.other, sL eST r89.kids]])], N := [168] } (by kernel_rfl) (W.vecEq 168 (nn := true) (e := 57) (k := 5) (rows := [[V.i r89.kind, V.i r89.op, V.s r89.text, V.s r89.other, sL eST r89.kids]]) (rows' := [r89].map eST) (by kernel_rfl) (by simp only [List.map_cons, List.map_nil, encSTree_eq]) (W.appO Dk eST (a := 102) (c := 168) (el := 57) (sz := 5) 72 hx98 rfl 169 (by kernel_rfl) (wR 2 170 ?_)))))
   exact fI
   ) (fun st hw => ?_)
  refine CO.weak hw ?_
  exact cK 170 ih84 (a0, e2, (wr (y63 + 1)), x90) h83 [(100, 100), (101, 101), (169, 102)] [0, 4, 6, 23, 24, 25]
 refine CO.exit (cU 2 168 (tl 39 [(4, .loc 100 0)]) [(100, .cells 57 [V.i e2.Kind, V.i e2.Op, V.s e2.Text, V.s e2.Other, .own 102]), (102, vX 57 5 eST y64)] (CO.lay (tl 39 [(4, .loc 100 0)]) [(100, .cells 57 [V.i e2.Kind, V.i e2.Op, V.s e2.Text, V.s e2.Other, sL eST y64])] (LayOk.cons (j := 102) eST eST y64 (by kernel_rfl) (share_encSTree) lO) (by kernel_rfl) (by kernel_rfl) (by kernel_rfl) (CO.ret ?_)))
 have h83 := sI h83
 subst h83
 exact eG [] (.inr rfl) (RetV.one rfl (OneR.cell Dk (r := .agg [V.i e2.Kind, V.i e2.Op, V.s e2.Text, V.s e2.Other, sL eST y64]) (i := 100) (ety := 57) (cs := [V.i e2.Kind, V.i e2.Op, V.s e2.Text, V.s e2.Other, sL eST y64]) (by kernel_rfl) (by kernel_rfl) (by kernel_rfl)))

theorem scc3_ok : ∀ N, RecOk3 (scc3 N)
 | 0 => ⟨fun _ _ _ h => (by cases h)⟩
 | N + 1 => ⟨fun a0 a1 _ h => mi_treeAt_F_ok N (scc3 N) (scc3_ok N) a0 a1 h⟩

theorem mi_treeAt_ok (N : Nat) (a0 : LN) (a1 : Int) {r : STree} (h : mi_treeAt N a0 a1 = some r) :
  AC Tryz.prog (GS []) 42 [.sl false false (a0.map (eSN false)), V.i a1] [] (.agg [V.i r.kind, V.i r.op, V.s r.text, V.s r.other, sL eST r.kids]) [] :=
 (scc3_ok N).mi_treeAt a0 a1 r h

theorem mi_rootOf_ok (N : Nat) (a0 : LN) {r : STree} (h : mi_rootOf N a0 = some r) :
    AC Tryz.prog (GS []) 28 [.sl false false (a0.map (eSN false))] [] (.agg [V.i r.kind, V.i r.op, V.s r.text, V.s r.other, sL eST r.kids]) [] := by
 rw [mi_rootOf] at h
 refine AC.enter Tryz.func28 rfl (cV 100 (bB h fun r2 hx2 h => (CO.sw mix (wR 2 101 (wN (eSN false) a0 [] (wR 1 101 (w0 (mi_treeAt_ok N a0 (wr ((a0.length : Int) - 1)) hx2) cok42 (wR 1 101 ?_))))))))
 refine wF (CO.ret ?_)
 have h := sI h
 subst h
 exact eG [] (.inr rfl) (RetV.one rfl (OneR.cell Dk (r := .agg [V.i r2.kind, V.i r2.op, V.s r2.text, V.s r2.other, sL eST r2.kids]) (i := 100) (ety := 57) (cs := [V.i r2.kind, V.i r2.op, V.s r2.text, V.s r2.other, sL eST r2.kids]) (by kernel_rfl) (by kernel_rfl) (by kernel_rfl)))

structure RecOk4 (R : Rec4) : Prop where
 mi_tree__depth : ∀ (a0 : STree) (r : Int), R.mi_tree__depth a0 = some r → AC Tryz.prog (GS []) 75 [.agg [V.i a0.kind, V.i a0.op, V.s a0.text, V.s a0.other, sL eST a0.kids]] [] (V.i r) []

theorem mi_tree__depth_F_ok (N : Nat) (R : Rec4) (HR : RecOk4 R) (a0 : STree) {r : Int} (h : mi_tree__depth_F N R a0 = some r) :
    AC Tryz.prog (GS []) 75 [.agg [V.i a0.kind, V.i a0.op, V.s a0.text, V.s a0.other, sL eST a0.kids]] [] (V.i r) [] := by
 rw [mi_tree__depth_F] at h
 refine AC.enter Tryz.func75 rfl (cV 100 (cV 101 (CO.seq' (CO.sw mix (wR 2 101 (wN eST a0.kids [] (wR 1 101 (wF ?_))))))))
 refine CO.block' (CO.loopJ (fun (⟨a0, y37, y38⟩ : (STree × Int × Int)) => ⟨tl 20 [(3, V.i y37), (7, sL eST a0.kids), (8, V.i (a0.kids.length : Int)), (9, V.i y38)], []⟩) (fun n i => mi_tree__depth_l1 N R n i = some r) (n0 := N) (i0 := (a0, 0, 0)) (wS [] [3, 7, 8, 9]) h (fun i h => by simp [mi_tree__depth_l1] at h) ?_)
 rintro n1 ⟨a0, y37, y38⟩ h53 ih54
 rw [mi_tree__depth_l1] at h53
 refine cV 163 (CO.seq' ?_)
 refine cI h53 (fun _ h53 => ?_) (fun _ h53 => ?_)
 ·refine CO.skip (CO.seq' (CO.block' (bB h53 fun e54 hx62 h53 => (CO.sw mix (W.ixDr Dk eST hx62 5 (by kernel_rfl) (encSTree_eq e54) (by kernel_rfl) (wR 3 163 (wF (bB h53 fun r56 hx64 h53 => ?_))))))))
  refine CO.endR (tl 20 [(3, V.i (if r56 > y37 then r56 else y37)), (7, sL eST a0.kids), (8, V.i (a0.kids.length : Int)), (9, V.i y38)]) [] mix (by
   refine wR 2 164 (w0 (HR.mi_tree__depth e54 _ hx64) cok75 (wR 2 164 ?_))
   exact fI
   ) (fun st hw => ?_)
  refine CO.weak hw ?_
  exact cK 164 ih54 (a0, (if r56 > y37 then r56 else y37), (wr (y38 + 1))) h53 [] [3, 7, 8, 9]
 refine CO.exit (cV 163 ?_)
 cases h53
 exact e1 2 id

theorem scc4_ok : ∀ N, RecOk4 (scc4 N)
 | 0 => ⟨fun _ _ h => (by cases h)⟩
 | N + 1 => ⟨fun a0 _ h => mi_tree__depth_F_ok N (scc4 N) (scc4_ok N) a0 h⟩

theorem mi_tree__depth_ok (N : Nat) (a0 : STree) {r : Int} (h : mi_tree__depth N a0 = some r) :
  AC Tryz.prog (GS []) 75 [.agg [V.i a0.kind, V.i a0.op, V.s a0.text, V.s a0.other, sL eST a0.kids]] [] (V.i r) [] :=
 (scc4_ok N).mi_tree__depth a0 r h

theorem mi_TreeOk_ok (N : Nat) (a0 : LN) {r : Bool} (h : mi_TreeOk N a0 = some r) :
    AC Tryz.prog (GS [0, 1, 2]) 40 [.sl false false (a0.map (eSN false))] [] (V.b r) [] := by
 rw [mi_TreeOk] at h
 refine AC.enter Tryz.func40 rfl (cV 100 (CO.seq' (bB h fun r4 hx5 h => (cC 1 100 (AC.gs (mi_ShapeOk_ok N a0 hx5) (by decide)) cok72 ?_))))
 refine cI h (fun _ h => ?_) (fun _ h => ?_)
 ·refine cV 100 ?_
  cases h
  exact e1 2 id
 refine CO.skip (CO.seq' (CO.sw mix (wR 1 100 (wN (eSN false) a0 [] (wR 1 100 (wF (CO.block' (CO.loopJ (fun (⟨a0, y359⟩ : (LN × Int)) => ⟨tl 42 [(0, .sl false false (a0.map (eSN false))), (10, .sl false false (a0.map (eSN false))), (11, V.i (a0.length : Int)), (12, V.i y359)], []⟩) (fun n i => mi_TreeOk_l1 N n i = some r) (n0 := N) (i0 := (a0, 0)) (wS [] [0, 10, 11, 12]) h (fun i h => by simp [mi_TreeOk_l1] at h) ?_))))))))
 rintro n1 ⟨a0, y359⟩ h599 ih600
 rw [mi_TreeOk_l1] at h599
 refine cV 282 (CO.seq' ?_)
 refine cI h599 (fun _ h599 => ?_) (fun _ h599 => ?_)
 ·refine CO.skip (CO.seq' (CO.block' (bB h599 fun e494 hx662 h599 => (CO.sw mix (wX (eSN false) hx662 5 (wR 3 282 (wF (CO.seq' ?_))))))))
  refine bB h599 fun r498 hx667 h599 => (cC 1 283 (mi_FieldsOk_ok N e494 hx667) cok73 ?_)
  refine cI h599 (fun _ h599 => ?_) (fun _ h599 => ?_)
  ·refine cV 283 ?_
   cases h599
   exact e1 2 id
  refine CO.skip (CO.sw mix (wR 2 283 (wN eNI e494.Kids [] (wR 1 283 (wF (CO.block' (CO.loopJ (fun (⟨a0, y359, e494, y511⟩ : (LN × Int × SNode × Int)) => ⟨tl 42 [(0, .sl false false (a0.map (eSN false))), (4, .loc 100 0), (10, .sl false false (a0.map (eSN false))), (11, V.i (a0.length : Int)), (12, V.i y359), (20, sL eNI e494.Kids), (21, V.i (e494.Kids.length : Int)), (22, V.i y511)], [(100, .cells 49 [V.i e494.Kind, V.i e494.Op, V.s e494.Text, V.s e494.Other, sL eNI e494.Kids])]⟩) (fun n i => mi_TreeOk_l2 N (mi_TreeOk_l1 N n1) n i = some r) (n0 := N) (i0 := (a0, y359, e494, 0)) (wS [(282, 100)] [0, 4, 10, 11, 12, 20, 21, 22]) h599 (fun i h => by simp [mi_TreeOk_l2] at h) ?_)))))))
  rintro n2 ⟨a0, y359, e494, y511⟩ h701 ih702
  rw [mi_TreeOk_l2] at h701
  refine cV 343 (CO.seq' ?_)
  refine cI h701 (fun _ h701 => ?_) (fun _ h701 => ?_)
  ·refine CO.skip (CO.seq' (CO.block' (bB h701 fun e532 hx713 h701 => (CO.sw mix (wR 1 343 (wX eNI hx713 1 (wR 3 343 (wF ?_))))))))
   refine bB h701 fun e535 hx716 h701 => (bB h701 fun r536 hx717 h701 => (CO.sw mix (wR 4 343 (wX (eSN false) hx716 5 (wR 2 343 (w0 (AC.gs (mi_kidOk_ok e494 y511 e535.Kind hx717) (by decide)) cok74 (wR 1 343 (wF ?_))))))))
   refine cI h701 (fun _ h701 => ?_) (fun _ h701 => ?_)
   ·refine cV 343 ?_
    cases h701
    exact e1 2 id
   refine CO.skip ?_
   exact cK 343 ih702 (a0, y359, e494, (wr (y511 + 1))) h701 [(100, 100)] [0, 4, 10, 11, 12, 20, 21, 22]
  refine CO.exit ?_
  exact cK 343 ih600 (a0, (wr (y359 + 1))) h701 [] [0, 10, 11, 12]
 refine CO.exit (bB h599 fun r539 hx721 h599 => (bB h599 fun r540 hx722 h599 => (CO.sw mix (wR 1 282 (w0 (AC.gs (mi_rootOf_ok N a0 hx721) (by decide)) cok28 (w0 (AC.gs (mi_tree__depth_ok N r539 hx722) (by decide)) cok75 (wR 2 282 (wF ?_))))))))
 cases h599
 exact e1 2 id

def layJoin_ren : Go.Shelf.Ren := ⟨fun | 156 => 46 | 165 => 76 | 166 => 77 | 169 => 78 | 240 => 118 | 241 => 119 | 276 => 151 | 277 => 152 | n => n, fun | 31 => 71 | 9 => 9 | 3 => 3 | 4 => 4 | 0 => 0 | 20 => 20 | 72 => 96 | 76 => 100 | 70 => 94 | 37 => 86 | 75 => 99 | 127 => 133 | 164 => 154 | 5 => 5 | 80 => 102 | n => n, fun | n => n⟩
theorem layJoin : Go.Proofs.Lays.n156 Tryz.prog layJoin_ren where
 mixed := by kernel_rfl
 f156 := Tryz.func46.trans (congrArg some (by kernel_rfl))
 f165 := Tryz.func76.trans (congrArg some (by kernel_rfl))
 f166 := Tryz.func77.trans (congrArg some (by kernel_rfl))
 f169 := Tryz.func78.trans (congrArg some (by kernel_rfl))
 f240 := Tryz.func118.trans (congrArg some (by kernel_rfl))
 f241 := Tryz.func119.trans (congrArg some (by kernel_rfl))
 f276 := Tryz.func151.trans (congrArg some (by kernel_rfl))
 f277 := Tryz.func152.trans (congrArg some (by kernel_rfl))
 t0 := Tryz.underlying0
 a0 := Tryz.isAgg0
 z0 := Tryz.sizeOf0
 v0 := Tryz.zeroValue0
 t3 := Tryz.underlying3
 a3 := Tryz.isAgg3
 z3 := Tryz.sizeOf3
 v3 := Tryz.zeroValue3
 t4 := Tryz.underlying4
 a4 := Tryz.isAgg4
 z4 := Tryz.sizeOf4
 v4 := Tryz.zeroValue4
 t9 := Tryz.underlying9
 a9 := Tryz.isAgg9
 z9 := Tryz.sizeOf9
 v9 := Tryz.zeroValue9
 t20 := Tryz.underlying20
 a20 := Tryz.isAgg20
 z20 := Tryz.sizeOf20
 v20 := Tryz.zeroValue20
 t31 := Tryz.underlying71
 a31 := Tryz.isAgg71
 z31 := Tryz.sizeOf71
 v31 := Tryz.zeroValue71
 t37 := Tryz.underlying86
 a37 := Tryz.isAgg86
 z37 := Tryz.sizeOf86
 v37 := Tryz.zeroValue86
 t70 := Tryz.underlying94
 a70 := Tryz.isAgg94
 z70 := Tryz.sizeOf94
 v70 := Tryz.zeroValue94
 t72 := Tryz.underlying96
 a72 := Tryz.isAgg96
 z72 := Tryz.sizeOf96
 v72 := Tryz.zeroValue96
 t75 := Tryz.underlying99
 a75 := Tryz.isAgg99
 z75 := Tryz.sizeOf99
 v75 := Tryz.zeroValue99
 t76 := Tryz.underlying100
 a76 := Tryz.isAgg100
 z76 := Tryz.sizeOf100
 v76 := Tryz.zeroValue100
 t127 := Tryz.underlying133
 a127 := Tryz.isAgg133
 z127 := Tryz.sizeOf133
 v127 := Tryz.zeroValue133
 t164 := Tryz.underlying154
 a164 := Tryz.isAgg154
 z164 := Tryz.sizeOf154
 v164 := Tryz.zeroValue154
theorem layJoinX : Go.Proofs.Builder.Extra Tryz.prog layJoin_ren where
 sizeBuilder := by kernel_rfl
 liesBuilder := by kernel_rfl
 t5 := Tryz.underlying5
 a5 := Tryz.isAgg5
 z5 := Tryz.sizeOf5
 v5 := Tryz.zeroValue5
 infoByte := by kernel_rfl
 cellsByte := by kernel_rfl
 sizeByte := by kernel_rfl
 neB5 := by decide


theorem m_strings_Join_mem : JoinMem Tryz.prog 46 :=
 ⟨fun bk c xs sep w h1 h2 h3 h4 h5 => Any.strings_Join layJoin layJoinX bk 0 c xs sep w h1 h2 h3 h4 h5, fun sep w => Any.strings_Join_none layJoin layJoinX none 0 sep w⟩

theorem m_strings_Join_ok (p0 : LLU) {r : LU} (h : m_strings_Join p0 = some r) :
  AC Tryz.prog (GS []) 46 [.own 0, V.s [44, 32]] [(0, vN p0)] (V.s r) [(0, vN p0)] := AC.joinO m_strings_Join_mem h


theorem mi_headOf_ok (N : Nat) (a0 : STree) {r : LU} (h : mi_headOf N a0 = some r) :
    AC Tryz.prog (GS []) 43 [.agg [V.i a0.kind, V.i a0.op, V.s a0.text, V.s a0.other, sL eST a0.kids]] [] (V.s r) [] := by
 rw [mi_headOf] at h
 refine AC.enter Tryz.func43 rfl (cV 100 (cV 101 (CO.seq' (bB h fun l32 hx36 h => (CO.sw mix (wR 4 102 (wN eST a0.kids [] (wR 1 102 ?_))))))))
 refine W.cutD Dk eST hx36 false 5 (fun x => by rw [encSTree_eq]; rfl) (by kernel_rfl) (wN eST l32 [] (wR 1 102 (wF (CO.block' (CO.loopJ (fun (⟨l32, a0, y41, y42⟩ : (LS × STree × Int × LLU)) => ⟨tl 33 [(1, .loc 100 0), (3, .own 101), (13, sL eST l32), (14, V.i (l32.length : Int)), (15, V.i y41)], [(100, .cells 57 [V.i a0.kind, V.i a0.op, V.s a0.text, V.s a0.other, sL eST a0.kids]), (101, vN y42)]⟩) (fun n i => mi_headOf_l1 N n i = some r) (n0 := N) (i0 := (l32, a0, 0, [])) (wS [(100, 100), (101, 101)] [1, 3, 13, 14, 15]) h (fun i h => by simp [mi_headOf_l1] at h) ?_)))))
 rintro n1 ⟨l32, a0, y41, y42⟩ h57 ih58
 rw [mi_headOf_l1] at h57
 refine cV 168 (CO.seq' ?_)
 refine cI h57 (fun _ h57 => ?_) (fun _ h57 => ?_)
 ·refine CO.skip (CO.seq' (CO.block' (bB h57 fun e58 hx66 h57 => (CO.sw mix (W.ixDr Dk eST hx66 5 (by kernel_rfl) (encSTree_eq e58) (by kernel_rfl) (wR 3 168 (wF (bB h57 fun x60 hx68 h57 => ?_))))))))
  refine CO.endR (tl 33 [(1, .loc 100 0), (3, .own 170), (13, sL eST l32), (14, V.i (l32.length : Int)), (15, V.i y41)]) [(170, vN x60), (100, .cells 57 [V.i a0.kind, V.i a0.op, V.s a0.text, V.s a0.other, sL eST a0.kids])] mix (by
   refine wR 4 169 (W.appO Dk eNS (a := 101) (c := 169) (el := 9) (sz := 1) 16 hx68 rfl 170 (by kernel_rfl) (wR 1 171 ?_))
   exact fI
   ) (fun st hw => ?_)
  refine CO.weak hw ?_
  exact cK 171 ih58 (l32, a0, (wr (y41 + 1)), x60) h57 [(100, 100), (170, 101)] [1, 3, 13, 14, 15]
 refine CO.exit (bB h57 fun s66 hx74 h57 => (bB h57 fun s67 hx75 h57 => (bB h57 fun r68 hx76 h57 => (bB h57 fun s69 hx77 h57 => (bB h57 fun s70 hx78 h57 => (CO.sw mix (wR 2 168 (W.cat hx74 (by kernel_rfl) ?_))))))))
 refine W.cat hx75 (by kernel_rfl) (wR 1 168 (wC (m_strings_Join_ok y42 hx76) cok46 [(101, 0)] [(0, 101)] [] (W.cat hx77 (by kernel_rfl) (W.cat hx78 (by kernel_rfl) (wR 1 168 (wF ?_))))))
 cases h57
 exact e1 2 id

theorem mi_Top_ok {r : SPos} (h : mi_Top = some r) :
    AC Tryz.prog (GS []) 61 [] [] (.agg [V.i r.Level, V.b r.Dollar, V.b r.NoIn, V.b r.NoGt, V.b r.NoSign]) [] := by
 rw [mi_Top] at h
 refine AC.enter Tryz.func61 rfl (cV 100 (cV 101 (CO.ret ?_)))
 cases h
 exact eG [] (.inr rfl) (RetV.one rfl (OneR.cell Dk (r := .agg [V.i 1, V.b false, V.b false, V.b false, V.b false]) (i := 100) (ety := 30) (cs := [V.i 1, V.b false, V.b false, V.b false, V.b false]) (by kernel_rfl) (by kernel_rfl) (by kernel_rfl)))

theorem mi_tree__node_ok (N : Nat) (a0 : STree) {r : SNode} (h : mi_tree__node N a0 = some r) :
    AC Tryz.prog (GS []) 57 [.agg [V.i a0.kind, V.i a0.op, V.s a0.text, V.s a0.other, sL eST a0.kids]] [] (.agg [V.i r.Kind, V.i r.Op, V.s r.Text, V.s r.Other, .own 100]) [(100, vX 3 1 eNI r.Kids)] := by
 rw [mi_tree__node] at h
 refine AC.enter Tryz.func57 rfl (cV 100 (cV 102 (CO.seq' (CO.sw mix (wR 2 103 (wN eST a0.kids [] (wR 1 103 (wF ?_))))))))
 refine CO.block' (CO.loopJ (fun (⟨a0, y25, y26⟩ : (STree × Int × (List Int))) => ⟨tl 28 [(2, .loc 100 0), (3, .loc 101 0), (16, V.i (a0.kids.length : Int)), (17, V.i y25)], [(100, .cells 49 [V.i 0, V.i 0, V.s [], V.s [], .c (.slice none 0 0)]), (101, .cells 49 [V.i a0.kind, V.i a0.op, V.s a0.text, V.s a0.other, .own 102]), (102, vX 3 1 eNI y26)]⟩) (fun n i => mi_tree__node_l1 N n i = some r) (n0 := N) (i0 := (a0, 0, [])) ((Weak.nilCell 102 4 103 3 1 (ety := 49) (cs := [V.i a0.kind, V.i a0.op, V.s a0.text, V.s a0.other, .c (.slice none 0 0)]) (by kernel_rfl) (by kernel_rfl) (by kernel_rfl)).trans (wS [(101, 100), (102, 101), (103, 102)] [2, 3, 16, 17])) h (fun i h => by simp [mi_tree__node_l1] at h) ?_)
 rintro n1 ⟨a0, y25, y26⟩ h37 ih38
 rw [mi_tree__node_l1] at h37
 refine cV 168 (CO.seq' ?_)
 refine cI h37 (fun _ h37 => ?_) (fun _ h37 => ?_)
 ·refine CO.skip (CO.seq' (CO.block' (cV 168 (bB h37 fun x36 hx44 h37 => ?_))))
  refine CO.endR (tl 28 [(2, .loc 100 0), (3, .loc 101 0), (16, V.i (a0.kids.length : Int)), (17, V.i y25)]) [(101, .cells 49 [V.i a0.kind, V.i a0.op, V.s a0.text, V.s a0.other, .own 169]), (169, vX 3 1 eNI x36), (100, .cells 49 [V.i 0, V.i 0, V.s [], V.s [], .c (.slice none 0 0)])] mix (by
   refine wR 4 168 (W.appO Dk eNI (a := 102) (c := 168) (el := 3) (sz := 1) 8 hx44 rfl 169 (by kernel_rfl) (wR 2 170 ?_))
   exact fI
   ) (fun st hw => ?_)
  refine CO.weak hw ?_
  exact cK 170 ih38 (a0, (wr (y25 + 1)), x36) h37 [(100, 100), (101, 101), (169, 102)] [2, 3, 16, 17]
 refine CO.exit (cV 168 (CO.ret ?_))
 have h37 := sI h37
 subst h37
 exact eG [(102, 100)] (.inr rfl) (RetV.one rfl (OneR.cell Dk (r := .agg [V.i a0.kind, V.i a0.op, V.s a0.text, V.s a0.other, .own 102]) (i := 100) (ety := 49) (cs := [V.i a0.kind, V.i a0.op, V.s a0.text, V.s a0.other, .own 102]) (by kernel_rfl) (by kernel_rfl) (by kernel_rfl)))

theorem mi_LevelOf_ok (a0 : SNode) {r : Int} (h : mi_LevelOf a0 = some r) :
    AC Tryz.prog (GS []) 91 [.agg [V.i a0.Kind, V.i a0.Op, V.s a0.Text, V.s a0.Other, sL eNI a0.Kids]] [] (V.i r) [] := by
 rw [mi_LevelOf] at h
 refine AC.enter Tryz.func91 rfl (cV 100 (CO.seq' (cV 101 (CO.block' (cV 101 ?_)))))
 refine cI h (fun _ h => ?_) (fun _ h => ?_)
 ·refine cV 101 ?_
  cases h
  exact e1 2 id
 refine cV 101 ?_
 refine cI h (fun _ h => ?_) (fun _ h => ?_)
 ·refine cV 101 ?_
  cases h
  exact e1 2 id
 refine cV 101 ?_
 refine cI h (fun _ h => ?_) (fun _ h => ?_)
 ·refine cV 101 ?_
  cases h
  exact e1 2 id
 refine cV 101 ?_
 refine cI h (fun _ h => ?_) (fun _ h => ?_)
 ·refine bB h fun r6 hx34 h => (cC 2 101 (mi_OpLevel_ok a0.Op hx34) cok128 ?_)
  cases h
  exact e1 2 id
 refine cV 101 ?_
 refine cI h (fun _ h => ?_) (fun _ h => ?_)
 ·refine cV 101 ?_
  cases h
  exact e1 2 id
 refine CO.join (fun (⟨a0, y7⟩ : (SNode × Bool)) => ⟨tl 31 [(4, V.i a0.Kind), (18, V.b y7)], []⟩) (fun i => mi_LevelOf_k1 i = some r) ?_ ?_
 · rintro ⟨a0, y7⟩ h37
   rw [mi_LevelOf_k1] at h37
   refine cI h37 (fun _ h37 => ?_) (fun _ h37 => ?_)
   ·refine cV 101 ?_
    cases h37
    exact e1 2 id
   refine cV 101 ?_
   refine cI h37 (fun _ h37 => ?_) (fun _ h37 => ?_)
   ·refine cV 101 ?_
    cases h37
    exact e1 2 id
   refine CO.join (fun (y8 : Bool) => ⟨tl 31 [(23, V.b y8)], []⟩) (fun i => mi_LevelOf_k2 i = some r) ?_ ?_
   · rintro y8 h46
     rw [mi_LevelOf_k2] at h46
     refine cI h46 (fun _ h46 => ?_) (fun _ h46 => ?_)
     ·refine cV 101 ?_
      cases h46
      exact e1 2 id
     refine CO.skip (cV 101 ?_)
     cases h46
     exact e1 2 id
   intro hk48
   refine cV 101 ?_
   refine cI h37 (fun _ h37 => ?_) (fun _ h37 => ?_)
   ·exact sK hk48 (a0.Kind == 1) h37 [] [23]
   refine cV 101 ?_
   refine cI h37 (fun _ h37 => ?_) (fun _ h37 => ?_)
   ·exact sK hk48 (a0.Kind == 2) h37 [] [23]
   refine cV 101 ?_
   refine cI h37 (fun _ h37 => ?_) (fun _ h37 => ?_)
   ·exact sK hk48 (a0.Kind == 3) h37 [] [23]
   refine cV 101 ?_
   refine cI h37 (fun _ h37 => ?_) (fun _ h37 => ?_)
   ·exact sK hk48 (a0.Kind == 4) h37 [] [23]
   refine cV 101 ?_
   refine cI h37 (fun _ h37 => ?_) (fun _ h37 => ?_)
   ·exact sK hk48 (a0.Kind == 5) h37 [] [23]
   refine cV 101 ?_
   refine cI h37 (fun _ h37 => ?_) (fun _ h37 => ?_)
   ·exact sK hk48 (a0.Kind == 7) h37 [] [23]
   exact cK 101 hk48 (a0.Kind == 8) h37 [] [23]
 intro hk55
 refine cV 101 ?_
 refine cI h (fun _ h => ?_) (fun _ h => ?_)
 ·exact sK hk55 (a0, (a0.Kind == 9)) h [] [4, 18]
 exact cK 101 hk55 (a0, (a0.Kind == 10)) h [] [4, 18]

theorem mi_PosOk_ok (a0 : SPos) {r : Bool} (h : mi_PosOk a0 = some r) :
    AC Tryz.prog (GS []) 26 [.agg [V.i a0.Level, V.b a0.Dollar, V.b a0.NoIn, V.b a0.NoGt, V.b a0.NoSign]] [] (V.b r) [] := by
 rw [mi_PosOk] at h
 refine AC.enter Tryz.func26 rfl (cV 100 (bB h fun y2 hv4 h => ?_))
 refine CO.cutR (tl 16 [(2, V.b y2)]) [] mix (by
  refine wR 2 101 (bB hv4 fun r3 hx5 hv4 => (w0 (mi_within_ok a0.Level 1 15 hx5) cok41 (wR 1 101 ?_)))
  refine wJ 6 hv4 (fun hv4 => ?_) (fun hv4 => ?_)
  ·refine wR 4 101 ?_
   refine wJ 10 hv4 (fun hv4 => ?_) (fun hv4 => ?_)
   ·refine wR 6 101 ?_
    cases hv4
    exact fS [] [2]
   refine wR 6 101 ?_
   cases hv4
   exact fS [] [2]
  refine wR 10 101 ?_
  cases hv4
  exact fS [] [2]
  ) ?_
 cases h
 exact e1 2 id

theorem mi_Fits_ok (a0 : SNode) (a1 : SPos) {r : Bool} (h : mi_Fits a0 a1 = some r) :
    AC Tryz.prog (GS []) 56 [.agg [V.i a0.Kind, V.i a0.Op, V.s a0.Text, V.s a0.Other, sL eNI a0.Kids], .agg [V.i a1.Level, V.b a1.Dollar, V.b a1.NoIn, V.b a1.NoGt, V.b a1.NoSign]] [] (V.b r) [] := by
 rw [mi_Fits] at h
 refine AC.enter Tryz.func56 rfl (cV 100 (bB h fun r2 hx2 h => (cC 1 102 (mi_LevelOf_ok a0 hx2) cok91 (CO.seq' (CO.block' (bB h fun y10 hv29 h => ?_))))))
 refine CO.cutR (tl 68 [(2, .loc 100 0), (3, .loc 101 0), (5, V.i r2), (8, V.b y10)]) [(100, .cells 49 [V.i a0.Kind, V.i a0.Op, V.s a0.Text, V.s a0.Other, sL eNI a0.Kids]), (101, .cells 30 [V.i a1.Level, V.b a1.Dollar, V.b a1.NoIn, V.b a1.NoGt, V.b a1.NoSign])] mix (by
  refine wR 1 102 (bB hv29 fun r11 hx30 hv29 => (w0 (mi_PosOk_ok a1 hx30) cok26 (wR 2 102 ?_)))
  refine wJ 12 hv29 (fun hv29 => ?_) (fun hv29 => ?_)
  ·refine wR 4 102 ?_
   cases hv29
   exact fS [(100, 100), (101, 101)] [2, 3, 5, 8]
  refine wR 4 102 ?_
  cases hv29
  exact fS [(100, 100), (101, 101)] [2, 3, 5, 8]
  ) ?_
 refine cI h (fun _ h => ?_) (fun _ h => ?_)
 ·refine cV 102 ?_
  cases h
  exact e1 4 id
 refine bB h fun y12 hv34 h => ?_
 refine CO.cutR (tl 68 [(2, .loc 100 0), (3, .loc 101 0), (5, V.i r2), (16, V.b y12)]) [(100, .cells 49 [V.i a0.Kind, V.i a0.Op, V.s a0.Text, V.s a0.Other, sL eNI a0.Kids]), (101, .cells 30 [V.i a1.Level, V.b a1.Dollar, V.b a1.NoIn, V.b a1.NoGt, V.b a1.NoSign])] mix (by
  refine wR 3 102 ?_
  refine wJ 19 hv34 (fun hv34 => ?_) (fun hv34 => ?_)
  ·refine wR 5 102 ?_
   cases hv34
   exact fS [(100, 100), (101, 101)] [2, 3, 5, 16]
  refine wR 5 102 ?_
  cases hv34
  exact fS [(100, 100), (101, 101)] [2, 3, 5, 16]
  ) ?_
 refine cI h (fun _ h => ?_) (fun _ h => ?_)
 ·refine cV 102 ?_
  cases h
  exact e1 4 id
 refine bB h fun y13 hv39 h => ?_
 refine CO.cutR (tl 68 [(2, .loc 100 0), (3, .loc 101 0), (5, V.i r2), (24, V.b y13)]) [(100, .cells 49 [V.i a0.Kind, V.i a0.Op, V.s a0.Text, V.s a0.Other, sL eNI a0.Kids]), (101, .cells 30 [V.i a1.Level, V.b a1.Dollar, V.b a1.NoIn, V.b a1.NoGt, V.b a1.NoSign])] mix (by
  refine wR 3 102 ?_
  refine wJ 27 hv39 (fun hv39 => ?_) (fun hv39 => ?_)
  ·refine wR 5 102 ?_
   refine wJ 32 hv39 (fun hv39 => ?_) (fun hv39 => ?_)
   ·refine wR 5 102 ?_
    cases hv39
    exact fS [(100, 100), (101, 101)] [2, 3, 5, 24]
   refine wR 5 102 ?_
   cases hv39
   exact fS [(100, 100), (101, 101)] [2, 3, 5, 24]
  refine wR 10 102 ?_
  cases hv39
  exact fS [(100, 100), (101, 101)] [2, 3, 5, 24]
  ) ?_
 refine cI h (fun _ h => ?_) (fun _ h => ?_)
 ·refine cV 102 ?_
  cases h
  exact e1 4 id
 refine bB h fun y14 hv46 h => ?_
 refine CO.cutR (tl 68 [(2, .loc 100 0), (3, .loc 101 0), (5, V.i r2), (37, V.b y14)]) [(100, .cells 49 [V.i a0.Kind, V.i a0.Op, V.s a0.Text, V.s a0.Other, sL eNI a0.Kids]), (101, .cells 30 [V.i a1.Level, V.b a1.Dollar, V.b a1.NoIn, V.b a1.NoGt, V.b a1.NoSign])] mix (by
  refine wR 3 102 ?_
  refine wJ 40 hv46 (fun hv46 => ?_) (fun hv46 => ?_)
  ·refine wR 4 102 ?_
   refine wJ 44 hv46 (fun hv46 => ?_) (fun hv46 => ?_)
   ·refine wR 11 102 ?_
    cases hv46
    exact fS [(100, 100), (101, 101)] [2, 3, 5, 37]
   refine wR 5 102 ?_
   refine wJ 49 hv46 (fun hv46 => ?_) (fun hv46 => ?_)
   ·refine wR 6 102 ?_
    cases hv46
    exact fS [(100, 100), (101, 101)] [2, 3, 5, 37]
   refine wR 6 102 ?_
   cases hv46
   exact fS [(100, 100), (101, 101)] [2, 3, 5, 37]
  refine wR 15 102 ?_
  cases hv46
  exact fS [(100, 100), (101, 101)] [2, 3, 5, 37]
  ) ?_
 refine cI h (fun _ h => ?_) (fun _ h => ?_)
 ·refine cV 102 ?_
  cases h
  exact e1 4 id
 refine CO.skip (bB h fun y15 hv53 h => ?_)
 refine CO.cutR (tl 68 [(4, V.b y15)]) [] mix (by
  refine wR 3 102 ?_
  refine wJ 57 hv53 (fun hv53 => ?_) (fun hv53 => ?_)
  ·refine wR 5 102 ?_
   refine wJ 62 hv53 (fun hv53 => ?_) (fun hv53 => ?_)
   ·refine wR 6 102 ?_
    cases hv53
    exact fS [] [4]
   refine wR 6 102 ?_
   cases hv53
   exact fS [] [4]
  refine wR 11 102 ?_
  cases hv53
  exact fS [] [4]
  ) ?_
 cases h
 exact e1 4 id

theorem mi_text_ok (a0 : LU) {r : SDoc} (h : mi_text a0 = some r) :
    AC Tryz.prog (GS []) 60 [V.s a0] [] (.agg [V.i r.kind, V.i r.n, V.s r.text, sL encSDoc r.kids, V.i r.group]) [] := by
 rw [mi_text] at h
 refine AC.enter Tryz.func60 rfl (cV 100 (cU 3 101 (tl 5 [(2, .loc 100 0)]) [(100, .cells 53 [V.i 1, V.i 0, V.s a0, .c (.slice none 0 0), V.i 0])] (CO.lay (tl 5 [(2, .loc 100 0)]) [(100, .cells 53 [V.i 1, V.i 0, V.s a0, sL encSDoc [], V.i 0])] lO (by kernel_rfl) (by kernel_rfl) (by kernel_rfl) (CO.ret ?_))))
 have h := sI h
 subst h
 exact eG [] (.inr rfl) (RetV.one rfl (OneR.cell Dk (r := .agg [V.i 1, V.i 0, V.s a0, sL encSDoc [], V.i 0]) (i := 100) (ety := 53) (cs := [V.i 1, V.i 0, V.s a0, sL encSDoc [], V.i 0]) (by kernel_rfl) (by kernel_rfl) (by kernel_rfl)))

theorem mi_atTop_ok (a0 : Int) {r : SPos} (h : mi_atTop a0 = some r) :
    AC Tryz.prog (GS []) 93 [V.i a0] [] (.agg [V.i r.Level, V.b r.Dollar, V.b r.NoIn, V.b r.NoGt, V.b r.NoSign]) [] := by
 rw [mi_atTop] at h
 refine AC.enter Tryz.func93 rfl (cV 100 (bB h fun r2 hx2 h => (cC 0 101 (mi_Top_ok  hx2) cok61 (CO.ret ?_))))
 have h := sI h
 subst h
 exact eG [] (.inr rfl) (RetV.one rfl (OneR.cell Dk (r := .agg [V.i r2.Level, V.b r2.Dollar, V.b r2.NoIn, V.b r2.NoGt, V.b r2.NoSign]) (i := 100) (ety := 30) (cs := [V.i r2.Level, V.b r2.Dollar, V.b r2.NoIn, V.b r2.NoGt, V.b r2.NoSign]) (by kernel_rfl) (by kernel_rfl) (by kernel_rfl)))

theorem mi_line_ok {r : SDoc} (h : mi_line = some r) :
    AC Tryz.prog (GS []) 99 [] [] (.agg [V.i r.kind, V.i r.n, V.s r.text, sL encSDoc r.kids, V.i r.group]) [] := by
 rw [mi_line] at h
 refine AC.enter Tryz.func99 rfl (cV 100 (cU 2 101 (tl 2 [(0, .loc 100 0)]) [(100, .cells 53 [V.i 2, V.i 0, V.s [], .c (.slice none 0 0), V.i 0])] (CO.lay (tl 2 [(0, .loc 100 0)]) [(100, .cells 53 [V.i 2, V.i 0, V.s [], sL encSDoc [], V.i 0])] lO (by kernel_rfl) (by kernel_rfl) (by kernel_rfl) (CO.ret ?_))))
 cases h
 exact eG [] (.inr rfl) (RetV.one rfl (OneR.cell Dk (r := .agg [V.i 2, V.i 0, V.s [], sL encSDoc [], V.i 0]) (i := 100) (ety := 53) (cs := [V.i 2, V.i 0, V.s [], sL encSDoc [], V.i 0]) (by kernel_rfl) (by kernel_rfl) (by kernel_rfl)))

theorem mi_cat_ok (a0 : LO) {r : SDoc} (h : mi_cat a0 = some r) :
    AC Tryz.prog (GS []) 59 [sL encSDoc a0] [] (.agg [V.i r.kind, V.i r.n, V.s r.text, sL encSDoc r.kids, V.i r.group]) [] := by
 rw [mi_cat] at h
 refine AC.enter Tryz.func59 rfl (cV 100 (cV 101 (CO.ret ?_)))
 have h := sI h
 subst h
 exact eG [] (.inr rfl) (RetV.one rfl (OneR.cell Dk (r := .agg [V.i 6, V.i 0, V.s [], sL encSDoc a0, V.i 0]) (i := 100) (ety := 53) (cs := [V.i 6, V.i 0, V.s [], sL encSDoc a0, V.i 0]) (by kernel_rfl) (by kernel_rfl) (by kernel_rfl)))

theorem mi_nest_ok (a0 : SDoc) {r : SDoc} (h : mi_nest a0 = some r) :
    AC Tryz.prog (GS []) 98 [.agg [V.i a0.kind, V.i a0.n, V.s a0.text, sL encSDoc a0.kids, V.i a0.group]] [] (.agg [V.i r.kind, V.i r.n, V.s r.text, sL encSDoc r.kids, V.i r.group]) [] := by
 rw [mi_nest] at h
 refine AC.enter Tryz.func98 rfl (cV 100 ?_)
 refine CO.cutR (tl 6 [(2, .loc 101 0)]) [(101, .cells 53 [V.i 4, V.i 4, V.s [], .own 102, V.i 0]), (102, .vec false 53 5 ([a0].map encSDoc))] mix (by
  refine wR 1 102 (W.layop Dk lO (by kernel_rfl) 102 { v := .own 102, R := [], new := [(102, .vec true 53 5 [[V.i a0.kind, V.i a0.n, V.s a0.text, sL encSDoc a0.kids, V.i a0.group]])], N := [102] } (by kernel_rfl) (W.vecEq 102 (nn := true) (e := 53) (k := 5) (rows := [[V.i a0.kind, V.i a0.n, V.s a0.text, sL encSDoc a0.kids, V.i a0.group]]) (rows' := [a0].map encSDoc) (by kernel_rfl) (by simp only [List.map_cons, List.map_nil, encSDoc_eq]) (wR 2 103 ?_)))
  exact fI
  ) ?_
 refine CO.lay (tl 6 [(2, .loc 101 0)]) [(101, .cells 53 [V.i 4, V.i 4, V.s [], .sl false false ([a0].map encSDoc), V.i 0])] (LayOk.cons (j := 102) encSDoc encSDoc ([a0] : LO) (by kernel_rfl) (share_encSDoc) lO) (by kernel_rfl) (by kernel_rfl) (by kernel_rfl) (CO.ret ?_)
 have h := sI h
 subst h
 exact eG [] (.inr rfl) (RetV.one rfl (OneR.cell Dk (r := .agg [V.i 4, V.i 4, V.s [], .sl false false ([a0].map encSDoc), V.i 0]) (i := 101) (ety := 53) (cs := [V.i 4, V.i 4, V.s [], .sl false false ([a0].map encSDoc), V.i 0]) (by kernel_rfl) (by kernel_rfl) (by kernel_rfl)))

theorem mi_group_ok (a0 : SDoc) {r : SDoc} (h : mi_group a0 = some r) :
    AC Tryz.prog (GS []) 97 [.agg [V.i a0.kind, V.i a0.n, V.s a0.text, sL encSDoc a0.kids, V.i a0.group]] [] (.agg [V.i r.kind, V.i r.n, V.s r.text, sL encSDoc r.kids, V.i r.group]) [] := by
 rw [mi_group] at h
 refine AC.enter Tryz.func97 rfl (cV 100 ?_)
 refine CO.cutR (tl 6 [(2, .loc 101 0)]) [(101, .cells 53 [V.i 5, V.i 0, V.s [], .own 102, V.i 0]), (102, .vec false 53 5 ([a0].map encSDoc))] mix (by
  refine wR 1 102 (W.layop Dk lO (by kernel_rfl) 102 { v := .own 102, R := [], new := [(102, .vec true 53 5 [[V.i a0.kind, V.i a0.n, V.s a0.text, sL encSDoc a0.kids, V.i a0.group]])], N := [102] } (by kernel_rfl) (W.vecEq 102 (nn := true) (e := 53) (k := 5) (rows := [[V.i a0.kind, V.i a0.n, V.s a0.text, sL encSDoc a0.kids, V.i a0.group]]) (rows' := [a0].map encSDoc) (by kernel_rfl) (by simp only [List.map_cons, List.map_nil, encSDoc_eq]) (wR 2 103 ?_)))
  exact fI
  ) ?_
 refine CO.lay (tl 6 [(2, .loc 101 0)]) [(101, .cells 53 [V.i 5, V.i 0, V.s [], .sl false false ([a0].map encSDoc), V.i 0])] (LayOk.cons (j := 102) encSDoc encSDoc ([a0] : LO) (by kernel_rfl) (share_encSDoc) lO) (by kernel_rfl) (by kernel_rfl) (by kernel_rfl) (CO.ret ?_)
 have h := sI h
 subst h
 exact eG [] (.inr rfl) (RetV.one rfl (OneR.cell Dk (r := .agg [V.i 5, V.i 0, V.s [], .sl false false ([a0].map encSDoc), V.i 0]) (i := 101) (ety := 53) (cs := [V.i 5, V.i 0, V.s [], .sl false false ([a0].map encSDoc), V.i 0]) (by kernel_rfl) (by kernel_rfl) (by kernel_rfl)))

end Go.Proofs.Tryz
