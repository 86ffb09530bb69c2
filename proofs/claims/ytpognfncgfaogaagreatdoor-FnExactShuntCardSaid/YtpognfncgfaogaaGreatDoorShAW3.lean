/-
 The walks that show that the code computes the models, part 3.
-/
import Derived.Test.YtpognfncgfaogaaGreatDoorShAW2
namespace Go.Proofs.Tryz
open Go.Av
set_option maxRecDepth 100000
set_option maxHeartbeats 8000000
set_option linter.unusedSimpArgs false
set_option linter.unusedVariables false

theorem mi_SpellOf_ok (a0 : Int) {r : LU} (h : mi_SpellOf a0 = some r) :
    AC Tryz.prog (GS [1, 2]) 131 [V.i a0] [] (V.s r) [] := by
 rw [mi_SpellOf] at h
 refine AC.enter Tryz.func131 rfl (cV 100 (CO.seq' (CO.block' (cV 100 ?_))))
 refine cI h (fun _ h => ?_) (fun _ h => ?_)
 ·refine cV 100 ?_
  cases h
  exact e1 2 id
 refine bB h fun r10 hx14 h => (cC 1 100 (AC.gs (mi_isKeywordKind_ok a0 hx14) (by decide)) cok176 ?_)
 refine cI h (fun _ h => ?_) (fun _ h => ?_)
 ·refine bB h fun e12 hx17 h => (CO.sw mix (wR 2 100 (W.ixG Dk V.s (l := tab_keywords) hx17 (by kernel_rfl) (wR 2 100 (wF ?_)))))
  cases h
  exact e1 2 id
 refine bB h fun r14 hx19 h => (cC 1 100 (AC.gs (mi_isSignKind_ok a0 hx19) (by decide)) cok177 ?_)
 refine cI h (fun _ h => ?_) (fun _ h => ?_)
 ·refine bB h fun e16 hx22 h => (CO.sw mix (wR 2 100 (W.ixG Dk V.s (l := tab_signs) hx22 (by kernel_rfl) (wR 2 100 (wF ?_)))))
  cases h
  exact e1 2 id
 refine CO.skip (cV 100 ?_)
 cases h
 exact e1 2 id

theorem mi_TokenOk_ok (N : Nat) (a0 : SToken) {r : Bool} (h : mi_TokenOk N a0 = some r) :
    AC Tryz.prog (GS [0, 1, 2]) 91 [.agg [V.i a0.Kind, V.s a0.Text, V.i a0.At]] [] (V.b r) [] := by
 rw [mi_TokenOk] at h
 refine AC.enter Tryz.func91 rfl (cV 100 (CO.seq' (cV 101 ?_)))
 refine cI h (fun _ h => ?_) (fun _ h => ?_)
 ·refine cV 101 ?_
  cases h
  exact e1 2 id
 refine CO.skip (CO.seq' (cV 101 (CO.block' (cV 101 ?_))))
 refine cI h (fun _ h => ?_) (fun _ h => ?_)
 ·refine bB h fun y19 hv34 h => ?_
  refine CO.cutR (tl 64 [(2, V.b y19)]) [] mix (by
   refine wR 2 101 (bB hv34 fun b20 hx35 hv34 => (W.ixS Dk hx35 (by kernel_rfl) (wR 2 101 ?_)))
   refine wJ 14 hv34 (fun hv34 => ?_) (fun hv34 => ?_)
   ·refine wR 2 101 (bB hv34 fun r21 hx37 hv34 => (w0 (AC.gs (m_strings_Contains_ok a0.Text hx37) (by decide)) cok125 (wR 3 101 ?_)))
    cases hv34
    exact fS [] [2]
   refine wR 6 101 ?_
   cases hv34
   exact fS [] [2]
   ) ?_
  cases h
  exact e1 2 id
 refine cV 101 ?_
 refine cI h (fun _ h => ?_) (fun _ h => ?_)
 ·refine bB h fun r23 hx40 h => (cC 2 101 (AC.gs (mi_NumEnd_ok N a0.Text 0 hx40) (by decide)) cok126 ?_)
  cases h
  exact e1 2 id
 refine cV 101 ?_
 refine cI h (fun _ h => ?_) (fun _ h => ?_)
 ·refine bB h fun r25 hx43 h => (cC 2 101 (AC.gs (mi_StrEnd_ok N a0.Text 0 hx43) (by decide)) cok127 ?_)
  cases h
  exact e1 2 id
 refine cV 101 ?_
 refine cI h (fun _ h => ?_) (fun _ h => ?_)
 ·refine bB h fun r27 hx46 h => (cC 2 101 (AC.gs (mi_EreEnd_ok N a0.Text 0 hx46) (by decide)) cok128 ?_)
  cases h
  exact e1 2 id
 refine CO.join (fun (⟨a0, y28⟩ : (SToken × Bool)) => ⟨tl 64 [(1, .loc 100 0), (7, V.i a0.Kind), (47, V.b y28)], [(100, .cells 52 [V.i a0.Kind, V.s a0.Text, V.i a0.At])]⟩) (fun i => mi_TokenOk_k1 N i = some r) ?_ ?_
 · rintro ⟨a0, y28⟩ h48
   rw [mi_TokenOk_k1] at h48
   refine cI h48 (fun _ h48 => ?_) (fun _ h48 => ?_)
   ·refine bB h48 fun r30 hx51 h48 => (cC 2 101 (AC.gs (mi_NameOk_ok N a0.Text hx51) (by decide)) cok129 ?_)
    cases h48
    exact e1 2 id
   refine cV 101 ?_
   refine cI h48 (fun _ h48 => ?_) (fun _ h48 => ?_)
   ·refine bB h48 fun r32 hx54 h48 => (cC 2 101 (AC.gs (mi_IsBuiltin_ok N a0.Text hx54) (by decide)) cok130 ?_)
    cases h48
    exact e1 2 id
   refine CO.skip (bB h48 fun r34 hx56 h48 => (cC 4 101 (AC.gs (mi_SpellOf_ok a0.Kind hx56) (by decide)) cok131 ?_))
   cases h48
   exact e1 2 id
 intro hk57
 refine cV 101 ?_
 refine cI h (fun _ h => ?_) (fun _ h => ?_)
 ·exact sK hk57 (a0, (a0.Kind == 6)) h [(100, 100)] [1, 7, 47]
 exact cK 101 hk57 (a0, (a0.Kind == 7)) h [(100, 100)] [1, 7, 47]

theorem mi_EndsOperand_ok (a0 : Int) {r : Bool} (h : mi_EndsOperand a0 = some r) :
    AC0 92 [V.i a0] [] (V.b r) [] := by
 rw [mi_EndsOperand] at h
 refine AC.enter Tryz.func92 rfl (cV 100 (CO.seq' (cV 100 (CO.block' ?_))))
 refine CO.join (fun (y2 : Bool) => ⟨tl 14 [(4, V.b y2)], []⟩) (fun i => mi_EndsOperand_k1 i = some r) ?_ ?_
 · rintro y2 h28
   rw [mi_EndsOperand_k1] at h28
   refine cI h28 (fun _ h28 => ?_) (fun _ h28 => ?_)
   ·refine cV 100 ?_
    cases h28
    exact e1 2 id
   refine CO.skip (cV 100 ?_)
   cases h28
   exact e1 2 id
 intro hk30
 refine cV 100 ?_
 refine cI h (fun _ h => ?_) (fun _ h => ?_)
 ·exact sK hk30 (a0 == 3) h [] [4]
 refine cV 100 ?_
 refine cI h (fun _ h => ?_) (fun _ h => ?_)
 ·exact sK hk30 (a0 == 4) h [] [4]
 refine cV 100 ?_
 refine cI h (fun _ h => ?_) (fun _ h => ?_)
 ·exact sK hk30 (a0 == 5) h [] [4]
 refine cV 100 ?_
 refine cI h (fun _ h => ?_) (fun _ h => ?_)
 ·exact sK hk30 (a0 == 6) h [] [4]
 refine cV 100 ?_
 refine cI h (fun _ h => ?_) (fun _ h => ?_)
 ·exact sK hk30 (a0 == 8) h [] [4]
 refine cV 100 ?_
 refine cI h (fun _ h => ?_) (fun _ h => ?_)
 ·exact sK hk30 (a0 == 33) h [] [4]
 refine cV 100 ?_
 refine cI h (fun _ h => ?_) (fun _ h => ?_)
 ·exact sK hk30 (a0 == 35) h [] [4]
 refine cV 100 ?_
 refine cI h (fun _ h => ?_) (fun _ h => ?_)
 ·exact sK hk30 (a0 == 51) h [] [4]
 exact cK 100 hk30 (a0 == 52) h [] [4]

theorem mi_TokensOk_ok (N : Nat) (a0 : LT) {r : Bool} (h : mi_TokensOk N a0 = some r) :
    AC Tryz.prog (GS [0, 1, 2]) 55 [sL eTk a0] [] (V.b r) [] := by
 rw [mi_TokensOk] at h
 refine AC.enter Tryz.func55 rfl (cV 100 (CO.seq' (CO.sw mix (wR 1 100 (wN eTk a0 [] (wR 1 100 (wF ?_)))))))
 refine cI h (fun _ h => ?_) (fun _ h => ?_)
 ·refine cV 100 ?_
  cases h
  exact e1 2 id
 refine CO.skip (cV 100 (CO.seq' (CO.sw mix (wR 1 100 (wN eTk a0 [] (wR 1 100 (wF (CO.block' ?_))))))))
 refine CO.loopJ (fun (⟨a0, y397, y398⟩ : (LT × Int × Int)) => ⟨tl 76 [(0, sL eTk a0), (3, V.i y397), (10, sL eTk a0), (11, V.i (a0.length : Int)), (12, V.i y398)], []⟩) (fun n i => mi_TokensOk_l1 N n i = some r) (n0 := N) (i0 := (a0, 0, 0)) (wS [] [0, 3, 10, 11, 12]) h (fun i h => by simp [mi_TokensOk_l1] at h) ?_
 rintro n1 ⟨a0, y397, y398⟩ h1035 ih1036
 rw [mi_TokensOk_l1] at h1035
 refine cV 162 (CO.seq' ?_)
 refine cI h1035 (fun _ h1035 => ?_) (fun _ h1035 => ?_)
 ·refine CO.skip (CO.seq' (CO.block' (bB h1035 fun e549 hx1142 h1035 => (CO.sw mix (wR 1 162 (wX eTk hx1142 3 (wR 4 162 (wF ?_))))))))
  refine cV 163 ?_
  refine CO.join (fun (⟨a0, y397, y398, e549, y552⟩ : (LT × Int × Int × SToken × Int)) => ⟨tl 76 [(0, sL eTk a0), (3, V.i y397), (5, .loc 100 0), (6, V.i y552), (10, sL eTk a0), (11, V.i (a0.length : Int)), (12, V.i y398)], [(100, .cells 52 [V.i e549.Kind, V.s e549.Text, V.i e549.At])]⟩) (fun i => mi_TokensOk_k2 N (mi_TokensOk_l1 N n1) i = some r) ?_ ?_
  · rintro ⟨a0, y397, y398, e549, y552⟩ h1146
    rw [mi_TokensOk_k2] at h1146
    refine CO.seq' (CO.block' (bB h1146 fun r575 hx1194 h1146 => (cC 1 163 (mi_TokenOk_ok N e549 hx1194) cok91 ?_)))
    refine cI h1146 (fun _ h1146 => ?_) (fun _ h1146 => ?_)
    ·refine cV 163 ?_
     cases h1146
     exact e1 2 id
    refine bB h1146 fun y576 hv1197 h1146 => ?_
    refine CO.cutR (tl 76 [(0, sL eTk a0), (3, V.i y397), (5, .loc 100 0), (6, V.i y552), (10, sL eTk a0), (11, V.i (a0.length : Int)), (12, V.i y398), (32, V.b y576)]) [(100, .cells 52 [V.i e549.Kind, V.s e549.Text, V.i e549.At])] mix (by
     refine wR 4 163 ?_
     refine wJ 36 hv1197 (fun hv1197 => ?_) (fun hv1197 => ?_)
     ·refine wR 4 163 ?_
      cases hv1197
      exact fS [(100, 100)] [0, 3, 5, 6, 10, 11, 12, 32]
     refine wR 4 163 ?_
     cases hv1197
     exact fS [(100, 100)] [0, 3, 5, 6, 10, 11, 12, 32]
     ) ?_
    refine cI h1146 (fun _ h1146 => ?_) (fun _ h1146 => ?_)
    ·refine cV 163 ?_
     cases h1146
     exact e1 2 id
    refine bB h1146 fun y577 hv1202 h1146 => ?_
    refine CO.cutR (tl 76 [(0, sL eTk a0), (3, V.i y397), (5, .loc 100 0), (10, sL eTk a0), (11, V.i (a0.length : Int)), (12, V.i y398), (40, V.b y577)]) [(100, .cells 52 [V.i e549.Kind, V.s e549.Text, V.i e549.At])] mix (by
     refine wR 4 163 ?_
     refine wJ 44 hv1202 (fun hv1202 => ?_) (fun hv1202 => ?_)
     ·refine wR 4 163 ?_
      refine wJ 48 hv1202 (fun hv1202 => ?_) (fun hv1202 => ?_)
      ·refine wR 4 163 ?_
       cases hv1202
       exact fS [(100, 100)] [0, 3, 5, 10, 11, 12, 40]
      refine wR 4 163 ?_
      cases hv1202
      exact fS [(100, 100)] [0, 3, 5, 10, 11, 12, 40]
     refine wR 8 163 ?_
     cases hv1202
     exact fS [(100, 100)] [0, 3, 5, 10, 11, 12, 40]
     ) ?_
    refine cI h1146 (fun _ h1146 => ?_) (fun _ h1146 => ?_)
    ·refine cV 163 ?_
     cases h1146
     exact e1 2 id
    refine CO.join (fun (⟨a0, y398, e549, y586⟩ : (LT × Int × SToken × Bool)) => ⟨tl 76 [(0, sL eTk a0), (5, .loc 100 0), (10, sL eTk a0), (11, V.i (a0.length : Int)), (12, V.i y398), (52, V.b y586)], [(100, .cells 52 [V.i e549.Kind, V.s e549.Text, V.i e549.At])]⟩) (fun i => mi_TokensOk_k3 N (mi_TokensOk_l1 N n1) i = some r) ?_ ?_
    · rintro ⟨a0, y398, e549, y586⟩ h1221
      rw [mi_TokensOk_k3] at h1221
      refine cI h1221 (fun _ h1221 => ?_) (fun _ h1221 => ?_)
      ·refine cV 163 ?_
       cases h1221
       exact e1 2 id
      refine CO.skip ?_
      refine cE 3 163 (tl 76 [(0, sL eTk a0), (3, V.i e549.Kind), (10, sL eTk a0), (11, V.i (a0.length : Int)), (12, V.i y398)]) [] (fun st hw => ?_)
      refine CO.weak hw ?_
      exact cK 163 ih1036 (a0, e549.Kind, (wr (y398 + 1))) h1221 [] [0, 3, 10, 11, 12]
    intro hk1223
    refine bB h1146 fun y588 hv1226 h1146 => ?_
    refine CO.cutR (tl 76 [(0, sL eTk a0), (3, V.i y397), (5, .loc 100 0), (10, sL eTk a0), (11, V.i (a0.length : Int)), (12, V.i y398), (52, V.b y588)]) [(100, .cells 52 [V.i e549.Kind, V.s e549.Text, V.i e549.At])] mix (by
     refine wR 4 163 ?_
     refine wJ 56 hv1226 (fun hv1226 => ?_) (fun hv1226 => ?_)
     ·refine wR 1 163 (bB hv1226 fun r589 hx1228 hv1226 => (w0 (AC.gs (mi_EndsOperand_ok y397 hx1228) (by decide)) cok92 (wR 2 163 ?_)))
      cases hv1226
      exact fS [(100, 100)] [0, 3, 5, 10, 11, 12, 52]
     refine wR 4 163 ?_
     cases hv1226
     exact fS [(100, 100)] [0, 3, 5, 10, 11, 12, 52]
     ) ?_
    refine cI h1146 (fun _ h1146 => ?_) (fun _ h1146 => ?_)
    ·exact sK hk1223 (a0, y398, e549, y588) h1146 [(100, 100)] [0, 5, 10, 11, 12, 52]
    refine bB h1146 fun y592 hv1234 h1146 => ?_
    refine CO.endR (tl 76 [(0, sL eTk a0), (5, .loc 100 0), (10, sL eTk a0), (11, V.i (a0.length : Int)), (12, V.i y398), (52, V.b y592)]) [(100, .cells 52 [V.i e549.Kind, V.s e549.Text, V.i e549.At])] mix (by
     refine wR 4 163 ?_
     refine wJ 63 hv1234 (fun hv1234 => ?_) (fun hv1234 => ?_)
     ·refine wR 6 163 (bB hv1234 fun r593 hx1236 hv1234 => (w0 (AC.gs (mi_EndsOperand_ok y397 hx1236) (by decide)) cok92 (wR 3 163 ?_)))
      cases hv1234
      exact fS [(100, 100)] [0, 5, 10, 11, 12, 52]
     refine wR 5 163 ?_
     refine wJ 68 hv1234 (fun hv1234 => ?_) (fun hv1234 => ?_)
     ·refine wR 1 163 (bB hv1234 fun r594 hx1238 hv1234 => (w0 (AC.gs (mi_EndsOperand_ok y397 hx1238) (by decide)) cok92 (wR 3 163 ?_)))
      cases hv1234
      exact fS [(100, 100)] [0, 5, 10, 11, 12, 52]
     refine wR 5 163 ?_
     cases hv1234
     exact fS [(100, 100)] [0, 5, 10, 11, 12, 52]
     ) (fun st hw => ?_)
    exact hk1223 (a0, y398, e549, y592) h1146 _ (hw.trans (wS [(100, 100)] [0, 5, 10, 11, 12, 52]))
  intro hk1239
  refine CO.sw mix (wR 3 163 (wN eTk a0 [] (wR 1 163 (wF ?_))))
  refine cI h1035 (fun _ h1035 => ?_) (fun _ h1035 => ?_)
  ·refine bB h1035 fun e596 hx1242 h1035 => (CO.w mix (wR 3 163 (wX eTk hx1242 3 (wR 3 163 ?_))))
   exact wK hk1239 (a0, y397, y398, e549, e596.Kind) h1035 [(162, 100)] [0, 3, 5, 6, 10, 11, 12]
  exact sK hk1239 (a0, y397, y398, e549, 0) h1035 [(162, 100)] [0, 3, 5, 6, 10, 11, 12]
 refine CO.exit (cV 162 ?_)
 cases h1035
 exact e1 2 id

theorem mi_OpLevel_ok (a0 : Int) {r : Int} (h : mi_OpLevel a0 = some r) :
    AC0 56 [V.i a0] [] (V.i r) [] := by
 rw [mi_OpLevel] at h
 refine AC.enter Tryz.func56 rfl (cV 100 (CO.seq' (cV 100 (CO.block' (cV 100 ?_)))))
 refine cI h (fun _ h => ?_) (fun _ h => ?_)
 ·refine cV 100 ?_
  cases h
  exact e1 2 id
 refine cV 100 ?_
 refine cI h (fun _ h => ?_) (fun _ h => ?_)
 ·refine cV 100 ?_
  cases h
  exact e1 2 id
 refine CO.join (fun (⟨a0, y5⟩ : (Int × Bool)) => ⟨tl 29 [(3, V.i a0), (8, V.b y5)], []⟩) (fun i => mi_OpLevel_k1 i = some r) ?_ ?_
 · rintro ⟨a0, y5⟩ h38
   rw [mi_OpLevel_k1] at h38
   refine cI h38 (fun _ h38 => ?_) (fun _ h38 => ?_)
   ·refine cV 100 ?_
    cases h38
    exact e1 2 id
   refine CO.join (fun (⟨a0, y6⟩ : (Int × Bool)) => ⟨tl 29 [(3, V.i a0), (11, V.b y6)], []⟩) (fun i => mi_OpLevel_k2 i = some r) ?_ ?_
   · rintro ⟨a0, y6⟩ h45
     rw [mi_OpLevel_k2] at h45
     refine cI h45 (fun _ h45 => ?_) (fun _ h45 => ?_)
     ·refine cV 100 ?_
      cases h45
      exact e1 2 id
     refine cV 100 ?_
     refine cI h45 (fun _ h45 => ?_) (fun _ h45 => ?_)
     ·refine cV 100 ?_
      cases h45
      exact e1 2 id
     refine CO.join (fun (⟨a0, y7⟩ : (Int × Bool)) => ⟨tl 29 [(3, V.i a0), (20, V.b y7)], []⟩) (fun i => mi_OpLevel_k3 i = some r) ?_ ?_
     · rintro ⟨a0, y7⟩ h49
       rw [mi_OpLevel_k3] at h49
       refine cI h49 (fun _ h49 => ?_) (fun _ h49 => ?_)
       ·refine cV 100 ?_
        cases h49
        exact e1 2 id
       refine CO.join (fun (⟨a0, y8⟩ : (Int × Bool)) => ⟨tl 29 [(3, V.i a0), (23, V.b y8)], []⟩) (fun i => mi_OpLevel_k4 i = some r) ?_ ?_
       · rintro ⟨a0, y8⟩ h53
         rw [mi_OpLevel_k4] at h53
         refine cI h53 (fun _ h53 => ?_) (fun _ h53 => ?_)
         ·refine cV 100 ?_
          cases h53
          exact e1 2 id
         refine cV 100 ?_
         refine cI h53 (fun _ h53 => ?_) (fun _ h53 => ?_)
         ·refine cV 100 ?_
          cases h53
          exact e1 2 id
         refine CO.skip (cV 100 ?_)
         cases h53
         exact e1 2 id
       intro hk56
       refine cV 100 ?_
       refine cI h49 (fun _ h49 => ?_) (fun _ h49 => ?_)
       ·exact sK hk56 (a0, (a0 == 57)) h49 [] [3, 23]
       refine cV 100 ?_
       refine cI h49 (fun _ h49 => ?_) (fun _ h49 => ?_)
       ·exact sK hk56 (a0, (a0 == 58)) h49 [] [3, 23]
       exact cK 100 hk56 (a0, (a0 == 59)) h49 [] [3, 23]
     intro hk59
     refine cV 100 ?_
     refine cI h45 (fun _ h45 => ?_) (fun _ h45 => ?_)
     ·exact sK hk59 (a0, (a0 == 55)) h45 [] [3, 20]
     exact cK 100 hk59 (a0, (a0 == 56)) h45 [] [3, 20]
   intro hk61
   refine cV 100 ?_
   refine cI h38 (fun _ h38 => ?_) (fun _ h38 => ?_)
   ·exact sK hk61 (a0, (a0 == 63)) h38 [] [3, 11]
   refine cV 100 ?_
   refine cI h38 (fun _ h38 => ?_) (fun _ h38 => ?_)
   ·exact sK hk61 (a0, (a0 == 48)) h38 [] [3, 11]
   refine cV 100 ?_
   refine cI h38 (fun _ h38 => ?_) (fun _ h38 => ?_)
   ·exact sK hk61 (a0, (a0 == 47)) h38 [] [3, 11]
   refine cV 100 ?_
   refine cI h38 (fun _ h38 => ?_) (fun _ h38 => ?_)
   ·exact sK hk61 (a0, (a0 == 50)) h38 [] [3, 11]
   refine cV 100 ?_
   refine cI h38 (fun _ h38 => ?_) (fun _ h38 => ?_)
   ·exact sK hk61 (a0, (a0 == 62)) h38 [] [3, 11]
   exact cK 100 hk61 (a0, (a0 == 49)) h38 [] [3, 11]
 intro hk67
 refine cV 100 ?_
 refine cI h (fun _ h => ?_) (fun _ h => ?_)
 ·exact sK hk67 (a0, (a0 == 67)) h [] [3, 8]
 exact cK 100 hk67 (a0, (a0 == 46)) h [] [3, 8]

theorem mi_Shunts_ok (N : Nat) (a0 : LT) {r : Bool} (h : mi_Shunts N a0 = some r) :
    AC Tryz.prog (GS [0, 1, 2]) 27 [sL eTk a0] [] (V.b r) [] := by
 rw [mi_Shunts] at h
 refine AC.enter Tryz.func27 rfl (cV 100 (CO.seq' (bB h fun r4 hx5 h => (cC 1 100 (mi_TokensOk_ok N a0 hx5) cok55 ?_))))
 refine cI h (fun _ h => ?_) (fun _ h => ?_)
 ·refine cV 100 ?_
  cases h
  exact e1 2 id
 refine CO.skip (cV 100 (CO.seq' (CO.sw mix (wR 1 100 (wN eTk a0 [] (wR 1 100 (wF (CO.block' ?_))))))))
 refine CO.loopJ (fun (⟨a0, y75, y76, y77⟩ : (LT × Int × Bool × Int)) => ⟨tl 71 [(3, V.i y75), (4, V.b y76), (10, sL eTk a0), (11, V.i (a0.length : Int)), (12, V.i y77)], []⟩) (fun n i => mi_Shunts_l1 N n i = some r) (n0 := N) (i0 := (a0, 0, false, 0)) (wS [] [3, 4, 10, 11, 12]) h (fun i h => by simp [mi_Shunts_l1] at h) ?_
 rintro n1 ⟨a0, y75, y76, y77⟩ h273 ih274
 rw [mi_Shunts_l1] at h273
 refine cV 162 (CO.seq' ?_)
 refine cI h273 (fun _ h273 => ?_) (fun _ h273 => ?_)
 ·refine CO.skip ?_
  refine CO.join (fun (⟨a0, y77, y107, y108⟩ : (LT × Int × Int × Bool)) => ⟨tl 71 [(3, V.i y107), (4, V.b y108), (10, sL eTk a0), (11, V.i (a0.length : Int)), (12, V.i y77)], []⟩) (fun i => mi_Shunts_k2 N (mi_Shunts_l1 N n1) i = some r) ?_ ?_
  · rintro ⟨a0, y77, y107, y108⟩ h303
    rw [mi_Shunts_k2] at h303
    exact cK 163 ih274 (a0, y107, y108, (wr (y77 + 1))) h303 [] [3, 4, 10, 11, 12]
  intro hk304
  refine CO.block' (bB h273 fun e110 hx306 h273 => (CO.sw mix (wX eTk hx306 3 (wR 3 162 (wF (CO.block' (bB h273 fun y111 hv308 h273 => ?_)))))))
  refine CO.cutR (tl 71 [(3, V.i y75), (4, V.b y76), (6, .loc 100 0), (10, sL eTk a0), (11, V.i (a0.length : Int)), (12, V.i y77), (16, V.b y111)]) [(100, .cells 52 [V.i e110.Kind, V.s e110.Text, V.i e110.At])] mix (by
   refine wR 4 163 ?_
   refine wJ 20 hv308 (fun hv308 => ?_) (fun hv308 => ?_)
   ·refine wR 4 163 ?_
    cases hv308
    exact fS [(162, 100)] [3, 4, 6, 10, 11, 12, 16]
   refine wR 4 163 ?_
   cases hv308
   exact fS [(162, 100)] [3, 4, 6, 10, 11, 12, 16]
   ) ?_
  refine cI h273 (fun _ h273 => ?_) (fun _ h273 => ?_)
  ·exact cK 163 hk304 (a0, y77, (wr (y75 + 1)), y76) h273 [] [3, 4, 10, 11, 12]
  refine bB h273 fun y112 hv313 h273 => ?_
  refine CO.cutR (tl 71 [(3, V.i y75), (4, V.b y76), (6, .loc 100 0), (10, sL eTk a0), (11, V.i (a0.length : Int)), (12, V.i y77), (26, V.b y112)]) [(100, .cells 52 [V.i e110.Kind, V.s e110.Text, V.i e110.At])] mix (by
   refine wR 4 163 ?_
   refine wJ 30 hv313 (fun hv313 => ?_) (fun hv313 => ?_)
   ·refine wR 9 163 ?_
    cases hv313
    exact fS [(100, 100)] [3, 4, 6, 10, 11, 12, 26]
   refine wR 5 163 ?_
   refine wJ 35 hv313 (fun hv313 => ?_) (fun hv313 => ?_)
   ·refine wR 4 163 ?_
    cases hv313
    exact fS [(100, 100)] [3, 4, 6, 10, 11, 12, 26]
   refine wR 4 163 ?_
   cases hv313
   exact fS [(100, 100)] [3, 4, 6, 10, 11, 12, 26]
   ) ?_
  refine cI h273 (fun _ h273 => ?_) (fun _ h273 => ?_)
  ·exact cK 163 hk304 (a0, y77, y75, true) h273 [] [3, 4, 10, 11, 12]
  refine bB h273 fun y113 hv319 h273 => ?_
  refine CO.cutR (tl 71 [(3, V.i y75), (4, V.b y76), (6, .loc 100 0), (10, sL eTk a0), (11, V.i (a0.length : Int)), (12, V.i y77), (39, V.b y113)]) [(100, .cells 52 [V.i e110.Kind, V.s e110.Text, V.i e110.At])] mix (by
   refine wR 4 163 ?_
   refine wJ 43 hv319 (fun hv319 => ?_) (fun hv319 => ?_)
   ·refine wR 3 163 ?_
    refine wJ 46 hv319 (fun hv319 => ?_) (fun hv319 => ?_)
    ·refine wR 4 163 ?_
     cases hv319
     exact fS [(100, 100)] [3, 4, 6, 10, 11, 12, 39]
    refine wR 4 163 ?_
    cases hv319
    exact fS [(100, 100)] [3, 4, 6, 10, 11, 12, 39]
   refine wR 7 163 ?_
   cases hv319
   exact fS [(100, 100)] [3, 4, 6, 10, 11, 12, 39]
   ) ?_
  refine cI h273 (fun _ h273 => ?_) (fun _ h273 => ?_)
  ·exact cK 163 hk304 (a0, y77, (wr (y75 - 1)), y76) h273 [] [3, 4, 10, 11, 12]
  refine bB h273 fun y115 hv326 h273 => ?_
  refine CO.cutR (tl 71 [(3, V.i y75), (10, sL eTk a0), (11, V.i (a0.length : Int)), (12, V.i y77), (52, V.b y115)]) [] mix (by
   refine wR 2 163 (bB hv326 fun r116 hx327 hv326 => (w0 (AC.gs (mi_OpLevel_ok e110.Kind hx327) (by decide)) cok56 (wR 2 163 ?_)))
   refine wJ 57 hv326 (fun hv326 => ?_) (fun hv326 => ?_)
   ·refine wR 5 163 ?_
    refine wJ 62 hv326 (fun hv326 => ?_) (fun hv326 => ?_)
    ·refine wR 3 163 ?_
     cases hv326
     exact fS [] [3, 10, 11, 12, 52]
    refine wR 3 163 ?_
    cases hv326
    exact fS [] [3, 10, 11, 12, 52]
   refine wR 8 163 ?_
   cases hv326
   exact fS [] [3, 10, 11, 12, 52]
   ) ?_
  refine cI h273 (fun _ h273 => ?_) (fun _ h273 => ?_)
  ·exact cK 163 hk304 (a0, y77, y75, false) h273 [] [3, 4, 10, 11, 12]
  refine cV 163 ?_
  cases h273
  exact e1 2 id
 refine CO.exit (bB h273 fun y117 hv332 h273 => ?_)
 refine CO.cutR (tl 71 [(2, V.b y117)]) [] mix (by
  refine wR 2 162 ?_
  refine wJ 67 hv332 (fun hv332 => ?_) (fun hv332 => ?_)
  ·refine wR 4 162 ?_
   cases hv332
   exact fS [] [2]
  refine wR 4 162 ?_
  cases hv332
  exact fS [] [2]
  ) ?_
 cases h273
 exact e1 2 id

theorem mi_Top_ok {r : SPos} (h : mi_Top = some r) :
    AC0 29 [] [] (.agg [V.i r.Level, V.b r.Dollar, V.b r.NoIn, V.b r.NoGt, V.b r.NoSign]) [] := by
 rw [mi_Top] at h
 refine AC.enter Tryz.func29 rfl (cV 100 (cV 101 (CO.ret ?_)))
 cases h
 exact eG [] (.inr rfl) (RetV.one rfl (OneR.cell Dk (r := .agg [V.i 1, V.b false, V.b false, V.b false, V.b false]) (i := 100) (ety := 40) (cs := [V.i 1, V.b false, V.b false, V.b false, V.b false]) (by kernel_rfl) (by kernel_rfl) (by kernel_rfl)))

theorem mi_PosOk_ok (a0 : SPos) {r : Bool} (h : mi_PosOk a0 = some r) :
    AC0 93 [.agg [V.i a0.Level, V.b a0.Dollar, V.b a0.NoIn, V.b a0.NoGt, V.b a0.NoSign]] [] (V.b r) [] := by
 rw [mi_PosOk] at h
 refine AC.enter Tryz.func93 rfl (cV 100 (bB h fun y2 hv4 h => ?_))
 refine CO.cutR (tl 16 [(2, V.b y2)]) [] mix (by
  refine wR 2 101 (bB hv4 fun r3 hx5 hv4 => (w0 (mi_within_ok a0.Level 1 15 hx5) cok103 (wR 1 101 ?_)))
  refine wJ 6 hv4 (fun hv4 => ?_) (fun hv4 => ?_)
  ·refine wR 4 101 ?_
   refine wJ 10 hv4 (fun hv4 => ?_) (fun hv4 => ?_)
   ·refine wR 6 101 ?_
    cases hv4
    exact fS [] [2]
   refine wR 6 101 ?_
   cases hv4
   exact fS [] [2]
  refine wR 10 101 ?_
  cases hv4
  exact fS [] [2]
  ) ?_
 cases h
 exact e1 2 id

theorem mi_opens_ok (a0 : Int) {r : Bool} (h : mi_opens a0 = some r) :
    AC0 178 [V.i a0] [] (V.b r) [] := by
 rw [mi_opens] at h
 refine AC.enter Tryz.func178 rfl (cV 100 (bB h fun y1 hv3 h => ?_))
 refine CO.cutR (tl 13 [(2, V.b y1)]) [] mix (by
  refine wR 3 100 ?_
  refine wJ 5 hv3 (fun hv3 => ?_) (fun hv3 => ?_)
  ·refine wR 8 100 ?_
   cases hv3
   exact fS [] [2]
  refine wR 4 100 ?_
  refine wJ 9 hv3 (fun hv3 => ?_) (fun hv3 => ?_)
  ·refine wR 4 100 ?_
   cases hv3
   exact fS [] [2]
  refine wR 4 100 ?_
  cases hv3
  exact fS [] [2]
  ) ?_
 cases h
 exact e1 2 id

theorem mi_shuts_ok (a0 : Int) {r : Bool} (h : mi_shuts a0 = some r) :
    AC0 179 [V.i a0] [] (V.b r) [] := by
 rw [mi_shuts] at h
 refine AC.enter Tryz.func179 rfl (cV 100 (bB h fun y1 hv3 h => ?_))
 refine CO.cutR (tl 13 [(2, V.b y1)]) [] mix (by
  refine wR 3 100 ?_
  refine wJ 5 hv3 (fun hv3 => ?_) (fun hv3 => ?_)
  ·refine wR 8 100 ?_
   cases hv3
   exact fS [] [2]
  refine wR 4 100 ?_
  refine wJ 9 hv3 (fun hv3 => ?_) (fun hv3 => ?_)
  ·refine wR 4 100 ?_
   cases hv3
   exact fS [] [2]
  refine wR 4 100 ?_
  cases hv3
  exact fS [] [2]
  ) ?_
 cases h
 exact e1 2 id

theorem mi_NestOf_ok (N : Nat) (a0 : LT) {r : Int} (h : mi_NestOf N a0 = some r) :
    AC0 132 [sL eTk a0] [] (V.i r) [] := by
 rw [mi_NestOf] at h
 refine AC.enter Tryz.func132 rfl (cV 100 (cV 100 (CO.seq' (CO.sw mix (wR 1 100 (wN eTk a0 [] (wR 1 100 (wF ?_))))))))
 refine CO.block' (CO.loopJ (fun (⟨a0, y93, y94⟩ : (LT × Int × Int)) => ⟨tl 30 [(3, V.i y93), (6, sL eTk a0), (7, V.i (a0.length : Int)), (8, V.i y94)], []⟩) (fun n i => mi_NestOf_l1 N n i = some r) (n0 := N) (i0 := (a0, 0, 0)) (wS [] [3, 6, 7, 8]) h (fun i h => by simp [mi_NestOf_l1] at h) ?_)
 rintro n1 ⟨a0, y93, y94⟩ h183 ih184
 rw [mi_NestOf_l1] at h183
 refine cV 162 (CO.seq' ?_)
 refine cI h183 (fun _ h183 => ?_) (fun _ h183 => ?_)
 ·refine CO.skip (CO.seq' (CO.block' (bB h183 fun e131 hx205 h183 => (CO.sw mix (wR 1 162 (wX eTk hx205 3 (wR 4 162 (wF ?_))))))))
  refine CO.join (fun (⟨y94, a0, y136⟩ : (Int × LT × Int)) => ⟨tl 30 [(3, V.i y136), (4, V.i y94), (6, sL eTk a0), (7, V.i (a0.length : Int)), (8, V.i y94)], []⟩) (fun i => mi_NestOf_k2 N (mi_NestOf_l1 N n1) i = some r) ?_ ?_
  · rintro ⟨y94, a0, y136⟩ h212
    rw [mi_NestOf_k2] at h212
    refine cV 163 ?_
    refine cI h212 (fun _ h212 => ?_) (fun _ h212 => ?_)
    ·refine cV 163 ?_
     cases h212
     exact e1 2 id
    refine CO.skip ?_
    exact cK 163 ih184 (a0, y136, (wr (y94 + 1))) h212 [] [3, 6, 7, 8]
  intro hk214
  refine CO.block' (bB h183 fun r138 hx216 h183 => (cC 2 163 (mi_opens_ok e131.Kind hx216) cok178 ?_))
  refine cI h183 (fun _ h183 => ?_) (fun _ h183 => ?_)
  ·exact cK 163 hk214 (y94, a0, (wr (y93 + 1))) h183 [] [3, 4, 6, 7, 8]
  refine bB h183 fun r140 hx219 h183 => (cC 2 163 (mi_shuts_ok e131.Kind hx219) cok179 ?_)
  refine cI h183 (fun _ h183 => ?_) (fun _ h183 => ?_)
  ·exact cK 163 hk214 (y94, a0, (if 0 > (wr (y93 - 1)) then 0 else (wr (y93 - 1)))) h183 [] [3, 4, 6, 7, 8]
  exact sK hk214 (y94, a0, y93) h183 [] [3, 4, 6, 7, 8]
 refine CO.exit (cV 162 ?_)
 cases h183
 exact e1 2 id

theorem mi_placeOf_ok (a0 : LT) (a1 : Int) {r : Int} (h : mi_placeOf a0 a1 = some r) :
    AC0 96 [sL eTk a0, V.i a1] [] (V.i r) [] := by
 rw [mi_placeOf] at h
 refine AC.enter Tryz.func96 rfl (cV 100 (CO.seq' (CO.block' (CO.sw mix (wR 2 100 (wN eTk a0 [] (wR 2 100 (wF ?_))))))))
 refine cI h (fun _ h => ?_) (fun _ h => ?_)
 ·refine bB h fun e4 hx7 h => (CO.sw mix (wR 2 100 (wX eTk hx7 3 (wR 3 100 (wF ?_)))))
  cases h
  exact e1 4 id
 refine CO.sw mix (wR 1 100 (wN eTk a0 [] (wR 2 100 (wF ?_))))
 refine cI h (fun _ h => ?_) (fun _ h => ?_)
 ·refine cV 100 ?_
  cases h
  exact e1 4 id
 refine CO.skip (bB h fun e7 hx11 h => (bB h fun e8 hx12 h => (CO.sw mix (wR 2 100 (wN eTk a0 [] (wR 1 100 (wX eTk hx11 3 (wR 4 100 ?_))))))))
 refine wN eTk a0 [] (wR 1 100 (wX eTk hx12 3 (wR 5 100 (wF ?_))))
 cases h
 exact e1 4 id

theorem mi_checked_ok (N : Nat) (a0 : LT) {r : SFault} (h : mi_checked N a0 = some r) :
    AC Tryz.prog (GS [0, 1, 2]) 94 [sL eTk a0] [] (.agg [V.i r.Kind, V.i r.At]) [] := by
 rw [mi_checked] at h
 refine AC.enter Tryz.func94 rfl (cV 100 (CO.seq' (bB h fun r4 hx5 h => (cC 1 101 (mi_TokensOk_ok N a0 hx5) cok55 ?_))))
 refine cI h (fun _ h => ?_) (fun _ h => ?_)
 ·refine cV 101 (CO.ret ?_)
  cases h
  exact eG [] (.inr rfl) (RetV.one rfl (OneR.cell Dk (r := .agg [V.i 2, V.i 0]) (i := 100) (ety := 82) (cs := [V.i 2, V.i 0]) (by kernel_rfl) (by kernel_rfl) (by kernel_rfl)))
 refine CO.skip (CO.seq' (bB h fun r10 hx13 h => (cC 1 101 (AC.gs (mi_NestOf_ok N a0 hx13) (by decide)) cok132 (cV 101 ?_))))
 refine cI h (fun _ h => ?_) (fun _ h => ?_)
 ·refine bB h fun r12 hx16 h => (cC 2 101 (AC.gs (mi_placeOf_ok a0 r10 hx16) (by decide)) cok96 (CO.ret ?_))
  have h := sI h
  subst h
  exact eG [] (.inr rfl) (RetV.one rfl (OneR.cell Dk (r := .agg [V.i 4, V.i r12]) (i := 100) (ety := 82) (cs := [V.i 4, V.i r12]) (by kernel_rfl) (by kernel_rfl) (by kernel_rfl)))
 refine CO.skip (cV 101 (CO.ret ?_))
 cases h
 exact eG [] (.inr rfl) (RetV.one rfl (OneR.cell Dk (r := .agg [V.i 0, V.i 0]) (i := 100) (ety := 82) (cs := [V.i 0, V.i 0]) (by kernel_rfl) (by kernel_rfl) (by kernel_rfl)))

theorem mp_kind_ok (pa : LT) (pb : Int) (pc : Bool) (p1 : LLU) {r : Int} (h : mp_kind pa pb pc p1 = some r) :
    AC0 134 [.loc 0 0] [(0, cP 108 pa pb pc 1), (1, vN p1)] (V.i r) [(0, cP 108 pa pb pc 1), (1, vN p1)] := by
 rw [mp_kind] at h
 refine AC.enter Tryz.func134 rfl (cV 100 (CO.seq' (CO.sw mix (wR 8 100 (wN eTk pa [] (wR 1 100 (wF ?_)))))))
 refine cI h (fun _ h => ?_) (fun _ h => ?_)
 ·refine cV 100 (CO.ret ?_)
  cases h
  exact eG [(0, 0), (1, 1)] (.inr rfl) (RetV.one rfl (oT (t := 2) (r := V.i 0)))
 refine CO.skip (bB h fun e2 hx4 h => (CO.sw mix (wR 8 100 (wX eTk hx4 3 (wR 3 100 (wF (CO.ret ?_)))))))
 have h := sI h
 subst h
 exact eG [(0, 0), (1, 1)] (.inr rfl) (RetV.one rfl (oT (t := 2) (r := V.i e2.Kind)))

theorem mi_BeginsOperand_ok (a0 : Int) {r : Bool} (h : mi_BeginsOperand a0 = some r) :
    AC0 133 [V.i a0] [] (V.b r) [] := by
 rw [mi_BeginsOperand] at h
 refine AC.enter Tryz.func133 rfl (cV 100 (CO.seq' (cV 100 (CO.block' ?_))))
 refine CO.join (fun (y2 : Bool) => ⟨tl 12 [(4, V.b y2)], []⟩) (fun i => mi_BeginsOperand_k1 i = some r) ?_ ?_
 · rintro y2 h22
   rw [mi_BeginsOperand_k1] at h22
   refine cI h22 (fun _ h22 => ?_) (fun _ h22 => ?_)
   ·refine cV 100 ?_
    cases h22
    exact e1 2 id
   refine CO.skip (cV 100 ?_)
   cases h22
   exact e1 2 id
 intro hk24
 refine cV 100 ?_
 refine cI h (fun _ h => ?_) (fun _ h => ?_)
 ·exact sK hk24 (a0 == 3) h [] [4]
 refine cV 100 ?_
 refine cI h (fun _ h => ?_) (fun _ h => ?_)
 ·exact sK hk24 (a0 == 4) h [] [4]
 refine cV 100 ?_
 refine cI h (fun _ h => ?_) (fun _ h => ?_)
 ·exact sK hk24 (a0 == 6) h [] [4]
 refine cV 100 ?_
 refine cI h (fun _ h => ?_) (fun _ h => ?_)
 ·exact sK hk24 (a0 == 7) h [] [4]
 refine cV 100 ?_
 refine cI h (fun _ h => ?_) (fun _ h => ?_)
 ·exact sK hk24 (a0 == 8) h [] [4]
 refine cV 100 ?_
 refine cI h (fun _ h => ?_) (fun _ h => ?_)
 ·exact sK hk24 (a0 == 32) h [] [4]
 exact cK 100 hk24 (a0 == 68) h [] [4]

theorem mp_fail_ok (pa : LT) (pb : Int) (pc : Bool) (p1 : LLU) {r : (SPart × Bool)} (h : mp_fail pa pb pc p1 = some r) :
    AC0 135 [.loc 0 0] [(0, cP 108 pa pb pc 1), (1, vN p1)] (.agg (aP r.1)) [(0, cP 108 pa pb r.2 1), (1, vN p1)] := by
 rw [mp_fail] at h
 refine AC.enter Tryz.func135 rfl (cV 100 (cV 101 (cU 2 101 (tl 7 [(2, .loc 100 0)]) [(100, .cells 110 [V.i 0, V.i 0, V.s [], V.s [], .c (.slice none 0 0), V.b false]), (0, cP 108 pa pb true 1), (1, vN p1)] (CO.lay (tl 7 [(2, .loc 100 0)]) [(100, .cells 110 [V.i 0, V.i 0, V.s [], V.s [], sL eST [], V.b false]), (0, cP 108 pa pb true 1), (1, vN p1)] lO (by kernel_rfl) (by kernel_rfl) (by kernel_rfl) (CO.ret ?_)))))
 cases h
 exact eG [(0, 0), (1, 1)] (.inr rfl) (RetV.one rfl (OneR.cell Dk (r := .agg [V.i 0, V.i 0, V.s [], V.s [], sL eST [], V.b false]) (i := 100) (ety := 110) (cs := [V.i 0, V.i 0, V.s [], V.s [], sL eST [], V.b false]) (by kernel_rfl) (by kernel_rfl) (by kernel_rfl)))

theorem mp_listAhead_ok (N : Nat) (pa : LT) (pb : Int) (pc : Bool) (p1 : LLU) {r : Bool} (h : mp_listAhead N pa pb pc p1 = some r) :
    AC0 183 [.loc 0 0] [(0, cP 108 pa pb pc 1), (1, vN p1)] (V.b r) [(0, cP 108 pa pb pc 1), (1, vN p1)] := by
 rw [mp_listAhead] at h
 refine AC.enter Tryz.func183 rfl (cV 100 (cV 100 ?_))
 refine CO.join (fun (_ : Unit) => ⟨tl 43 [], [(0, cP 108 pa pb pc 1), (1, vN p1)]⟩) (fun i => mp_listAhead_k1 N pa pb pc p1 i = some r) ?_ ?_
 · rintro ⟨⟩ h157
   rw [mp_listAhead_k1] at h157
   refine cV 163 (CO.ret ?_)
   cases h157
   exact eG [(0, 0), (1, 1)] (.inr rfl) (RetV.one rfl (oT (t := 2) (r := V.b false)))
 intro hk158
 refine bB h fun l82 hx160 h => (CO.sw mix (wR 8 100 (W.cutD Dk eTk hx160 false 3 (fun _ => by first | rfl | kernel_rfl) (by kernel_rfl) (wN eTk l82 [] (wR 1 100 (wF (CO.block' (CO.loopJ (fun (⟨l82, y105, y106⟩ : (LT × Int × Int)) => ⟨tl 43 [(3, V.i y105), (14, sL eTk l82), (15, V.i (l82.length : Int)), (16, V.i y106)], [(0, cP 108 pa pb pc 1), (1, vN p1)]⟩) (fun n i => mp_listAhead_l2 N pa pb pc p1 n i = some r) (n0 := N) (i0 := (l82, 0, 0)) (wS [(0, 0), (1, 1)] [3, 14, 15, 16]) h (fun i h => by simp [mp_listAhead_l2] at h) ?_))))))))
 rintro n2 ⟨l82, y105, y106⟩ h261 ih262
 rw [mp_listAhead_l2] at h261
 refine cV 162 (CO.seq' ?_)
 refine cI h261 (fun _ h261 => ?_) (fun _ h261 => ?_)
 ·refine CO.skip (CO.seq' (CO.block' (bB h261 fun e149 hx291 h261 => (CO.sw mix (wX eTk hx291 3 (wR 3 162 (wF ?_)))))))
  refine CO.join (fun (⟨l82, y106, y155⟩ : (LT × Int × Int)) => ⟨tl 43 [(3, V.i y155), (14, sL eTk l82), (15, V.i (l82.length : Int)), (16, V.i y106)], [(0, cP 108 pa pb pc 1), (1, vN p1)]⟩) (fun i => mp_listAhead_k3 N pa pb pc p1 (mp_listAhead_l2 N pa pb pc p1 n2) i = some r) ?_ ?_
  · rintro ⟨l82, y106, y155⟩ h302
    rw [mp_listAhead_k3] at h302
    refine cV 163 ?_
    refine cI h302 (fun _ h302 => ?_) (fun _ h302 => ?_)
    ·refine CO.exit ?_
     exact hk158 () h302 _ (wS [(0, 0), (1, 1)] [])
    refine CO.skip ?_
    exact cK 163 ih262 (l82, y155, (wr (y106 + 1))) h302 [(0, 0), (1, 1)] [3, 14, 15, 16]
  intro hk304
  refine CO.block' (bB h261 fun r157 hx306 h261 => (cC 2 163 (mi_opens_ok e149.Kind hx306) cok178 ?_))
  refine cI h261 (fun _ h261 => ?_) (fun _ h261 => ?_)
  ·exact cK 163 hk304 (l82, y106, (wr (y105 + 1))) h261 [(0, 0), (1, 1)] [3, 14, 15, 16]
  refine bB h261 fun r159 hx309 h261 => (cC 2 163 (mi_shuts_ok e149.Kind hx309) cok179 ?_)
  refine cI h261 (fun _ h261 => ?_) (fun _ h261 => ?_)
  ·exact cK 163 hk304 (l82, y106, (wr (y105 - 1))) h261 [(0, 0), (1, 1)] [3, 14, 15, 16]
  refine bB h261 fun y160 hv312 h261 => ?_
  refine CO.cutR (tl 43 [(3, V.i y105), (14, sL eTk l82), (15, V.i (l82.length : Int)), (16, V.i y106), (32, V.b y160)]) [(0, cP 108 pa pb pc 1), (1, vN p1)] mix (by
   refine wR 4 163 ?_
   refine wJ 36 hv312 (fun hv312 => ?_) (fun hv312 => ?_)
   ·refine wR 4 163 ?_
    cases hv312
    exact fS [(0, 0), (1, 1)] [3, 14, 15, 16, 32]
   refine wR 4 163 ?_
   cases hv312
   exact fS [(0, 0), (1, 1)] [3, 14, 15, 16, 32]
   ) ?_
  refine cI h261 (fun _ h261 => ?_) (fun _ h261 => ?_)
  ·refine cV 163 (CO.ret ?_)
   cases h261
   exact eG [(0, 0), (1, 1)] (.inr rfl) (RetV.one rfl (oT (t := 2) (r := V.b true)))
  exact sK hk304 (l82, y106, y105) h261 [(0, 0), (1, 1)] [3, 14, 15, 16]
 refine CO.exit ?_
 exact hk158 () h261 _ (wS [(0, 0), (1, 1)] [])

theorem mp_newlines_ok (N : Nat) (pa : LT) (pb : Int) (pc : Bool) (p1 : LLU) {r : (Int × LLU)} (h : mp_newlines N pa pb pc p1 = some r) :
    AC0 181 [.loc 0 0] [(0, cP 108 pa pb pc 1), (1, vN p1)] (.tup []) [(0, cP 108 pa r.1 pc 100), (100, vN r.2)] := by
 rw [mp_newlines] at h
 refine AC.enter Tryz.func181 rfl (CO.block' (CO.loopJ (fun (⟨y14, y15⟩ : (Int × LLU)) => ⟨tl 40 [(0, .loc 0 0)], [(0, cP 108 pa y14 pc 100), (100, vN y15)]⟩) (fun n i => mp_newlines_l1 N pa pc n i = some r) (n0 := N) (i0 := (pb, p1)) (wS [(0, 0), (1, 100)] [0]) h (fun i h => by simp [mp_newlines_l1] at h) ?_))
 rintro n1 ⟨y14, y15⟩ h41 ih42
 rw [mp_newlines_l1] at h41
 refine CO.seq' (cV 164 ?_)
 refine cI h41 (fun _ h41 => ?_) (fun _ h41 => ?_)
 ·refine CO.skip (CO.block' ?_)
  refine CO.join (fun (⟨y14, y37⟩ : (Int × LLU)) => ⟨tl 40 [(0, .loc 0 0)], [(0, cP 108 pa y14 pc 100), (100, vN y37)]⟩) (fun i => mp_newlines_k2 N pa pc (mp_newlines_l1 N pa pc n1) i = some r) ?_ ?_
  · rintro ⟨y14, y37⟩ h53
    rw [mp_newlines_k2] at h53
    exact cK 166 ih42 ((wr (y14 + 1)), y37) h53 [(0, 0), (100, 100)] [0]
  intro hk54
  refine bB h41 fun r39 hx56 h41 => (CO.sw mix (wR 1 164 (wC (mp_kind_ok pa y14 pc y15 hx56) cok134 [(0, 0), (100, 1)] [(0, 0), (1, 100)] [] (wF (CO.block' (cV 164 ?_))))))
  refine cI h41 (fun _ h41 => ?_) (fun _ h41 => ?_)
  ·exact sK hk54 (y14, y15) h41 [(0, 0), (100, 100)] [0]
  refine cV 164 ?_
  refine cI h41 (fun _ h41 => ?_) (fun _ h41 => ?_)
  ·refine bB h41 fun e42 hx61 h41 => (bB h41 fun x43 hx62 h41 => (CO.w mix (wR 13 164 (wX eTk hx61 3 (wR 3 164 (W.appO Dk eNS (a := 100) (c := 164) (el := 9) (sz := 1) 16 hx62 rfl 165 (by kernel_rfl) (wR 3 166 ?_)))))))
   exact wK hk54 (y14, x43) h41 [(0, 0), (165, 100)] [0]
  refine CO.ret ?_
  cases h41
  exact eG [(0, 0), (100, 100)] (.inr rfl) (RetV.none rfl)
 refine CO.exit ?_
 cases h41
 exact eG [(0, 0), (100, 100)] (.inl rfl) (RetV.none rfl)

theorem mp_take_ok (a1 : Int) (pa : LT) (pb : Int) (pc : Bool) (p1 : LLU) {r : (Bool × Int × Bool)} (h : mp_take a1 pa pb pc p1 = some r) :
    AC0 180 [.loc 0 0, V.i a1] [(0, cP 108 pa pb pc 1), (1, vN p1)] (V.b r.1) [(0, cP 108 pa r.2.1 r.2.2 1), (1, vN p1)] := by
 rw [mp_take] at h
 refine AC.enter Tryz.func180 rfl (cV 100 (CO.seq' (bB h fun y5 hv9 h => ?_)))
 refine CO.cutR (tl 25 [(0, .loc 0 0), (14, V.b y5)]) [(0, cP 108 pa pb pc 1), (1, vN p1)] mix (by
  refine wR 5 100 ?_
  refine wJ 9 hv9 (fun hv9 => ?_) (fun hv9 => ?_)
  ·refine wR 5 100 ?_
   cases hv9
   exact fS [(0, 0), (1, 1)] [0, 14]
  refine wR 1 100 (bB hv9 fun r6 hx11 hv9 => (wC (mp_kind_ok pa pb pc p1 hx11) cok134 [(0, 0), (1, 1)] [(0, 0), (1, 1)] [] (wR 3 100 ?_)))
  cases hv9
  exact fS [(0, 0), (1, 1)] [0, 14]
  ) ?_
 refine cI h (fun _ h => ?_) (fun _ h => ?_)
 ·refine cV 100 (cV 100 (CO.ret ?_))
  cases h
  exact eG [(0, 0), (1, 1)] (.inr rfl) (RetV.one rfl (oT (t := 4) (r := V.b false)))
 refine CO.skip (cV 100 (cV 100 (CO.ret ?_)))
 cases h
 exact eG [(0, 0), (1, 1)] (.inr rfl) (RetV.one rfl (oT (t := 4) (r := V.b true)))

theorem mi_isStep_ok (a0 : Int) {r : Bool} (h : mi_isStep a0 = some r) :
    AC0 149 [V.i a0] [] (V.b r) [] := by
 rw [mi_isStep] at h
 refine AC.enter Tryz.func149 rfl (cV 100 (bB h fun y1 hv2 h => ?_))
 refine CO.cutR (tl 9 [(2, V.b y1)]) [] mix (by
  refine wR 3 100 ?_
  refine wJ 5 hv2 (fun hv2 => ?_) (fun hv2 => ?_)
  ·refine wR 4 100 ?_
   cases hv2
   exact fS [] [2]
  refine wR 4 100 ?_
  cases hv2
  exact fS [] [2]
  ) ?_
 cases h
 exact e1 2 id

theorem mp_text_ok (pa : LT) (pb : Int) (pc : Bool) (p1 : LLU) {r : (LU × Int)} (h : mp_text pa pb pc p1 = some r) :
    AC0 187 [.loc 0 0] [(0, cP 108 pa pb pc 1), (1, vN p1)] (V.s r.1) [(0, cP 108 pa r.2 pc 1), (1, vN p1)] := by
 rw [mp_text] at h
 refine AC.enter Tryz.func187 rfl (cV 100 (bB h fun e2 hx2 h => (CO.sw mix (wR 8 100 (wX eTk hx2 3 (wR 3 100 (wF (cV 100 ?_))))))))
 refine cV 100 (CO.ret ?_)
 have h := sI h
 subst h
 exact eG [(0, 0), (1, 1)] (.inr rfl) (RetV.one rfl (oT (t := 2) (r := V.s e2.Text)))

theorem mi_bin_ok (a0 : Int) (a1 : SPart) (a2 : SPart) {r : SPart} (h : mi_bin a0 a1 a2 = some r) :
    AC0 182 [V.i a0, .agg (aP a1), .agg (aP a2)] [] (.agg (aP r)) [] := by
 rw [mi_bin] at h
 refine AC.enter Tryz.func182 rfl (cV 100 ?_)
 refine CO.cutR (tl 15 [(6, .loc 102 0)]) [(102, .cells 110 [V.i 12, V.i a0, V.s [], V.s [], .own 103, V.b false]), (103, .vec false 87 5 ([a1.tree, a2.tree].map eST))] mix (by
  refine wR 5 103 (W.layop Dk lO (by kernel_rfl) 103 { v := .own 103, R := [], new := [(103, .vec true 87 5 [[V.i a1.tree.kind, V.i a1.tree.op, V.s a1.tree.text, V.s a1.tree.other, sL eST a1.tree.kids], [V.i a2.tree.kind, V.i a2.tree.op, V.s a2.tree.text, V.s a2.tree.other, sL eST a2.tree.kids]])], N := [103] } (by kernel_rfl) (W.vecEq 103 (nn := true) (e := 87) (k := 5) (rows := [[V.i a1.tree.kind, V.i a1.tree.op, V.s a1.tree.text, V.s a1.tree.other, sL eST a1.tree.kids], [V.i a2.tree.kind, V.i a2.tree.op, V.s a2.tree.text, V.s a2.tree.other, sL eST a2.tree.kids]]) (rows' := [a1.tree, a2.tree].map eST) (by kernel_rfl) (by simp only [List.map_cons, List.map_nil, encSTree_eq]) (wR 3 104 ?_)))
  exact fI
  ) ?_
 refine CO.lay (tl 15 [(6, .loc 102 0)]) [(102, .cells 110 [V.i 12, V.i a0, V.s [], V.s [], .sl false false ([a1.tree, a2.tree].map eST), V.b false])] (LayOk.cons (j := 103) eST eST ([a1.tree, a2.tree] : LS) (by kernel_rfl) (share_encSTree) lO) (by kernel_rfl) (by kernel_rfl) (by kernel_rfl) (CO.ret ?_)
 have h := sI h
 subst h
 exact eG [] (.inr rfl) (RetV.one rfl (OneR.cell Dk (r := .agg [V.i 12, V.i a0, V.s [], V.s [], .sl false false ([a1.tree, a2.tree].map eST), V.b false]) (i := 102) (ety := 110) (cs := [V.i 12, V.i a0, V.s [], V.s [], .sl false false ([a1.tree, a2.tree].map eST), V.b false]) (by kernel_rfl) (by kernel_rfl) (by kernel_rfl)))

theorem mp_name_ok (pa : LT) (pb : Int) (pc : Bool) (p1 : LLU) {r : (LU × Int × Bool)} (h : mp_name pa pb pc p1 = some r) :
    AC0 185 [.loc 0 0] [(0, cP 108 pa pb pc 1), (1, vN p1)] (V.s r.1) [(0, cP 108 pa r.2.1 r.2.2 1), (1, vN p1)] := by
 rw [mp_name] at h
 refine AC.enter Tryz.func185 rfl (cV 100 (CO.seq' (bB h fun y5 hv9 h => ?_)))
 refine CO.cutR (tl 17 [(0, .loc 0 0), (11, V.b y5)]) [(0, cP 108 pa pb pc 1), (1, vN p1)] mix (by
  refine wR 5 100 ?_
  refine wJ 7 hv9 (fun hv9 => ?_) (fun hv9 => ?_)
  ·refine wR 4 100 ?_
   cases hv9
   exact fS [(0, 0), (1, 1)] [0, 11]
  refine wR 1 100 (bB hv9 fun r6 hx11 hv9 => (wC (mp_kind_ok pa pb pc p1 hx11) cok134 [(0, 0), (1, 1)] [(0, 0), (1, 1)] [] (wR 2 100 ?_)))
  cases hv9
  exact fS [(0, 0), (1, 1)] [0, 11]
  ) ?_
 refine cI h (fun _ h => ?_) (fun _ h => ?_)
 ·refine cV 100 (cV 100 (CO.ret ?_))
  cases h
  exact eG [(0, 0), (1, 1)] (.inr rfl) (RetV.one rfl (oT (t := 2) (r := V.s [])))
 refine CO.skip (bB h fun r8 hx14 h => (CO.sw mix (wR 1 100 (wC (mp_text_ok pa pb pc p1 hx14) cok187 [(0, 0), (1, 1)] [(0, 0), (1, 1)] [] (wR 1 100 (wF (CO.ret ?_)))))))
 have h := sI h
 subst h
 exact eG [(0, 0), (1, 1)] (.inr rfl) (RetV.one rfl (oT (t := 2) (r := V.s r8.1)))

theorem mi_isAssign_ok (a0 : Int) {r : Bool} (h : mi_isAssign a0 = some r) :
    AC0 156 [V.i a0] [] (V.b r) [] := by
 rw [mi_isAssign] at h
 refine AC.enter Tryz.func156 rfl (cV 100 (bB h fun y2 hv3 h => ?_))
 refine CO.cutR (tl 9 [(2, V.b y2)]) [] mix (by
  refine wR 3 100 ?_
  refine wJ 5 hv3 (fun hv3 => ?_) (fun hv3 => ?_)
  ·refine wR 4 100 ?_
   cases hv3
   exact fS [] [2]
  refine wR 1 100 (bB hv3 fun r3 hx5 hv3 => (w0 (mi_within_ok a0 38 43 hx5) cok103 (wR 2 100 ?_)))
  cases hv3
  exact fS [] [2]
  ) ?_
 cases h
 exact e1 2 id

end Go.Proofs.Tryz
