/-
  The walks that show that the code computes the models, part 3.
-/
import Derived.Test.YtllanibkffnogaaGreatDoorRwXW2
namespace Go.Proofs.Tryz
open Go.Av
set_option maxRecDepth 100000
set_option maxHeartbeats 8000000
set_option linter.unusedSimpArgs false
set_option linter.unusedVariables false

theorem mi_quotedEnd_ok (N : Nat) (a0 : List UInt8) (a1 : Int) (a2 : Int) {r : Int} (h : mi_quotedEnd N a0 a1 a2 = some r) :
    AC Tryz.prog (GS []) 158 [V.s a0, V.i a1, V.i a2] [] (V.i r) [] := by
 rw [mi_quotedEnd] at h
 refine AC.enter Tryz.func158 rfl ?_
 refine cU 1 100 (tl 50 [(0, V.s a0), (1, V.i a1), (2, V.i a2)]) [] ?_
 refine CO.seq' ?_
 refine bB h fun r4 hx5 h => ?_
 refine CO.cutR (tl 50 [(0, V.s a0), (1, V.i a1), (2, V.i a2), (12, V.b (r4 != a2))]) [] mix (by
  refine wR 2 100 ?_
  refine W.call0 (mi_byteAt_ok a0 a1 hx5) cok157 rfl (by kernel_rfl) ?_
  refine wR 2 100 ?_
  exact fI
  ) ?_
 refine bC h (fun hc6 h => ?_) (fun hc6 h => ?_)
 ·refine iT hc6 ?_
  refine cU 1 100 (tl 50 [(6, V.i (-1))]) [] ?_
  refine CO.ret ?_
  have h := sI h
  subst h
  exact eG [] (.inr rfl) (RetV.one rfl (oT (t := 6) (r := V.i (-1))))
 refine iF hc6 ?_
 refine CO.skip ?_
 refine CO.seq' ?_
 refine cU 3 100 (tl 50 [(0, V.s a0), (2, V.i a2), (7, V.i (IntKind.wrap .i64 (a1 + 1)))]) [] ?_
 refine CO.block' ?_
 refine CO.loopJ (fun (⟨a0, a2, y91⟩ : ((List UInt8) × Int × Int)) => ⟨tl 50 [(0, V.s a0), (2, V.i a2), (7, V.i y91)], []⟩) (fun n i => mi_quotedEnd_l1 N n i = some r) (n0 := N) (i0 := (a0, a2, (IntKind.wrap .i64 (a1 + 1)))) (wS [] [0, 2, 7]) h (fun i h => by simp [mi_quotedEnd_l1] at h) ?_
 rintro n1 ⟨a0, a2, y91⟩ h189 ih190
 rw [mi_quotedEnd_l1] at h189
 refine CO.seq' ?_
 refine bB h189 fun y118 hv199 h189 => ?_
 refine CO.cutR (tl 50 [(0, V.s a0), (2, V.i a2), (7, V.i y91), (24, V.b y118)]) [] mix (by
  refine wR 5 160 ?_
  refine bC hv199 (fun hc200 hv199 => ?_) (fun hc200 hv199 => ?_)
  ·refine wI 19 hc200 ?_
   refine wR 2 160 ?_
   refine bB hv199 fun b119 hx201 hv199 => ?_
   refine W.ixS Dk hx201 (by kernel_rfl) ?_
   refine wR 2 160 ?_
   have hv199 := sI hv199
   subst hv199
   exact fS [] [0, 2, 7, 24]
  refine wI 19 hc200 ?_
  refine wR 5 160 ?_
  have hv199 := sI hv199
  subst hv199
  exact fS [] [0, 2, 7, 24]
  ) ?_
 refine bC h189 (fun hc202 h189 => ?_) (fun hc202 h189 => ?_)
 ·refine iT hc202 ?_
  refine CO.skip ?_
  refine CO.join (fun (⟨a0, a2, y127⟩ : ((List UInt8) × Int × Int)) => ⟨tl 50 [(0, V.s a0), (2, V.i a2), (7, V.i y127)], []⟩) (fun i => mi_quotedEnd_k2 N (mi_quotedEnd_l1 N n1) i = some r) ?_ ?_
  · rintro ⟨a0, a2, y127⟩ h214
    rw [mi_quotedEnd_k2] at h214
    refine cE 3 160 (tl 50 [(0, V.s a0), (2, V.i a2), (7, V.i (IntKind.wrap .i64 (y127 + 1)))]) [] (fun st hw => ?_)
    exact ih190 (a0, a2, (IntKind.wrap .i64 (y127 + 1))) h214 _ (hw.trans (wS [] [0, 2, 7]))
  intro hk215
  refine CO.block' ?_
  refine CO.block' ?_
  refine bB h189 fun b129 hx217 h189 => ?_
  refine CO.cutR (tl 50 [(0, V.s a0), (2, V.i a2), (7, V.i y91), (27, V.b ((IntKind.wrap .i64 ((b129).toNat : Int)) == a2))]) [] mix (by
   refine wR 2 160 ?_
   refine W.ixS Dk hx217 (by kernel_rfl) ?_
   refine wR 4 160 ?_
   exact fI
   ) ?_
  refine bC h189 (fun hc218 h189 => ?_) (fun hc218 h189 => ?_)
  ·refine iT hc218 ?_
   refine cU 3 160 (tl 50 [(6, V.i (IntKind.wrap .i64 (y91 + 1)))]) [] ?_
   refine CO.ret ?_
   have h189 := sI h189
   subst h189
   exact eG [] (.inr rfl) (RetV.one rfl (oT (t := 6) (r := V.i (IntKind.wrap .i64 (y91 + 1)))))
  refine iF hc218 ?_
  refine bB h189 fun y132 hv222 h189 => ?_
  refine CO.cutR (tl 50 [(0, V.s a0), (2, V.i a2), (7, V.i y91), (36, V.b y132)]) [] mix (by
   refine wR 2 160 ?_
   refine bB hv222 fun b133 hx223 hv222 => ?_
   refine W.ixS Dk hx223 (by kernel_rfl) ?_
   refine wR 2 160 ?_
   refine bC hv222 (fun hc224 hv222 => ?_) (fun hc224 hv222 => ?_)
   ·refine wI 41 hc224 ?_
    refine wR 3 160 ?_
    refine bB hv222 fun r134 hx225 hv222 => ?_
    refine W.call0 (mi_byteAt_ok a0 (IntKind.wrap .i64 (y91 + 1)) hx225) cok157 rfl (by kernel_rfl) ?_
    refine wR 3 160 ?_
    have hv222 := sI hv222
    subst hv222
    exact fS [] [0, 2, 7, 36]
   refine wI 41 hc224 ?_
   refine wR 7 160 ?_
   have hv222 := sI hv222
   subst hv222
   exact fS [] [0, 2, 7, 36]
   ) ?_
  refine bC h189 (fun hc226 h189 => ?_) (fun hc226 h189 => ?_)
  ·refine iT hc226 ?_
   refine cE 3 160 (tl 50 [(0, V.s a0), (2, V.i a2), (7, V.i (IntKind.wrap .i64 (y91 + 1)))]) [] (fun st hw => ?_)
   exact hk215 (a0, a2, (IntKind.wrap .i64 (y91 + 1))) h189 _ (hw.trans (wS [] [0, 2, 7]))
  refine iF hc226 ?_
  refine CO.skip ?_
  exact hk215 (a0, a2, y91) h189 _ (wS [] [0, 2, 7])
 refine iF hc202 ?_
 refine CO.exit ?_
 refine cU 1 160 (tl 50 [(6, V.i (-1))]) [] ?_
 refine CO.ret ?_
 have h189 := sI h189
 subst h189
 exact eG [] (.inr rfl) (RetV.one rfl (oT (t := 6) (r := V.i (-1))))

theorem mi_StrEnd_ok (N : Nat) (a0 : List UInt8) (a1 : Int) {r : Int} (h : mi_StrEnd N a0 a1 = some r) :
    AC Tryz.prog (GS []) 142 [V.s a0, V.i a1] [] (V.i r) [] := by
 rw [mi_StrEnd] at h
 refine AC.enter Tryz.func142 rfl ?_
 refine cU 1 100 (tl 8 [(0, V.s a0), (1, V.i a1)]) [] ?_
 refine bB h fun r2 hx2 h => ?_
 refine CO.cutR (tl 8 [(4, V.i r2)]) [] mix (by
  refine wR 2 100 ?_
  refine W.call0 (mi_quotedEnd_ok N a0 a1 34 hx2) cok158 rfl (by kernel_rfl) ?_
  refine wR 1 100 ?_
  exact fI
  ) ?_
 refine CO.ret ?_
 have h := sI h
 subst h
 exact eG [] (.inr rfl) (RetV.one rfl (oT (t := 4) (r := V.i r2)))

theorem mi_EreEnd_ok (N : Nat) (a0 : List UInt8) (a1 : Int) {r : Int} (h : mi_EreEnd N a0 a1 = some r) :
    AC Tryz.prog (GS []) 143 [V.s a0, V.i a1] [] (V.i r) [] := by
 rw [mi_EreEnd] at h
 refine AC.enter Tryz.func143 rfl ?_
 refine cU 1 100 (tl 14 [(0, V.s a0), (1, V.i a1)]) [] ?_
 refine bB h fun r2 hx2 h => ?_
 refine CO.cutR (tl 14 [(1, V.i a1), (5, V.i r2)]) [] mix (by
  refine wR 2 100 ?_
  refine W.call0 (mi_quotedEnd_ok N a0 a1 47 hx2) cok158 rfl (by kernel_rfl) ?_
  refine wR 1 100 ?_
  exact fI
  ) ?_
 refine CO.seq' ?_
 refine cU 4 100 (tl 14 [(5, V.i r2), (12, V.b (r2 == (IntKind.wrap .i64 (a1 + 2))))]) [] ?_
 refine bC h (fun hc4 h => ?_) (fun hc4 h => ?_)
 ·refine iT hc4 ?_
  refine cU 1 100 (tl 14 [(4, V.i (-1))]) [] ?_
  refine CO.ret ?_
  have h := sI h
  subst h
  exact eG [] (.inr rfl) (RetV.one rfl (oT (t := 4) (r := V.i (-1))))
 refine iF hc4 ?_
 refine CO.skip ?_
 refine cU 2 100 (tl 14 [(4, V.i r2)]) [] ?_
 refine CO.ret ?_
 have h := sI h
 subst h
 exact eG [] (.inr rfl) (RetV.one rfl (oT (t := 4) (r := V.i r2)))

theorem mi_isKeywordKind_ok (a0 : Int) {r : Bool} (h : mi_isKeywordKind a0 = some r) :
    AC Tryz.prog (GS []) 159 [V.i a0] [] (V.b r) [] := by
 rw [mi_isKeywordKind] at h
 refine AC.enter Tryz.func159 rfl ?_
 refine cU 1 100 (tl 5 [(0, V.i a0)]) [] ?_
 refine bB h fun r2 hx2 h => ?_
 refine CO.cutR (tl 5 [(2, V.b r2)]) [] mix (by
  refine wR 1 100 ?_
  refine W.call0 (mi_within_ok a0 10 26 hx2) cok55 rfl (by kernel_rfl) ?_
  refine wR 1 100 ?_
  exact fI
  ) ?_
 refine CO.ret ?_
 have h := sI h
 subst h
 exact eG [] (.inr rfl) (RetV.one rfl (oT (t := 2) (r := V.b r2)))

theorem mi_isSignKind_ok (a0 : Int) {r : Bool} (h : mi_isSignKind a0 = some r) :
    AC Tryz.prog (GS []) 160 [V.i a0] [] (V.b r) [] := by
 rw [mi_isSignKind] at h
 refine AC.enter Tryz.func160 rfl ?_
 refine cU 1 100 (tl 5 [(0, V.i a0)]) [] ?_
 refine bB h fun r2 hx2 h => ?_
 refine CO.cutR (tl 5 [(2, V.b r2)]) [] mix (by
  refine wR 1 100 ?_
  refine W.call0 (mi_within_ok a0 30 68 hx2) cok55 rfl (by kernel_rfl) ?_
  refine wR 1 100 ?_
  exact fI
  ) ?_
 refine CO.ret ?_
 have h := sI h
 subst h
 exact eG [] (.inr rfl) (RetV.one rfl (oT (t := 2) (r := V.b r2)))

theorem mi_SpellOf_ok (a0 : Int) {r : (List UInt8)} (h : mi_SpellOf a0 = some r) :
    AC Tryz.prog (GS [1, 2]) 144 [V.i a0] [] (V.s r) [] := by
 rw [mi_SpellOf] at h
 refine AC.enter Tryz.func144 rfl ?_
 refine cU 1 100 (tl 20 [(0, V.i a0)]) [] ?_
 refine CO.seq' ?_
 refine CO.block' ?_
 refine cU 3 100 (tl 20 [(0, V.i a0), (3, V.b (a0 == 1))]) [] ?_
 refine bC h (fun hc12 h => ?_) (fun hc12 h => ?_)
 ·refine iT hc12 ?_
  refine cU 1 100 (tl 20 [(2, V.s [10])]) [] ?_
  refine CO.ret ?_
  have h := sI h
  subst h
  exact eG [] (.inr rfl) (RetV.one rfl (oT (t := 2) (r := V.s [10])))
 refine iF hc12 ?_
 refine bB h fun r10 hx14 h => ?_
 refine CO.cutR (tl 20 [(0, V.i a0), (6, V.b r10)]) [] mix (by
  refine wR 1 100 ?_
  refine W.call0 (AC.gs (mi_isKeywordKind_ok a0 hx14) (by decide)) cok159 rfl (by kernel_rfl) ?_
  refine wR 1 100 ?_
  exact fI
  ) ?_
 refine bC h (fun hc15 h => ?_) (fun hc15 h => ?_)
 ·refine iT hc15 ?_
  refine bB h fun e12 hx17 h => ?_
  refine CO.cutR (tl 20 [(2, V.s e12)]) [] mix (by
   refine wR 2 100 ?_
   refine W.ixG Dk V.s (l := tab_keywords) hx17 (by kernel_rfl) ?_
   refine wR 2 100 ?_
   exact fI
   ) ?_
  refine CO.ret ?_
  have h := sI h
  subst h
  exact eG [] (.inr rfl) (RetV.one rfl (oT (t := 2) (r := V.s e12)))
 refine iF hc15 ?_
 refine bB h fun r14 hx19 h => ?_
 refine CO.cutR (tl 20 [(0, V.i a0), (13, V.b r14)]) [] mix (by
  refine wR 1 100 ?_
  refine W.call0 (AC.gs (mi_isSignKind_ok a0 hx19) (by decide)) cok160 rfl (by kernel_rfl) ?_
  refine wR 1 100 ?_
  exact fI
  ) ?_
 refine bC h (fun hc20 h => ?_) (fun hc20 h => ?_)
 ·refine iT hc20 ?_
  refine bB h fun e16 hx22 h => ?_
  refine CO.cutR (tl 20 [(2, V.s e16)]) [] mix (by
   refine wR 2 100 ?_
   refine W.ixG Dk V.s (l := tab_signs) hx22 (by kernel_rfl) ?_
   refine wR 2 100 ?_
   exact fI
   ) ?_
  refine CO.ret ?_
  have h := sI h
  subst h
  exact eG [] (.inr rfl) (RetV.one rfl (oT (t := 2) (r := V.s e16)))
 refine iF hc20 ?_
 refine CO.skip ?_
 refine cU 1 100 (tl 20 [(2, V.s [])]) [] ?_
 refine CO.ret ?_
 have h := sI h
 subst h
 exact eG [] (.inr rfl) (RetV.one rfl (oT (t := 2) (r := V.s [])))

theorem mi_TokenOk_ok (N : Nat) (a0 : SToken) {r : Bool} (h : mi_TokenOk N a0 = some r) :
    AC Tryz.prog (GS [0, 1, 2]) 121 [.agg [V.i a0.Kind, V.s a0.Text, V.i a0.At]] [] (V.b r) [] := by
 rw [mi_TokenOk] at h
 refine AC.enter Tryz.func121 rfl ?_
 refine cU 2 100 (tl 64 [(1, .loc 100 0)]) [(100, .cells 120 [V.i a0.Kind, V.s a0.Text, V.i a0.At])] ?_
 refine CO.seq' ?_
 refine cU 3 101 (tl 64 [(1, .loc 100 0), (5, V.b (a0.Text == []))]) [(100, .cells 120 [V.i a0.Kind, V.s a0.Text, V.i a0.At])] ?_
 refine bC h (fun hc2 h => ?_) (fun hc2 h => ?_)
 ·refine iT hc2 ?_
  refine cU 1 101 (tl 64 [(2, V.b false)]) [] ?_
  refine CO.ret ?_
  have h := sI h
  subst h
  exact eG [] (.inr rfl) (RetV.one rfl (oT (t := 2) (r := V.b false)))
 refine iF hc2 ?_
 refine CO.skip ?_
 refine CO.seq' ?_
 refine cU 2 101 (tl 64 [(1, .loc 100 0), (7, V.i a0.Kind)]) [(100, .cells 120 [V.i a0.Kind, V.s a0.Text, V.i a0.At])] ?_
 refine CO.block' ?_
 refine cU 2 101 (tl 64 [(1, .loc 100 0), (7, V.i a0.Kind), (8, V.b (a0.Kind == 2))]) [(100, .cells 120 [V.i a0.Kind, V.s a0.Text, V.i a0.At])] ?_
 refine bC h (fun hc30 h => ?_) (fun hc30 h => ?_)
 ·refine iT hc30 ?_
  refine bB h fun y19 hv34 h => ?_
  refine CO.cutR (tl 64 [(2, V.b y19)]) [] mix (by
   refine wR 2 101 ?_
   refine bB hv34 fun b20 hx35 hv34 => ?_
   refine W.ixS Dk hx35 (by kernel_rfl) ?_
   refine wR 2 101 ?_
   refine bC hv34 (fun hc36 hv34 => ?_) (fun hc36 hv34 => ?_)
   ·refine wI 14 hc36 ?_
    refine wR 2 101 ?_
    refine bB hv34 fun r21 hx37 hv34 => ?_
    refine W.call0 (AC.gs (m_strings_Contains_ok a0.Text hx37) (by decide)) cok140 rfl (by kernel_rfl) ?_
    refine wR 3 101 ?_
    have hv34 := sI hv34
    subst hv34
    exact fS [] [2]
   refine wI 14 hc36 ?_
   refine wR 6 101 ?_
   have hv34 := sI hv34
   subst hv34
   exact fS [] [2]
   ) ?_
  refine CO.ret ?_
  have h := sI h
  subst h
  exact eG [] (.inr rfl) (RetV.one rfl (oT (t := 2) (r := V.b y19)))
 refine iF hc30 ?_
 refine cU 2 101 (tl 64 [(1, .loc 100 0), (7, V.i a0.Kind), (20, V.b (a0.Kind == 3))]) [(100, .cells 120 [V.i a0.Kind, V.s a0.Text, V.i a0.At])] ?_
 refine bC h (fun hc38 h => ?_) (fun hc38 h => ?_)
 ·refine iT hc38 ?_
  refine bB h fun r23 hx40 h => ?_
  refine CO.cutR (tl 64 [(2, V.b (r23 == (a0.Text.length : Int)))]) [] mix (by
   refine wR 2 101 ?_
   refine W.call0 (AC.gs (mi_NumEnd_ok N a0.Text 0 hx40) (by decide)) cok141 rfl (by kernel_rfl) ?_
   refine wR 5 101 ?_
   exact fI
   ) ?_
  refine CO.ret ?_
  have h := sI h
  subst h
  exact eG [] (.inr rfl) (RetV.one rfl (oT (t := 2) (r := V.b (r23 == (a0.Text.length : Int)))))
 refine iF hc38 ?_
 refine cU 2 101 (tl 64 [(1, .loc 100 0), (7, V.i a0.Kind), (29, V.b (a0.Kind == 4))]) [(100, .cells 120 [V.i a0.Kind, V.s a0.Text, V.i a0.At])] ?_
 refine bC h (fun hc41 h => ?_) (fun hc41 h => ?_)
 ·refine iT hc41 ?_
  refine bB h fun r25 hx43 h => ?_
  refine CO.cutR (tl 64 [(2, V.b (r25 == (a0.Text.length : Int)))]) [] mix (by
   refine wR 2 101 ?_
   refine W.call0 (AC.gs (mi_StrEnd_ok N a0.Text 0 hx43) (by decide)) cok142 rfl (by kernel_rfl) ?_
   refine wR 5 101 ?_
   exact fI
   ) ?_
  refine CO.ret ?_
  have h := sI h
  subst h
  exact eG [] (.inr rfl) (RetV.one rfl (oT (t := 2) (r := V.b (r25 == (a0.Text.length : Int)))))
 refine iF hc41 ?_
 refine cU 2 101 (tl 64 [(1, .loc 100 0), (7, V.i a0.Kind), (38, V.b (a0.Kind == 5))]) [(100, .cells 120 [V.i a0.Kind, V.s a0.Text, V.i a0.At])] ?_
 refine bC h (fun hc44 h => ?_) (fun hc44 h => ?_)
 ·refine iT hc44 ?_
  refine bB h fun r27 hx46 h => ?_
  refine CO.cutR (tl 64 [(2, V.b (r27 == (a0.Text.length : Int)))]) [] mix (by
   refine wR 2 101 ?_
   refine W.call0 (AC.gs (mi_EreEnd_ok N a0.Text 0 hx46) (by decide)) cok143 rfl (by kernel_rfl) ?_
   refine wR 5 101 ?_
   exact fI
   ) ?_
  refine CO.ret ?_
  have h := sI h
  subst h
  exact eG [] (.inr rfl) (RetV.one rfl (oT (t := 2) (r := V.b (r27 == (a0.Text.length : Int)))))
 refine iF hc44 ?_
 refine CO.join (fun (⟨a0, y28⟩ : (SToken × Bool)) => ⟨tl 64 [(1, .loc 100 0), (7, V.i a0.Kind), (47, V.b y28)], [(100, .cells 120 [V.i a0.Kind, V.s a0.Text, V.i a0.At])]⟩) (fun i => mi_TokenOk_k1 N i = some r) ?_ ?_
 · rintro ⟨a0, y28⟩ h48
   rw [mi_TokenOk_k1] at h48
   refine bC h48 (fun hc49 h48 => ?_) (fun hc49 h48 => ?_)
   ·refine iT hc49 ?_
    refine bB h48 fun r30 hx51 h48 => ?_
    refine CO.cutR (tl 64 [(2, V.b r30)]) [] mix (by
     refine wR 2 101 ?_
     refine W.call0 (AC.gs (mi_NameOk_ok N a0.Text hx51) (by decide)) cok120 rfl (by kernel_rfl) ?_
     refine wR 1 101 ?_
     exact fI
     ) ?_
    refine CO.ret ?_
    have h48 := sI h48
    subst h48
    exact eG [] (.inr rfl) (RetV.one rfl (oT (t := 2) (r := V.b r30)))
   refine iF hc49 ?_
   refine cU 2 101 (tl 64 [(1, .loc 100 0), (53, V.b (a0.Kind == 8))]) [(100, .cells 120 [V.i a0.Kind, V.s a0.Text, V.i a0.At])] ?_
   refine bC h48 (fun hc52 h48 => ?_) (fun hc52 h48 => ?_)
   ·refine iT hc52 ?_
    refine bB h48 fun r32 hx54 h48 => ?_
    refine CO.cutR (tl 64 [(2, V.b r32)]) [] mix (by
     refine wR 2 101 ?_
     refine W.call0 (AC.gs (mi_IsBuiltin_ok N a0.Text hx54) (by decide)) cok122 rfl (by kernel_rfl) ?_
     refine wR 1 101 ?_
     exact fI
     ) ?_
    refine CO.ret ?_
    have h48 := sI h48
    subst h48
    exact eG [] (.inr rfl) (RetV.one rfl (oT (t := 2) (r := V.b r32)))
   refine iF hc52 ?_
   refine CO.skip ?_
   refine bB h48 fun r34 hx56 h48 => ?_
   refine CO.cutR (tl 64 [(2, V.b (a0.Text == r34))]) [] mix (by
    refine wR 4 101 ?_
    refine W.call0 (AC.gs (mi_SpellOf_ok a0.Kind hx56) (by decide)) cok144 rfl (by kernel_rfl) ?_
    refine wR 2 101 ?_
    exact fI
    ) ?_
   refine CO.ret ?_
   have h48 := sI h48
   subst h48
   exact eG [] (.inr rfl) (RetV.one rfl (oT (t := 2) (r := V.b (a0.Text == r34))))
 intro hk57
 refine cU 2 101 (tl 64 [(1, .loc 100 0), (7, V.i a0.Kind), (47, V.b (a0.Kind == 6))]) [(100, .cells 120 [V.i a0.Kind, V.s a0.Text, V.i a0.At])] ?_
 refine bC h (fun hc58 h => ?_) (fun hc58 h => ?_)
 ·refine iT hc58 ?_
  refine CO.skip ?_
  exact hk57 (a0, (a0.Kind == 6)) h _ (wS [(100, 100)] [1, 7, 47])
 refine iF hc58 ?_
 refine cE 2 101 (tl 64 [(1, .loc 100 0), (7, V.i a0.Kind), (47, V.b (a0.Kind == 7))]) [(100, .cells 120 [V.i a0.Kind, V.s a0.Text, V.i a0.At])] (fun st hw => ?_)
 exact hk57 (a0, (a0.Kind == 7)) h _ (hw.trans (wS [(100, 100)] [1, 7, 47]))

theorem mi_isStep_ok (a0 : Int) {r : Bool} (h : mi_isStep a0 = some r) :
    AC Tryz.prog (GS []) 123 [V.i a0] [] (V.b r) [] := by
 rw [mi_isStep] at h
 refine AC.enter Tryz.func123 rfl ?_
 refine cU 1 100 (tl 9 [(0, V.i a0)]) [] ?_
 refine bB h fun y1 hv2 h => ?_
 refine CO.cutR (tl 9 [(2, V.b y1)]) [] mix (by
  refine wR 3 100 ?_
  refine bC hv2 (fun hc3 hv2 => ?_) (fun hc3 hv2 => ?_)
  ·refine wI 5 hc3 ?_
   refine wR 4 100 ?_
   have hv2 := sI hv2
   subst hv2
   exact fS [] [2]
  refine wI 5 hc3 ?_
  refine wR 4 100 ?_
  have hv2 := sI hv2
  subst hv2
  exact fS [] [2]
  ) ?_
 refine CO.ret ?_
 have h := sI h
 subst h
 exact eG [] (.inr rfl) (RetV.one rfl (oT (t := 2) (r := V.b y1)))

theorem mi_OpLevel_ok (a0 : Int) {r : Int} (h : mi_OpLevel a0 = some r) :
    AC Tryz.prog (GS []) 124 [V.i a0] [] (V.i r) [] := by
 rw [mi_OpLevel] at h
 refine AC.enter Tryz.func124 rfl ?_
 refine cU 1 100 (tl 29 [(0, V.i a0)]) [] ?_
 refine CO.seq' ?_
 refine cU 1 100 (tl 29 [(3, V.i a0)]) [] ?_
 refine CO.block' ?_
 refine cU 2 100 (tl 29 [(3, V.i a0), (4, V.b (a0 == 44))]) [] ?_
 refine bC h (fun hc35 h => ?_) (fun hc35 h => ?_)
 ·refine iT hc35 ?_
  refine cU 1 100 (tl 29 [(2, V.i 3)]) [] ?_
  refine CO.ret ?_
  have h := sI h
  subst h
  exact eG [] (.inr rfl) (RetV.one rfl (oT (t := 2) (r := V.i 3)))
 refine iF hc35 ?_
 refine cU 2 100 (tl 29 [(3, V.i a0), (6, V.b (a0 == 45))]) [] ?_
 refine bC h (fun hc36 h => ?_) (fun hc36 h => ?_)
 ·refine iT hc36 ?_
  refine cU 1 100 (tl 29 [(2, V.i 4)]) [] ?_
  refine CO.ret ?_
  have h := sI h
  subst h
  exact eG [] (.inr rfl) (RetV.one rfl (oT (t := 2) (r := V.i 4)))
 refine iF hc36 ?_
 refine CO.join (fun (⟨a0, y5⟩ : (Int × Bool)) => ⟨tl 29 [(3, V.i a0), (8, V.b y5)], []⟩) (fun i => mi_OpLevel_k1 i = some r) ?_ ?_
 · rintro ⟨a0, y5⟩ h38
   rw [mi_OpLevel_k1] at h38
   refine bC h38 (fun hc39 h38 => ?_) (fun hc39 h38 => ?_)
   ·refine iT hc39 ?_
    refine cU 1 100 (tl 29 [(2, V.i 6)]) [] ?_
    refine CO.ret ?_
    have h38 := sI h38
    subst h38
    exact eG [] (.inr rfl) (RetV.one rfl (oT (t := 2) (r := V.i 6)))
   refine iF hc39 ?_
   refine CO.join (fun (⟨a0, y6⟩ : (Int × Bool)) => ⟨tl 29 [(3, V.i a0), (11, V.b y6)], []⟩) (fun i => mi_OpLevel_k2 i = some r) ?_ ?_
   · rintro ⟨a0, y6⟩ h45
     rw [mi_OpLevel_k2] at h45
     refine bC h45 (fun hc46 h45 => ?_) (fun hc46 h45 => ?_)
     ·refine iT hc46 ?_
      refine cU 1 100 (tl 29 [(2, V.i 7)]) [] ?_
      refine CO.ret ?_
      have h45 := sI h45
      subst h45
      exact eG [] (.inr rfl) (RetV.one rfl (oT (t := 2) (r := V.i 7)))
     refine iF hc46 ?_
     refine cU 2 100 (tl 29 [(3, V.i a0), (18, V.b (a0 == 99))]) [] ?_
     refine bC h45 (fun hc47 h45 => ?_) (fun hc47 h45 => ?_)
     ·refine iT hc47 ?_
      refine cU 1 100 (tl 29 [(2, V.i 8)]) [] ?_
      refine CO.ret ?_
      have h45 := sI h45
      subst h45
      exact eG [] (.inr rfl) (RetV.one rfl (oT (t := 2) (r := V.i 8)))
     refine iF hc47 ?_
     refine CO.join (fun (⟨a0, y7⟩ : (Int × Bool)) => ⟨tl 29 [(3, V.i a0), (20, V.b y7)], []⟩) (fun i => mi_OpLevel_k3 i = some r) ?_ ?_
     · rintro ⟨a0, y7⟩ h49
       rw [mi_OpLevel_k3] at h49
       refine bC h49 (fun hc50 h49 => ?_) (fun hc50 h49 => ?_)
       ·refine iT hc50 ?_
        refine cU 1 100 (tl 29 [(2, V.i 9)]) [] ?_
        refine CO.ret ?_
        have h49 := sI h49
        subst h49
        exact eG [] (.inr rfl) (RetV.one rfl (oT (t := 2) (r := V.i 9)))
       refine iF hc50 ?_
       refine CO.join (fun (⟨a0, y8⟩ : (Int × Bool)) => ⟨tl 29 [(3, V.i a0), (23, V.b y8)], []⟩) (fun i => mi_OpLevel_k4 i = some r) ?_ ?_
       · rintro ⟨a0, y8⟩ h53
         rw [mi_OpLevel_k4] at h53
         refine bC h53 (fun hc54 h53 => ?_) (fun hc54 h53 => ?_)
         ·refine iT hc54 ?_
          refine cU 1 100 (tl 29 [(2, V.i 10)]) [] ?_
          refine CO.ret ?_
          have h53 := sI h53
          subst h53
          exact eG [] (.inr rfl) (RetV.one rfl (oT (t := 2) (r := V.i 10)))
         refine iF hc54 ?_
         refine cU 2 100 (tl 29 [(27, V.b (a0 == 60))]) [] ?_
         refine bC h53 (fun hc55 h53 => ?_) (fun hc55 h53 => ?_)
         ·refine iT hc55 ?_
          refine cU 1 100 (tl 29 [(2, V.i 12)]) [] ?_
          refine CO.ret ?_
          have h53 := sI h53
          subst h53
          exact eG [] (.inr rfl) (RetV.one rfl (oT (t := 2) (r := V.i 12)))
         refine iF hc55 ?_
         refine CO.skip ?_
         refine cU 1 100 (tl 29 [(2, V.i 0)]) [] ?_
         refine CO.ret ?_
         have h53 := sI h53
         subst h53
         exact eG [] (.inr rfl) (RetV.one rfl (oT (t := 2) (r := V.i 0)))
       intro hk56
       refine cU 2 100 (tl 29 [(3, V.i a0), (23, V.b (a0 == 57))]) [] ?_
       refine bC h49 (fun hc57 h49 => ?_) (fun hc57 h49 => ?_)
       ·refine iT hc57 ?_
        refine CO.skip ?_
        exact hk56 (a0, (a0 == 57)) h49 _ (wS [] [3, 23])
       refine iF hc57 ?_
       refine cU 2 100 (tl 29 [(3, V.i a0), (23, V.b (a0 == 58))]) [] ?_
       refine bC h49 (fun hc58 h49 => ?_) (fun hc58 h49 => ?_)
       ·refine iT hc58 ?_
        refine CO.skip ?_
        exact hk56 (a0, (a0 == 58)) h49 _ (wS [] [3, 23])
       refine iF hc58 ?_
       refine cE 2 100 (tl 29 [(3, V.i a0), (23, V.b (a0 == 59))]) [] (fun st hw => ?_)
       exact hk56 (a0, (a0 == 59)) h49 _ (hw.trans (wS [] [3, 23]))
     intro hk59
     refine cU 2 100 (tl 29 [(3, V.i a0), (20, V.b (a0 == 55))]) [] ?_
     refine bC h45 (fun hc60 h45 => ?_) (fun hc60 h45 => ?_)
     ·refine iT hc60 ?_
      refine CO.skip ?_
      exact hk59 (a0, (a0 == 55)) h45 _ (wS [] [3, 20])
     refine iF hc60 ?_
     refine cE 2 100 (tl 29 [(3, V.i a0), (20, V.b (a0 == 56))]) [] (fun st hw => ?_)
     exact hk59 (a0, (a0 == 56)) h45 _ (hw.trans (wS [] [3, 20]))
   intro hk61
   refine cU 2 100 (tl 29 [(3, V.i a0), (11, V.b (a0 == 63))]) [] ?_
   refine bC h38 (fun hc62 h38 => ?_) (fun hc62 h38 => ?_)
   ·refine iT hc62 ?_
    refine CO.skip ?_
    exact hk61 (a0, (a0 == 63)) h38 _ (wS [] [3, 11])
   refine iF hc62 ?_
   refine cU 2 100 (tl 29 [(3, V.i a0), (11, V.b (a0 == 48))]) [] ?_
   refine bC h38 (fun hc63 h38 => ?_) (fun hc63 h38 => ?_)
   ·refine iT hc63 ?_
    refine CO.skip ?_
    exact hk61 (a0, (a0 == 48)) h38 _ (wS [] [3, 11])
   refine iF hc63 ?_
   refine cU 2 100 (tl 29 [(3, V.i a0), (11, V.b (a0 == 47))]) [] ?_
   refine bC h38 (fun hc64 h38 => ?_) (fun hc64 h38 => ?_)
   ·refine iT hc64 ?_
    refine CO.skip ?_
    exact hk61 (a0, (a0 == 47)) h38 _ (wS [] [3, 11])
   refine iF hc64 ?_
   refine cU 2 100 (tl 29 [(3, V.i a0), (11, V.b (a0 == 50))]) [] ?_
   refine bC h38 (fun hc65 h38 => ?_) (fun hc65 h38 => ?_)
   ·refine iT hc65 ?_
    refine CO.skip ?_
    exact hk61 (a0, (a0 == 50)) h38 _ (wS [] [3, 11])
   refine iF hc65 ?_
   refine cU 2 100 (tl 29 [(3, V.i a0), (11, V.b (a0 == 62))]) [] ?_
   refine bC h38 (fun hc66 h38 => ?_) (fun hc66 h38 => ?_)
   ·refine iT hc66 ?_
    refine CO.skip ?_
    exact hk61 (a0, (a0 == 62)) h38 _ (wS [] [3, 11])
   refine iF hc66 ?_
   refine cE 2 100 (tl 29 [(3, V.i a0), (11, V.b (a0 == 49))]) [] (fun st hw => ?_)
   exact hk61 (a0, (a0 == 49)) h38 _ (hw.trans (wS [] [3, 11]))
 intro hk67
 refine cU 2 100 (tl 29 [(3, V.i a0), (8, V.b (a0 == 67))]) [] ?_
 refine bC h (fun hc68 h => ?_) (fun hc68 h => ?_)
 ·refine iT hc68 ?_
  refine CO.skip ?_
  exact hk67 (a0, (a0 == 67)) h _ (wS [] [3, 8])
 refine iF hc68 ?_
 refine cE 2 100 (tl 29 [(3, V.i a0), (8, V.b (a0 == 46))]) [] (fun st hw => ?_)
 exact hk67 (a0, (a0 == 46)) h _ (hw.trans (wS [] [3, 8]))

theorem mi_isAssign_ok (a0 : Int) {r : Bool} (h : mi_isAssign a0 = some r) :
    AC Tryz.prog (GS []) 125 [V.i a0] [] (V.b r) [] := by
 rw [mi_isAssign] at h
 refine AC.enter Tryz.func125 rfl ?_
 refine cU 1 100 (tl 9 [(0, V.i a0)]) [] ?_
 refine bB h fun y2 hv3 h => ?_
 refine CO.cutR (tl 9 [(2, V.b y2)]) [] mix (by
  refine wR 3 100 ?_
  refine bC hv3 (fun hc4 hv3 => ?_) (fun hc4 hv3 => ?_)
  ·refine wI 5 hc4 ?_
   refine wR 4 100 ?_
   have hv3 := sI hv3
   subst hv3
   exact fS [] [2]
  refine wI 5 hc4 ?_
  refine wR 1 100 ?_
  refine bB hv3 fun r3 hx5 hv3 => ?_
  refine W.call0 (mi_within_ok a0 38 43 hx5) cok55 rfl (by kernel_rfl) ?_
  refine wR 2 100 ?_
  have hv3 := sI hv3
  subst hv3
  exact fS [] [2]
  ) ?_
 refine CO.ret ?_
 have h := sI h
 subst h
 exact eG [] (.inr rfl) (RetV.one rfl (oT (t := 2) (r := V.b y2)))

theorem mi_exprForm_ok (N : Nat) (a0 : SNode) {r : SForm} (h : mi_exprForm N a0 = some r) :
    AC Tryz.prog (GS [0, 1, 2]) 105 [.agg [V.i a0.Kind, V.i a0.Op, V.s a0.Text, V.s a0.Other, .sl false false (a0.Kids.map encI)]] [] (.agg [V.b r.op, V.b r.text, V.b r.other, V.i r.least, V.i r.most]) [] := by
 rw [mi_exprForm] at h
 refine AC.enter Tryz.func105 rfl ?_
 refine cU 2 100 (tl 123 [(1, .loc 100 0), (2, .loc 101 0)]) [(101, .cells 114 [V.b false, V.b false, V.b false, V.i 0, V.i 0]), (100, .cells 48 [V.i a0.Kind, V.i a0.Op, V.s a0.Text, V.s a0.Other, .sl false false (a0.Kids.map encI)])] ?_
 refine CO.seq' ?_
 refine cU 2 102 (tl 123 [(1, .loc 100 0), (2, .loc 101 0), (4, V.i a0.Kind)]) [(101, .cells 114 [V.b false, V.b false, V.b false, V.i 0, V.i 0]), (100, .cells 48 [V.i a0.Kind, V.i a0.Op, V.s a0.Text, V.s a0.Other, .sl false false (a0.Kids.map encI)])] ?_
 refine CO.block' ?_
 refine cU 2 102 (tl 123 [(1, .loc 100 0), (2, .loc 101 0), (4, V.i a0.Kind), (5, V.b (a0.Kind == 1))]) [(101, .cells 114 [V.b false, V.b false, V.b false, V.i 0, V.i 0]), (100, .cells 48 [V.i a0.Kind, V.i a0.Op, V.s a0.Text, V.s a0.Other, .sl false false (a0.Kids.map encI)])] ?_
 refine bC h (fun hc46 h => ?_) (fun hc46 h => ?_)
 ·refine iT hc46 ?_
  refine bB h fun r22 hx48 h => ?_
  refine CO.cutR (tl 123 [(2, .loc 101 0)]) [(101, .cells 114 [V.b (a0.Op == 0), V.b r22, V.b false, V.i 0, V.i 0])] mix (by
   refine wR 5 102 ?_
   refine W.call0 (AC.gs (mi_NameOk_ok N a0.Text hx48) (by decide)) cok120 rfl (by kernel_rfl) ?_
   refine wR 2 102 ?_
   exact fI
   ) ?_
  refine CO.ret ?_
  have h := sI h
  subst h
  exact eG [] (.inr rfl) (RetV.one rfl (OneR.cell Dk (r := .agg [V.b (a0.Op == 0), V.b r22, V.b false, V.i 0, V.i 0]) (i := 101) (ety := 114) (cs := [V.b (a0.Op == 0), V.b r22, V.b false, V.i 0, V.i 0]) (by kernel_rfl) (by kernel_rfl) (by kernel_rfl)))
 refine iF hc46 ?_
 refine CO.join (fun (⟨a0, y23⟩ : (SNode × Bool)) => ⟨tl 123 [(1, .loc 100 0), (2, .loc 101 0), (4, V.i a0.Kind), (14, V.b y23)], [(100, .cells 48 [V.i a0.Kind, V.i a0.Op, V.s a0.Text, V.s a0.Other, .sl false false (a0.Kids.map encI)]), (101, .cells 114 [V.b false, V.b false, V.b false, V.i 0, V.i 0])]⟩) (fun i => mi_exprForm_k1 N i = some r) ?_ ?_
 · rintro ⟨a0, y23⟩ h51
   rw [mi_exprForm_k1] at h51
   refine bC h51 (fun hc52 h51 => ?_) (fun hc52 h51 => ?_)
   ·refine iT hc52 ?_
    refine bB h51 fun e26 hx55 h51 => ?_
    refine bB h51 fun r27 hx56 h51 => ?_
    refine CO.cutR (tl 123 [(2, .loc 101 0)]) [(101, .cells 114 [V.b (a0.Op == 0), V.b r27, V.b false, V.i 0, V.i 0])] mix (by
     refine wR 7 102 ?_
     refine W.ixA Dk V.i hx55 (by kernel_rfl) ?_
     refine wR 3 102 ?_
     refine W.call0 (mi_TokenOk_ok N (⟨e26, a0.Text, 0⟩ : SToken) hx56) cok121 rfl (by kernel_rfl) ?_
     refine wR 2 102 ?_
     exact fI
     ) ?_
    refine CO.ret ?_
    have h51 := sI h51
    subst h51
    exact eG [] (.inr rfl) (RetV.one rfl (OneR.cell Dk (r := .agg [V.b (a0.Op == 0), V.b r27, V.b false, V.i 0, V.i 0]) (i := 101) (ety := 114) (cs := [V.b (a0.Op == 0), V.b r27, V.b false, V.i 0, V.i 0]) (by kernel_rfl) (by kernel_rfl) (by kernel_rfl)))
   refine iF hc52 ?_
   refine CO.join (fun (⟨a0, y28⟩ : (SNode × Bool)) => ⟨tl 123 [(1, .loc 100 0), (2, .loc 101 0), (4, V.i a0.Kind), (31, V.b y28)], [(100, .cells 48 [V.i a0.Kind, V.i a0.Op, V.s a0.Text, V.s a0.Other, .sl false false (a0.Kids.map encI)]), (101, .cells 114 [V.b false, V.b false, V.b false, V.i 0, V.i 0])]⟩) (fun i => mi_exprForm_k2 N i = some r) ?_ ?_
   · rintro ⟨a0, y28⟩ h58
     rw [mi_exprForm_k2] at h58
     refine bC h58 (fun hc59 h58 => ?_) (fun hc59 h58 => ?_)
     ·refine iT hc59 ?_
      refine bB h58 fun r30 hx61 h58 => ?_
      refine CO.cutR (tl 123 [(2, .loc 101 0)]) [(101, .cells 114 [V.b (a0.Op == 0), V.b r30, V.b false, V.i 1, V.i 6])] mix (by
       refine wR 5 102 ?_
       refine W.call0 (AC.gs (mi_NameOk_ok N a0.Text hx61) (by decide)) cok120 rfl (by kernel_rfl) ?_
       refine wR 2 102 ?_
       exact fI
       ) ?_
      refine CO.ret ?_
      have h58 := sI h58
      subst h58
      exact eG [] (.inr rfl) (RetV.one rfl (OneR.cell Dk (r := .agg [V.b (a0.Op == 0), V.b r30, V.b false, V.i 1, V.i 6]) (i := 101) (ety := 114) (cs := [V.b (a0.Op == 0), V.b r30, V.b false, V.i 1, V.i 6]) (by kernel_rfl) (by kernel_rfl) (by kernel_rfl)))
     refine iF hc59 ?_
     refine cU 2 102 (tl 123 [(1, .loc 100 0), (2, .loc 101 0), (4, V.i a0.Kind), (41, V.b (a0.Kind == 6))]) [(100, .cells 48 [V.i a0.Kind, V.i a0.Op, V.s a0.Text, V.s a0.Other, .sl false false (a0.Kids.map encI)]), (101, .cells 114 [V.b false, V.b false, V.b false, V.i 0, V.i 0])] ?_
     refine bC h58 (fun hc62 h58 => ?_) (fun hc62 h58 => ?_)
     ·refine iT hc62 ?_
      refine cU 8 102 (tl 123 [(2, .loc 101 0)]) [(101, .cells 114 [V.b (a0.Op == 0), V.b (a0.Text == []), V.b false, V.i 1, V.i 1])] ?_
      refine CO.ret ?_
      have h58 := sI h58
      subst h58
      exact eG [] (.inr rfl) (RetV.one rfl (OneR.cell Dk (r := .agg [V.b (a0.Op == 0), V.b (a0.Text == []), V.b false, V.i 1, V.i 1]) (i := 101) (ety := 114) (cs := [V.b (a0.Op == 0), V.b (a0.Text == []), V.b false, V.i 1, V.i 1]) (by kernel_rfl) (by kernel_rfl) (by kernel_rfl)))
     refine iF hc62 ?_
     refine cU 2 102 (tl 123 [(1, .loc 100 0), (2, .loc 101 0), (4, V.i a0.Kind), (50, V.b (a0.Kind == 7))]) [(100, .cells 48 [V.i a0.Kind, V.i a0.Op, V.s a0.Text, V.s a0.Other, .sl false false (a0.Kids.map encI)]), (101, .cells 114 [V.b false, V.b false, V.b false, V.i 0, V.i 0])] ?_
     refine bC h58 (fun hc63 h58 => ?_) (fun hc63 h58 => ?_)
     ·refine iT hc63 ?_
      refine bB h58 fun r32 hx65 h58 => ?_
      refine CO.cutR (tl 123 [(2, .loc 101 0)]) [(101, .cells 114 [V.b (a0.Op == 0), V.b r32, V.b false, V.i 0, V.i 6])] mix (by
       refine wR 5 102 ?_
       refine W.call0 (AC.gs (mi_NameOk_ok N a0.Text hx65) (by decide)) cok120 rfl (by kernel_rfl) ?_
       refine wR 2 102 ?_
       exact fI
       ) ?_
      refine CO.ret ?_
      have h58 := sI h58
      subst h58
      exact eG [] (.inr rfl) (RetV.one rfl (OneR.cell Dk (r := .agg [V.b (a0.Op == 0), V.b r32, V.b false, V.i 0, V.i 6]) (i := 101) (ety := 114) (cs := [V.b (a0.Op == 0), V.b r32, V.b false, V.i 0, V.i 6]) (by kernel_rfl) (by kernel_rfl) (by kernel_rfl)))
     refine iF hc63 ?_
     refine cU 2 102 (tl 123 [(1, .loc 100 0), (2, .loc 101 0), (4, V.i a0.Kind), (59, V.b (a0.Kind == 8))]) [(100, .cells 48 [V.i a0.Kind, V.i a0.Op, V.s a0.Text, V.s a0.Other, .sl false false (a0.Kids.map encI)]), (101, .cells 114 [V.b false, V.b false, V.b false, V.i 0, V.i 0])] ?_
     refine bC h58 (fun hc66 h58 => ?_) (fun hc66 h58 => ?_)
     ·refine iT hc66 ?_
      refine bB h58 fun r34 hx68 h58 => ?_
      refine CO.cutR (tl 123 [(2, .loc 101 0)]) [(101, .cells 114 [V.b (a0.Op == 0), V.b r34, V.b false, V.i 0, V.i 6])] mix (by
       refine wR 5 102 ?_
       refine W.call0 (AC.gs (mi_IsBuiltin_ok N a0.Text hx68) (by decide)) cok122 rfl (by kernel_rfl) ?_
       refine wR 2 102 ?_
       exact fI
       ) ?_
      refine CO.ret ?_
      have h58 := sI h58
      subst h58
      exact eG [] (.inr rfl) (RetV.one rfl (OneR.cell Dk (r := .agg [V.b (a0.Op == 0), V.b r34, V.b false, V.i 0, V.i 6]) (i := 101) (ety := 114) (cs := [V.b (a0.Op == 0), V.b r34, V.b false, V.i 0, V.i 6]) (by kernel_rfl) (by kernel_rfl) (by kernel_rfl)))
     refine iF hc66 ?_
     refine CO.join (fun (⟨a0, y35⟩ : (SNode × Bool)) => ⟨tl 123 [(1, .loc 100 0), (2, .loc 101 0), (4, V.i a0.Kind), (68, V.b y35)], [(100, .cells 48 [V.i a0.Kind, V.i a0.Op, V.s a0.Text, V.s a0.Other, .sl false false (a0.Kids.map encI)]), (101, .cells 114 [V.b false, V.b false, V.b false, V.i 0, V.i 0])]⟩) (fun i => mi_exprForm_k3 N i = some r) ?_ ?_
     · rintro ⟨a0, y35⟩ h70
       rw [mi_exprForm_k3] at h70
       refine bC h70 (fun hc71 h70 => ?_) (fun hc71 h70 => ?_)
       ·refine iT hc71 ?_
        refine bB h70 fun r37 hx73 h70 => ?_
        refine CO.cutR (tl 123 [(2, .loc 101 0)]) [(101, .cells 114 [V.b r37, V.b (a0.Text == []), V.b false, V.i 1, V.i 1])] mix (by
         refine wR 2 102 ?_
         refine W.call0 (AC.gs (mi_isStep_ok a0.Op hx73) (by decide)) cok123 rfl (by kernel_rfl) ?_
         refine wR 5 102 ?_
         exact fI
         ) ?_
        refine CO.ret ?_
        have h70 := sI h70
        subst h70
        exact eG [] (.inr rfl) (RetV.one rfl (OneR.cell Dk (r := .agg [V.b r37, V.b (a0.Text == []), V.b false, V.i 1, V.i 1]) (i := 101) (ety := 114) (cs := [V.b r37, V.b (a0.Text == []), V.b false, V.i 1, V.i 1]) (by kernel_rfl) (by kernel_rfl) (by kernel_rfl)))
       refine iF hc71 ?_
       refine cU 2 102 (tl 123 [(1, .loc 100 0), (2, .loc 101 0), (4, V.i a0.Kind), (78, V.b (a0.Kind == 11))]) [(100, .cells 48 [V.i a0.Kind, V.i a0.Op, V.s a0.Text, V.s a0.Other, .sl false false (a0.Kids.map encI)]), (101, .cells 114 [V.b false, V.b false, V.b false, V.i 0, V.i 0])] ?_
       refine bC h70 (fun hc74 h70 => ?_) (fun hc74 h70 => ?_)
       ·refine iT hc74 ?_
        refine bB h70 fun y38 hv77 h70 => ?_
        refine CO.cutR (tl 123 [(2, .loc 100 0)]) [(100, .cells 114 [V.b y38, V.b (a0.Text == []), V.b false, V.i 1, V.i 1])] mix (by
         refine wR 4 102 ?_
         refine bC hv77 (fun hc78 hv77 => ?_) (fun hc78 hv77 => ?_)
         ·refine wI 83 hc78 ?_
          refine wR 14 102 ?_
          have hv77 := sI hv77
          subst hv77
          exact fS [(101, 100)] [2]
         refine wI 83 hc78 ?_
         refine wR 5 102 ?_
         refine bC hv77 (fun hc79 hv77 => ?_) (fun hc79 hv77 => ?_)
         ·refine wI 88 hc79 ?_
          refine wR 9 102 ?_
          have hv77 := sI hv77
          subst hv77
          exact fS [(101, 100)] [2]
         refine wI 88 hc79 ?_
         refine wR 9 102 ?_
         have hv77 := sI hv77
         subst hv77
         exact fS [(101, 100)] [2]
         ) ?_
        refine CO.ret ?_
        have h70 := sI h70
        subst h70
        exact eG [] (.inr rfl) (RetV.one rfl (OneR.cell Dk (r := .agg [V.b y38, V.b (a0.Text == []), V.b false, V.i 1, V.i 1]) (i := 100) (ety := 114) (cs := [V.b y38, V.b (a0.Text == []), V.b false, V.i 1, V.i 1]) (by kernel_rfl) (by kernel_rfl) (by kernel_rfl)))
       refine iF hc74 ?_
       refine cU 2 102 (tl 123 [(1, .loc 100 0), (2, .loc 101 0), (4, V.i a0.Kind), (97, V.b (a0.Kind == 12))]) [(100, .cells 48 [V.i a0.Kind, V.i a0.Op, V.s a0.Text, V.s a0.Other, .sl false false (a0.Kids.map encI)]), (101, .cells 114 [V.b false, V.b false, V.b false, V.i 0, V.i 0])] ?_
       refine bC h70 (fun hc80 h70 => ?_) (fun hc80 h70 => ?_)
       ·refine iT hc80 ?_
        refine bB h70 fun r40 hx82 h70 => ?_
        refine CO.cutR (tl 123 [(2, .loc 101 0)]) [(101, .cells 114 [V.b (r40 != 0), V.b (a0.Text == []), V.b false, V.i 2, V.i 2])] mix (by
         refine wR 2 102 ?_
         refine W.call0 (AC.gs (mi_OpLevel_ok a0.Op hx82) (by decide)) cok124 rfl (by kernel_rfl) ?_
         refine wR 6 102 ?_
         exact fI
         ) ?_
        refine CO.ret ?_
        have h70 := sI h70
        subst h70
        exact eG [] (.inr rfl) (RetV.one rfl (OneR.cell Dk (r := .agg [V.b (r40 != 0), V.b (a0.Text == []), V.b false, V.i 2, V.i 2]) (i := 101) (ety := 114) (cs := [V.b (r40 != 0), V.b (a0.Text == []), V.b false, V.i 2, V.i 2]) (by kernel_rfl) (by kernel_rfl) (by kernel_rfl)))
       refine iF hc80 ?_
       refine cU 2 102 (tl 123 [(1, .loc 100 0), (2, .loc 101 0), (107, V.b (a0.Kind == 14))]) [(100, .cells 48 [V.i a0.Kind, V.i a0.Op, V.s a0.Text, V.s a0.Other, .sl false false (a0.Kids.map encI)]), (101, .cells 114 [V.b false, V.b false, V.b false, V.i 0, V.i 0])] ?_
       refine bC h70 (fun hc83 h70 => ?_) (fun hc83 h70 => ?_)
       ·refine iT hc83 ?_
        refine cU 8 102 (tl 123 [(2, .loc 101 0)]) [(101, .cells 114 [V.b (a0.Op == 0), V.b (a0.Text == []), V.b false, V.i 3, V.i 3])] ?_
        refine CO.ret ?_
        have h70 := sI h70
        subst h70
        exact eG [] (.inr rfl) (RetV.one rfl (OneR.cell Dk (r := .agg [V.b (a0.Op == 0), V.b (a0.Text == []), V.b false, V.i 3, V.i 3]) (i := 101) (ety := 114) (cs := [V.b (a0.Op == 0), V.b (a0.Text == []), V.b false, V.i 3, V.i 3]) (by kernel_rfl) (by kernel_rfl) (by kernel_rfl)))
       refine iF hc83 ?_
       refine CO.skip ?_
       refine bB h70 fun r42 hx85 h70 => ?_
       refine CO.cutR (tl 123 [(2, .loc 101 0)]) [(101, .cells 114 [V.b r42, V.b (a0.Text == []), V.b false, V.i 2, V.i 2])] mix (by
        refine wR 2 102 ?_
        refine W.call0 (AC.gs (mi_isAssign_ok a0.Op hx85) (by decide)) cok125 rfl (by kernel_rfl) ?_
        refine wR 5 102 ?_
        exact fI
        ) ?_
       refine CO.ret ?_
       have h70 := sI h70
       subst h70
       exact eG [] (.inr rfl) (RetV.one rfl (OneR.cell Dk (r := .agg [V.b r42, V.b (a0.Text == []), V.b false, V.i 2, V.i 2]) (i := 101) (ety := 114) (cs := [V.b r42, V.b (a0.Text == []), V.b false, V.i 2, V.i 2]) (by kernel_rfl) (by kernel_rfl) (by kernel_rfl)))
     intro hk86
     refine cU 2 102 (tl 123 [(1, .loc 100 0), (2, .loc 101 0), (4, V.i a0.Kind), (68, V.b (a0.Kind == 9))]) [(100, .cells 48 [V.i a0.Kind, V.i a0.Op, V.s a0.Text, V.s a0.Other, .sl false false (a0.Kids.map encI)]), (101, .cells 114 [V.b false, V.b false, V.b false, V.i 0, V.i 0])] ?_
     refine bC h58 (fun hc87 h58 => ?_) (fun hc87 h58 => ?_)
     ·refine iT hc87 ?_
      refine CO.skip ?_
      exact hk86 (a0, (a0.Kind == 9)) h58 _ (wS [(100, 100), (101, 101)] [1, 2, 4, 68])
     refine iF hc87 ?_
     refine cE 2 102 (tl 123 [(1, .loc 100 0), (2, .loc 101 0), (4, V.i a0.Kind), (68, V.b (a0.Kind == 10))]) [(100, .cells 48 [V.i a0.Kind, V.i a0.Op, V.s a0.Text, V.s a0.Other, .sl false false (a0.Kids.map encI)]), (101, .cells 114 [V.b false, V.b false, V.b false, V.i 0, V.i 0])] (fun st hw => ?_)
     exact hk86 (a0, (a0.Kind == 10)) h58 _ (hw.trans (wS [(100, 100), (101, 101)] [1, 2, 4, 68]))
   intro hk88
   refine cU 2 102 (tl 123 [(1, .loc 100 0), (2, .loc 101 0), (4, V.i a0.Kind), (31, V.b (a0.Kind == 5))]) [(100, .cells 48 [V.i a0.Kind, V.i a0.Op, V.s a0.Text, V.s a0.Other, .sl false false (a0.Kids.map encI)]), (101, .cells 114 [V.b false, V.b false, V.b false, V.i 0, V.i 0])] ?_
   refine bC h51 (fun hc89 h51 => ?_) (fun hc89 h51 => ?_)
   ·refine iT hc89 ?_
    refine CO.skip ?_
    exact hk88 (a0, (a0.Kind == 5)) h51 _ (wS [(100, 100), (101, 101)] [1, 2, 4, 31])
   refine iF hc89 ?_
   refine cE 2 102 (tl 123 [(1, .loc 100 0), (2, .loc 101 0), (4, V.i a0.Kind), (31, V.b (a0.Kind == 13))]) [(100, .cells 48 [V.i a0.Kind, V.i a0.Op, V.s a0.Text, V.s a0.Other, .sl false false (a0.Kids.map encI)]), (101, .cells 114 [V.b false, V.b false, V.b false, V.i 0, V.i 0])] (fun st hw => ?_)
   exact hk88 (a0, (a0.Kind == 13)) h51 _ (hw.trans (wS [(100, 100), (101, 101)] [1, 2, 4, 31]))
 intro hk90
 refine cU 2 102 (tl 123 [(1, .loc 100 0), (2, .loc 101 0), (4, V.i a0.Kind), (14, V.b (a0.Kind == 2))]) [(101, .cells 114 [V.b false, V.b false, V.b false, V.i 0, V.i 0]), (100, .cells 48 [V.i a0.Kind, V.i a0.Op, V.s a0.Text, V.s a0.Other, .sl false false (a0.Kids.map encI)])] ?_
 refine bC h (fun hc91 h => ?_) (fun hc91 h => ?_)
 ·refine iT hc91 ?_
  refine CO.skip ?_
  exact hk90 (a0, (a0.Kind == 2)) h _ (wS [(100, 100), (101, 101)] [1, 2, 4, 14])
 refine iF hc91 ?_
 refine cU 2 102 (tl 123 [(1, .loc 100 0), (2, .loc 101 0), (4, V.i a0.Kind), (14, V.b (a0.Kind == 3))]) [(101, .cells 114 [V.b false, V.b false, V.b false, V.i 0, V.i 0]), (100, .cells 48 [V.i a0.Kind, V.i a0.Op, V.s a0.Text, V.s a0.Other, .sl false false (a0.Kids.map encI)])] ?_
 refine bC h (fun hc92 h => ?_) (fun hc92 h => ?_)
 ·refine iT hc92 ?_
  refine CO.skip ?_
  exact hk90 (a0, (a0.Kind == 3)) h _ (wS [(100, 100), (101, 101)] [1, 2, 4, 14])
 refine iF hc92 ?_
 refine cE 2 102 (tl 123 [(1, .loc 100 0), (2, .loc 101 0), (4, V.i a0.Kind), (14, V.b (a0.Kind == 4))]) [(101, .cells 114 [V.b false, V.b false, V.b false, V.i 0, V.i 0]), (100, .cells 48 [V.i a0.Kind, V.i a0.Op, V.s a0.Text, V.s a0.Other, .sl false false (a0.Kids.map encI)])] (fun st hw => ?_)
 exact hk90 (a0, (a0.Kind == 4)) h _ (hw.trans (wS [(100, 100), (101, 101)] [1, 2, 4, 14]))

theorem mi_IsStmt_ok (a0 : Int) {r : Bool} (h : mi_IsStmt a0 = some r) :
    AC Tryz.prog (GS []) 106 [V.i a0] [] (V.b r) [] := by
 rw [mi_IsStmt] at h
 refine AC.enter Tryz.func106 rfl ?_
 refine cU 1 100 (tl 5 [(0, V.i a0)]) [] ?_
 refine bB h fun r2 hx2 h => ?_
 refine CO.cutR (tl 5 [(2, V.b r2)]) [] mix (by
  refine wR 1 100 ?_
  refine W.call0 (mi_within_ok a0 20 34 hx2) cok55 rfl (by kernel_rfl) ?_
  refine wR 1 100 ?_
  exact fI
  ) ?_
 refine CO.ret ?_
 have h := sI h
 subst h
 exact eG [] (.inr rfl) (RetV.one rfl (oT (t := 2) (r := V.b r2)))

theorem mi_stmtForm_ok (N : Nat) (a0 : SNode) {r : SForm} (h : mi_stmtForm N a0 = some r) :
    AC Tryz.prog (GS [0, 1, 2]) 107 [.agg [V.i a0.Kind, V.i a0.Op, V.s a0.Text, V.s a0.Other, .sl false false (a0.Kids.map encI)]] [] (.agg [V.b r.op, V.b r.text, V.b r.other, V.i r.least, V.i r.most]) [] := by
 rw [mi_stmtForm] at h
 refine AC.enter Tryz.func107 rfl ?_
 refine cU 2 100 (tl 98 [(1, .loc 100 0), (2, .loc 101 0)]) [(101, .cells 114 [V.b false, V.b false, V.b false, V.i 0, V.i 0]), (100, .cells 48 [V.i a0.Kind, V.i a0.Op, V.s a0.Text, V.s a0.Other, .sl false false (a0.Kids.map encI)])] ?_
 refine cU 12 102 (tl 98 [(1, .loc 100 0), (2, .loc 101 0), (3, .loc 102 0)]) [(102, .cells 114 [V.b (a0.Op == 0), V.b (a0.Text == []), V.b (a0.Other == []), V.i 0, V.i 0]), (101, .cells 114 [V.b false, V.b false, V.b false, V.i 0, V.i 0]), (100, .cells 48 [V.i a0.Kind, V.i a0.Op, V.s a0.Text, V.s a0.Other, .sl false false (a0.Kids.map encI)])] ?_
 refine CO.join (fun (⟨y14, y15, y16, y17, y18⟩ : (Bool × Bool × Bool × Int × Int)) => ⟨tl 98 [(2, .loc 100 0), (3, .loc 101 0)], [(100, .cells 114 [V.b false, V.b false, V.b false, V.i 0, V.i 0]), (101, .cells 114 [V.b y14, V.b y15, V.b y16, V.i y17, V.i y18])]⟩) (fun i => mi_stmtForm_k1 N i = some r) ?_ ?_
 · rintro ⟨y14, y15, y16, y17, y18⟩ h33
   rw [mi_stmtForm_k1] at h33
   refine cU 2 104 (tl 98 [(2, .loc 100 0)]) [(100, .cells 114 [V.b y14, V.b y15, V.b y16, V.i y17, V.i y18])] ?_
   refine CO.ret ?_
   have h33 := sI h33
   subst h33
   exact eG [] (.inr rfl) (RetV.one rfl (OneR.cell Dk (r := .agg [V.b y14, V.b y15, V.b y16, V.i y17, V.i y18]) (i := 100) (ety := 114) (cs := [V.b y14, V.b y15, V.b y16, V.i y17, V.i y18]) (by kernel_rfl) (by kernel_rfl) (by kernel_rfl)))
 intro hk34
 refine cU 2 103 (tl 98 [(1, .loc 100 0), (2, .loc 101 0), (3, .loc 102 0), (15, V.i a0.Kind)]) [(102, .cells 114 [V.b (a0.Op == 0), V.b (a0.Text == []), V.b (a0.Other == []), V.i 0, V.i 0]), (101, .cells 114 [V.b false, V.b false, V.b false, V.i 0, V.i 0]), (100, .cells 48 [V.i a0.Kind, V.i a0.Op, V.s a0.Text, V.s a0.Other, .sl false false (a0.Kids.map encI)])] ?_
 refine CO.block' ?_
 refine cU 2 103 (tl 98 [(1, .loc 100 0), (2, .loc 101 0), (3, .loc 102 0), (15, V.i a0.Kind), (16, V.b (a0.Kind == 20))]) [(102, .cells 114 [V.b (a0.Op == 0), V.b (a0.Text == []), V.b (a0.Other == []), V.i 0, V.i 0]), (101, .cells 114 [V.b false, V.b false, V.b false, V.i 0, V.i 0]), (100, .cells 48 [V.i a0.Kind, V.i a0.Op, V.s a0.Text, V.s a0.Other, .sl false false (a0.Kids.map encI)])] ?_
 refine bC h (fun hc35 h => ?_) (fun hc35 h => ?_)
 ·refine iT hc35 ?_
  refine cE 4 103 (tl 98 [(2, .loc 101 0), (3, .loc 102 0)]) [(102, .cells 114 [V.b (a0.Op == 0), V.b (a0.Text == []), V.b (a0.Other == []), V.i 1, V.i 1]), (101, .cells 114 [V.b false, V.b false, V.b false, V.i 0, V.i 0])] (fun st hw => ?_)
  exact hk34 ((a0.Op == 0), (a0.Text == []), (a0.Other == []), 1, 1) h _ (hw.trans (wS [(101, 100), (102, 101)] [2, 3]))
 refine iF hc35 ?_
 refine cU 2 103 (tl 98 [(1, .loc 100 0), (2, .loc 101 0), (3, .loc 102 0), (15, V.i a0.Kind), (20, V.b (a0.Kind == 21))]) [(102, .cells 114 [V.b (a0.Op == 0), V.b (a0.Text == []), V.b (a0.Other == []), V.i 0, V.i 0]), (101, .cells 114 [V.b false, V.b false, V.b false, V.i 0, V.i 0]), (100, .cells 48 [V.i a0.Kind, V.i a0.Op, V.s a0.Text, V.s a0.Other, .sl false false (a0.Kids.map encI)])] ?_
 refine bC h (fun hc36 h => ?_) (fun hc36 h => ?_)
 ·refine iT hc36 ?_
  refine bB h fun y19 hv38 h => ?_
  refine CO.cutR (tl 98 [(1, .loc 100 0), (2, .loc 101 0), (3, .loc 102 0)]) [(100, .cells 48 [V.i a0.Kind, V.i a0.Op, V.s a0.Text, V.s a0.Other, .sl false false (a0.Kids.map encI)]), (101, .cells 114 [V.b false, V.b false, V.b false, V.i 0, V.i 0]), (102, .cells 114 [V.b y19, V.b (a0.Text == []), V.b (a0.Other == []), V.i 0, V.i 0])] mix (by
   refine wR 4 103 ?_
   refine bC hv38 (fun hc39 hv38 => ?_) (fun hc39 hv38 => ?_)
   ·refine wI 25 hc39 ?_
    refine wR 6 103 ?_
    have hv38 := sI hv38
    subst hv38
    exact fS [(100, 100), (101, 101), (102, 102)] [1, 2, 3]
   refine wI 25 hc39 ?_
   refine wR 6 103 ?_
   have hv38 := sI hv38
   subst hv38
   exact fS [(100, 100), (101, 101), (102, 102)] [1, 2, 3]
   ) ?_
  refine bB h fun r21 hx41 h => ?_
  refine CO.cutR (tl 98 [(1, .loc 100 0), (2, .loc 101 0), (3, .loc 102 0)]) [(102, .cells 114 [V.b y19, V.b (a0.Text == []), V.b r21, V.i 0, V.i 0]), (100, .cells 48 [V.i a0.Kind, V.i a0.Op, V.s a0.Text, V.s a0.Other, .sl false false (a0.Kids.map encI)]), (101, .cells 114 [V.b false, V.b false, V.b false, V.i 0, V.i 0])] mix (by
   refine wR 3 103 ?_
   refine W.lend (AC.gs (m_slices_Contains_string_ok N [[], [62], [62, 62], [124]] a0.Other hx41) (by decide)) cok126 [] [] (LayOk.cons (j := 103) encS encS ([[], [62], [62, 62], [124]] : List (List UInt8)) (by kernel_rfl) (fun _ => rfl) (show LayOk _ [] from trivial)) (.c _) .nil (by kernel_rfl) (by kernel_rfl) ?_
   refine wR 2 104 ?_
   exact fI
   ) ?_
  refine cU 6 104 (tl 98 [(1, .loc 100 0), (2, .loc 101 0), (3, .loc 102 0)]) [(102, .cells 114 [V.b y19, V.b (a0.Text == []), V.b r21, V.i a0.Op, V.i 6]), (100, .cells 48 [V.i a0.Kind, V.i a0.Op, V.s a0.Text, V.s a0.Other, .sl false false (a0.Kids.map encI)]), (101, .cells 114 [V.b false, V.b false, V.b false, V.i 0, V.i 0])] ?_
  refine cU 3 104 (tl 98 [(2, .loc 101 0), (3, .loc 102 0), (42, V.b (!(a0.Other == [])))]) [(102, .cells 114 [V.b y19, V.b (a0.Text == []), V.b r21, V.i a0.Op, V.i 6]), (101, .cells 114 [V.b false, V.b false, V.b false, V.i 0, V.i 0])] ?_
  refine bC h (fun hc42 h => ?_) (fun hc42 h => ?_)
  ·refine iT hc42 ?_
   refine cE 10 104 (tl 98 [(2, .loc 101 0), (3, .loc 102 0)]) [(102, .cells 114 [V.b y19, V.b (a0.Text == []), V.b r21, V.i (IntKind.wrap .i64 (a0.Op + 1)), V.i 7]), (101, .cells 114 [V.b false, V.b false, V.b false, V.i 0, V.i 0])] (fun st hw => ?_)
   exact hk34 (y19, (a0.Text == []), r21, (IntKind.wrap .i64 (a0.Op + 1)), 7) h _ (hw.trans (wS [(101, 100), (102, 101)] [2, 3]))
  refine iF hc42 ?_
  refine CO.skip ?_
  exact hk34 (y19, (a0.Text == []), r21, a0.Op, 6) h _ (wS [(101, 100), (102, 101)] [2, 3])
 refine iF hc36 ?_
 refine CO.join (fun (⟨a0, y22⟩ : (SNode × Bool)) => ⟨tl 98 [(1, .loc 100 0), (2, .loc 101 0), (3, .loc 102 0), (15, V.i a0.Kind), (51, V.b y22)], [(100, .cells 48 [V.i a0.Kind, V.i a0.Op, V.s a0.Text, V.s a0.Other, .sl false false (a0.Kids.map encI)]), (101, .cells 114 [V.b false, V.b false, V.b false, V.i 0, V.i 0]), (102, .cells 114 [V.b (a0.Op == 0), V.b (a0.Text == []), V.b (a0.Other == []), V.i 0, V.i 0])]⟩) (fun i => mi_stmtForm_k2 N i = some r) ?_ ?_
 · rintro ⟨a0, y22⟩ h44
   rw [mi_stmtForm_k2] at h44
   refine bC h44 (fun hc45 h44 => ?_) (fun hc45 h44 => ?_)
   ·refine iT hc45 ?_
    refine cE 2 103 (tl 98 [(2, .loc 101 0), (3, .loc 102 0)]) [(102, .cells 114 [V.b (a0.Op == 0), V.b (a0.Text == []), V.b (a0.Other == []), V.i 0, V.i 1]), (101, .cells 114 [V.b false, V.b false, V.b false, V.i 0, V.i 0])] (fun st hw => ?_)
    exact hk34 ((a0.Op == 0), (a0.Text == []), (a0.Other == []), 0, 1) h44 _ (hw.trans (wS [(101, 100), (102, 101)] [2, 3]))
   refine iF hc45 ?_
   refine cU 2 103 (tl 98 [(1, .loc 100 0), (2, .loc 101 0), (3, .loc 102 0), (15, V.i a0.Kind), (55, V.b (a0.Kind == 27))]) [(100, .cells 48 [V.i a0.Kind, V.i a0.Op, V.s a0.Text, V.s a0.Other, .sl false false (a0.Kids.map encI)]), (101, .cells 114 [V.b false, V.b false, V.b false, V.i 0, V.i 0]), (102, .cells 114 [V.b (a0.Op == 0), V.b (a0.Text == []), V.b (a0.Other == []), V.i 0, V.i 0])] ?_
   refine bC h44 (fun hc46 h44 => ?_) (fun hc46 h44 => ?_)
   ·refine iT hc46 ?_
    refine bB h44 fun r24 hx48 h44 => ?_
    refine CO.endR (tl 98 [(2, .loc 101 0), (3, .loc 102 0)]) [(102, .cells 114 [V.b (a0.Op == 0), V.b r24, V.b (a0.Other == []), V.i 0, V.i 6]), (101, .cells 114 [V.b false, V.b false, V.b false, V.i 0, V.i 0])] mix (by
     refine wR 2 103 ?_
     refine W.call0 (AC.gs (mi_NameOk_ok N a0.Text hx48) (by decide)) cok120 rfl (by kernel_rfl) ?_
     refine wR 4 103 ?_
     exact fI
     ) (fun st hw => ?_)
    exact hk34 ((a0.Op == 0), r24, (a0.Other == []), 0, 6) h44 _ (hw.trans (wS [(101, 100), (102, 101)] [2, 3]))
   refine iF hc46 ?_
   refine cU 2 103 (tl 98 [(1, .loc 100 0), (2, .loc 101 0), (3, .loc 102 0), (15, V.i a0.Kind), (62, V.b (a0.Kind == 28))]) [(100, .cells 48 [V.i a0.Kind, V.i a0.Op, V.s a0.Text, V.s a0.Other, .sl false false (a0.Kids.map encI)]), (101, .cells 114 [V.b false, V.b false, V.b false, V.i 0, V.i 0]), (102, .cells 114 [V.b (a0.Op == 0), V.b (a0.Text == []), V.b (a0.Other == []), V.i 0, V.i 0])] ?_
   refine bC h44 (fun hc49 h44 => ?_) (fun hc49 h44 => ?_)
   ·refine iT hc49 ?_
    refine cE 4 103 (tl 98 [(2, .loc 101 0), (3, .loc 102 0)]) [(102, .cells 114 [V.b (a0.Op == 0), V.b (a0.Text == []), V.b (a0.Other == []), V.i 2, V.i 3]), (101, .cells 114 [V.b false, V.b false, V.b false, V.i 0, V.i 0])] (fun st hw => ?_)
    exact hk34 ((a0.Op == 0), (a0.Text == []), (a0.Other == []), 2, 3) h44 _ (hw.trans (wS [(101, 100), (102, 101)] [2, 3]))
   refine iF hc49 ?_
   refine CO.join (fun (⟨a0, y25⟩ : (SNode × Bool)) => ⟨tl 98 [(1, .loc 100 0), (2, .loc 101 0), (3, .loc 102 0), (15, V.i a0.Kind), (66, V.b y25)], [(100, .cells 48 [V.i a0.Kind, V.i a0.Op, V.s a0.Text, V.s a0.Other, .sl false false (a0.Kids.map encI)]), (101, .cells 114 [V.b false, V.b false, V.b false, V.i 0, V.i 0]), (102, .cells 114 [V.b (a0.Op == 0), V.b (a0.Text == []), V.b (a0.Other == []), V.i 0, V.i 0])]⟩) (fun i => mi_stmtForm_k3 N i = some r) ?_ ?_
   · rintro ⟨a0, y25⟩ h51
     rw [mi_stmtForm_k3] at h51
     refine bC h51 (fun hc52 h51 => ?_) (fun hc52 h51 => ?_)
     ·refine iT hc52 ?_
      refine cE 4 103 (tl 98 [(2, .loc 101 0), (3, .loc 102 0)]) [(102, .cells 114 [V.b (a0.Op == 0), V.b (a0.Text == []), V.b (a0.Other == []), V.i 2, V.i 2]), (101, .cells 114 [V.b false, V.b false, V.b false, V.i 0, V.i 0])] (fun st hw => ?_)
      exact hk34 ((a0.Op == 0), (a0.Text == []), (a0.Other == []), 2, 2) h51 _ (hw.trans (wS [(101, 100), (102, 101)] [2, 3]))
     refine iF hc52 ?_
     refine cU 2 103 (tl 98 [(1, .loc 100 0), (2, .loc 101 0), (3, .loc 102 0), (15, V.i a0.Kind), (71, V.b (a0.Kind == 31))]) [(100, .cells 48 [V.i a0.Kind, V.i a0.Op, V.s a0.Text, V.s a0.Other, .sl false false (a0.Kids.map encI)]), (101, .cells 114 [V.b false, V.b false, V.b false, V.i 0, V.i 0]), (102, .cells 114 [V.b (a0.Op == 0), V.b (a0.Text == []), V.b (a0.Other == []), V.i 0, V.i 0])] ?_
     refine bC h51 (fun hc53 h51 => ?_) (fun hc53 h51 => ?_)
     ·refine iT hc53 ?_
      refine cE 4 103 (tl 98 [(2, .loc 101 0), (3, .loc 102 0)]) [(102, .cells 114 [V.b (a0.Op == 0), V.b (a0.Text == []), V.b (a0.Other == []), V.i 4, V.i 4]), (101, .cells 114 [V.b false, V.b false, V.b false, V.i 0, V.i 0])] (fun st hw => ?_)
      exact hk34 ((a0.Op == 0), (a0.Text == []), (a0.Other == []), 4, 4) h51 _ (hw.trans (wS [(101, 100), (102, 101)] [2, 3]))
     refine iF hc53 ?_
     refine cU 2 103 (tl 98 [(1, .loc 100 0), (2, .loc 101 0), (3, .loc 102 0), (15, V.i a0.Kind), (75, V.b (a0.Kind == 32))]) [(100, .cells 48 [V.i a0.Kind, V.i a0.Op, V.s a0.Text, V.s a0.Other, .sl false false (a0.Kids.map encI)]), (101, .cells 114 [V.b false, V.b false, V.b false, V.i 0, V.i 0]), (102, .cells 114 [V.b (a0.Op == 0), V.b (a0.Text == []), V.b (a0.Other == []), V.i 0, V.i 0])] ?_
     refine bC h51 (fun hc54 h51 => ?_) (fun hc54 h51 => ?_)
     ·refine iT hc54 ?_
      refine bB h51 fun r28 hx57 h51 => ?_
      refine bB h51 fun r29 hx58 h51 => ?_
      refine CO.endR (tl 98 [(2, .loc 101 0), (3, .loc 102 0)]) [(102, .cells 114 [V.b (a0.Op == 0), V.b r28, V.b r29, V.i 1, V.i 1]), (101, .cells 114 [V.b false, V.b false, V.b false, V.i 0, V.i 0])] mix (by
       refine wR 2 103 ?_
       refine W.call0 (AC.gs (mi_NameOk_ok N a0.Text hx57) (by decide)) cok120 rfl (by kernel_rfl) ?_
       refine wR 2 103 ?_
       refine W.call0 (AC.gs (mi_NameOk_ok N a0.Other hx58) (by decide)) cok120 rfl (by kernel_rfl) ?_
       refine wR 8 103 ?_
       exact fI
       ) (fun st hw => ?_)
      exact hk34 ((a0.Op == 0), r28, r29, 1, 1) h51 _ (hw.trans (wS [(101, 100), (102, 101)] [2, 3]))
     refine iF hc54 ?_
     refine cU 2 103 (tl 98 [(1, .loc 100 0), (2, .loc 101 0), (3, .loc 102 0), (15, V.i a0.Kind), (87, V.b (a0.Kind == 33))]) [(100, .cells 48 [V.i a0.Kind, V.i a0.Op, V.s a0.Text, V.s a0.Other, .sl false false (a0.Kids.map encI)]), (101, .cells 114 [V.b false, V.b false, V.b false, V.i 0, V.i 0]), (102, .cells 114 [V.b (a0.Op == 0), V.b (a0.Text == []), V.b (a0.Other == []), V.i 0, V.i 0])] ?_
     refine bC h51 (fun hc59 h51 => ?_) (fun hc59 h51 => ?_)
     ·refine iT hc59 ?_
      refine cE 2 103 (tl 98 [(2, .loc 101 0), (3, .loc 102 0)]) [(102, .cells 114 [V.b (a0.Op == 0), V.b (a0.Text == []), V.b (a0.Other == []), V.i 0, V.i 400]), (101, .cells 114 [V.b false, V.b false, V.b false, V.i 0, V.i 0])] (fun st hw => ?_)
      exact hk34 ((a0.Op == 0), (a0.Text == []), (a0.Other == []), 0, 400) h51 _ (hw.trans (wS [(101, 100), (102, 101)] [2, 3]))
     refine iF hc59 ?_
     refine cU 2 103 (tl 98 [(1, .loc 100 0), (2, .loc 101 0), (3, .loc 102 0), (90, V.b (a0.Kind == 34))]) [(100, .cells 48 [V.i a0.Kind, V.i a0.Op, V.s a0.Text, V.s a0.Other, .sl false false (a0.Kids.map encI)]), (101, .cells 114 [V.b false, V.b false, V.b false, V.i 0, V.i 0]), (102, .cells 114 [V.b (a0.Op == 0), V.b (a0.Text == []), V.b (a0.Other == []), V.i 0, V.i 0])] ?_
     refine bC h51 (fun hc60 h51 => ?_) (fun hc60 h51 => ?_)
     ·refine iT hc60 ?_
      refine bB h51 fun r31 hx62 h51 => ?_
      refine CO.endR (tl 98 [(2, .loc 101 0), (3, .loc 102 0)]) [(102, .cells 114 [V.b (a0.Op == 0), V.b r31, V.b (a0.Other == []), V.i 0, V.i 0]), (101, .cells 114 [V.b false, V.b false, V.b false, V.i 0, V.i 0])] mix (by
       refine wR 3 103 ?_
       refine W.call0 (mi_TokenOk_ok N (⟨2, a0.Text, 0⟩ : SToken) hx62) cok121 rfl (by kernel_rfl) ?_
       refine wR 2 103 ?_
       exact fI
       ) (fun st hw => ?_)
      exact hk34 ((a0.Op == 0), r31, (a0.Other == []), 0, 0) h51 _ (hw.trans (wS [(101, 100), (102, 101)] [2, 3]))
     refine iF hc60 ?_
     refine CO.skip ?_
     exact hk34 ((a0.Op == 0), (a0.Text == []), (a0.Other == []), 0, 0) h51 _ (wS [(101, 100), (102, 101)] [2, 3])
   intro hk63
   refine cU 2 103 (tl 98 [(1, .loc 100 0), (2, .loc 101 0), (3, .loc 102 0), (15, V.i a0.Kind), (66, V.b (a0.Kind == 29))]) [(100, .cells 48 [V.i a0.Kind, V.i a0.Op, V.s a0.Text, V.s a0.Other, .sl false false (a0.Kids.map encI)]), (101, .cells 114 [V.b false, V.b false, V.b false, V.i 0, V.i 0]), (102, .cells 114 [V.b (a0.Op == 0), V.b (a0.Text == []), V.b (a0.Other == []), V.i 0, V.i 0])] ?_
   refine bC h44 (fun hc64 h44 => ?_) (fun hc64 h44 => ?_)
   ·refine iT hc64 ?_
    refine CO.skip ?_
    exact hk63 (a0, (a0.Kind == 29)) h44 _ (wS [(100, 100), (101, 101), (102, 102)] [1, 2, 3, 15, 66])
   refine iF hc64 ?_
   refine cE 2 103 (tl 98 [(1, .loc 100 0), (2, .loc 101 0), (3, .loc 102 0), (15, V.i a0.Kind), (66, V.b (a0.Kind == 30))]) [(100, .cells 48 [V.i a0.Kind, V.i a0.Op, V.s a0.Text, V.s a0.Other, .sl false false (a0.Kids.map encI)]), (101, .cells 114 [V.b false, V.b false, V.b false, V.i 0, V.i 0]), (102, .cells 114 [V.b (a0.Op == 0), V.b (a0.Text == []), V.b (a0.Other == []), V.i 0, V.i 0])] (fun st hw => ?_)
   exact hk63 (a0, (a0.Kind == 30)) h44 _ (hw.trans (wS [(100, 100), (101, 101), (102, 102)] [1, 2, 3, 15, 66]))
 intro hk65
 refine cU 2 103 (tl 98 [(1, .loc 100 0), (2, .loc 101 0), (3, .loc 102 0), (15, V.i a0.Kind), (51, V.b (a0.Kind == 23))]) [(102, .cells 114 [V.b (a0.Op == 0), V.b (a0.Text == []), V.b (a0.Other == []), V.i 0, V.i 0]), (101, .cells 114 [V.b false, V.b false, V.b false, V.i 0, V.i 0]), (100, .cells 48 [V.i a0.Kind, V.i a0.Op, V.s a0.Text, V.s a0.Other, .sl false false (a0.Kids.map encI)])] ?_
 refine bC h (fun hc66 h => ?_) (fun hc66 h => ?_)
 ·refine iT hc66 ?_
  refine CO.skip ?_
  exact hk65 (a0, (a0.Kind == 23)) h _ (wS [(100, 100), (101, 101), (102, 102)] [1, 2, 3, 15, 51])
 refine iF hc66 ?_
 refine cE 2 103 (tl 98 [(1, .loc 100 0), (2, .loc 101 0), (3, .loc 102 0), (15, V.i a0.Kind), (51, V.b (a0.Kind == 24))]) [(102, .cells 114 [V.b (a0.Op == 0), V.b (a0.Text == []), V.b (a0.Other == []), V.i 0, V.i 0]), (101, .cells 114 [V.b false, V.b false, V.b false, V.i 0, V.i 0]), (100, .cells 48 [V.i a0.Kind, V.i a0.Op, V.s a0.Text, V.s a0.Other, .sl false false (a0.Kids.map encI)])] (fun st hw => ?_)
 exact hk65 (a0, (a0.Kind == 24)) h _ (hw.trans (wS [(100, 100), (101, 101), (102, 102)] [1, 2, 3, 15, 51]))

theorem mi_itemForm_ok (N : Nat) (a0 : SNode) {r : SForm} (h : mi_itemForm N a0 = some r) :
    AC Tryz.prog (GS [0, 1]) 108 [.agg [V.i a0.Kind, V.i a0.Op, V.s a0.Text, V.s a0.Other, .sl false false (a0.Kids.map encI)]] [] (.agg [V.b r.op, V.b r.text, V.b r.other, V.i r.least, V.i r.most]) [] := by
 rw [mi_itemForm] at h
 refine AC.enter Tryz.func108 rfl ?_
 refine cU 2 100 (tl 64 [(1, .loc 100 0), (2, .loc 101 0)]) [(101, .cells 114 [V.b false, V.b false, V.b false, V.i 0, V.i 0]), (100, .cells 48 [V.i a0.Kind, V.i a0.Op, V.s a0.Text, V.s a0.Other, .sl false false (a0.Kids.map encI)])] ?_
 refine cU 12 102 (tl 64 [(1, .loc 100 0), (2, .loc 101 0), (3, .loc 102 0)]) [(102, .cells 114 [V.b (a0.Op == 0), V.b (a0.Text == []), V.b (a0.Other == []), V.i 0, V.i 0]), (101, .cells 114 [V.b false, V.b false, V.b false, V.i 0, V.i 0]), (100, .cells 48 [V.i a0.Kind, V.i a0.Op, V.s a0.Text, V.s a0.Other, .sl false false (a0.Kids.map encI)])] ?_
 refine CO.join (fun (⟨a0, y9, y10, y11, y12⟩ : (SNode × Bool × Bool × Int × Int)) => ⟨tl 64 [(2, .loc 100 0), (3, .loc 101 0)], [(100, .cells 114 [V.b false, V.b false, V.b false, V.i 0, V.i 0]), (101, .cells 114 [V.b y9, V.b y10, V.b (a0.Other == []), V.i y11, V.i y12])]⟩) (fun i => mi_itemForm_k1 N i = some r) ?_ ?_
 · rintro ⟨a0, y9, y10, y11, y12⟩ h24
   rw [mi_itemForm_k1] at h24
   refine cU 2 103 (tl 64 [(2, .loc 100 0)]) [(100, .cells 114 [V.b y9, V.b y10, V.b (a0.Other == []), V.i y11, V.i y12])] ?_
   refine CO.ret ?_
   have h24 := sI h24
   subst h24
   exact eG [] (.inr rfl) (RetV.one rfl (OneR.cell Dk (r := .agg [V.b y9, V.b y10, V.b (a0.Other == []), V.i y11, V.i y12]) (i := 100) (ety := 114) (cs := [V.b y9, V.b y10, V.b (a0.Other == []), V.i y11, V.i y12]) (by kernel_rfl) (by kernel_rfl) (by kernel_rfl)))
 intro hk25
 refine cU 2 103 (tl 64 [(1, .loc 100 0), (2, .loc 101 0), (3, .loc 102 0), (15, V.i a0.Kind)]) [(102, .cells 114 [V.b (a0.Op == 0), V.b (a0.Text == []), V.b (a0.Other == []), V.i 0, V.i 0]), (101, .cells 114 [V.b false, V.b false, V.b false, V.i 0, V.i 0]), (100, .cells 48 [V.i a0.Kind, V.i a0.Op, V.s a0.Text, V.s a0.Other, .sl false false (a0.Kids.map encI)])] ?_
 refine CO.block' ?_
 refine CO.join (fun (⟨a0, y13⟩ : (SNode × Bool)) => ⟨tl 64 [(1, .loc 100 0), (2, .loc 101 0), (3, .loc 102 0), (15, V.i a0.Kind), (17, V.b y13)], [(100, .cells 48 [V.i a0.Kind, V.i a0.Op, V.s a0.Text, V.s a0.Other, .sl false false (a0.Kids.map encI)]), (101, .cells 114 [V.b false, V.b false, V.b false, V.i 0, V.i 0]), (102, .cells 114 [V.b (a0.Op == 0), V.b (a0.Text == []), V.b (a0.Other == []), V.i 0, V.i 0])]⟩) (fun i => mi_itemForm_k2 N i = some r) ?_ ?_
 · rintro ⟨a0, y13⟩ h27
   rw [mi_itemForm_k2] at h27
   refine bC h27 (fun hc28 h27 => ?_) (fun hc28 h27 => ?_)
   ·refine iT hc28 ?_
    refine cE 4 103 (tl 64 [(2, .loc 101 0), (3, .loc 102 0)]) [(102, .cells 114 [V.b (a0.Op == 0), V.b (a0.Text == []), V.b (a0.Other == []), V.i 1, V.i 1]), (101, .cells 114 [V.b false, V.b false, V.b false, V.i 0, V.i 0])] (fun st hw => ?_)
    exact hk25 (a0, (a0.Op == 0), (a0.Text == []), 1, 1) h27 _ (hw.trans (wS [(101, 100), (102, 101)] [2, 3]))
   refine iF hc28 ?_
   refine cU 2 103 (tl 64 [(1, .loc 100 0), (2, .loc 101 0), (3, .loc 102 0), (15, V.i a0.Kind), (22, V.b (a0.Kind == 42))]) [(100, .cells 48 [V.i a0.Kind, V.i a0.Op, V.s a0.Text, V.s a0.Other, .sl false false (a0.Kids.map encI)]), (101, .cells 114 [V.b false, V.b false, V.b false, V.i 0, V.i 0]), (102, .cells 114 [V.b (a0.Op == 0), V.b (a0.Text == []), V.b (a0.Other == []), V.i 0, V.i 0])] ?_
   refine bC h27 (fun hc29 h27 => ?_) (fun hc29 h27 => ?_)
   ·refine iT hc29 ?_
    refine bB h27 fun r15 hx31 h27 => ?_
    refine CO.cutR (tl 64 [(1, .loc 100 0), (2, .loc 101 0), (3, .loc 102 0)]) [(102, .cells 114 [V.b r15, V.b (a0.Text == []), V.b (a0.Other == []), V.i 1, V.i 0]), (100, .cells 48 [V.i a0.Kind, V.i a0.Op, V.s a0.Text, V.s a0.Other, .sl false false (a0.Kids.map encI)]), (101, .cells 114 [V.b false, V.b false, V.b false, V.i 0, V.i 0])] mix (by
     refine wR 2 103 ?_
     refine W.call0 (AC.gs (mi_within_ok a0.Op 1 3 hx31) (by decide)) cok55 rfl (by kernel_rfl) ?_
     refine wR 4 103 ?_
     exact fI
     ) ?_
    refine CO.join (fun (⟨r15, a0, y16⟩ : (Bool × SNode × Int)) => ⟨tl 64 [(2, .loc 100 0), (3, .loc 101 0)], [(100, .cells 114 [V.b false, V.b false, V.b false, V.i 0, V.i 0]), (101, .cells 114 [V.b r15, V.b (a0.Text == []), V.b (a0.Other == []), V.i y16, V.i 0])]⟩) (fun i => mi_itemForm_k3 N i = some r) ?_ ?_
    · rintro ⟨r15, a0, y16⟩ h33
      rw [mi_itemForm_k3] at h33
      refine cE 4 103 (tl 64 [(2, .loc 100 0), (3, .loc 101 0)]) [(101, .cells 114 [V.b r15, V.b (a0.Text == []), V.b (a0.Other == []), V.i y16, V.i y16]), (100, .cells 114 [V.b false, V.b false, V.b false, V.i 0, V.i 0])] (fun st hw => ?_)
      exact hk25 (a0, r15, (a0.Text == []), y16, y16) h33 _ (hw.trans (wS [(100, 100), (101, 101)] [2, 3]))
    intro hk34
    refine cU 3 103 (tl 64 [(2, .loc 101 0), (3, .loc 102 0), (31, V.b (a0.Op == 3))]) [(102, .cells 114 [V.b r15, V.b (a0.Text == []), V.b (a0.Other == []), V.i 1, V.i 0]), (101, .cells 114 [V.b false, V.b false, V.b false, V.i 0, V.i 0])] ?_
    refine bC h27 (fun hc35 h27 => ?_) (fun hc35 h27 => ?_)
    ·refine iT hc35 ?_
     refine cE 2 103 (tl 64 [(2, .loc 101 0), (3, .loc 102 0)]) [(102, .cells 114 [V.b r15, V.b (a0.Text == []), V.b (a0.Other == []), V.i 2, V.i 0]), (101, .cells 114 [V.b false, V.b false, V.b false, V.i 0, V.i 0])] (fun st hw => ?_)
     exact hk34 (r15, a0, 2) h27 _ (hw.trans (wS [(101, 100), (102, 101)] [2, 3]))
    refine iF hc35 ?_
    refine CO.skip ?_
    exact hk34 (r15, a0, 1) h27 _ (wS [(101, 100), (102, 101)] [2, 3])
   refine iF hc29 ?_
   refine cU 2 103 (tl 64 [(1, .loc 100 0), (2, .loc 101 0), (3, .loc 102 0), (15, V.i a0.Kind), (36, V.b (a0.Kind == 43))]) [(100, .cells 48 [V.i a0.Kind, V.i a0.Op, V.s a0.Text, V.s a0.Other, .sl false false (a0.Kids.map encI)]), (101, .cells 114 [V.b false, V.b false, V.b false, V.i 0, V.i 0]), (102, .cells 114 [V.b (a0.Op == 0), V.b (a0.Text == []), V.b (a0.Other == []), V.i 0, V.i 0])] ?_
   refine bC h27 (fun hc36 h27 => ?_) (fun hc36 h27 => ?_)
   ·refine iT hc36 ?_
    refine bB h27 fun y17 hv38 h27 => ?_
    refine CO.cutR (tl 64 [(1, .loc 100 0), (2, .loc 101 0), (3, .loc 102 0)]) [(100, .cells 48 [V.i a0.Kind, V.i a0.Op, V.s a0.Text, V.s a0.Other, .sl false false (a0.Kids.map encI)]), (101, .cells 114 [V.b false, V.b false, V.b false, V.i 0, V.i 0]), (102, .cells 114 [V.b y17, V.b (a0.Text == []), V.b (a0.Other == []), V.i 2, V.i 0])] mix (by
     refine wR 4 103 ?_
     refine bC hv38 (fun hc39 hv38 => ?_) (fun hc39 hv38 => ?_)
     ·refine wI 41 hc39 ?_
      refine wR 8 103 ?_
      have hv38 := sI hv38
      subst hv38
      exact fS [(100, 100), (101, 101), (102, 102)] [1, 2, 3]
     refine wI 41 hc39 ?_
     refine wR 8 103 ?_
     have hv38 := sI hv38
     subst hv38
     exact fS [(100, 100), (101, 101), (102, 102)] [1, 2, 3]
     ) ?_
    refine CO.join (fun (⟨y17, a0, y18⟩ : (Bool × SNode × Int)) => ⟨tl 64 [(2, .loc 100 0), (3, .loc 101 0)], [(100, .cells 114 [V.b false, V.b false, V.b false, V.i 0, V.i 0]), (101, .cells 114 [V.b y17, V.b (a0.Text == []), V.b (a0.Other == []), V.i y18, V.i 0])]⟩) (fun i => mi_itemForm_k4 N i = some r) ?_ ?_
    · rintro ⟨y17, a0, y18⟩ h41
      rw [mi_itemForm_k4] at h41
      refine cE 4 103 (tl 64 [(2, .loc 100 0), (3, .loc 101 0)]) [(101, .cells 114 [V.b y17, V.b (a0.Text == []), V.b (a0.Other == []), V.i y18, V.i y18]), (100, .cells 114 [V.b false, V.b false, V.b false, V.i 0, V.i 0])] (fun st hw => ?_)
      exact hk25 (a0, y17, (a0.Text == []), y18, y18) h41 _ (hw.trans (wS [(100, 100), (101, 101)] [2, 3]))
    intro hk42
    refine cU 3 103 (tl 64 [(2, .loc 101 0), (3, .loc 102 0), (50, V.b (a0.Op == 3))]) [(101, .cells 114 [V.b false, V.b false, V.b false, V.i 0, V.i 0]), (102, .cells 114 [V.b y17, V.b (a0.Text == []), V.b (a0.Other == []), V.i 2, V.i 0])] ?_
    refine bC h27 (fun hc43 h27 => ?_) (fun hc43 h27 => ?_)
    ·refine iT hc43 ?_
     refine cE 2 103 (tl 64 [(2, .loc 101 0), (3, .loc 102 0)]) [(102, .cells 114 [V.b y17, V.b (a0.Text == []), V.b (a0.Other == []), V.i 3, V.i 0]), (101, .cells 114 [V.b false, V.b false, V.b false, V.i 0, V.i 0])] (fun st hw => ?_)
     exact hk42 (y17, a0, 3) h27 _ (hw.trans (wS [(101, 100), (102, 101)] [2, 3]))
    refine iF hc43 ?_
    refine CO.skip ?_
    exact hk42 (y17, a0, 2) h27 _ (wS [(101, 100), (102, 101)] [2, 3])
   refine iF hc36 ?_
   refine cU 2 103 (tl 64 [(1, .loc 100 0), (2, .loc 101 0), (3, .loc 102 0), (55, V.b (a0.Kind == 44))]) [(100, .cells 48 [V.i a0.Kind, V.i a0.Op, V.s a0.Text, V.s a0.Other, .sl false false (a0.Kids.map encI)]), (101, .cells 114 [V.b false, V.b false, V.b false, V.i 0, V.i 0]), (102, .cells 114 [V.b (a0.Op == 0), V.b (a0.Text == []), V.b (a0.Other == []), V.i 0, V.i 0])] ?_
   refine bC h27 (fun hc44 h27 => ?_) (fun hc44 h27 => ?_)
   ·refine iT hc44 ?_
    refine bB h27 fun r20 hx46 h27 => ?_
    refine CO.endR (tl 64 [(2, .loc 101 0), (3, .loc 102 0)]) [(102, .cells 114 [V.b (a0.Op == 0), V.b r20, V.b (a0.Other == []), V.i 1, V.i 7]), (101, .cells 114 [V.b false, V.b false, V.b false, V.i 0, V.i 0])] mix (by
     refine wR 2 103 ?_
     refine W.call0 (mi_NameOk_ok N a0.Text hx46) cok120 rfl (by kernel_rfl) ?_
     refine wR 6 103 ?_
     exact fI
     ) (fun st hw => ?_)
    exact hk25 (a0, (a0.Op == 0), r20, 1, 7) h27 _ (hw.trans (wS [(101, 100), (102, 101)] [2, 3]))
   refine iF hc44 ?_
   refine cE 2 103 (tl 64 [(2, .loc 101 0), (3, .loc 102 0)]) [(102, .cells 114 [V.b (a0.Op == 0), V.b (a0.Text == []), V.b (a0.Other == []), V.i 0, V.i 400]), (101, .cells 114 [V.b false, V.b false, V.b false, V.i 0, V.i 0])] (fun st hw => ?_)
   exact hk25 (a0, (a0.Op == 0), (a0.Text == []), 0, 400) h27 _ (hw.trans (wS [(101, 100), (102, 101)] [2, 3]))
 intro hk47
 refine cU 2 103 (tl 64 [(1, .loc 100 0), (2, .loc 101 0), (3, .loc 102 0), (15, V.i a0.Kind), (17, V.b (a0.Kind == 40))]) [(102, .cells 114 [V.b (a0.Op == 0), V.b (a0.Text == []), V.b (a0.Other == []), V.i 0, V.i 0]), (101, .cells 114 [V.b false, V.b false, V.b false, V.i 0, V.i 0]), (100, .cells 48 [V.i a0.Kind, V.i a0.Op, V.s a0.Text, V.s a0.Other, .sl false false (a0.Kids.map encI)])] ?_
 refine bC h (fun hc48 h => ?_) (fun hc48 h => ?_)
 ·refine iT hc48 ?_
  refine CO.skip ?_
  exact hk47 (a0, (a0.Kind == 40)) h _ (wS [(100, 100), (101, 101), (102, 102)] [1, 2, 3, 15, 17])
 refine iF hc48 ?_
 refine cE 2 103 (tl 64 [(1, .loc 100 0), (2, .loc 101 0), (3, .loc 102 0), (15, V.i a0.Kind), (17, V.b (a0.Kind == 41))]) [(102, .cells 114 [V.b (a0.Op == 0), V.b (a0.Text == []), V.b (a0.Other == []), V.i 0, V.i 0]), (101, .cells 114 [V.b false, V.b false, V.b false, V.i 0, V.i 0]), (100, .cells 48 [V.i a0.Kind, V.i a0.Op, V.s a0.Text, V.s a0.Other, .sl false false (a0.Kids.map encI)])] (fun st hw => ?_)
 exact hk47 (a0, (a0.Kind == 41)) h _ (hw.trans (wS [(100, 100), (101, 101), (102, 102)] [1, 2, 3, 15, 17]))

theorem mi_FieldsOk_ok (N : Nat) (a0 : SNode) {r : Bool} (h : mi_FieldsOk N a0 = some r) :
    AC Tryz.prog (GS [0, 1, 2]) 76 [.agg [V.i a0.Kind, V.i a0.Op, V.s a0.Text, V.s a0.Other, .sl false false (a0.Kids.map encI)]] [] (V.b r) [] := by
 rw [mi_FieldsOk] at h
 refine AC.enter Tryz.func76 rfl ?_
 refine cU 2 100 (tl 61 [(1, .loc 100 0)]) [(100, .cells 48 [V.i a0.Kind, V.i a0.Op, V.s a0.Text, V.s a0.Other, .sl false false (a0.Kids.map encI)])] ?_
 refine cU 3 101 (tl 61 [(1, .loc 100 0), (3, .loc 101 0)]) [(101, .cells 114 [V.b false, V.b false, V.b false, V.i 0, V.i 0]), (100, .cells 48 [V.i a0.Kind, V.i a0.Op, V.s a0.Text, V.s a0.Other, .sl false false (a0.Kids.map encI)])] ?_
 refine CO.join (fun (⟨a0, y13, y14, y15, y16, y17⟩ : (SNode × Bool × Bool × Bool × Int × Int)) => ⟨tl 61 [(1, .loc 100 0), (3, .loc 101 0)], [(100, .cells 48 [V.i a0.Kind, V.i a0.Op, V.s a0.Text, V.s a0.Other, .sl false false (a0.Kids.map encI)]), (101, .cells 114 [V.b y13, V.b y14, V.b y15, V.i y16, V.i y17])]⟩) (fun i => mi_FieldsOk_k1 N i = some r) ?_ ?_
 · rintro ⟨a0, y13, y14, y15, y16, y17⟩ h17
   rw [mi_FieldsOk_k1] at h17
   refine bB h17 fun y19 hv22 h17 => ?_
   refine CO.cutR (tl 61 [(2, V.b y19)]) [] mix (by
    refine wR 3 102 ?_
    refine bC hv22 (fun hc23 hv22 => ?_) (fun hc23 hv22 => ?_)
    ·refine wI 43 hc23 ?_
     refine wR 4 102 ?_
     refine bC hv22 (fun hc24 hv22 => ?_) (fun hc24 hv22 => ?_)
     ·refine wI 47 hc24 ?_
      refine wR 4 102 ?_
      refine bC hv22 (fun hc25 hv22 => ?_) (fun hc25 hv22 => ?_)
      ·refine wI 51 hc25 ?_
       refine wR 2 102 ?_
       refine W.len Dk encI a0.Kids [] (by kernel_rfl) (by kernel_rfl) ?_
       refine wR 4 102 ?_
       refine bB hv22 fun r20 hx26 hv22 => ?_
       refine W.call0 (AC.gs (mi_within_ok (a0.Kids.length : Int) y16 y17 hx26) (by decide)) cok55 rfl (by kernel_rfl) ?_
       refine wR 2 102 ?_
       have hv22 := sI hv22
       subst hv22
       exact fS [] [2]
      refine wI 51 hc25 ?_
      refine wR 10 102 ?_
      have hv22 := sI hv22
      subst hv22
      exact fS [] [2]
     refine wI 47 hc24 ?_
     refine wR 14 102 ?_
     have hv22 := sI hv22
     subst hv22
     exact fS [] [2]
    refine wI 43 hc23 ?_
    refine wR 18 102 ?_
    have hv22 := sI hv22
    subst hv22
    exact fS [] [2]
    ) ?_
   refine CO.ret ?_
   have h17 := sI h17
   subst h17
   exact eG [] (.inr rfl) (RetV.one rfl (oT (t := 2) (r := V.b y19)))
 intro hk27
 refine CO.block' ?_
 refine bB h fun r22 hx29 h => ?_
 refine CO.cutR (tl 61 [(1, .loc 100 0), (3, .loc 101 0), (5, V.b r22)]) [(101, .cells 114 [V.b false, V.b false, V.b false, V.i 0, V.i 0]), (100, .cells 48 [V.i a0.Kind, V.i a0.Op, V.s a0.Text, V.s a0.Other, .sl false false (a0.Kids.map encI)])] mix (by
  refine wR 2 102 ?_
  refine W.call0 (AC.gs (mi_IsExpr_ok a0.Kind hx29) (by decide)) cok46 rfl (by kernel_rfl) ?_
  refine wR 1 102 ?_
  exact fI
  ) ?_
 refine bC h (fun hc30 h => ?_) (fun hc30 h => ?_)
 ·refine iT hc30 ?_
  refine bB h fun r24 hx32 h => ?_
  refine CO.cutR (tl 61 [(1, .loc 100 0), (3, .loc 101 0)]) [(101, .cells 114 [V.b r24.op, V.b r24.text, V.b r24.other, V.i r24.least, V.i r24.most]), (100, .cells 48 [V.i a0.Kind, V.i a0.Op, V.s a0.Text, V.s a0.Other, .sl false false (a0.Kids.map encI)])] mix (by
   refine wR 1 102 ?_
   refine W.call0 (mi_exprForm_ok N a0 hx32) cok105 rfl (by kernel_rfl) ?_
   refine wR 1 102 ?_
   exact fI
   ) ?_
  refine cE 5 102 (tl 61 [(1, .loc 100 0), (3, .loc 101 0)]) [(101, .cells 114 [V.b r24.op, V.b r24.text, V.b (a0.Other == []), V.i r24.least, V.i r24.most]), (100, .cells 48 [V.i a0.Kind, V.i a0.Op, V.s a0.Text, V.s a0.Other, .sl false false (a0.Kids.map encI)])] (fun st hw => ?_)
  exact hk27 (a0, r24.op, r24.text, (a0.Other == []), r24.least, r24.most) h _ (hw.trans (wS [(100, 100), (101, 101)] [1, 3]))
 refine iF hc30 ?_
 refine cU 4 102 (tl 61 [(1, .loc 100 0), (3, .loc 101 0), (15, V.b (a0.Kind == 16))]) [(101, .cells 114 [V.b false, V.b false, V.b false, V.i 0, V.i 0]), (100, .cells 48 [V.i a0.Kind, V.i a0.Op, V.s a0.Text, V.s a0.Other, .sl false false (a0.Kids.map encI)])] ?_
 refine bC h (fun hc33 h => ?_) (fun hc33 h => ?_)
 ·refine iT hc33 ?_
  refine cE 11 102 (tl 61 [(1, .loc 100 0), (3, .loc 101 0)]) [(101, .cells 114 [V.b (a0.Op == 0), V.b (a0.Text == []), V.b (a0.Other == []), V.i 0, V.i 0]), (100, .cells 48 [V.i a0.Kind, V.i a0.Op, V.s a0.Text, V.s a0.Other, .sl false false (a0.Kids.map encI)])] (fun st hw => ?_)
  exact hk27 (a0, (a0.Op == 0), (a0.Text == []), (a0.Other == []), 0, 0) h _ (hw.trans (wS [(100, 100), (101, 101)] [1, 3]))
 refine iF hc33 ?_
 refine bB h fun r26 hx35 h => ?_
 refine CO.cutR (tl 61 [(1, .loc 100 0), (3, .loc 101 0), (29, V.b r26)]) [(101, .cells 114 [V.b false, V.b false, V.b false, V.i 0, V.i 0]), (100, .cells 48 [V.i a0.Kind, V.i a0.Op, V.s a0.Text, V.s a0.Other, .sl false false (a0.Kids.map encI)])] mix (by
  refine wR 2 102 ?_
  refine W.call0 (AC.gs (mi_IsStmt_ok a0.Kind hx35) (by decide)) cok106 rfl (by kernel_rfl) ?_
  refine wR 1 102 ?_
  exact fI
  ) ?_
 refine bC h (fun hc36 h => ?_) (fun hc36 h => ?_)
 ·refine iT hc36 ?_
  refine bB h fun r28 hx38 h => ?_
  refine CO.endR (tl 61 [(1, .loc 100 0), (3, .loc 101 0)]) [(101, .cells 114 [V.b r28.op, V.b r28.text, V.b r28.other, V.i r28.least, V.i r28.most]), (100, .cells 48 [V.i a0.Kind, V.i a0.Op, V.s a0.Text, V.s a0.Other, .sl false false (a0.Kids.map encI)])] mix (by
   refine wR 1 102 ?_
   refine W.call0 (mi_stmtForm_ok N a0 hx38) cok107 rfl (by kernel_rfl) ?_
   refine wR 1 102 ?_
   exact fI
   ) (fun st hw => ?_)
  exact hk27 (a0, r28.op, r28.text, r28.other, r28.least, r28.most) h _ (hw.trans (wS [(100, 100), (101, 101)] [1, 3]))
 refine iF hc36 ?_
 refine bB h fun r30 hx40 h => ?_
 refine CO.cutR (tl 61 [(1, .loc 100 0), (3, .loc 101 0), (35, V.b r30)]) [(101, .cells 114 [V.b false, V.b false, V.b false, V.i 0, V.i 0]), (100, .cells 48 [V.i a0.Kind, V.i a0.Op, V.s a0.Text, V.s a0.Other, .sl false false (a0.Kids.map encI)])] mix (by
  refine wR 2 102 ?_
  refine W.call0 (AC.gs (mi_within_ok a0.Kind 40 45 hx40) (by decide)) cok55 rfl (by kernel_rfl) ?_
  refine wR 1 102 ?_
  exact fI
  ) ?_
 refine bC h (fun hc41 h => ?_) (fun hc41 h => ?_)
 ·refine iT hc41 ?_
  refine bB h fun r32 hx43 h => ?_
  refine CO.endR (tl 61 [(1, .loc 100 0), (3, .loc 101 0)]) [(101, .cells 114 [V.b r32.op, V.b r32.text, V.b r32.other, V.i r32.least, V.i r32.most]), (100, .cells 48 [V.i a0.Kind, V.i a0.Op, V.s a0.Text, V.s a0.Other, .sl false false (a0.Kids.map encI)])] mix (by
   refine wR 1 102 ?_
   refine W.call0 (AC.gs (mi_itemForm_ok N a0 hx43) (by decide)) cok108 rfl (by kernel_rfl) ?_
   refine wR 1 102 ?_
   exact fI
   ) (fun st hw => ?_)
  exact hk27 (a0, r32.op, r32.text, r32.other, r32.least, r32.most) h _ (hw.trans (wS [(100, 100), (101, 101)] [1, 3]))
 refine iF hc41 ?_
 refine cU 1 102 (tl 61 [(2, V.b false)]) [] ?_
 refine CO.ret ?_
 have h := sI h
 subst h
 exact eG [] (.inr rfl) (RetV.one rfl (oT (t := 2) (r := V.b false)))

theorem mi_IsLvalue_ok (a0 : Int) {r : Bool} (h : mi_IsLvalue a0 = some r) :
    AC Tryz.prog (GS []) 109 [V.i a0] [] (V.b r) [] := by
 rw [mi_IsLvalue] at h
 refine AC.enter Tryz.func109 rfl ?_
 refine cU 1 100 (tl 13 [(0, V.i a0)]) [] ?_
 refine bB h fun y1 hv3 h => ?_
 refine CO.cutR (tl 13 [(2, V.b y1)]) [] mix (by
  refine wR 3 100 ?_
  refine bC hv3 (fun hc4 hv3 => ?_) (fun hc4 hv3 => ?_)
  ·refine wI 5 hc4 ?_
   refine wR 8 100 ?_
   have hv3 := sI hv3
   subst hv3
   exact fS [] [2]
  refine wI 5 hc4 ?_
  refine wR 4 100 ?_
  refine bC hv3 (fun hc5 hv3 => ?_) (fun hc5 hv3 => ?_)
  ·refine wI 9 hc5 ?_
   refine wR 4 100 ?_
   have hv3 := sI hv3
   subst hv3
   exact fS [] [2]
  refine wI 9 hc5 ?_
  refine wR 4 100 ?_
  have hv3 := sI hv3
  subst hv3
  exact fS [] [2]
  ) ?_
 refine CO.ret ?_
 have h := sI h
 subst h
 exact eG [] (.inr rfl) (RetV.one rfl (oT (t := 2) (r := V.b y1)))

theorem mi_isItem_ok (a0 : Int) {r : Bool} (h : mi_isItem a0 = some r) :
    AC Tryz.prog (GS []) 110 [V.i a0] [] (V.b r) [] := by
 rw [mi_isItem] at h
 refine AC.enter Tryz.func110 rfl ?_
 refine cU 1 100 (tl 5 [(0, V.i a0)]) [] ?_
 refine bB h fun r2 hx2 h => ?_
 refine CO.cutR (tl 5 [(2, V.b r2)]) [] mix (by
  refine wR 1 100 ?_
  refine W.call0 (mi_within_ok a0 40 44 hx2) cok55 rfl (by kernel_rfl) ?_
  refine wR 1 100 ?_
  exact fI
  ) ?_
 refine CO.ret ?_
 have h := sI h
 subst h
 exact eG [] (.inr rfl) (RetV.one rfl (oT (t := 2) (r := V.b r2)))

theorem mi_kidOk_ok (a0 : SNode) (a1 : Int) (a2 : Int) {r : Bool} (h : mi_kidOk a0 a1 a2 = some r) :
    AC Tryz.prog (GS []) 77 [.agg [V.i a0.Kind, V.i a0.Op, V.s a0.Text, V.s a0.Other, .sl false false (a0.Kids.map encI)], V.i a1, V.i a2] [] (V.b r) [] := by
 rw [mi_kidOk] at h
 refine AC.enter Tryz.func77 rfl ?_
 refine cU 2 100 (tl 99 [(1, V.i a1), (2, V.i a2), (3, .loc 100 0)]) [(100, .cells 48 [V.i a0.Kind, V.i a0.Op, V.s a0.Text, V.s a0.Other, .sl false false (a0.Kids.map encI)])] ?_
 refine CO.cutR (tl 99 [(1, V.i a1), (2, V.i a2), (3, .loc 100 0), (7, V.b (a1 == (IntKind.wrap .i64 ((a0.Kids.length : Int) - 1))))]) [(100, .cells 48 [V.i a0.Kind, V.i a0.Op, V.s a0.Text, V.s a0.Other, .sl false false (a0.Kids.map encI)])] mix (by
  refine wR 3 101 ?_
  refine W.len Dk encI a0.Kids [] (by kernel_rfl) (by kernel_rfl) ?_
  refine wR 3 101 ?_
  exact fI
  ) ?_
 refine cU 1 101 (tl 99 [(1, V.i a1), (2, V.i a2), (3, .loc 100 0), (7, V.b (a1 == (IntKind.wrap .i64 ((a0.Kids.length : Int) - 1)))), (8, V.b false)]) [(100, .cells 48 [V.i a0.Kind, V.i a0.Op, V.s a0.Text, V.s a0.Other, .sl false false (a0.Kids.map encI)])] ?_
 refine CO.join (fun (⟨a2, y22⟩ : (Int × Bool)) => ⟨tl 99 [(2, V.i a2), (8, V.b y22)], []⟩) (fun i => mi_kidOk_k1 i = some r) ?_ ?_
 · rintro ⟨a2, y22⟩ h66
   rw [mi_kidOk_k1] at h66
   refine CO.seq' ?_
   refine cU 1 101 (tl 99 [(2, V.i a2), (94, V.b y22)]) [] ?_
   refine bC h66 (fun hc68 h66 => ?_) (fun hc68 h66 => ?_)
   ·refine iT hc68 ?_
    refine cU 3 101 (tl 99 [(6, V.b (a2 == 33))]) [] ?_
    refine CO.ret ?_
    have h66 := sI h66
    subst h66
    exact eG [] (.inr rfl) (RetV.one rfl (oT (t := 6) (r := V.b (a2 == 33))))
   refine iF hc68 ?_
   refine CO.skip ?_
   refine bB h66 fun r24 hx70 h66 => ?_
   refine CO.cutR (tl 99 [(6, V.b r24)]) [] mix (by
    refine wR 1 101 ?_
    refine W.call0 (mi_IsExpr_ok a2 hx70) cok46 rfl (by kernel_rfl) ?_
    refine wR 1 101 ?_
    exact fI
    ) ?_
   refine CO.ret ?_
   have h66 := sI h66
   subst h66
   exact eG [] (.inr rfl) (RetV.one rfl (oT (t := 6) (r := V.b r24)))
 intro hk71
 refine cU 2 101 (tl 99 [(1, V.i a1), (2, V.i a2), (3, .loc 100 0), (7, V.b (a1 == (IntKind.wrap .i64 ((a0.Kids.length : Int) - 1)))), (8, V.b false), (16, V.i a0.Kind)]) [(100, .cells 48 [V.i a0.Kind, V.i a0.Op, V.s a0.Text, V.s a0.Other, .sl false false (a0.Kids.map encI)])] ?_
 refine CO.block' ?_
 refine CO.join (fun (⟨a1, a2, a0, y25⟩ : (Int × Int × SNode × Bool)) => ⟨tl 99 [(1, V.i a1), (2, V.i a2), (3, .loc 100 0), (7, V.b (a1 == (IntKind.wrap .i64 ((a0.Kids.length : Int) - 1)))), (8, V.b false), (16, V.i a0.Kind), (17, V.b y25)], [(100, .cells 48 [V.i a0.Kind, V.i a0.Op, V.s a0.Text, V.s a0.Other, .sl false false (a0.Kids.map encI)])]⟩) (fun i => mi_kidOk_k2 i = some r) ?_ ?_
 · rintro ⟨a1, a2, a0, y25⟩ h73
   rw [mi_kidOk_k2] at h73
   refine bC h73 (fun hc74 h73 => ?_) (fun hc74 h73 => ?_)
   ·refine iT hc74 ?_
    refine bB h73 fun r27 hx76 h73 => ?_
    refine CO.cutR (tl 99 [(6, V.b r27)]) [] mix (by
     refine wR 1 101 ?_
     refine W.call0 (mi_IsLvalue_ok a2 hx76) cok109 rfl (by kernel_rfl) ?_
     refine wR 1 101 ?_
     exact fI
     ) ?_
    refine CO.ret ?_
    have h73 := sI h73
    subst h73
    exact eG [] (.inr rfl) (RetV.one rfl (oT (t := 6) (r := V.b r27)))
   refine iF hc74 ?_
   refine cU 2 101 (tl 99 [(1, V.i a1), (2, V.i a2), (3, .loc 100 0), (7, V.b (a1 == (IntKind.wrap .i64 ((a0.Kids.length : Int) - 1)))), (8, V.b false), (16, V.i a0.Kind), (22, V.b (a0.Kind == 15))]) [(100, .cells 48 [V.i a0.Kind, V.i a0.Op, V.s a0.Text, V.s a0.Other, .sl false false (a0.Kids.map encI)])] ?_
   refine bC h73 (fun hc77 h73 => ?_) (fun hc77 h73 => ?_)
   ·refine iT hc77 ?_
    refine bB h73 fun y31 hv85 h73 => ?_
    refine CO.cutR (tl 99 [(6, V.b y31)]) [] mix (by
     refine wR 3 101 ?_
     refine bC hv85 (fun hc86 hv85 => ?_) (fun hc86 hv85 => ?_)
     ·refine wI 26 hc86 ?_
      refine wR 1 101 ?_
      refine bB hv85 fun r32 hx87 hv85 => ?_
      refine W.call0 (mi_IsLvalue_ok a2 hx87) cok109 rfl (by kernel_rfl) ?_
      refine wR 2 101 ?_
      refine bC hv85 (fun hc88 hv85 => ?_) (fun hc88 hv85 => ?_)
      ·refine wI 30 hc88 ?_
       refine wR 8 101 ?_
       have hv85 := sI hv85
       subst hv85
       exact fS [] [6]
      refine wI 30 hc88 ?_
      refine wR 3 101 ?_
      refine bC hv85 (fun hc89 hv85 => ?_) (fun hc89 hv85 => ?_)
      ·refine wI 33 hc89 ?_
       refine wR 1 101 ?_
       refine bB hv85 fun r33 hx90 hv85 => ?_
       refine W.call0 (mi_IsExpr_ok a2 hx90) cok46 rfl (by kernel_rfl) ?_
       refine wR 3 101 ?_
       have hv85 := sI hv85
       subst hv85
       exact fS [] [6]
      refine wI 33 hc89 ?_
      refine wR 5 101 ?_
      have hv85 := sI hv85
      subst hv85
      exact fS [] [6]
     refine wI 26 hc86 ?_
     refine wR 7 101 ?_
     refine bC hv85 (fun hc91 hv85 => ?_) (fun hc91 hv85 => ?_)
     ·refine wI 33 hc91 ?_
      refine wR 1 101 ?_
      refine bB hv85 fun r34 hx92 hv85 => ?_
      refine W.call0 (mi_IsExpr_ok a2 hx92) cok46 rfl (by kernel_rfl) ?_
      refine wR 3 101 ?_
      have hv85 := sI hv85
      subst hv85
      exact fS [] [6]
     refine wI 33 hc91 ?_
     refine wR 5 101 ?_
     have hv85 := sI hv85
     subst hv85
     exact fS [] [6]
     ) ?_
    refine CO.ret ?_
    have h73 := sI h73
    subst h73
    exact eG [] (.inr rfl) (RetV.one rfl (oT (t := 6) (r := V.b y31)))
   refine iF hc77 ?_
   refine CO.join (fun (⟨a1, a2, a0, y35⟩ : (Int × Int × SNode × Bool)) => ⟨tl 99 [(1, V.i a1), (2, V.i a2), (3, .loc 100 0), (7, V.b (a1 == (IntKind.wrap .i64 ((a0.Kids.length : Int) - 1)))), (8, V.b false), (16, V.i a0.Kind), (38, V.b y35)], [(100, .cells 48 [V.i a0.Kind, V.i a0.Op, V.s a0.Text, V.s a0.Other, .sl false false (a0.Kids.map encI)])]⟩) (fun i => mi_kidOk_k3 i = some r) ?_ ?_
   · rintro ⟨a1, a2, a0, y35⟩ h94
     rw [mi_kidOk_k3] at h94
     refine bC h94 (fun hc95 h94 => ?_) (fun hc95 h94 => ?_)
     ·refine iT hc95 ?_
      refine cE 3 101 (tl 99 [(2, V.i a2), (8, V.b (decide (a1 > 0)))]) [] (fun st hw => ?_)
      exact hk71 (a2, (decide (a1 > 0))) h94 _ (hw.trans (wS [] [2, 8]))
     refine iF hc95 ?_
     refine cU 2 101 (tl 99 [(1, V.i a1), (2, V.i a2), (3, .loc 100 0), (7, V.b (a1 == (IntKind.wrap .i64 ((a0.Kids.length : Int) - 1)))), (8, V.b false), (16, V.i a0.Kind), (43, V.b (a0.Kind == 31))]) [(100, .cells 48 [V.i a0.Kind, V.i a0.Op, V.s a0.Text, V.s a0.Other, .sl false false (a0.Kids.map encI)])] ?_
     refine bC h94 (fun hc96 h94 => ?_) (fun hc96 h94 => ?_)
     ·refine iT hc96 ?_
      refine CO.seq' ?_
      refine bB h94 fun y37 hv102 h94 => ?_
      refine CO.cutR (tl 99 [(2, V.i a2), (7, V.b (a1 == (IntKind.wrap .i64 ((a0.Kids.length : Int) - 1)))), (50, V.b y37)]) [] mix (by
       refine wR 3 101 ?_
       refine bC hv102 (fun hc103 hv102 => ?_) (fun hc103 hv102 => ?_)
       ·refine wI 47 hc103 ?_
        refine wR 3 101 ?_
        have hv102 := sI hv102
        subst hv102
        exact fS [] [2, 7, 50]
       refine wI 47 hc103 ?_
       refine wR 3 101 ?_
       have hv102 := sI hv102
       subst hv102
       exact fS [] [2, 7, 50]
       ) ?_
      refine bC h94 (fun hc104 h94 => ?_) (fun hc104 h94 => ?_)
      ·refine iT hc104 ?_
       refine cU 1 101 (tl 99 [(6, V.b true)]) [] ?_
       refine CO.ret ?_
       have h94 := sI h94
       subst h94
       exact eG [] (.inr rfl) (RetV.one rfl (oT (t := 6) (r := V.b true)))
      refine iF hc104 ?_
      refine CO.skip ?_
      refine cE 2 101 (tl 99 [(2, V.i a2), (8, V.b (a1 == (IntKind.wrap .i64 ((a0.Kids.length : Int) - 1))))]) [] (fun st hw => ?_)
      exact hk71 (a2, (a1 == (IntKind.wrap .i64 ((a0.Kids.length : Int) - 1)))) h94 _ (hw.trans (wS [] [2, 8]))
     refine iF hc96 ?_
     refine cU 2 101 (tl 99 [(1, V.i a1), (2, V.i a2), (3, .loc 100 0), (7, V.b (a1 == (IntKind.wrap .i64 ((a0.Kids.length : Int) - 1)))), (8, V.b false), (16, V.i a0.Kind), (52, V.b (a0.Kind == 30))]) [(100, .cells 48 [V.i a0.Kind, V.i a0.Op, V.s a0.Text, V.s a0.Other, .sl false false (a0.Kids.map encI)])] ?_
     refine bC h94 (fun hc105 h94 => ?_) (fun hc105 h94 => ?_)
     ·refine iT hc105 ?_
      refine cE 3 101 (tl 99 [(2, V.i a2), (8, V.b (a1 == 0))]) [] (fun st hw => ?_)
      exact hk71 (a2, (a1 == 0)) h94 _ (hw.trans (wS [] [2, 8]))
     refine iF hc105 ?_
     refine CO.join (fun (⟨a2, a1, a0, y38⟩ : (Int × Int × SNode × Bool)) => ⟨tl 99 [(2, V.i a2), (3, .loc 100 0), (7, V.b (a1 == (IntKind.wrap .i64 ((a0.Kids.length : Int) - 1)))), (8, V.b false), (16, V.i a0.Kind), (56, V.b y38)], [(100, .cells 48 [V.i a0.Kind, V.i a0.Op, V.s a0.Text, V.s a0.Other, .sl false false (a0.Kids.map encI)])]⟩) (fun i => mi_kidOk_k4 i = some r) ?_ ?_
     · rintro ⟨a2, a1, a0, y38⟩ h108
       rw [mi_kidOk_k4] at h108
       refine bC h108 (fun hc109 h108 => ?_) (fun hc109 h108 => ?_)
       ·refine iT hc109 ?_
        refine cE 1 101 (tl 99 [(2, V.i a2), (8, V.b true)]) [] (fun st hw => ?_)
        exact hk71 (a2, true) h108 _ (hw.trans (wS [] [2, 8]))
       refine iF hc109 ?_
       refine cU 2 101 (tl 99 [(2, V.i a2), (3, .loc 100 0), (7, V.b (a1 == (IntKind.wrap .i64 ((a0.Kids.length : Int) - 1)))), (8, V.b false), (16, V.i a0.Kind), (60, V.b (a0.Kind == 33))]) [(100, .cells 48 [V.i a0.Kind, V.i a0.Op, V.s a0.Text, V.s a0.Other, .sl false false (a0.Kids.map encI)])] ?_
       refine bC h108 (fun hc110 h108 => ?_) (fun hc110 h108 => ?_)
       ·refine iT hc110 ?_
        refine bB h108 fun r40 hx112 h108 => ?_
        refine CO.cutR (tl 99 [(6, V.b r40)]) [] mix (by
         refine wR 1 101 ?_
         refine W.call0 (mi_IsStmt_ok a2 hx112) cok106 rfl (by kernel_rfl) ?_
         refine wR 1 101 ?_
         exact fI
         ) ?_
        refine CO.ret ?_
        have h108 := sI h108
        subst h108
        exact eG [] (.inr rfl) (RetV.one rfl (oT (t := 6) (r := V.b r40)))
       refine iF hc110 ?_
       refine cU 2 101 (tl 99 [(2, V.i a2), (3, .loc 100 0), (7, V.b (a1 == (IntKind.wrap .i64 ((a0.Kids.length : Int) - 1)))), (8, V.b false), (16, V.i a0.Kind), (64, V.b (a0.Kind == 42))]) [(100, .cells 48 [V.i a0.Kind, V.i a0.Op, V.s a0.Text, V.s a0.Other, .sl false false (a0.Kids.map encI)])] ?_
       refine bC h108 (fun hc113 h108 => ?_) (fun hc113 h108 => ?_)
       ·refine iT hc113 ?_
        refine bB h108 fun y41 hv115 h108 => ?_
        refine CO.endR (tl 99 [(2, V.i a2), (8, V.b y41)]) [] mix (by
         refine wR 2 101 ?_
         refine bC hv115 (fun hc116 hv115 => ?_) (fun hc116 hv115 => ?_)
         ·refine wI 67 hc116 ?_
          refine wR 5 101 ?_
          have hv115 := sI hv115
          subst hv115
          exact fS [] [2, 8]
         refine wI 67 hc116 ?_
         refine wR 5 101 ?_
         have hv115 := sI hv115
         subst hv115
         exact fS [] [2, 8]
         ) (fun st hw => ?_)
        exact hk71 (a2, y41) h108 _ (hw.trans (wS [] [2, 8]))
       refine iF hc113 ?_
       refine cU 2 101 (tl 99 [(2, V.i a2), (3, .loc 100 0), (7, V.b (a1 == (IntKind.wrap .i64 ((a0.Kids.length : Int) - 1)))), (8, V.b false), (16, V.i a0.Kind), (72, V.b (a0.Kind == 43))]) [(100, .cells 48 [V.i a0.Kind, V.i a0.Op, V.s a0.Text, V.s a0.Other, .sl false false (a0.Kids.map encI)])] ?_
       refine bC h108 (fun hc117 h108 => ?_) (fun hc117 h108 => ?_)
       ·refine iT hc117 ?_
        refine bB h108 fun y42 hv119 h108 => ?_
        refine CO.endR (tl 99 [(2, V.i a2), (8, V.b y42)]) [] mix (by
         refine wR 2 101 ?_
         refine bC hv119 (fun hc120 hv119 => ?_) (fun hc120 hv119 => ?_)
         ·refine wI 75 hc120 ?_
          refine wR 5 101 ?_
          have hv119 := sI hv119
          subst hv119
          exact fS [] [2, 8]
         refine wI 75 hc120 ?_
         refine wR 5 101 ?_
         have hv119 := sI hv119
         subst hv119
         exact fS [] [2, 8]
         ) (fun st hw => ?_)
        exact hk71 (a2, y42) h108 _ (hw.trans (wS [] [2, 8]))
       refine iF hc117 ?_
       refine cU 2 101 (tl 99 [(2, V.i a2), (7, V.b (a1 == (IntKind.wrap .i64 ((a0.Kids.length : Int) - 1)))), (8, V.b false), (16, V.i a0.Kind), (80, V.b (a0.Kind == 44))]) [] ?_
       refine bC h108 (fun hc121 h108 => ?_) (fun hc121 h108 => ?_)
       ·refine iT hc121 ?_
        refine CO.seq' ?_
        refine cU 2 101 (tl 99 [(2, V.i a2), (83, V.b (!(a1 == (IntKind.wrap .i64 ((a0.Kids.length : Int) - 1)))))]) [] ?_
        refine bC h108 (fun hc123 h108 => ?_) (fun hc123 h108 => ?_)
        ·refine iT hc123 ?_
         refine cU 3 101 (tl 99 [(6, V.b (a2 == 1))]) [] ?_
         refine CO.ret ?_
         have h108 := sI h108
         subst h108
         exact eG [] (.inr rfl) (RetV.one rfl (oT (t := 6) (r := V.b (a2 == 1))))
        refine iF hc123 ?_
        refine CO.skip ?_
        refine cE 1 101 (tl 99 [(2, V.i a2), (8, V.b true)]) [] (fun st hw => ?_)
        exact hk71 (a2, true) h108 _ (hw.trans (wS [] [2, 8]))
       refine iF hc121 ?_
       refine cU 2 101 (tl 99 [(2, V.i a2), (8, V.b false), (86, V.b (a0.Kind == 45))]) [] ?_
       refine bC h108 (fun hc124 h108 => ?_) (fun hc124 h108 => ?_)
       ·refine iT hc124 ?_
        refine bB h108 fun y44 hv127 h108 => ?_
        refine CO.cutR (tl 99 [(6, V.b y44)]) [] mix (by
         refine wR 1 101 ?_
         refine bB hv127 fun r45 hx128 hv127 => ?_
         refine W.call0 (mi_isItem_ok a2 hx128) cok110 rfl (by kernel_rfl) ?_
         refine wR 1 101 ?_
         refine bC hv127 (fun hc129 hv127 => ?_) (fun hc129 hv127 => ?_)
         ·refine wI 90 hc129 ?_
          refine wR 4 101 ?_
          have hv127 := sI hv127
          subst hv127
          exact fS [] [6]
         refine wI 90 hc129 ?_
         refine wR 4 101 ?_
         have hv127 := sI hv127
         subst hv127
         exact fS [] [6]
         ) ?_
        refine CO.ret ?_
        have h108 := sI h108
        subst h108
        exact eG [] (.inr rfl) (RetV.one rfl (oT (t := 6) (r := V.b y44)))
       refine iF hc124 ?_
       refine CO.skip ?_
       exact hk71 (a2, false) h108 _ (wS [] [2, 8])
     intro hk130
     refine cU 2 101 (tl 99 [(2, V.i a2), (3, .loc 100 0), (7, V.b (a1 == (IntKind.wrap .i64 ((a0.Kids.length : Int) - 1)))), (8, V.b false), (16, V.i a0.Kind), (56, V.b (a0.Kind == 32))]) [(100, .cells 48 [V.i a0.Kind, V.i a0.Op, V.s a0.Text, V.s a0.Other, .sl false false (a0.Kids.map encI)])] ?_
     refine bC h94 (fun hc131 h94 => ?_) (fun hc131 h94 => ?_)
     ·refine iT hc131 ?_
      refine CO.skip ?_
      exact hk130 (a2, a1, a0, (a0.Kind == 32)) h94 _ (wS [(100, 100)] [2, 3, 7, 8, 16, 56])
     refine iF hc131 ?_
     refine cU 2 101 (tl 99 [(2, V.i a2), (3, .loc 100 0), (7, V.b (a1 == (IntKind.wrap .i64 ((a0.Kids.length : Int) - 1)))), (8, V.b false), (16, V.i a0.Kind), (56, V.b (a0.Kind == 40))]) [(100, .cells 48 [V.i a0.Kind, V.i a0.Op, V.s a0.Text, V.s a0.Other, .sl false false (a0.Kids.map encI)])] ?_
     refine bC h94 (fun hc132 h94 => ?_) (fun hc132 h94 => ?_)
     ·refine iT hc132 ?_
      refine CO.skip ?_
      exact hk130 (a2, a1, a0, (a0.Kind == 40)) h94 _ (wS [(100, 100)] [2, 3, 7, 8, 16, 56])
     refine iF hc132 ?_
     refine cE 2 101 (tl 99 [(2, V.i a2), (3, .loc 100 0), (7, V.b (a1 == (IntKind.wrap .i64 ((a0.Kids.length : Int) - 1)))), (8, V.b false), (16, V.i a0.Kind), (56, V.b (a0.Kind == 41))]) [(100, .cells 48 [V.i a0.Kind, V.i a0.Op, V.s a0.Text, V.s a0.Other, .sl false false (a0.Kids.map encI)])] (fun st hw => ?_)
     exact hk130 (a2, a1, a0, (a0.Kind == 41)) h94 _ (hw.trans (wS [(100, 100)] [2, 3, 7, 8, 16, 56]))
   intro hk133
   refine cU 2 101 (tl 99 [(1, V.i a1), (2, V.i a2), (3, .loc 100 0), (7, V.b (a1 == (IntKind.wrap .i64 ((a0.Kids.length : Int) - 1)))), (8, V.b false), (16, V.i a0.Kind), (38, V.b (a0.Kind == 28))]) [(100, .cells 48 [V.i a0.Kind, V.i a0.Op, V.s a0.Text, V.s a0.Other, .sl false false (a0.Kids.map encI)])] ?_
   refine bC h73 (fun hc134 h73 => ?_) (fun hc134 h73 => ?_)
   ·refine iT hc134 ?_
    refine CO.skip ?_
    exact hk133 (a1, a2, a0, (a0.Kind == 28)) h73 _ (wS [(100, 100)] [1, 2, 3, 7, 8, 16, 38])
   refine iF hc134 ?_
   refine cE 2 101 (tl 99 [(1, V.i a1), (2, V.i a2), (3, .loc 100 0), (7, V.b (a1 == (IntKind.wrap .i64 ((a0.Kids.length : Int) - 1)))), (8, V.b false), (16, V.i a0.Kind), (38, V.b (a0.Kind == 29))]) [(100, .cells 48 [V.i a0.Kind, V.i a0.Op, V.s a0.Text, V.s a0.Other, .sl false false (a0.Kids.map encI)])] (fun st hw => ?_)
   exact hk133 (a1, a2, a0, (a0.Kind == 29)) h73 _ (hw.trans (wS [(100, 100)] [1, 2, 3, 7, 8, 16, 38]))
 intro hk135
 refine cU 2 101 (tl 99 [(1, V.i a1), (2, V.i a2), (3, .loc 100 0), (7, V.b (a1 == (IntKind.wrap .i64 ((a0.Kids.length : Int) - 1)))), (8, V.b false), (16, V.i a0.Kind), (17, V.b (a0.Kind == 9))]) [(100, .cells 48 [V.i a0.Kind, V.i a0.Op, V.s a0.Text, V.s a0.Other, .sl false false (a0.Kids.map encI)])] ?_
 refine bC h (fun hc136 h => ?_) (fun hc136 h => ?_)
 ·refine iT hc136 ?_
  refine CO.skip ?_
  exact hk135 (a1, a2, a0, (a0.Kind == 9)) h _ (wS [(100, 100)] [1, 2, 3, 7, 8, 16, 17])
 refine iF hc136 ?_
 refine cE 2 101 (tl 99 [(1, V.i a1), (2, V.i a2), (3, .loc 100 0), (7, V.b (a1 == (IntKind.wrap .i64 ((a0.Kids.length : Int) - 1)))), (8, V.b false), (16, V.i a0.Kind), (17, V.b (a0.Kind == 10))]) [(100, .cells 48 [V.i a0.Kind, V.i a0.Op, V.s a0.Text, V.s a0.Other, .sl false false (a0.Kids.map encI)])] (fun st hw => ?_)
 exact hk135 (a1, a2, a0, (a0.Kind == 10)) h _ (hw.trans (wS [(100, 100)] [1, 2, 3, 7, 8, 16, 17]))

structure RecOk4 (R : Rec4) : Prop where
  mi_treeAt : ∀ (a0 : List SNode) (a1 : Int) (r : STree), R.mi_treeAt a0 a1 = some r → AC Tryz.prog (GS []) 48 [.sl false false (a0.map (eSN false)), V.i a1] [] (.agg [V.i r.kind, V.i r.op, V.s r.text, V.s r.other, .sl false false (r.kids.map eST)]) []

theorem mi_treeAt_F_ok (N : Nat) (R : Rec4) (HR : RecOk4 R) (a0 : List SNode) (a1 : Int) {r : STree} (h : mi_treeAt_F N R a0 a1 = some r) :
    AC Tryz.prog (GS []) 48 [.sl false false (a0.map (eSN false)), V.i a1] [] (.agg [V.i r.kind, V.i r.op, V.s r.text, V.s r.other, .sl false false (r.kids.map eST)]) [] := by
 rw [mi_treeAt_F] at h
 refine AC.enter Tryz.func48 rfl ?_
 refine cU 1 100 (tl 39 [(0, .sl false false (a0.map (eSN false))), (1, V.i a1), (4, .loc 100 0)]) [(100, .cells 68 [V.i 0, V.i 0, V.s [], V.s [], .c (.slice none 0 0)])] ?_
 refine bB h fun e2 hx2 h => ?_
 refine CO.cutR (tl 39 [(0, .sl false false (a0.map (eSN false))), (4, .loc 100 0), (5, .loc 101 0)]) [(101, .cells 48 [V.i e2.Kind, V.i e2.Op, V.s e2.Text, V.s e2.Other, .sl false false (e2.Kids.map encI)]), (100, .cells 68 [V.i 0, V.i 0, V.s [], V.s [], .c (.slice none 0 0)])] mix (by
  refine wR 2 101 ?_
  refine W.ixD Dk (eSN false) hx2 5 (by kernel_rfl) (by kernel_rfl) ?_
  refine wR 3 101 ?_
  exact fI
  ) ?_
 refine cU 11 102 (tl 39 [(0, .sl false false (a0.map (eSN false))), (4, .loc 100 0), (5, .loc 101 0), (6, .loc 102 0)]) [(102, .cells 68 [V.i e2.Kind, V.i e2.Op, V.s e2.Text, V.s e2.Other, .c (.slice none 0 0)]), (101, .cells 48 [V.i e2.Kind, V.i e2.Op, V.s e2.Text, V.s e2.Other, .sl false false (e2.Kids.map encI)]), (100, .cells 68 [V.i 0, V.i 0, V.s [], V.s [], .c (.slice none 0 0)])] ?_
 refine CO.seq' ?_
 refine CO.cutR (tl 39 [(0, .sl false false (a0.map (eSN false))), (4, .loc 100 0), (6, .loc 102 0), (23, .sl false false (e2.Kids.map encI)), (24, V.i (e2.Kids.length : Int)), (25, V.i 0)]) [(102, .cells 68 [V.i e2.Kind, V.i e2.Op, V.s e2.Text, V.s e2.Other, .c (.slice none 0 0)]), (100, .cells 68 [V.i 0, V.i 0, V.s [], V.s [], .c (.slice none 0 0)])] mix (by
  refine wR 2 103 ?_
  refine W.len Dk encI e2.Kids [] (by kernel_rfl) (by kernel_rfl) ?_
  refine wR 1 103 ?_
  exact fI
  ) ?_
 refine CO.block' ?_
 refine CO.loopJ (fun (⟨a0, e2, y63, y64⟩ : ((List SNode) × SNode × Int × (List STree))) => ⟨tl 39 [(0, .sl false false (a0.map (eSN false))), (4, .loc 100 0), (6, .loc 101 0), (23, .sl false false (e2.Kids.map encI)), (24, V.i (e2.Kids.length : Int)), (25, V.i y63)], [(100, .cells 68 [V.i 0, V.i 0, V.s [], V.s [], .c (.slice none 0 0)]), (101, .cells 68 [V.i e2.Kind, V.i e2.Op, V.s e2.Text, V.s e2.Other, .own 102]), (102, .vec false 68 5 (y64.map eST))]⟩) (fun n i => mi_treeAt_l1 N R n i = some r) (n0 := N) (i0 := (a0, e2, 0, [])) ((Weak.nilCell 102 4 103 68 5 (ety := 68) (cs := [V.i e2.Kind, V.i e2.Op, V.s e2.Text, V.s e2.Other, .c (.slice none 0 0)]) (by kernel_rfl) (by kernel_rfl) (by kernel_rfl)).trans (wS [(100, 100), (102, 101), (103, 102)] [0, 4, 6, 23, 24, 25])) h (fun i h => by simp [mi_treeAt_l1] at h) ?_
 rintro n1 ⟨a0, e2, y63, y64⟩ h83 ih84
 rw [mi_treeAt_l1] at h83
 refine cU 1 168 (tl 39 [(0, .sl false false (a0.map (eSN false))), (4, .loc 100 0), (6, .loc 101 0), (23, .sl false false (e2.Kids.map encI)), (24, V.i (e2.Kids.length : Int)), (25, V.i y63), (26, V.b (decide (y63 < (e2.Kids.length : Int))))]) [(100, .cells 68 [V.i 0, V.i 0, V.s [], V.s [], .c (.slice none 0 0)]), (101, .cells 68 [V.i e2.Kind, V.i e2.Op, V.s e2.Text, V.s e2.Other, .own 102]), (102, .vec false 68 5 (y64.map eST))] ?_
 refine CO.seq' ?_
 refine bC h83 (fun hc86 h83 => ?_) (fun hc86 h83 => ?_)
 ·refine iT hc86 ?_
  refine CO.skip ?_
  refine CO.seq' ?_
  refine CO.block' ?_
  refine bB h83 fun e86 hx94 h83 => ?_
  refine CO.cutR (tl 39 [(0, .sl false false (a0.map (eSN false))), (4, .loc 100 0), (6, .loc 101 0), (8, V.i e86), (23, .sl false false (e2.Kids.map encI)), (24, V.i (e2.Kids.length : Int)), (25, V.i y63)]) [(100, .cells 68 [V.i 0, V.i 0, V.s [], V.s [], .c (.slice none 0 0)]), (101, .cells 68 [V.i e2.Kind, V.i e2.Op, V.s e2.Text, V.s e2.Other, .own 102]), (102, .vec false 68 5 (y64.map eST))] mix (by
   refine W.ixD Dk encI hx94 1 (by kernel_rfl) (by kernel_rfl) ?_
   refine wR 2 168 ?_
   exact fI
   ) ?_
  refine bB h83 fun r89 hx97 h83 => ?_
  refine bB h83 fun x90 hx98 h83 => ?_
  refine CO.endR (tl 39 [(0, .sl false false (a0.map (eSN false))), (4, .loc 100 0), (6, .loc 101 0), (23, .sl false false (e2.Kids.map encI)), (24, V.i (e2.Kids.length : Int)), (25, V.i y63)]) [(101, .cells 68 [V.i e2.Kind, V.i e2.Op, V.s e2.Text, V.s e2.Other, .own 169]), (169, .vec false 68 5 (x90.map eST)), (100, .cells 68 [V.i 0, V.i 0, V.s [], V.s [], .c (.slice none 0 0)])] mix (by
   refine wR 4 168 ?_
   refine W.call0 (HR.mi_treeAt a0 e86 _ hx97) cok48 rfl (by kernel_rfl) ?_
   refine W.layop Dk (show LayOk _ [] from trivial) (by kernel_rfl) 168 { v := .own 168, R := [], new := [(168, .vec true 68 5 [[V.i r89.kind, V.i r89.op, V.s r89.text, V.s r89.other, .sl false false (r89.kids.map eST)]])], N := [168] } (by kernel_rfl) ?_
   refine W.vecEq 168 (nn := true) (e := 68) (k := 5) (rows := [[V.i r89.kind, V.i r89.op, V.s r89.text, V.s r89.other, .sl false false (r89.kids.map eST)]]) (rows' := [r89].map eST) (by kernel_rfl) (by simp only [List.map_cons, List.map_nil, encSTree_eq]) ?_
   refine W.appO Dk eST (a := 102) (c := 168) (el := 68) (sz := 5) 72 hx98 rfl 169 (by kernel_rfl) ?_
   refine wR 2 170 ?_
   exact fI
   ) (fun st hw => ?_)
  refine CO.weak hw ?_
  refine cE 2 170 (tl 39 [(0, .sl false false (a0.map (eSN false))), (4, .loc 100 0), (6, .loc 101 0), (23, .sl false false (e2.Kids.map encI)), (24, V.i (e2.Kids.length : Int)), (25, V.i (IntKind.wrap .i64 (y63 + 1)))]) [(101, .cells 68 [V.i e2.Kind, V.i e2.Op, V.s e2.Text, V.s e2.Other, .own 169]), (169, .vec false 68 5 (x90.map eST)), (100, .cells 68 [V.i 0, V.i 0, V.s [], V.s [], .c (.slice none 0 0)])] (fun st hw => ?_)
  exact ih84 (a0, e2, (IntKind.wrap .i64 (y63 + 1)), x90) h83 _ (hw.trans (wS [(100, 100), (101, 101), (169, 102)] [0, 4, 6, 23, 24, 25]))
 refine iF hc86 ?_
 refine CO.exit ?_
 refine cU 2 168 (tl 39 [(4, .loc 100 0)]) [(100, .cells 68 [V.i e2.Kind, V.i e2.Op, V.s e2.Text, V.s e2.Other, .own 102]), (102, .vec false 68 5 (y64.map eST))] ?_
 refine CO.lay (tl 39 [(4, .loc 100 0)]) [(100, .cells 68 [V.i e2.Kind, V.i e2.Op, V.s e2.Text, V.s e2.Other, .sl false false (y64.map eST)])] (LayOk.cons (j := 102) eST eST y64 (by kernel_rfl) (share_encSTree) (show LayOk _ [] from trivial)) (by kernel_rfl) (by kernel_rfl) (by kernel_rfl) ?_
 refine CO.ret ?_
 have h83 := sI h83
 subst h83
 exact eG [] (.inr rfl) (RetV.one rfl (OneR.cell Dk (r := .agg [V.i e2.Kind, V.i e2.Op, V.s e2.Text, V.s e2.Other, .sl false false (y64.map eST)]) (i := 100) (ety := 68) (cs := [V.i e2.Kind, V.i e2.Op, V.s e2.Text, V.s e2.Other, .sl false false (y64.map eST)]) (by kernel_rfl) (by kernel_rfl) (by kernel_rfl)))

theorem scc4_ok : ∀ N, RecOk4 (scc4 N)
  | 0 => ⟨fun _ _ _ h => (by cases h)⟩
  | N + 1 => ⟨fun a0 a1 _ h => mi_treeAt_F_ok N (scc4 N) (scc4_ok N) a0 a1 h⟩

theorem mi_treeAt_ok (N : Nat) (a0 : List SNode) (a1 : Int) {r : STree} (h : mi_treeAt N a0 a1 = some r) :
    AC Tryz.prog (GS []) 48 [.sl false false (a0.map (eSN false)), V.i a1] [] (.agg [V.i r.kind, V.i r.op, V.s r.text, V.s r.other, .sl false false (r.kids.map eST)]) [] :=
  (scc4_ok N).mi_treeAt a0 a1 r h

theorem mi_rootOf_ok (N : Nat) (a0 : List SNode) {r : STree} (h : mi_rootOf N a0 = some r) :
    AC Tryz.prog (GS []) 45 [.sl false false (a0.map (eSN false))] [] (.agg [V.i r.kind, V.i r.op, V.s r.text, V.s r.other, .sl false false (r.kids.map eST)]) [] := by
 rw [mi_rootOf] at h
 refine AC.enter Tryz.func45 rfl ?_
 refine cU 1 100 (tl 8 [(0, .sl false false (a0.map (eSN false))), (2, .loc 100 0)]) [(100, .cells 68 [V.i 0, V.i 0, V.s [], V.s [], .c (.slice none 0 0)])] ?_
 refine bB h fun r2 hx2 h => ?_
 refine CO.cutR (tl 8 [(2, .loc 100 0)]) [(100, .cells 68 [V.i r2.kind, V.i r2.op, V.s r2.text, V.s r2.other, .sl false false (r2.kids.map eST)])] mix (by
  refine wR 2 101 ?_
  refine W.len Dk (eSN false) a0 [] (by kernel_rfl) (by kernel_rfl) ?_
  refine wR 1 101 ?_
  refine W.call0 (mi_treeAt_ok N a0 (IntKind.wrap .i64 ((a0.length : Int) - 1)) hx2) cok48 rfl (by kernel_rfl) ?_
  refine wR 1 101 ?_
  exact fI
  ) ?_
 refine CO.ret ?_
 have h := sI h
 subst h
 exact eG [] (.inr rfl) (RetV.one rfl (OneR.cell Dk (r := .agg [V.i r2.kind, V.i r2.op, V.s r2.text, V.s r2.other, .sl false false (r2.kids.map eST)]) (i := 100) (ety := 68) (cs := [V.i r2.kind, V.i r2.op, V.s r2.text, V.s r2.other, .sl false false (r2.kids.map eST)]) (by kernel_rfl) (by kernel_rfl) (by kernel_rfl)))

structure RecOk5 (R : Rec5) : Prop where
  mi_tree__depth : ∀ (a0 : STree) (r : Int), R.mi_tree__depth a0 = some r → AC Tryz.prog (GS []) 78 [.agg [V.i a0.kind, V.i a0.op, V.s a0.text, V.s a0.other, .sl false false (a0.kids.map eST)]] [] (V.i r) []

theorem mi_tree__depth_F_ok (N : Nat) (R : Rec5) (HR : RecOk5 R) (a0 : STree) {r : Int} (h : mi_tree__depth_F N R a0 = some r) :
    AC Tryz.prog (GS []) 78 [.agg [V.i a0.kind, V.i a0.op, V.s a0.text, V.s a0.other, .sl false false (a0.kids.map eST)]] [] (V.i r) [] := by
 rw [mi_tree__depth_F] at h
 refine AC.enter Tryz.func78 rfl ?_
 refine cU 2 100 (tl 20 [(1, .loc 100 0)]) [(100, .cells 68 [V.i a0.kind, V.i a0.op, V.s a0.text, V.s a0.other, .sl false false (a0.kids.map eST)])] ?_
 refine cU 1 101 (tl 20 [(1, .loc 100 0), (3, V.i 0)]) [(100, .cells 68 [V.i a0.kind, V.i a0.op, V.s a0.text, V.s a0.other, .sl false false (a0.kids.map eST)])] ?_
 refine CO.seq' ?_
 refine CO.cutR (tl 20 [(3, V.i 0), (7, .sl false false (a0.kids.map eST)), (8, V.i (a0.kids.length : Int)), (9, V.i 0)]) [] mix (by
  refine wR 2 101 ?_
  refine W.len Dk eST a0.kids [] (by kernel_rfl) (by kernel_rfl) ?_
  refine wR 1 101 ?_
  exact fI
  ) ?_
 refine CO.block' ?_
 refine CO.loopJ (fun (⟨a0, y37, y38⟩ : (STree × Int × Int)) => ⟨tl 20 [(3, V.i y37), (7, .sl false false (a0.kids.map eST)), (8, V.i (a0.kids.length : Int)), (9, V.i y38)], []⟩) (fun n i => mi_tree__depth_l1 N R n i = some r) (n0 := N) (i0 := (a0, 0, 0)) (wS [] [3, 7, 8, 9]) h (fun i h => by simp [mi_tree__depth_l1] at h) ?_
 rintro n1 ⟨a0, y37, y38⟩ h53 ih54
 rw [mi_tree__depth_l1] at h53
 refine cU 1 163 (tl 20 [(3, V.i y37), (7, .sl false false (a0.kids.map eST)), (8, V.i (a0.kids.length : Int)), (9, V.i y38), (10, V.b (decide (y38 < (a0.kids.length : Int))))]) [] ?_
 refine CO.seq' ?_
 refine bC h53 (fun hc56 h53 => ?_) (fun hc56 h53 => ?_)
 ·refine iT hc56 ?_
  refine CO.skip ?_
  refine CO.seq' ?_
  refine CO.block' ?_
  refine bB h53 fun e54 hx62 h53 => ?_
  refine CO.cutR (tl 20 [(3, V.i y37), (5, .loc 163 0), (7, .sl false false (a0.kids.map eST)), (8, V.i (a0.kids.length : Int)), (9, V.i y38)]) [(163, .cells 68 [V.i e54.kind, V.i e54.op, V.s e54.text, V.s e54.other, .sl false false (e54.kids.map eST)])] mix (by
   refine W.ixDr Dk eST hx62 5 (by kernel_rfl) (encSTree_eq e54) (by kernel_rfl) ?_
   refine wR 3 163 ?_
   exact fI
   ) ?_
  refine bB h53 fun r56 hx64 h53 => ?_
  refine CO.endR (tl 20 [(3, V.i (if r56 > y37 then r56 else y37)), (7, .sl false false (a0.kids.map eST)), (8, V.i (a0.kids.length : Int)), (9, V.i y38)]) [] mix (by
   refine wR 2 164 ?_
   refine W.call0 (HR.mi_tree__depth e54 _ hx64) cok78 rfl (by kernel_rfl) ?_
   refine wR 2 164 ?_
   exact fI
   ) (fun st hw => ?_)
  refine CO.weak hw ?_
  refine cE 2 164 (tl 20 [(3, V.i (if r56 > y37 then r56 else y37)), (7, .sl false false (a0.kids.map eST)), (8, V.i (a0.kids.length : Int)), (9, V.i (IntKind.wrap .i64 (y38 + 1)))]) [] (fun st hw => ?_)
  exact ih54 (a0, (if r56 > y37 then r56 else y37), (IntKind.wrap .i64 (y38 + 1))) h53 _ (hw.trans (wS [] [3, 7, 8, 9]))
 refine iF hc56 ?_
 refine CO.exit ?_
 refine cU 3 163 (tl 20 [(2, V.i (IntKind.wrap .i64 (y37 + 1)))]) [] ?_
 refine CO.ret ?_
 have h53 := sI h53
 subst h53
 exact eG [] (.inr rfl) (RetV.one rfl (oT (t := 2) (r := V.i (IntKind.wrap .i64 (y37 + 1)))))

theorem scc5_ok : ∀ N, RecOk5 (scc5 N)
  | 0 => ⟨fun _ _ h => (by cases h)⟩
  | N + 1 => ⟨fun a0 _ h => mi_tree__depth_F_ok N (scc5 N) (scc5_ok N) a0 h⟩

theorem mi_tree__depth_ok (N : Nat) (a0 : STree) {r : Int} (h : mi_tree__depth N a0 = some r) :
    AC Tryz.prog (GS []) 78 [.agg [V.i a0.kind, V.i a0.op, V.s a0.text, V.s a0.other, .sl false false (a0.kids.map eST)]] [] (V.i r) [] :=
  (scc5_ok N).mi_tree__depth a0 r h

theorem mi_TreeOk_ok (N : Nat) (a0 : List SNode) {r : Bool} (h : mi_TreeOk N a0 = some r) :
    AC Tryz.prog (GS [0, 1, 2]) 36 [.sl false false (a0.map (eSN false))] [] (V.b r) [] := by
 rw [mi_TreeOk] at h
 refine AC.enter Tryz.func36 rfl ?_
 refine cU 1 100 (tl 42 [(0, .sl false false (a0.map (eSN false)))]) [] ?_
 refine CO.seq' ?_
 refine bB h fun r4 hx5 h => ?_
 refine CO.cutR (tl 42 [(0, .sl false false (a0.map (eSN false))), (9, V.b (!r4))]) [] mix (by
  refine wR 1 100 ?_
  refine W.call0 (AC.gs (mi_ShapeOk_ok N a0 hx5) (by decide)) cok75 rfl (by kernel_rfl) ?_
  refine wR 1 100 ?_
  exact fI
  ) ?_
 refine bC h (fun hc6 h => ?_) (fun hc6 h => ?_)
 ·refine iT hc6 ?_
  refine cU 1 100 (tl 42 [(2, V.b false)]) [] ?_
  refine CO.ret ?_
  have h := sI h
  subst h
  exact eG [] (.inr rfl) (RetV.one rfl (oT (t := 2) (r := V.b false)))
 refine iF hc6 ?_
 refine CO.skip ?_
 refine CO.seq' ?_
 refine CO.cutR (tl 42 [(0, .sl false false (a0.map (eSN false))), (10, .sl false false (a0.map (eSN false))), (11, V.i (a0.length : Int)), (12, V.i 0)]) [] mix (by
  refine wR 1 100 ?_
  refine W.len Dk (eSN false) a0 [] (by kernel_rfl) (by kernel_rfl) ?_
  refine wR 1 100 ?_
  exact fI
  ) ?_
 refine CO.block' ?_
 refine CO.loopJ (fun (⟨a0, y359⟩ : ((List SNode) × Int)) => ⟨tl 42 [(0, .sl false false (a0.map (eSN false))), (10, .sl false false (a0.map (eSN false))), (11, V.i (a0.length : Int)), (12, V.i y359)], []⟩) (fun n i => mi_TreeOk_l1 N n i = some r) (n0 := N) (i0 := (a0, 0)) (wS [] [0, 10, 11, 12]) h (fun i h => by simp [mi_TreeOk_l1] at h) ?_
 rintro n1 ⟨a0, y359⟩ h599 ih600
 rw [mi_TreeOk_l1] at h599
 refine cU 1 282 (tl 42 [(0, .sl false false (a0.map (eSN false))), (10, .sl false false (a0.map (eSN false))), (11, V.i (a0.length : Int)), (12, V.i y359), (13, V.b (decide (y359 < (a0.length : Int))))]) [] ?_
 refine CO.seq' ?_
 refine bC h599 (fun hc602 h599 => ?_) (fun hc602 h599 => ?_)
 ·refine iT hc602 ?_
  refine CO.skip ?_
  refine CO.seq' ?_
  refine CO.block' ?_
  refine bB h599 fun e494 hx662 h599 => ?_
  refine CO.cutR (tl 42 [(0, .sl false false (a0.map (eSN false))), (4, .loc 282 0), (10, .sl false false (a0.map (eSN false))), (11, V.i (a0.length : Int)), (12, V.i y359)]) [(282, .cells 48 [V.i e494.Kind, V.i e494.Op, V.s e494.Text, V.s e494.Other, .sl false false (e494.Kids.map encI)])] mix (by
   refine W.ixD Dk (eSN false) hx662 5 (by kernel_rfl) (by kernel_rfl) ?_
   refine wR 3 282 ?_
   exact fI
   ) ?_
  refine CO.seq' ?_
  refine bB h599 fun r498 hx667 h599 => ?_
  refine CO.cutR (tl 42 [(0, .sl false false (a0.map (eSN false))), (4, .loc 282 0), (10, .sl false false (a0.map (eSN false))), (11, V.i (a0.length : Int)), (12, V.i y359), (18, V.b (!r498))]) [(282, .cells 48 [V.i e494.Kind, V.i e494.Op, V.s e494.Text, V.s e494.Other, .sl false false (e494.Kids.map encI)])] mix (by
   refine wR 1 283 ?_
   refine W.call0 (mi_FieldsOk_ok N e494 hx667) cok76 rfl (by kernel_rfl) ?_
   refine wR 1 283 ?_
   exact fI
   ) ?_
  refine bC h599 (fun hc668 h599 => ?_) (fun hc668 h599 => ?_)
  ·refine iT hc668 ?_
   refine cU 1 283 (tl 42 [(2, V.b false)]) [] ?_
   refine CO.ret ?_
   have h599 := sI h599
   subst h599
   exact eG [] (.inr rfl) (RetV.one rfl (oT (t := 2) (r := V.b false)))
  refine iF hc668 ?_
  refine CO.skip ?_
  refine CO.cutR (tl 42 [(0, .sl false false (a0.map (eSN false))), (4, .loc 282 0), (10, .sl false false (a0.map (eSN false))), (11, V.i (a0.length : Int)), (12, V.i y359), (20, .sl false false (e494.Kids.map encI)), (21, V.i (e494.Kids.length : Int)), (22, V.i 0)]) [(282, .cells 48 [V.i e494.Kind, V.i e494.Op, V.s e494.Text, V.s e494.Other, .sl false false (e494.Kids.map encI)])] mix (by
   refine wR 2 283 ?_
   refine W.len Dk encI e494.Kids [] (by kernel_rfl) (by kernel_rfl) ?_
   refine wR 1 283 ?_
   exact fI
   ) ?_
  refine CO.block' ?_
  refine CO.loopJ (fun (⟨a0, y359, e494, y511⟩ : ((List SNode) × Int × SNode × Int)) => ⟨tl 42 [(0, .sl false false (a0.map (eSN false))), (4, .loc 100 0), (10, .sl false false (a0.map (eSN false))), (11, V.i (a0.length : Int)), (12, V.i y359), (20, .sl false false (e494.Kids.map encI)), (21, V.i (e494.Kids.length : Int)), (22, V.i y511)], [(100, .cells 48 [V.i e494.Kind, V.i e494.Op, V.s e494.Text, V.s e494.Other, .sl false false (e494.Kids.map encI)])]⟩) (fun n i => mi_TreeOk_l2 N (mi_TreeOk_l1 N n1) n i = some r) (n0 := N) (i0 := (a0, y359, e494, 0)) (wS [(282, 100)] [0, 4, 10, 11, 12, 20, 21, 22]) h599 (fun i h => by simp [mi_TreeOk_l2] at h) ?_
  rintro n2 ⟨a0, y359, e494, y511⟩ h701 ih702
  rw [mi_TreeOk_l2] at h701
  refine cU 1 343 (tl 42 [(0, .sl false false (a0.map (eSN false))), (4, .loc 100 0), (10, .sl false false (a0.map (eSN false))), (11, V.i (a0.length : Int)), (12, V.i y359), (20, .sl false false (e494.Kids.map encI)), (21, V.i (e494.Kids.length : Int)), (22, V.i y511), (23, V.b (decide (y511 < (e494.Kids.length : Int))))]) [(100, .cells 48 [V.i e494.Kind, V.i e494.Op, V.s e494.Text, V.s e494.Other, .sl false false (e494.Kids.map encI)])] ?_
  refine CO.seq' ?_
  refine bC h701 (fun hc704 h701 => ?_) (fun hc704 h701 => ?_)
  ·refine iT hc704 ?_
   refine CO.skip ?_
   refine CO.seq' ?_
   refine CO.block' ?_
   refine bB h701 fun e532 hx713 h701 => ?_
   refine CO.cutR (tl 42 [(0, .sl false false (a0.map (eSN false))), (4, .loc 100 0), (5, V.i y511), (6, V.i e532), (10, .sl false false (a0.map (eSN false))), (11, V.i (a0.length : Int)), (12, V.i y359), (20, .sl false false (e494.Kids.map encI)), (21, V.i (e494.Kids.length : Int)), (22, V.i y511)]) [(100, .cells 48 [V.i e494.Kind, V.i e494.Op, V.s e494.Text, V.s e494.Other, .sl false false (e494.Kids.map encI)])] mix (by
    refine wR 1 343 ?_
    refine W.ixD Dk encI hx713 1 (by kernel_rfl) (by kernel_rfl) ?_
    refine wR 3 343 ?_
    exact fI
    ) ?_
   refine bB h701 fun e535 hx716 h701 => ?_
   refine bB h701 fun r536 hx717 h701 => ?_
   refine CO.cutR (tl 42 [(0, .sl false false (a0.map (eSN false))), (4, .loc 100 0), (10, .sl false false (a0.map (eSN false))), (11, V.i (a0.length : Int)), (12, V.i y359), (20, .sl false false (e494.Kids.map encI)), (21, V.i (e494.Kids.length : Int)), (22, V.i y511), (35, V.b (!r536))]) [(100, .cells 48 [V.i e494.Kind, V.i e494.Op, V.s e494.Text, V.s e494.Other, .sl false false (e494.Kids.map encI)])] mix (by
    refine wR 4 343 ?_
    refine W.ixD Dk (eSN false) hx716 5 (by kernel_rfl) (by kernel_rfl) ?_
    refine wR 2 343 ?_
    refine W.call0 (AC.gs (mi_kidOk_ok e494 y511 e535.Kind hx717) (by decide)) cok77 rfl (by kernel_rfl) ?_
    refine wR 1 343 ?_
    exact fI
    ) ?_
   refine bC h701 (fun hc718 h701 => ?_) (fun hc718 h701 => ?_)
   ·refine iT hc718 ?_
    refine cU 1 343 (tl 42 [(2, V.b false)]) [] ?_
    refine CO.ret ?_
    have h701 := sI h701
    subst h701
    exact eG [] (.inr rfl) (RetV.one rfl (oT (t := 2) (r := V.b false)))
   refine iF hc718 ?_
   refine CO.skip ?_
   refine cE 2 343 (tl 42 [(0, .sl false false (a0.map (eSN false))), (4, .loc 100 0), (10, .sl false false (a0.map (eSN false))), (11, V.i (a0.length : Int)), (12, V.i y359), (20, .sl false false (e494.Kids.map encI)), (21, V.i (e494.Kids.length : Int)), (22, V.i (IntKind.wrap .i64 (y511 + 1)))]) [(100, .cells 48 [V.i e494.Kind, V.i e494.Op, V.s e494.Text, V.s e494.Other, .sl false false (e494.Kids.map encI)])] (fun st hw => ?_)
   exact ih702 (a0, y359, e494, (IntKind.wrap .i64 (y511 + 1))) h701 _ (hw.trans (wS [(100, 100)] [0, 4, 10, 11, 12, 20, 21, 22]))
  refine iF hc704 ?_
  refine CO.exit ?_
  refine cE 2 343 (tl 42 [(0, .sl false false (a0.map (eSN false))), (10, .sl false false (a0.map (eSN false))), (11, V.i (a0.length : Int)), (12, V.i (IntKind.wrap .i64 (y359 + 1)))]) [] (fun st hw => ?_)
  exact ih600 (a0, (IntKind.wrap .i64 (y359 + 1))) h701 _ (hw.trans (wS [] [0, 10, 11, 12]))
 refine iF hc602 ?_
 refine CO.exit ?_
 refine bB h599 fun r539 hx721 h599 => ?_
 refine bB h599 fun r540 hx722 h599 => ?_
 refine CO.cutR (tl 42 [(2, V.b (decide (r540 ≤ 40)))]) [] mix (by
  refine wR 1 282 ?_
  refine W.call0 (AC.gs (mi_rootOf_ok N a0 hx721) (by decide)) cok45 rfl (by kernel_rfl) ?_
  refine W.call0 (AC.gs (mi_tree__depth_ok N r539 hx722) (by decide)) cok78 rfl (by kernel_rfl) ?_
  refine wR 2 282 ?_
  exact fI
  ) ?_
 refine CO.ret ?_
 have h599 := sI h599
 subst h599
 exact eG [] (.inr rfl) (RetV.one rfl (oT (t := 2) (r := V.b (decide (r540 ≤ 40)))))

theorem mi_ExprOk_ok (N : Nat) (a0 : List SNode) {r : Bool} (h : mi_ExprOk N a0 = some r) :
    AC Tryz.prog (GS [0, 1, 2]) 44 [.sl false false (a0.map (eSN false))] [] (V.b r) [] := by
 rw [mi_ExprOk] at h
 refine AC.enter Tryz.func44 rfl ?_
 refine cU 1 100 (tl 15 [(0, .sl false false (a0.map (eSN false)))]) [] ?_
 refine bB h fun y4 hv5 h => ?_
 refine CO.cutR (tl 15 [(2, V.b y4)]) [] mix (by
  refine wR 1 100 ?_
  refine bB hv5 fun r5 hx6 hv5 => ?_
  refine W.call0 (mi_TreeOk_ok N a0 hx6) cok36 rfl (by kernel_rfl) ?_
  refine wR 1 100 ?_
  refine bC hv5 (fun hc7 hv5 => ?_) (fun hc7 hv5 => ?_)
  ·refine wI 5 hc7 ?_
   refine wR 2 100 ?_
   refine W.len Dk (eSN false) a0 [] (by kernel_rfl) (by kernel_rfl) ?_
   refine wR 1 100 ?_
   refine bB hv5 fun e6 hx8 hv5 => ?_
   refine W.ixD Dk (eSN false) hx8 5 (by kernel_rfl) (by kernel_rfl) ?_
   refine wR 2 100 ?_
   refine bB hv5 fun r7 hx9 hv5 => ?_
   refine W.call0 (AC.gs (mi_IsExpr_ok e6.Kind hx9) (by decide)) cok46 rfl (by kernel_rfl) ?_
   refine wR 2 100 ?_
   have hv5 := sI hv5
   subst hv5
   exact fS [] [2]
  refine wI 5 hc7 ?_
  refine wR 10 100 ?_
  have hv5 := sI hv5
  subst hv5
  exact fS [] [2]
  ) ?_
 refine CO.ret ?_
 have h := sI h
 subst h
 exact eG [] (.inr rfl) (RetV.one rfl (oT (t := 2) (r := V.b y4)))

theorem mi_IsHole_ok (a0 : SNode) {r : Bool} (h : mi_IsHole a0 = some r) :
    AC Tryz.prog (GS []) 63 [.agg [V.i a0.Kind, V.i a0.Op, V.s a0.Text, V.s a0.Other, .sl false false (a0.Kids.map encI)]] [] (V.b r) [] := by
 rw [mi_IsHole] at h
 refine AC.enter Tryz.func63 rfl ?_
 refine cU 2 100 (tl 24 [(1, .loc 100 0)]) [(100, .cells 48 [V.i a0.Kind, V.i a0.Op, V.s a0.Text, V.s a0.Other, .sl false false (a0.Kids.map encI)])] ?_
 refine bB h fun y3 hv6 h => ?_
 refine CO.cutR (tl 24 [(2, V.b y3)]) [] mix (by
  refine wR 4 101 ?_
  refine bC hv6 (fun hc7 hv6 => ?_) (fun hc7 hv6 => ?_)
  ·refine wI 6 hc7 ?_
   refine wR 6 101 ?_
   refine bC hv6 (fun hc8 hv6 => ?_) (fun hc8 hv6 => ?_)
   ·refine wI 12 hc8 ?_
    refine wR 2 101 ?_
    refine bB hv6 fun b4 hx9 hv6 => ?_
    refine W.ixS Dk hx9 (by kernel_rfl) ?_
    refine wR 3 101 ?_
    refine bC hv6 (fun hc10 hv6 => ?_) (fun hc10 hv6 => ?_)
    ·refine wI 18 hc10 ?_
     refine wR 2 101 ?_
     refine bB hv6 fun b5 hx11 hv6 => ?_
     refine W.ixS Dk hx11 (by kernel_rfl) ?_
     refine wR 3 101 ?_
     have hv6 := sI hv6
     subst hv6
     exact fS [] [2]
    refine wI 18 hc10 ?_
    refine wR 6 101 ?_
    have hv6 := sI hv6
    subst hv6
    exact fS [] [2]
   refine wI 12 hc8 ?_
   refine wR 12 101 ?_
   have hv6 := sI hv6
   subst hv6
   exact fS [] [2]
  refine wI 6 hc7 ?_
  refine wR 18 101 ?_
  have hv6 := sI hv6
  subst hv6
  exact fS [] [2]
  ) ?_
 refine CO.ret ?_
 have h := sI h
 subst h
 exact eG [] (.inr rfl) (RetV.one rfl (oT (t := 2) (r := V.b y3)))

theorem m_slices_Clone_int_nil : AC Tryz.prog (GS []) 92 [.c (.slice none 0 0)] [] (.own 100) [(100, .vec false 3 1 (([] : List Int).map encI))] := by
  refine AC.enter Tryz.func92 rfl ?_
  refine CO.cutR (tl 8 [(0, .c (.slice none 0 0))]) [] mix (by
      refine wR 1 100 ?_
      exact W.fin (by decide) (by kernel_rfl) (wS [] [0])
      ) ?_
  refine CO.seq' ?_
  refine CO.cutR (tl 8 [(0, .c (.slice none 0 0)), (4, V.b true)]) [] mix (by
      refine wR 1 100 ?_
      refine W.nilEq Dk true (by kernel_rfl) ?_
      exact W.fin (by decide) (by kernel_rfl) (wS [] [0, 4])
      ) ?_
  refine CO.ifT (c := true) rfl (by kernel_rfl) ?_
  refine CO.cutR (tl 8 [(2, .c (.slice none 0 0))]) [] mix (by
      refine wR 1 100 ?_
      exact W.fin (by decide) (by kernel_rfl) (wS [] [2])
      ) ?_
  refine CO.weak (Weak.nil 2 101 3 1 (by kernel_rfl) (by kernel_rfl)) ?_
  refine CO.ret ?_
  exact eG [(101, 100)] (.inr rfl) (RetV.one rfl (oT (t := 2) (r := .own 101)))

theorem m_slices_Clone_int_nn (a0 : List Int) {r : (List Int)} (hx2 : app 8 [] a0 = some r) :
    AC Tryz.prog (GS []) 92 [.sl true false (a0.map encI)] [] (.own 100) [(100, .vec false 3 1 (r.map encI))] := by
  refine AC.enter Tryz.func92 rfl ?_
  refine CO.cutR (tl 8 [(0, .sl true false (a0.map encI))]) [] mix (by
      refine wR 1 100 ?_
      exact W.fin (by decide) (by kernel_rfl) (wS [] [0])
      ) ?_
  refine CO.seq' ?_
  refine CO.cutR (tl 8 [(0, .sl true false (a0.map encI)), (4, V.b false)]) [] mix (by
      refine wR 1 100 ?_
      refine W.nilEq Dk false (by kernel_rfl) ?_
      exact W.fin (by decide) (by kernel_rfl) (wS [] [0, 4])
      ) ?_
  refine CO.ifF (c := false) rfl (by kernel_rfl) ?_
  refine CO.skip ?_
  refine CO.weak (st' := ⟨tl 8 [(0, .sl true false (a0.map encI)), (4, V.b false)], []⟩) (Weak.refl _) ?_
  refine CO.cutR (tl 8 [(2, .own 101)]) [(101, .vec false 3 1 (r.map encI))] mix (by
      refine wR 2 100 ?_
      refine W.appD Dk encI (a := 100) (el := 3) 8 hx2 rfl 101 1 (fun _ => by first | rfl | kernel_rfl) (by kernel_rfl) ?_
      refine wR 1 102 ?_
      exact W.fin (by decide) (by kernel_rfl) (wS [(101, 101)] [2])
      ) ?_
  refine CO.ret ?_
  exact eG [(101, 100)] (.inr rfl) (RetV.one rfl (oT (t := 2) (r := .own 101)))

theorem m_slices_Clone_int_ok (a0 : List Int) {r : (List Int)} (h : m_slices_Clone_int a0 = some r) :
    AC Tryz.prog (GS []) 92 [.sl false false (a0.map encI)] [] (.own 100) [(100, .vec false 3 1 (r.map encI))] := by
  rw [m_slices_Clone_int] at h
  obtain ⟨x2, h2, h⟩ := bind_some h
  have h := sI h
  subst h
  refine AC.slCase (fun h0 => ?_) (m_slices_Clone_int_nn a0 h2)
  have ha : a0 = [] := by simpa using h0
  subst ha
  have hr : x2 = [] := by
    rw [app_some (by simp)] at h2
    simpa using h2.symm
  subst hr
  exact m_slices_Clone_int_nil

theorem mi_copyNodes_ok (N : Nat) (a0 : List SNode) {r : (List SNode)} (h : mi_copyNodes N a0 = some r) :
    AC Tryz.prog (GS []) 56 [.sl false false (a0.map (eSN false))] [] (.own 100) [(100, .vec false 48 5 (r.map (eSN true)))] := by
 rw [mi_copyNodes] at h
 refine AC.enter Tryz.func56 rfl ?_
 refine cU 1 100 (tl 23 [(0, .sl false false (a0.map (eSN false)))]) [] ?_
 refine cU 2 100 (tl 23 [(0, .sl false false (a0.map (eSN false))), (3, .own 100)]) [(100, .vec false 48 5 ([].map (eSN true)))] ?_
 refine CO.seq' ?_
 refine CO.cutR (tl 23 [(3, .own 100), (7, .sl false false (a0.map (eSN false))), (8, V.i (a0.length : Int)), (9, V.i 0)]) [(100, .vec false 48 5 ([].map (eSN true)))] mix (by
  refine wR 1 101 ?_
  refine W.len Dk (eSN false) a0 [] (by kernel_rfl) (by kernel_rfl) ?_
  refine wR 1 101 ?_
  exact fI
  ) ?_
 refine CO.block' ?_
 refine CO.loopJ (fun (⟨a0, y53, y54⟩ : ((List SNode) × Int × (List SNode))) => ⟨tl 23 [(3, .own 100), (7, .sl false false (a0.map (eSN false))), (8, V.i (a0.length : Int)), (9, V.i y53)], [(100, .vec false 48 5 (y54.map (eSN true)))]⟩) (fun n i => mi_copyNodes_l1 N n i = some r) (n0 := N) (i0 := (a0, 0, [])) (wS [(100, 100)] [3, 7, 8, 9]) h (fun i h => by simp [mi_copyNodes_l1] at h) ?_
 rintro n1 ⟨a0, y53, y54⟩ h73 ih74
 rw [mi_copyNodes_l1] at h73
 refine cU 1 169 (tl 23 [(3, .own 100), (7, .sl false false (a0.map (eSN false))), (8, V.i (a0.length : Int)), (9, V.i y53), (10, V.b (decide (y53 < (a0.length : Int))))]) [(100, .vec false 48 5 (y54.map (eSN true)))] ?_
 refine CO.seq' ?_
 refine bC h73 (fun hc76 h73 => ?_) (fun hc76 h73 => ?_)
 ·refine iT hc76 ?_
  refine CO.skip ?_
  refine CO.seq' ?_
  refine CO.block' ?_
  refine bB h73 fun e76 hx84 h73 => ?_
  refine CO.cutR (tl 23 [(3, .own 100), (5, .loc 169 0), (7, .sl false false (a0.map (eSN false))), (8, V.i (a0.length : Int)), (9, V.i y53)]) [(169, .cells 48 [V.i e76.Kind, V.i e76.Op, V.s e76.Text, V.s e76.Other, .sl false false (e76.Kids.map encI)]), (100, .vec false 48 5 (y54.map (eSN true)))] mix (by
   refine W.ixD Dk (eSN false) hx84 5 (by kernel_rfl) (by kernel_rfl) ?_
   refine wR 3 169 ?_
   exact fI
   ) ?_
  refine bB h73 fun r78 hx86 h73 => ?_
  refine CO.cutR (tl 23 [(3, .own 100), (5, .loc 169 0), (7, .sl false false (a0.map (eSN false))), (8, V.i (a0.length : Int)), (9, V.i y53)]) [(169, .cells 48 [V.i e76.Kind, V.i e76.Op, V.s e76.Text, V.s e76.Other, .own 170]), (170, .vec false 3 1 (r78.map encI)), (100, .vec false 48 5 (y54.map (eSN true)))] mix (by
   refine wR 2 170 ?_
   refine W.call (m_slices_Clone_int_ok e76.Kids hx86) cok92 [] [(100, 170)] [170] (show LayOk _ [] from trivial) (by kernel_rfl) (by kernel_rfl) ?_
   refine wR 2 171 ?_
   exact fI
   ) ?_
  refine bB h73 fun x80 hx88 h73 => ?_
  refine CO.endR (tl 23 [(3, .own 172), (7, .sl false false (a0.map (eSN false))), (8, V.i (a0.length : Int)), (9, V.i y53)]) [(172, .vec false 48 5 (x80.map (eSN true)))] mix (by
   refine wR 3 171 ?_
   refine W.appO Dk (eSN true) (a := 100) (c := 171) (el := 48) (sz := 5) 72 hx88 rfl 172 (by kernel_rfl) ?_
   refine wR 1 173 ?_
   exact fI
   ) (fun st hw => ?_)
  refine CO.weak hw ?_
  refine cE 2 173 (tl 23 [(3, .own 172), (7, .sl false false (a0.map (eSN false))), (8, V.i (a0.length : Int)), (9, V.i (IntKind.wrap .i64 (y53 + 1)))]) [(172, .vec false 48 5 (x80.map (eSN true)))] (fun st hw => ?_)
  exact ih74 (a0, (IntKind.wrap .i64 (y53 + 1)), x80) h73 _ (hw.trans (wS [(172, 100)] [3, 7, 8, 9]))
 refine iF hc76 ?_
 refine CO.exit ?_
 refine cU 2 169 (tl 23 [(2, .own 100)]) [(100, .vec false 48 5 (y54.map (eSN true)))] ?_
 refine CO.ret ?_
 have h73 := sI h73
 subst h73
 exact eG [(100, 100)] (.inr rfl) (RetV.one rfl (oT (t := 2) (r := .own 100)))

structure RecOk6 (R : Rec6) : Prop where
  mi_tree__size : ∀ (a0 : STree) (r : Int), R.mi_tree__size a0 = some r → AC Tryz.prog (GS []) 65 [.agg [V.i a0.kind, V.i a0.op, V.s a0.text, V.s a0.other, .sl false false (a0.kids.map eST)]] [] (V.i r) []

theorem mi_tree__size_F_ok (N : Nat) (R : Rec6) (HR : RecOk6 R) (a0 : STree) {r : Int} (h : mi_tree__size_F N R a0 = some r) :
    AC Tryz.prog (GS []) 65 [.agg [V.i a0.kind, V.i a0.op, V.s a0.text, V.s a0.other, .sl false false (a0.kids.map eST)]] [] (V.i r) [] := by
 rw [mi_tree__size_F] at h
 refine AC.enter Tryz.func65 rfl ?_
 refine cU 2 100 (tl 19 [(1, .loc 100 0)]) [(100, .cells 68 [V.i a0.kind, V.i a0.op, V.s a0.text, V.s a0.other, .sl false false (a0.kids.map eST)])] ?_
 refine cU 1 101 (tl 19 [(1, .loc 100 0), (3, V.i 1)]) [(100, .cells 68 [V.i a0.kind, V.i a0.op, V.s a0.text, V.s a0.other, .sl false false (a0.kids.map eST)])] ?_
 refine CO.seq' ?_
 refine CO.cutR (tl 19 [(3, V.i 1), (7, .sl false false (a0.kids.map eST)), (8, V.i (a0.kids.length : Int)), (9, V.i 0)]) [] mix (by
  refine wR 2 101 ?_
  refine W.len Dk eST a0.kids [] (by kernel_rfl) (by kernel_rfl) ?_
  refine wR 1 101 ?_
  exact fI
  ) ?_
 refine CO.block' ?_
 refine CO.loopJ (fun (⟨a0, y37, y38⟩ : (STree × Int × Int)) => ⟨tl 19 [(3, V.i y37), (7, .sl false false (a0.kids.map eST)), (8, V.i (a0.kids.length : Int)), (9, V.i y38)], []⟩) (fun n i => mi_tree__size_l1 N R n i = some r) (n0 := N) (i0 := (a0, 1, 0)) (wS [] [3, 7, 8, 9]) h (fun i h => by simp [mi_tree__size_l1] at h) ?_
 rintro n1 ⟨a0, y37, y38⟩ h53 ih54
 rw [mi_tree__size_l1] at h53
 refine cU 1 163 (tl 19 [(3, V.i y37), (7, .sl false false (a0.kids.map eST)), (8, V.i (a0.kids.length : Int)), (9, V.i y38), (10, V.b (decide (y38 < (a0.kids.length : Int))))]) [] ?_
 refine CO.seq' ?_
 refine bC h53 (fun hc56 h53 => ?_) (fun hc56 h53 => ?_)
 ·refine iT hc56 ?_
  refine CO.skip ?_
  refine CO.seq' ?_
  refine CO.block' ?_
  refine bB h53 fun e54 hx62 h53 => ?_
  refine CO.cutR (tl 19 [(3, V.i y37), (5, .loc 163 0), (7, .sl false false (a0.kids.map eST)), (8, V.i (a0.kids.length : Int)), (9, V.i y38)]) [(163, .cells 68 [V.i e54.kind, V.i e54.op, V.s e54.text, V.s e54.other, .sl false false (e54.kids.map eST)])] mix (by
   refine W.ixDr Dk eST hx62 5 (by kernel_rfl) (encSTree_eq e54) (by kernel_rfl) ?_
   refine wR 3 163 ?_
   exact fI
   ) ?_
  refine bB h53 fun r56 hx64 h53 => ?_
  refine CO.endR (tl 19 [(3, V.i (IntKind.wrap .i64 (y37 + r56))), (7, .sl false false (a0.kids.map eST)), (8, V.i (a0.kids.length : Int)), (9, V.i y38)]) [] mix (by
   refine wR 2 164 ?_
   refine W.call0 (HR.mi_tree__size e54 _ hx64) cok65 rfl (by kernel_rfl) ?_
   refine wR 2 164 ?_
   exact fI
   ) (fun st hw => ?_)
  refine CO.weak hw ?_
  refine cE 2 164 (tl 19 [(3, V.i (IntKind.wrap .i64 (y37 + r56))), (7, .sl false false (a0.kids.map eST)), (8, V.i (a0.kids.length : Int)), (9, V.i (IntKind.wrap .i64 (y38 + 1)))]) [] (fun st hw => ?_)
  exact ih54 (a0, (IntKind.wrap .i64 (y37 + r56)), (IntKind.wrap .i64 (y38 + 1))) h53 _ (hw.trans (wS [] [3, 7, 8, 9]))
 refine iF hc56 ?_
 refine CO.exit ?_
 refine cU 2 163 (tl 19 [(2, V.i y37)]) [] ?_
 refine CO.ret ?_
 have h53 := sI h53
 subst h53
 exact eG [] (.inr rfl) (RetV.one rfl (oT (t := 2) (r := V.i y37)))

theorem scc6_ok : ∀ N, RecOk6 (scc6 N)
  | 0 => ⟨fun _ _ h => (by cases h)⟩
  | N + 1 => ⟨fun a0 _ h => mi_tree__size_F_ok N (scc6 N) (scc6_ok N) a0 h⟩

theorem mi_tree__size_ok (N : Nat) (a0 : STree) {r : Int} (h : mi_tree__size N a0 = some r) :
    AC Tryz.prog (GS []) 65 [.agg [V.i a0.kind, V.i a0.op, V.s a0.text, V.s a0.other, .sl false false (a0.kids.map eST)]] [] (V.i r) [] :=
  (scc6_ok N).mi_tree__size a0 r h

theorem mi_tree__isHole_ok (a0 : STree) {r : Bool} (h : mi_tree__isHole a0 = some r) :
    AC Tryz.prog (GS []) 86 [.agg [V.i a0.kind, V.i a0.op, V.s a0.text, V.s a0.other, .sl false false (a0.kids.map eST)]] [] (V.b r) [] := by
 rw [mi_tree__isHole] at h
 refine AC.enter Tryz.func86 rfl ?_
 refine cU 2 100 (tl 9 [(1, .loc 100 0)]) [(100, .cells 68 [V.i a0.kind, V.i a0.op, V.s a0.text, V.s a0.other, .sl false false (a0.kids.map eST)])] ?_
 refine bB h fun r2 hx2 h => ?_
 refine CO.cutR (tl 9 [(2, V.b r2)]) [] mix (by
  refine wR 5 101 ?_
  refine W.call0 (mi_IsHole_ok (⟨a0.kind, 0, a0.text, [], []⟩ : SNode) hx2) cok63 rfl (by kernel_rfl) ?_
  refine wR 1 101 ?_
  exact fI
  ) ?_
 refine CO.ret ?_
 have h := sI h
 subst h
 exact eG [] (.inr rfl) (RetV.one rfl (oT (t := 2) (r := V.b r2)))

theorem mi_tree__alike_ok (a0 : STree) (a1 : STree) {r : Bool} (h : mi_tree__alike a0 a1 = some r) :
    AC Tryz.prog (GS []) 88 [.agg [V.i a0.kind, V.i a0.op, V.s a0.text, V.s a0.other, .sl false false (a0.kids.map eST)], .agg [V.i a1.kind, V.i a1.op, V.s a1.text, V.s a1.other, .sl false false (a1.kids.map eST)]] [] (V.b r) [] := by
 rw [mi_tree__alike] at h
 refine AC.enter Tryz.func88 rfl ?_
 refine cU 3 100 (tl 40 [(2, .loc 100 0), (3, .loc 101 0)]) [(101, .cells 68 [V.i a1.kind, V.i a1.op, V.s a1.text, V.s a1.other, .sl false false (a1.kids.map eST)]), (100, .cells 68 [V.i a0.kind, V.i a0.op, V.s a0.text, V.s a0.other, .sl false false (a0.kids.map eST)])] ?_
 refine bB h fun y1 hv5 h => ?_
 refine CO.cutR (tl 40 [(4, V.b y1)]) [] mix (by
  refine wR 6 102 ?_
  refine bC hv5 (fun hc6 hv5 => ?_) (fun hc6 hv5 => ?_)
  ·refine wI 10 hc6 ?_
   refine wR 7 102 ?_
   refine bC hv5 (fun hc7 hv5 => ?_) (fun hc7 hv5 => ?_)
   ·refine wI 17 hc7 ?_
    refine wR 7 102 ?_
    refine bC hv5 (fun hc8 hv5 => ?_) (fun hc8 hv5 => ?_)
    ·refine wI 24 hc8 ?_
     refine wR 7 102 ?_
     refine bC hv5 (fun hc9 hv5 => ?_) (fun hc9 hv5 => ?_)
     ·refine wI 31 hc9 ?_
      refine wR 2 102 ?_
      refine W.len Dk eST a0.kids [] (by kernel_rfl) (by kernel_rfl) ?_
      refine wR 2 102 ?_
      refine W.len Dk eST a1.kids [] (by kernel_rfl) (by kernel_rfl) ?_
      refine wR 3 102 ?_
      have hv5 := sI hv5
      subst hv5
      exact fS [] [4]
     refine wI 31 hc9 ?_
     refine wR 9 102 ?_
     have hv5 := sI hv5
     subst hv5
     exact fS [] [4]
    refine wI 24 hc8 ?_
    refine wR 16 102 ?_
    have hv5 := sI hv5
    subst hv5
    exact fS [] [4]
   refine wI 17 hc7 ?_
   refine wR 23 102 ?_
   have hv5 := sI hv5
   subst hv5
   exact fS [] [4]
  refine wI 10 hc6 ?_
  refine wR 30 102 ?_
  have hv5 := sI hv5
  subst hv5
  exact fS [] [4]
  ) ?_
 refine CO.ret ?_
 have h := sI h
 subst h
 exact eG [] (.inr rfl) (RetV.one rfl (oT (t := 4) (r := V.b y1)))

structure RecOk7 (R : Rec7) : Prop where
  m_slices_EqualFunc_tree : ∀ (a0 : List STree) (a1 : List STree) (r : Bool), R.m_slices_EqualFunc_tree a0 a1 = some r → AC Tryz.prog (GS []) 112 [.sl false false (a0.map eST), .sl false false (a1.map eST), .fn 87 []] [] (V.b r) []
  mi_tree__same : ∀ (a0 : STree) (a1 : STree) (r : Bool), R.mi_tree__same a0 a1 = some r → AC Tryz.prog (GS []) 87 [.agg [V.i a0.kind, V.i a0.op, V.s a0.text, V.s a0.other, .sl false false (a0.kids.map eST)], .agg [V.i a1.kind, V.i a1.op, V.s a1.text, V.s a1.other, .sl false false (a1.kids.map eST)]] [] (V.b r) []

theorem m_slices_EqualFunc_tree_F_ok (N : Nat) (R : Rec7) (HR : RecOk7 R) (a0 : List STree) (a1 : List STree) {r : Bool} (h : m_slices_EqualFunc_tree_F N R a0 a1 = some r) :
    AC Tryz.prog (GS []) 112 [.sl false false (a0.map eST), .sl false false (a1.map eST), .fn 87 []] [] (V.b r) [] := by
 rw [m_slices_EqualFunc_tree_F] at h
 refine AC.enter Tryz.func112 rfl ?_
 refine cU 1 100 (tl 32 [(0, .sl false false (a0.map eST)), (1, .sl false false (a1.map eST)), (2, .fn 87 [])]) [] ?_
 refine CO.seq' ?_
 refine CO.cutR (tl 32 [(0, .sl false false (a0.map eST)), (1, .sl false false (a1.map eST)), (2, .fn 87 []), (14, V.b ((a0.length : Int) != (a1.length : Int)))]) [] mix (by
  refine wR 1 100 ?_
  refine W.len Dk eST a0 [] (by kernel_rfl) (by kernel_rfl) ?_
  refine wR 1 100 ?_
  refine W.len Dk eST a1 [] (by kernel_rfl) (by kernel_rfl) ?_
  refine wR 1 100 ?_
  exact fI
  ) ?_
 refine bC h (fun hc2 h => ?_) (fun hc2 h => ?_)
 ·refine iT hc2 ?_
  refine cU 1 100 (tl 32 [(6, V.b false)]) [] ?_
  refine CO.ret ?_
  have h := sI h
  subst h
  exact eG [] (.inr rfl) (RetV.one rfl (oT (t := 6) (r := V.b false)))
 refine iF hc2 ?_
 refine CO.skip ?_
 refine CO.seq' ?_
 refine CO.cutR (tl 32 [(1, .sl false false (a1.map eST)), (2, .fn 87 []), (15, .sl false false (a0.map eST)), (16, V.i (a0.length : Int)), (17, V.i 0)]) [] mix (by
  refine wR 1 100 ?_
  refine W.len Dk eST a0 [] (by kernel_rfl) (by kernel_rfl) ?_
  refine wR 1 100 ?_
  exact fI
  ) ?_
 refine CO.block' ?_
 refine CO.loopJ (fun (⟨a1, a0, y51⟩ : ((List STree) × (List STree) × Int)) => ⟨tl 32 [(1, .sl false false (a1.map eST)), (2, .fn 87 []), (15, .sl false false (a0.map eST)), (16, V.i (a0.length : Int)), (17, V.i y51)], []⟩) (fun n i => m_slices_EqualFunc_tree_l1 N R n i = some r) (n0 := N) (i0 := (a1, a0, 0)) (wS [] [1, 2, 15, 16, 17]) h (fun i h => by simp [m_slices_EqualFunc_tree_l1] at h) ?_
 rintro n1 ⟨a1, a0, y51⟩ h85 ih86
 rw [m_slices_EqualFunc_tree_l1] at h85
 refine cU 1 164 (tl 32 [(1, .sl false false (a1.map eST)), (2, .fn 87 []), (15, .sl false false (a0.map eST)), (16, V.i (a0.length : Int)), (17, V.i y51), (18, V.b (decide (y51 < (a0.length : Int))))]) [] ?_
 refine CO.seq' ?_
 refine bC h85 (fun hc88 h85 => ?_) (fun hc88 h85 => ?_)
 ·refine iT hc88 ?_
  refine CO.skip ?_
  refine CO.seq' ?_
  refine CO.block' ?_
  refine bB h85 fun e72 hx97 h85 => ?_
  refine CO.cutR (tl 32 [(1, .sl false false (a1.map eST)), (2, .fn 87 []), (7, V.i y51), (8, .loc 164 0), (15, .sl false false (a0.map eST)), (16, V.i (a0.length : Int)), (17, V.i y51)]) [(164, .cells 68 [V.i e72.kind, V.i e72.op, V.s e72.text, V.s e72.other, .sl false false (e72.kids.map eST)])] mix (by
   refine wR 1 164 ?_
   refine W.ixDr Dk eST hx97 5 (by kernel_rfl) (encSTree_eq e72) (by kernel_rfl) ?_
   refine wR 4 164 ?_
   exact fI
   ) ?_
  refine bB h85 fun e74 hx99 h85 => ?_
  refine CO.cutR (tl 32 [(1, .sl false false (a1.map eST)), (2, .fn 87 []), (8, .loc 164 0), (9, .loc 165 0), (15, .sl false false (a0.map eST)), (16, V.i (a0.length : Int)), (17, V.i y51)]) [(165, .cells 68 [V.i e74.kind, V.i e74.op, V.s e74.text, V.s e74.other, .sl false false (e74.kids.map eST)]), (164, .cells 68 [V.i e72.kind, V.i e72.op, V.s e72.text, V.s e72.other, .sl false false (e72.kids.map eST)])] mix (by
   refine wR 2 165 ?_
   refine W.ixDr Dk eST hx99 5 (by kernel_rfl) (encSTree_eq e74) (by kernel_rfl) ?_
   refine wR 3 165 ?_
   exact fI
   ) ?_
  refine bB h85 fun r76 hx101 h85 => ?_
  refine CO.cutR (tl 32 [(1, .sl false false (a1.map eST)), (2, .fn 87 []), (15, .sl false false (a0.map eST)), (16, V.i (a0.length : Int)), (17, V.i y51), (30, V.b (!r76))]) [] mix (by
   refine wR 3 166 ?_
   refine W.call0 (HR.mi_tree__same e72 e74 _ hx101) cok87 rfl (by kernel_rfl) ?_
   refine wR 1 166 ?_
   exact fI
   ) ?_
  refine bC h85 (fun hc102 h85 => ?_) (fun hc102 h85 => ?_)
  ·refine iT hc102 ?_
   refine cU 1 166 (tl 32 [(6, V.b false)]) [] ?_
   refine CO.ret ?_
   have h85 := sI h85
   subst h85
   exact eG [] (.inr rfl) (RetV.one rfl (oT (t := 6) (r := V.b false)))
  refine iF hc102 ?_
  refine CO.skip ?_
  refine cE 2 166 (tl 32 [(1, .sl false false (a1.map eST)), (2, .fn 87 []), (15, .sl false false (a0.map eST)), (16, V.i (a0.length : Int)), (17, V.i (IntKind.wrap .i64 (y51 + 1)))]) [] (fun st hw => ?_)
  exact ih86 (a1, a0, (IntKind.wrap .i64 (y51 + 1))) h85 _ (hw.trans (wS [] [1, 2, 15, 16, 17]))
 refine iF hc88 ?_
 refine CO.exit ?_
 refine cU 1 164 (tl 32 [(6, V.b true)]) [] ?_
 refine CO.ret ?_
 have h85 := sI h85
 subst h85
 exact eG [] (.inr rfl) (RetV.one rfl (oT (t := 6) (r := V.b true)))

theorem mi_tree__same_F_ok (N : Nat) (R : Rec7) (HR : RecOk7 R) (a0 : STree) (a1 : STree) {r : Bool} (h : mi_tree__same_F N R a0 a1 = some r) :
    AC Tryz.prog (GS []) 87 [.agg [V.i a0.kind, V.i a0.op, V.s a0.text, V.s a0.other, .sl false false (a0.kids.map eST)], .agg [V.i a1.kind, V.i a1.op, V.s a1.text, V.s a1.other, .sl false false (a1.kids.map eST)]] [] (V.b r) [] := by
 rw [mi_tree__same_F] at h
 refine AC.enter Tryz.func87 rfl ?_
 refine cU 3 100 (tl 15 [(2, .loc 100 0), (3, .loc 101 0)]) [(101, .cells 68 [V.i a1.kind, V.i a1.op, V.s a1.text, V.s a1.other, .sl false false (a1.kids.map eST)]), (100, .cells 68 [V.i a0.kind, V.i a0.op, V.s a0.text, V.s a0.other, .sl false false (a0.kids.map eST)])] ?_
 refine bB h fun y3 hv4 h => ?_
 refine CO.cutR (tl 15 [(4, V.b y3)]) [] mix (by
  refine wR 2 102 ?_
  refine bB hv4 fun r4 hx5 hv4 => ?_
  refine W.call0 (mi_tree__alike_ok a0 a1 hx5) cok88 rfl (by kernel_rfl) ?_
  refine wR 1 102 ?_
  refine bC hv4 (fun hc6 hv4 => ?_) (fun hc6 hv4 => ?_)
  ·refine wI 8 hc6 ?_
   refine wR 4 102 ?_
   refine bB hv4 fun r5 hx7 hv4 => ?_
   refine W.call0 (HR.m_slices_EqualFunc_tree a0.kids a1.kids _ hx7) cok112 rfl (by kernel_rfl) ?_
   refine wR 2 102 ?_
   have hv4 := sI hv4
   subst hv4
   exact fS [] [4]
  refine wI 8 hc6 ?_
  refine wR 7 102 ?_
  have hv4 := sI hv4
  subst hv4
  exact fS [] [4]
  ) ?_
 refine CO.ret ?_
 have h := sI h
 subst h
 exact eG [] (.inr rfl) (RetV.one rfl (oT (t := 4) (r := V.b y3)))

theorem scc7_ok : ∀ N, RecOk7 (scc7 N)
  | 0 => ⟨fun _ _ _ h => (by cases h), fun _ _ _ h => (by cases h)⟩
  | N + 1 => ⟨fun a0 a1 _ h => m_slices_EqualFunc_tree_F_ok N (scc7 N) (scc7_ok N) a0 a1 h, fun a0 a1 _ h => mi_tree__same_F_ok N (scc7 N) (scc7_ok N) a0 a1 h⟩

theorem m_slices_EqualFunc_tree_ok (N : Nat) (a0 : List STree) (a1 : List STree) {r : Bool} (h : m_slices_EqualFunc_tree N a0 a1 = some r) :
    AC Tryz.prog (GS []) 112 [.sl false false (a0.map eST), .sl false false (a1.map eST), .fn 87 []] [] (V.b r) [] :=
  (scc7_ok N).m_slices_EqualFunc_tree a0 a1 r h
theorem mi_tree__same_ok (N : Nat) (a0 : STree) (a1 : STree) {r : Bool} (h : mi_tree__same N a0 a1 = some r) :
    AC Tryz.prog (GS []) 87 [.agg [V.i a0.kind, V.i a0.op, V.s a0.text, V.s a0.other, .sl false false (a0.kids.map eST)], .agg [V.i a1.kind, V.i a1.op, V.s a1.text, V.s a1.other, .sl false false (a1.kids.map eST)]] [] (V.b r) [] :=
  (scc7_ok N).mi_tree__same a0 a1 r h

end Go.Proofs.Tryz
