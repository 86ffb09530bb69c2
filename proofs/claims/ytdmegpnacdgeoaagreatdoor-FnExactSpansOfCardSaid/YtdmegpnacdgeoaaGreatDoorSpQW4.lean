/-
  The walks that show that the code computes the models, part 4.
-/
import Derived.Test.YtdmegpnacdgeoaaGreatDoorSpQW3
namespace Go.Proofs.Tryz
open Go.Av
set_option maxRecDepth 100000
set_option maxHeartbeats 8000000
set_option linter.unusedSimpArgs false
set_option linter.unusedVariables false

theorem mi_Fits_ok (a0 : SNode) (a1 : SPos) {r : Bool} (h : mi_Fits a0 a1 = some r) :
    AC Tryz.prog (GS []) 76 [.agg [V.i a0.Kind, V.i a0.Op, V.s a0.Text, V.s a0.Other, .sl false false (a0.Kids.map encI)], .agg [V.i a1.Level, V.b a1.Dollar, V.b a1.NoIn, V.b a1.NoGt, V.b a1.NoSign]] [] (V.b r) [] := by
 rw [mi_Fits] at h
 refine AC.enter Tryz.func76 rfl ?_
 refine cV 100 ?_
 refine bB h fun r2 hx2 h => ?_
 refine cC 1 102 (mi_LevelOf_ok a0 hx2) cok77 ?_
 refine CO.seq' ?_
 refine CO.block' ?_
 refine bB h fun y10 hv29 h => ?_
 refine CO.cutR (tl 68 [(2, .loc 100 0), (3, .loc 101 0), (5, V.i r2), (8, V.b y10)]) [(100, .cells 54 [V.i a0.Kind, V.i a0.Op, V.s a0.Text, V.s a0.Other, .sl false false (a0.Kids.map encI)]), (101, .cells 30 [V.i a1.Level, V.b a1.Dollar, V.b a1.NoIn, V.b a1.NoGt, V.b a1.NoSign])] mix (by
  refine wR 1 102 ?_
  refine bB hv29 fun r11 hx30 hv29 => ?_
  refine W.call0 (mi_PosOk_ok a1 hx30) cok51 rfl (by kernel_rfl) ?_
  refine wR 2 102 ?_
  refine wJ 12 hv29 (fun hv29 => ?_) (fun hv29 => ?_)
  ·refine wR 4 102 ?_
   cases hv29
   exact fS [(100, 100), (101, 101)] [2, 3, 5, 8]
  refine wR 4 102 ?_
  cases hv29
  exact fS [(100, 100), (101, 101)] [2, 3, 5, 8]
  ) ?_
 refine cI h (fun _ h => ?_) (fun _ h => ?_)
 ·refine cV 102 ?_
  cases h
  exact e1 4 id
 refine bB h fun y12 hv34 h => ?_
 refine CO.cutR (tl 68 [(2, .loc 100 0), (3, .loc 101 0), (5, V.i r2), (16, V.b y12)]) [(100, .cells 54 [V.i a0.Kind, V.i a0.Op, V.s a0.Text, V.s a0.Other, .sl false false (a0.Kids.map encI)]), (101, .cells 30 [V.i a1.Level, V.b a1.Dollar, V.b a1.NoIn, V.b a1.NoGt, V.b a1.NoSign])] mix (by
  refine wR 3 102 ?_
  refine wJ 19 hv34 (fun hv34 => ?_) (fun hv34 => ?_)
  ·refine wR 5 102 ?_
   cases hv34
   exact fS [(100, 100), (101, 101)] [2, 3, 5, 16]
  refine wR 5 102 ?_
  cases hv34
  exact fS [(100, 100), (101, 101)] [2, 3, 5, 16]
  ) ?_
 refine cI h (fun _ h => ?_) (fun _ h => ?_)
 ·refine cV 102 ?_
  cases h
  exact e1 4 id
 refine bB h fun y13 hv39 h => ?_
 refine CO.cutR (tl 68 [(2, .loc 100 0), (3, .loc 101 0), (5, V.i r2), (24, V.b y13)]) [(100, .cells 54 [V.i a0.Kind, V.i a0.Op, V.s a0.Text, V.s a0.Other, .sl false false (a0.Kids.map encI)]), (101, .cells 30 [V.i a1.Level, V.b a1.Dollar, V.b a1.NoIn, V.b a1.NoGt, V.b a1.NoSign])] mix (by
  refine wR 3 102 ?_
  refine wJ 27 hv39 (fun hv39 => ?_) (fun hv39 => ?_)
  ·refine wR 5 102 ?_
   refine wJ 32 hv39 (fun hv39 => ?_) (fun hv39 => ?_)
   ·refine wR 5 102 ?_
    cases hv39
    exact fS [(100, 100), (101, 101)] [2, 3, 5, 24]
   refine wR 5 102 ?_
   cases hv39
   exact fS [(100, 100), (101, 101)] [2, 3, 5, 24]
  refine wR 10 102 ?_
  cases hv39
  exact fS [(100, 100), (101, 101)] [2, 3, 5, 24]
  ) ?_
 refine cI h (fun _ h => ?_) (fun _ h => ?_)
 ·refine cV 102 ?_
  cases h
  exact e1 4 id
 refine bB h fun y14 hv46 h => ?_
 refine CO.cutR (tl 68 [(2, .loc 100 0), (3, .loc 101 0), (5, V.i r2), (37, V.b y14)]) [(100, .cells 54 [V.i a0.Kind, V.i a0.Op, V.s a0.Text, V.s a0.Other, .sl false false (a0.Kids.map encI)]), (101, .cells 30 [V.i a1.Level, V.b a1.Dollar, V.b a1.NoIn, V.b a1.NoGt, V.b a1.NoSign])] mix (by
  refine wR 3 102 ?_
  refine wJ 40 hv46 (fun hv46 => ?_) (fun hv46 => ?_)
  ·refine wR 4 102 ?_
   refine wJ 44 hv46 (fun hv46 => ?_) (fun hv46 => ?_)
   ·refine wR 11 102 ?_
    cases hv46
    exact fS [(100, 100), (101, 101)] [2, 3, 5, 37]
   refine wR 5 102 ?_
   refine wJ 49 hv46 (fun hv46 => ?_) (fun hv46 => ?_)
   ·refine wR 6 102 ?_
    cases hv46
    exact fS [(100, 100), (101, 101)] [2, 3, 5, 37]
   refine wR 6 102 ?_
   cases hv46
   exact fS [(100, 100), (101, 101)] [2, 3, 5, 37]
  refine wR 15 102 ?_
  cases hv46
  exact fS [(100, 100), (101, 101)] [2, 3, 5, 37]
  ) ?_
 refine cI h (fun _ h => ?_) (fun _ h => ?_)
 ·refine cV 102 ?_
  cases h
  exact e1 4 id
 refine CO.skip ?_
 refine bB h fun y15 hv53 h => ?_
 refine CO.cutR (tl 68 [(4, V.b y15)]) [] mix (by
  refine wR 3 102 ?_
  refine wJ 57 hv53 (fun hv53 => ?_) (fun hv53 => ?_)
  ·refine wR 5 102 ?_
   refine wJ 62 hv53 (fun hv53 => ?_) (fun hv53 => ?_)
   ·refine wR 6 102 ?_
    cases hv53
    exact fS [] [4]
   refine wR 6 102 ?_
   cases hv53
   exact fS [] [4]
  refine wR 11 102 ?_
  cases hv53
  exact fS [] [4]
  ) ?_
 cases h
 exact e1 4 id

theorem mi_speller__put_ok (a1 : List SToken) (p0_2 : Bool) (p1 : List SToken) (p2 : List SSpan) {r : (List SToken)} (h : mi_speller__put a1 p0_2 p1 p2 = some r) :
    AC Tryz.prog (GS []) 79 [.loc 0 0, .sl false false (a1.map encSToken)] [(0, .cells 81 [.own 1, .own 2, V.b p0_2]), (1, .vec false 102 3 (p1.map encSToken)), (2, .vec false 61 2 (p2.map encSSpan))] (.tup []) [(0, .cells 81 [.own 100, .own 2, V.b p0_2]), (2, .vec false 61 2 (p2.map encSSpan)), (100, .vec false 102 3 (r.map encSToken))] := by
 rw [mi_speller__put] at h
 refine AC.enter Tryz.func79 rfl ?_
 refine bB h fun x2 hx2 h => ?_
 refine CO.cutE (tl 13 []) [(0, .cells 81 [.own 100, .own 2, V.b p0_2]), (100, .vec false 102 3 (x2.map encSToken)), (2, .vec false 61 2 (p2.map encSSpan))] mix (by
  refine wR 6 100 ?_
  refine W.appD Dk encSToken (a := 1) (el := 102) 32 hx2 rfl 100 3 (fun _ => by first | rfl | kernel_rfl) (by kernel_rfl) ?_
  refine wR 3 101 ?_
  exact fI
  ) ?_
 cases h
 exact eG [(0, 0), (2, 2), (100, 100)] (.inl rfl) (RetV.none rfl)

theorem mi_sign_ok (a0 : Int) {r : SToken} (h : mi_sign a0 = some r) :
    AC Tryz.prog (GS [0, 1]) 80 [V.i a0] [] (.agg [V.i r.Kind, V.s r.Text, V.i r.At]) [] := by
 rw [mi_sign] at h
 refine AC.enter Tryz.func80 rfl ?_
 refine cV 100 ?_
 refine bB h fun r2 hx2 h => ?_
 refine cC 2 101 (mi_SpellOf_ok a0 hx2) cok115 ?_
 refine CO.ret ?_
 cases h
 exact eG [] (.inr rfl) (RetV.one rfl (OneR.cell Dk (r := .agg [V.i a0, V.s r2, V.i 0]) (i := 100) (ety := 102) (cs := [V.i a0, V.s r2, V.i 0]) (by kernel_rfl) (by kernel_rfl) (by kernel_rfl)))

theorem mi_Top_ok {r : SPos} (h : mi_Top = some r) :
    AC Tryz.prog (GS []) 81 [] [] (.agg [V.i r.Level, V.b r.Dollar, V.b r.NoIn, V.b r.NoGt, V.b r.NoSign]) [] := by
 rw [mi_Top] at h
 refine AC.enter Tryz.func81 rfl ?_
 refine cV 100 ?_
 refine cV 101 ?_
 refine CO.ret ?_
 cases h
 exact eG [] (.inr rfl) (RetV.one rfl (OneR.cell Dk (r := .agg [V.i 1, V.b false, V.b false, V.b false, V.b false]) (i := 100) (ety := 30) (cs := [V.i 1, V.b false, V.b false, V.b false, V.b false]) (by kernel_rfl) (by kernel_rfl) (by kernel_rfl)))

theorem mi_binLevel_ok (a0 : Int) (a1 : Int) {r : Int} (h : mi_binLevel a0 a1 = some r) :
    AC Tryz.prog (GS []) 174 [V.i a0, V.i a1] [] (V.i r) [] := by
 rw [mi_binLevel] at h
 refine AC.enter Tryz.func174 rfl ?_
 refine cV 100 ?_
 refine cV 100 ?_
 refine CO.join (fun (⟨a1, y3, y4⟩ : (Int × Int × Int)) => ⟨tl 27 [(1, V.i a1), (5, V.i y3), (6, V.i y4)], []⟩) (fun i => mi_binLevel_k1 i = some r) ?_ ?_
 · rintro ⟨a1, y3, y4⟩ h10
   rw [mi_binLevel_k1] at h10
   refine CO.seq' ?_
   refine cV 100 ?_
   refine cI h10 (fun _ h10 => ?_) (fun _ h10 => ?_)
   ·refine cV 100 ?_
    cases h10
    exact e1 4 id
   refine CO.skip ?_
   refine cV 100 ?_
   cases h10
   exact e1 4 id
 intro hk13
 refine bB h fun r6 hx15 h => ?_
 refine cC 1 100 (mi_OpLevel_ok a0 hx15) cok112 ?_
 refine CO.block' ?_
 refine cV 100 ?_
 refine cI h (fun _ h => ?_) (fun _ h => ?_)
 ·exact cK 100 hk13 (a1, 3, 4) h [] [1, 5, 6]
 refine cV 100 ?_
 refine cI h (fun _ h => ?_) (fun _ h => ?_)
 ·exact cK 100 hk13 (a1, 4, 5) h [] [1, 5, 6]
 refine cV 100 ?_
 refine cI h (fun _ h => ?_) (fun _ h => ?_)
 ·exact cK 100 hk13 (a1, 7, 7) h [] [1, 5, 6]
 refine cV 100 ?_
 refine cI h (fun _ h => ?_) (fun _ h => ?_)
 ·exact cK 100 hk13 (a1, 8, 8) h [] [1, 5, 6]
 refine cV 100 ?_
 refine cI h (fun _ h => ?_) (fun _ h => ?_)
 ·exact cK 100 hk13 (a1, 8, 9) h [] [1, 5, 6]
 refine cV 100 ?_
 refine cI h (fun _ h => ?_) (fun _ h => ?_)
 ·exact cK 100 hk13 (a1, 9, 10) h [] [1, 5, 6]
 refine cV 100 ?_
 refine cI h (fun _ h => ?_) (fun _ h => ?_)
 ·exact cK 100 hk13 (a1, 10, 11) h [] [1, 5, 6]
 exact cK 100 hk13 (a1, 13, 11) h [] [1, 5, 6]

theorem mi_kidLevel_ok (a0 : SNode) (a1 : Int) {r : Int} (h : mi_kidLevel a0 a1 = some r) :
    AC Tryz.prog (GS []) 170 [.agg [V.i a0.Kind, V.i a0.Op, V.s a0.Text, V.s a0.Other, .sl false false (a0.Kids.map encI)], V.i a1] [] (V.i r) [] := by
 rw [mi_kidLevel] at h
 refine AC.enter Tryz.func170 rfl ?_
 refine cV 100 ?_
 refine CO.seq' ?_
 refine cV 101 ?_
 refine CO.block' ?_
 refine cV 101 ?_
 refine cI h (fun _ h => ?_) (fun _ h => ?_)
 ·refine CO.seq' ?_
  refine cV 101 ?_
  refine cI h (fun _ h => ?_) (fun _ h => ?_)
  ·refine cV 101 ?_
   cases h
   exact e1 4 id
  refine CO.skip ?_
  refine cV 101 ?_
  cases h
  exact e1 4 id
 refine cV 101 ?_
 refine cI h (fun _ h => ?_) (fun _ h => ?_)
 ·refine CO.seq' ?_
  refine cV 101 ?_
  refine cI h (fun _ h => ?_) (fun _ h => ?_)
  ·refine cV 101 ?_
   cases h
   exact e1 4 id
  refine CO.skip ?_
  refine cV 101 ?_
  cases h
  exact e1 4 id
 refine cV 101 ?_
 refine cI h (fun _ h => ?_) (fun _ h => ?_)
 ·refine cV 101 ?_
  cases h
  exact e1 4 id
 refine cV 101 ?_
 refine cI h (fun _ h => ?_) (fun _ h => ?_)
 ·refine cV 101 ?_
  cases h
  exact e1 4 id
 refine cV 101 ?_
 refine cI h (fun _ h => ?_) (fun _ h => ?_)
 ·refine bB h fun r4 hx22 h => ?_
  refine cC 3 101 (mi_binLevel_ok a0.Op a1 hx22) cok174 ?_
  cases h
  exact e1 4 id
 refine CO.skip ?_
 refine cV 101 ?_
 cases h
 exact e1 4 id

theorem mi_KidPos_ok (a0 : SNode) (a1 : Int) (a2 : SPos) {r : SPos} (h : mi_KidPos a0 a1 a2 = some r) :
    AC Tryz.prog (GS []) 155 [.agg [V.i a0.Kind, V.i a0.Op, V.s a0.Text, V.s a0.Other, .sl false false (a0.Kids.map encI)], V.i a1, .agg [V.i a2.Level, V.b a2.Dollar, V.b a2.NoIn, V.b a2.NoGt, V.b a2.NoSign]] [] (.agg [V.i r.Level, V.b r.Dollar, V.b r.NoIn, V.b r.NoGt, V.b r.NoSign]) [] := by
 rw [mi_KidPos] at h
 refine AC.enter Tryz.func155 rfl ?_
 refine cV 100 ?_
 refine CO.seq' ?_
 refine bB h fun y11 hv18 h => ?_
 refine CO.cutR (tl 81 [(1, V.i a1), (3, .loc 100 0), (5, .loc 101 0), (6, .loc 102 0), (24, V.b y11)]) [(100, .cells 54 [V.i a0.Kind, V.i a0.Op, V.s a0.Text, V.s a0.Other, .sl false false (a0.Kids.map encI)]), (101, .cells 30 [V.i a2.Level, V.b a2.Dollar, V.b a2.NoIn, V.b a2.NoGt, V.b a2.NoSign]), (102, .cells 30 [V.i 0, V.b false, V.b false, V.b false, V.b false])] mix (by
  refine wR 1 103 ?_
  refine bB hv18 fun r12 hx19 hv18 => ?_
  refine W.call0 (mi_PosOk_ok a2 hx19) cok51 rfl (by kernel_rfl) ?_
  refine wR 2 103 ?_
  refine wJ 11 hv18 (fun hv18 => ?_) (fun hv18 => ?_)
  ·refine wR 13 103 ?_
   cases hv18
   exact fS [(100, 100), (101, 101), (102, 102)] [1, 3, 5, 6, 24]
  refine wR 3 103 ?_
  refine W.len Dk encI a0.Kids [] (by kernel_rfl) (by kernel_rfl) ?_
  refine wR 1 103 ?_
  refine bB hv18 fun r13 hx21 hv18 => ?_
  refine W.call0 (mi_within_ok a1 0 (IntKind.wrap .i64 ((a0.Kids.length : Int) - 1)) hx21) cok59 rfl (by kernel_rfl) ?_
  refine wR 3 103 ?_
  refine wJ 20 hv18 (fun hv18 => ?_) (fun hv18 => ?_)
  ·refine wR 4 103 ?_
   cases hv18
   exact fS [(100, 100), (101, 101), (102, 102)] [1, 3, 5, 6, 24]
  refine wR 1 103 ?_
  refine bB hv18 fun r14 hx23 hv18 => ?_
  refine W.call0 (mi_LevelOf_ok a0 hx23) cok77 rfl (by kernel_rfl) ?_
  refine wR 2 103 ?_
  cases hv18
  exact fS [(100, 100), (101, 101), (102, 102)] [1, 3, 5, 6, 24]
  ) ?_
 refine cI h (fun _ h => ?_) (fun _ h => ?_)
 ·refine cV 103 ?_
  refine CO.ret ?_
  cases h
  exact eG [] (.inr rfl) (RetV.one rfl (OneR.cell Dk (r := .agg [V.i 0, V.b false, V.b false, V.b false, V.b false]) (i := 102) (ety := 30) (cs := [V.i 0, V.b false, V.b false, V.b false, V.b false]) (by kernel_rfl) (by kernel_rfl) (by kernel_rfl)))
 refine CO.skip ?_
 refine CO.seq' ?_
 refine bB h fun y21 hv38 h => ?_
 refine CO.cutR (tl 81 [(1, V.i a1), (3, .loc 100 0), (5, .loc 101 0), (6, .loc 102 0), (39, V.b y21)]) [(100, .cells 54 [V.i a0.Kind, V.i a0.Op, V.s a0.Text, V.s a0.Other, .sl false false (a0.Kids.map encI)]), (101, .cells 30 [V.i a2.Level, V.b a2.Dollar, V.b a2.NoIn, V.b a2.NoGt, V.b a2.NoSign]), (102, .cells 30 [V.i 0, V.b false, V.b false, V.b false, V.b false])] mix (by
  refine wR 1 103 ?_
  refine bB hv38 fun r22 hx39 hv38 => ?_
  refine W.call0 (mi_LevelOf_ok a0 hx39) cok77 rfl (by kernel_rfl) ?_
  refine wR 2 103 ?_
  refine wJ 29 hv38 (fun hv38 => ?_) (fun hv38 => ?_)
  ·refine wR 10 103 ?_
   cases hv38
   exact fS [(100, 100), (101, 101), (102, 102)] [1, 3, 5, 6, 39]
  refine wR 4 103 ?_
  refine wJ 33 hv38 (fun hv38 => ?_) (fun hv38 => ?_)
  ·refine wR 2 103 ?_
   refine W.len Dk encI a0.Kids [] (by kernel_rfl) (by kernel_rfl) ?_
   refine wR 3 103 ?_
   cases hv38
   exact fS [(100, 100), (101, 101), (102, 102)] [1, 3, 5, 6, 39]
  refine wR 6 103 ?_
  cases hv38
  exact fS [(100, 100), (101, 101), (102, 102)] [1, 3, 5, 6, 39]
  ) ?_
 refine cI h (fun _ h => ?_) (fun _ h => ?_)
 ·refine bB h fun r24 hx44 h => ?_
  refine cC 0 103 (mi_Top_ok  hx44) cok81 ?_
  refine CO.ret ?_
  have h := sI h
  subst h
  exact eG [] (.inr rfl) (RetV.one rfl (OneR.cell Dk (r := .agg [V.i r24.Level, V.b r24.Dollar, V.b r24.NoIn, V.b r24.NoGt, V.b r24.NoSign]) (i := 102) (ety := 30) (cs := [V.i r24.Level, V.b r24.Dollar, V.b r24.NoIn, V.b r24.NoGt, V.b r24.NoSign]) (by kernel_rfl) (by kernel_rfl) (by kernel_rfl)))
 refine CO.skip ?_
 refine bB h fun r26 hx46 h => ?_
 refine cC 2 103 (mi_kidLevel_ok a0 a1 hx46) cok170 ?_
 refine CO.join (fun (⟨r26, a0, a2, y29⟩ : (Int × SNode × SPos × Bool)) => ⟨tl 81 [(6, .loc 100 0), (7, .loc 101 0)], [(100, .cells 30 [V.i 0, V.b false, V.b false, V.b false, V.b false]), (101, .cells 30 [V.i r26, V.b (a0.Kind == 6), V.b a2.NoIn, V.b a2.NoGt, V.b y29])]⟩) (fun i => mi_KidPos_k1 i = some r) ?_ ?_
 · rintro ⟨r26, a0, a2, y29⟩ h69
   rw [mi_KidPos_k1] at h69
   refine cV 104 ?_
   refine CO.ret ?_
   have h69 := sI h69
   subst h69
   exact eG [] (.inr rfl) (RetV.one rfl (OneR.cell Dk (r := .agg [V.i r26, V.b (a0.Kind == 6), V.b a2.NoIn, V.b a2.NoGt, V.b y29]) (i := 100) (ety := 30) (cs := [V.i r26, V.b (a0.Kind == 6), V.b a2.NoIn, V.b a2.NoGt, V.b y29]) (by kernel_rfl) (by kernel_rfl) (by kernel_rfl)))
 intro hk70
 refine cV 104 ?_
 refine CO.block' ?_
 refine CO.join (fun (⟨a1, a0, a2, r26, y30⟩ : (Int × SNode × SPos × Int × Bool)) => ⟨tl 81 [(1, V.i a1), (3, .loc 100 0), (5, .loc 101 0), (6, .loc 102 0), (7, .loc 103 0), (75, V.b y30)], [(100, .cells 54 [V.i a0.Kind, V.i a0.Op, V.s a0.Text, V.s a0.Other, .sl false false (a0.Kids.map encI)]), (101, .cells 30 [V.i a2.Level, V.b a2.Dollar, V.b a2.NoIn, V.b a2.NoGt, V.b a2.NoSign]), (102, .cells 30 [V.i 0, V.b false, V.b false, V.b false, V.b false]), (103, .cells 30 [V.i r26, V.b (a0.Kind == 6), V.b a2.NoIn, V.b a2.NoGt, V.b false])]⟩) (fun i => mi_KidPos_k2 i = some r) ?_ ?_
 · rintro ⟨a1, a0, a2, r26, y30⟩ h74
   rw [mi_KidPos_k2] at h74
   refine cI h74 (fun _ h74 => ?_) (fun _ h74 => ?_)
   ·exact sK hk70 (r26, a0, a2, false) h74 [(102, 100), (103, 101)] [6, 7]
   refine bB h74 fun y31 hv82 h74 => ?_
   refine CO.endR (tl 81 [(6, .loc 100 0), (7, .loc 101 0)]) [(100, .cells 30 [V.i 0, V.b false, V.b false, V.b false, V.b false]), (101, .cells 30 [V.i r26, V.b (a0.Kind == 6), V.b a2.NoIn, V.b a2.NoGt, V.b y31])] mix (by
    refine wR 3 104 ?_
    refine wJ 56 hv82 (fun hv82 => ?_) (fun hv82 => ?_)
    ·refine wR 4 104 ?_
     refine wJ 60 hv82 (fun hv82 => ?_) (fun hv82 => ?_)
     ·refine wR 15 104 ?_
      cases hv82
      exact fS [(102, 100), (103, 101)] [6, 7]
     refine wR 3 104 ?_
     refine wJ 63 hv82 (fun hv82 => ?_) (fun hv82 => ?_)
     ·refine wR 5 104 ?_
      refine wJ 68 hv82 (fun hv82 => ?_) (fun hv82 => ?_)
      ·refine wR 7 104 ?_
       cases hv82
       exact fS [(102, 100), (103, 101)] [6, 7]
      refine wR 7 104 ?_
      cases hv82
      exact fS [(102, 100), (103, 101)] [6, 7]
     refine wR 12 104 ?_
     cases hv82
     exact fS [(102, 100), (103, 101)] [6, 7]
    refine wR 7 104 ?_
    refine wJ 63 hv82 (fun hv82 => ?_) (fun hv82 => ?_)
    ·refine wR 5 104 ?_
     refine wJ 68 hv82 (fun hv82 => ?_) (fun hv82 => ?_)
     ·refine wR 7 104 ?_
      cases hv82
      exact fS [(102, 100), (103, 101)] [6, 7]
     refine wR 7 104 ?_
     cases hv82
     exact fS [(102, 100), (103, 101)] [6, 7]
    refine wR 12 104 ?_
    cases hv82
    exact fS [(102, 100), (103, 101)] [6, 7]
    ) (fun st hw => ?_)
   exact hk70 (r26, a0, a2, y31) h74 _ (hw.trans (wS [(100, 100), (101, 101)] [6, 7]))
 intro hk89
 refine cV 104 ?_
 refine cI h (fun _ h => ?_) (fun _ h => ?_)
 ·exact sK hk89 (a1, a0, a2, r26, (a0.Kind == 11)) h [(100, 100), (101, 101), (102, 102), (103, 103)] [1, 3, 5, 6, 7, 75]
 refine cV 104 ?_
 refine cI h (fun _ h => ?_) (fun _ h => ?_)
 ·exact sK hk89 (a1, a0, a2, r26, (a0.Kind == 9)) h [(100, 100), (101, 101), (102, 102), (103, 103)] [1, 3, 5, 6, 7, 75]
 refine cV 104 ?_
 refine cI h (fun _ h => ?_) (fun _ h => ?_)
 ·exact sK hk89 (a1, a0, a2, r26, (a0.Kind == 10)) h [(100, 100), (101, 101), (102, 102), (103, 103)] [1, 3, 5, 6, 7, 75]
 exact cK 104 hk89 (a1, a0, a2, r26, (a0.Kind == 6)) h [(100, 100), (101, 101), (102, 102), (103, 103)] [1, 3, 5, 6, 7, 75]

theorem mi_isTarget_ok (a0 : SNode) (a1 : Int) {r : Bool} (h : mi_isTarget a0 a1 = some r) :
    AC Tryz.prog (GS []) 156 [.agg [V.i a0.Kind, V.i a0.Op, V.s a0.Text, V.s a0.Other, .sl false false (a0.Kids.map encI)], V.i a1] [] (V.b r) [] := by
 rw [mi_isTarget] at h
 refine AC.enter Tryz.func156 rfl ?_
 refine cV 100 ?_
 refine bB h fun y1 hv4 h => ?_
 refine CO.cutR (tl 22 [(4, V.b y1)]) [] mix (by
  refine wR 3 101 ?_
  refine wJ 7 hv4 (fun hv4 => ?_) (fun hv4 => ?_)
  ·refine wR 4 101 ?_
   refine wJ 11 hv4 (fun hv4 => ?_) (fun hv4 => ?_)
   ·refine wR 11 101 ?_
    cases hv4
    exact fS [] [4]
   refine wR 5 101 ?_
   refine wJ 16 hv4 (fun hv4 => ?_) (fun hv4 => ?_)
   ·refine wR 6 101 ?_
    cases hv4
    exact fS [] [4]
   refine wR 6 101 ?_
   cases hv4
   exact fS [] [4]
  refine wR 15 101 ?_
  cases hv4
  exact fS [] [4]
  ) ?_
 cases h
 exact e1 4 id

structure RecOk4 (R : Rec4) : Prop where
  mi_speller__operator : ∀ (a1 : STree) (a2 : SPos) (p0_2 : Bool) (p1 : List SToken) (p2 : List SSpan) (r : ((List SToken) × (List SSpan))), R.mi_speller__operator a1 a2 p0_2 p1 p2 = some r → AC Tryz.prog (GS [0, 1]) 114 [.loc 0 0, .agg [V.i a1.kind, V.i a1.op, V.s a1.text, V.s a1.other, .sl false false (a1.kids.map eST)], .agg [V.i a2.Level, V.b a2.Dollar, V.b a2.NoIn, V.b a2.NoGt, V.b a2.NoSign]] [(0, .cells 81 [.own 1, .own 2, V.b p0_2]), (1, .vec false 102 3 (p1.map encSToken)), (2, .vec false 61 2 (p2.map encSSpan))] (.tup []) [(0, .cells 81 [.own 100, .own 101, V.b p0_2]), (100, .vec false 102 3 (r.1.map encSToken)), (101, .vec false 61 2 (r.2.map encSSpan))]
  mi_speller__kid : ∀ (a1 : STree) (a2 : Int) (a3 : SPos) (p0_2 : Bool) (p1 : List SToken) (p2 : List SSpan) (r : ((List SToken) × (List SSpan))), R.mi_speller__kid a1 a2 a3 p0_2 p1 p2 = some r → AC Tryz.prog (GS [0, 1]) 134 [.loc 0 0, .agg [V.i a1.kind, V.i a1.op, V.s a1.text, V.s a1.other, .sl false false (a1.kids.map eST)], V.i a2, .agg [V.i a3.Level, V.b a3.Dollar, V.b a3.NoIn, V.b a3.NoGt, V.b a3.NoSign]] [(0, .cells 81 [.own 1, .own 2, V.b p0_2]), (1, .vec false 102 3 (p1.map encSToken)), (2, .vec false 61 2 (p2.map encSSpan))] (.tup []) [(0, .cells 81 [.own 100, .own 101, V.b p0_2]), (100, .vec false 102 3 (r.1.map encSToken)), (101, .vec false 61 2 (r.2.map encSSpan))]
  mi_speller__list : ∀ (a1 : STree) (a2 : Int) (a3 : Int) (a4 : SPos) (p0_2 : Bool) (p1 : List SToken) (p2 : List SSpan) (r : ((List SToken) × (List SSpan))), R.mi_speller__list a1 a2 a3 a4 p0_2 p1 p2 = some r → AC Tryz.prog (GS [0, 1]) 113 [.loc 0 0, .agg [V.i a1.kind, V.i a1.op, V.s a1.text, V.s a1.other, .sl false false (a1.kids.map eST)], V.i a2, V.i a3, .agg [V.i a4.Level, V.b a4.Dollar, V.b a4.NoIn, V.b a4.NoGt, V.b a4.NoSign]] [(0, .cells 81 [.own 1, .own 2, V.b p0_2]), (1, .vec false 102 3 (p1.map encSToken)), (2, .vec false 61 2 (p2.map encSSpan))] (.tup []) [(0, .cells 81 [.own 100, .own 101, V.b p0_2]), (100, .vec false 102 3 (r.1.map encSToken)), (101, .vec false 61 2 (r.2.map encSSpan))]
  mi_speller__bare : ∀ (a1 : STree) (a2 : SPos) (p0_2 : Bool) (p1 : List SToken) (p2 : List SSpan) (r : ((List SToken) × (List SSpan))), R.mi_speller__bare a1 a2 p0_2 p1 p2 = some r → AC Tryz.prog (GS [0, 1]) 78 [.loc 0 0, .agg [V.i a1.kind, V.i a1.op, V.s a1.text, V.s a1.other, .sl false false (a1.kids.map eST)], .agg [V.i a2.Level, V.b a2.Dollar, V.b a2.NoIn, V.b a2.NoGt, V.b a2.NoSign]] [(0, .cells 81 [.own 1, .own 2, V.b p0_2]), (1, .vec false 102 3 (p1.map encSToken)), (2, .vec false 61 2 (p2.map encSSpan))] (.tup []) [(0, .cells 81 [.own 100, .own 101, V.b p0_2]), (100, .vec false 102 3 (r.1.map encSToken)), (101, .vec false 61 2 (r.2.map encSSpan))]
  mi_speller__expr : ∀ (a1 : STree) (a2 : SPos) (p0_2 : Bool) (p1 : List SToken) (p2 : List SSpan) (r : ((List SToken) × (List SSpan))), R.mi_speller__expr a1 a2 p0_2 p1 p2 = some r → AC Tryz.prog (GS [0, 1]) 52 [.loc 0 0, .agg [V.i a1.kind, V.i a1.op, V.s a1.text, V.s a1.other, .sl false false (a1.kids.map eST)], .agg [V.i a2.Level, V.b a2.Dollar, V.b a2.NoIn, V.b a2.NoGt, V.b a2.NoSign]] [(0, .cells 81 [.own 1, .own 2, V.b p0_2]), (1, .vec false 102 3 (p1.map encSToken)), (2, .vec false 61 2 (p2.map encSSpan))] (.tup []) [(0, .cells 81 [.own 100, .own 101, V.b p0_2]), (100, .vec false 102 3 (r.1.map encSToken)), (101, .vec false 61 2 (r.2.map encSSpan))]

theorem mi_speller__operator_F_ok (N : Nat) (R : Rec4) (HR : RecOk4 R) (a1 : STree) (a2 : SPos) (p0_2 : Bool) (p1 : List SToken) (p2 : List SSpan) {r : ((List SToken) × (List SSpan))} (h : mi_speller__operator_F N R a1 a2 p0_2 p1 p2 = some r) :
    AC Tryz.prog (GS [0, 1]) 114 [.loc 0 0, .agg [V.i a1.kind, V.i a1.op, V.s a1.text, V.s a1.other, .sl false false (a1.kids.map eST)], .agg [V.i a2.Level, V.b a2.Dollar, V.b a2.NoIn, V.b a2.NoGt, V.b a2.NoSign]] [(0, .cells 81 [.own 1, .own 2, V.b p0_2]), (1, .vec false 102 3 (p1.map encSToken)), (2, .vec false 61 2 (p2.map encSSpan))] (.tup []) [(0, .cells 81 [.own 100, .own 101, V.b p0_2]), (100, .vec false 102 3 (r.1.map encSToken)), (101, .vec false 61 2 (r.2.map encSSpan))] := by
 rw [mi_speller__operator_F] at h
 refine AC.enter Tryz.func114 rfl ?_
 refine cV 100 ?_
 refine cV 102 ?_
 refine CO.block' ?_
 refine CO.join (fun (⟨a1, a2, p1, p2, y1⟩ : (STree × SPos × (List SToken) × (List SSpan) × Bool)) => ⟨tl 103 [(0, .loc 0 0), (4, .loc 100 0), (5, .loc 101 0), (7, V.i a1.kind), (25, V.b y1)], [(0, .cells 81 [.own 1, .own 2, V.b p0_2]), (100, .cells 69 [V.i a1.kind, V.i a1.op, V.s a1.text, V.s a1.other, .sl false false (a1.kids.map eST)]), (101, .cells 30 [V.i a2.Level, V.b a2.Dollar, V.b a2.NoIn, V.b a2.NoGt, V.b a2.NoSign]), (1, .vec false 102 3 (p1.map encSToken)), (2, .vec false 61 2 (p2.map encSSpan))]⟩) (fun i => mi_speller__operator_k1 N R p0_2 i = some r) ?_ ?_
 · rintro ⟨a1, a2, p1, p2, y1⟩ h2
   rw [mi_speller__operator_k1] at h2
   refine cI h2 (fun _ h2 => ?_) (fun _ h2 => ?_)
   ·refine bB h2 fun r4 hx6 h2 => ?_
    refine bB h2 fun r5 hx7 h2 => ?_
    refine CO.sw mix ?_
    refine wR 3 102 ?_
    refine W.call0 (mi_sign_ok a1.op hx6) cok80 rfl (by kernel_rfl) ?_
    refine wR 1 102 ?_
    refine W.call (AC.gs (mi_speller__put_ok [r4] p0_2 p1 p2 hx7) (by decide)) cok79 [(0, 0), (1, 1), (2, 2)] [(0, 0), (2, 2), (100, 103)] [103] (LayOk.cons (j := 102) encSToken encSToken ([r4] : List SToken) (by kernel_rfl) (fun _ => rfl) (show LayOk _ [] from trivial)) (by kernel_rfl) (by kernel_rfl) ?_
    refine wF ?_
    refine bB h2 fun r7 hx9 h2 => ?_
    refine CO.cutE (tl 103 []) [(104, .vec false 102 3 (r7.1.map encSToken)), (105, .vec false 61 2 (r7.2.map encSSpan)), (0, .cells 81 [.own 104, .own 105, V.b p0_2])] mix (by
     refine wR 3 104 ?_
     refine W.call (HR.mi_speller__kid a1 0 a2 p0_2 r5 p2 _ hx9) cok134 [(0, 0), (103, 1), (2, 2)] [(0, 0), (100, 104), (101, 105)] [104, 105] (show LayOk _ [] from trivial) (by kernel_rfl) (by kernel_rfl) ?_
     exact fI
     ) ?_
    cases h2
    exact eG [(0, 0), (104, 100), (105, 101)] (.inl rfl) (RetV.none rfl)
   refine cV 102 ?_
   refine cI h2 (fun _ h2 => ?_) (fun _ h2 => ?_)
   ·refine bB h2 fun r10 hx13 h2 => ?_
    refine bB h2 fun r11 hx14 h2 => ?_
    refine CO.sw mix ?_
    refine wR 1 102 ?_
    refine W.call0 (mi_sign_ok 68 hx13) cok80 rfl (by kernel_rfl) ?_
    refine wR 1 102 ?_
    refine W.call (AC.gs (mi_speller__put_ok [r10] p0_2 p1 p2 hx14) (by decide)) cok79 [(0, 0), (1, 1), (2, 2)] [(0, 0), (2, 2), (100, 103)] [103] (LayOk.cons (j := 102) encSToken encSToken ([r10] : List SToken) (by kernel_rfl) (fun _ => rfl) (show LayOk _ [] from trivial)) (by kernel_rfl) (by kernel_rfl) ?_
    refine wF ?_
    refine bB h2 fun r13 hx16 h2 => ?_
    refine CO.cutE (tl 103 []) [(104, .vec false 102 3 (r13.1.map encSToken)), (105, .vec false 61 2 (r13.2.map encSSpan)), (0, .cells 81 [.own 104, .own 105, V.b p0_2])] mix (by
     refine wR 3 104 ?_
     refine W.call (HR.mi_speller__kid a1 0 a2 p0_2 r11 p2 _ hx16) cok134 [(0, 0), (103, 1), (2, 2)] [(0, 0), (100, 104), (101, 105)] [104, 105] (show LayOk _ [] from trivial) (by kernel_rfl) (by kernel_rfl) ?_
     exact fI
     ) ?_
    cases h2
    exact eG [(0, 0), (104, 100), (105, 101)] (.inl rfl) (RetV.none rfl)
   refine cV 102 ?_
   refine cI h2 (fun _ h2 => ?_) (fun _ h2 => ?_)
   ·refine bB h2 fun r15 hx19 h2 => ?_
    refine CO.sw mix ?_
    refine wR 3 102 ?_
    refine W.call (HR.mi_speller__kid a1 0 a2 p0_2 p1 p2 _ hx19) cok134 [(0, 0), (1, 1), (2, 2)] [(0, 0), (100, 102), (101, 103)] [102, 103] (show LayOk _ [] from trivial) (by kernel_rfl) (by kernel_rfl) ?_
    refine wF ?_
    refine bB h2 fun r18 hx22 h2 => ?_
    refine bB h2 fun r19 hx23 h2 => ?_
    refine CO.cutE (tl 103 []) [(105, .vec false 102 3 (r19.map encSToken)), (103, .vec false 61 2 (r15.2.map encSSpan)), (0, .cells 81 [.own 105, .own 103, V.b p0_2])] mix (by
     refine wR 3 104 ?_
     refine W.call0 (mi_sign_ok a1.op hx22) cok80 rfl (by kernel_rfl) ?_
     refine wR 1 104 ?_
     refine W.call (AC.gs (mi_speller__put_ok [r18] p0_2 r15.1 r15.2 hx23) (by decide)) cok79 [(0, 0), (102, 1), (103, 2)] [(0, 0), (2, 103), (100, 105)] [105] (LayOk.cons (j := 104) encSToken encSToken ([r18] : List SToken) (by kernel_rfl) (fun _ => rfl) (show LayOk _ [] from trivial)) (by kernel_rfl) (by kernel_rfl) ?_
     exact fI
     ) ?_
    cases h2
    exact eG [(0, 0), (105, 100), (103, 101)] (.inl rfl) (RetV.none rfl)
   refine cV 102 ?_
   refine cI h2 (fun _ h2 => ?_) (fun _ h2 => ?_)
   ·refine CO.join (fun (⟨a1, y24, y25⟩ : (STree × (List SToken) × (List SSpan))) => ⟨tl 103 [(0, .loc 0 0), (4, .loc 100 0)], [(0, .cells 81 [.own 101, .own 102, V.b p0_2]), (100, .cells 69 [V.i a1.kind, V.i a1.op, V.s a1.text, V.s a1.other, .sl false false (a1.kids.map eST)]), (101, .vec false 102 3 (y24.map encSToken)), (102, .vec false 61 2 (y25.map encSSpan))]⟩) (fun i => mi_speller__operator_k2 N R p0_2 i = some r) ?_ ?_
    · rintro ⟨a1, y24, y25⟩ h30
      rw [mi_speller__operator_k2] at h30
      refine bB h30 fun r28 hx33 h30 => ?_
      refine bB h30 fun r29 hx34 h30 => ?_
      refine CO.cutE (tl 103 []) [(105, .vec false 102 3 (r29.map encSToken)), (0, .cells 81 [.own 105, .own 102, V.b p0_2]), (102, .vec false 61 2 (y25.map encSSpan))] mix (by
       refine wR 1 104 ?_
       refine W.call0 (mi_sign_ok 24 hx33) cok80 rfl (by kernel_rfl) ?_
       refine wR 4 104 ?_
       refine W.call (AC.gs (mi_speller__put_ok [r28, (⟨6, a1.text, 0⟩ : SToken)] p0_2 y24 y25 hx34) (by decide)) cok79 [(0, 0), (101, 1), (102, 2)] [(0, 0), (2, 102), (100, 105)] [105] (LayOk.cons (j := 104) encSToken encSToken ([r28, (⟨6, a1.text, 0⟩ : SToken)] : List SToken) (by kernel_rfl) (fun _ => rfl) (show LayOk _ [] from trivial)) (by kernel_rfl) (by kernel_rfl) ?_
       exact fI
       ) ?_
      cases h30
      exact eG [(0, 0), (105, 100), (102, 101)] (.inl rfl) (RetV.none rfl)
    intro hk35
    refine CO.sw mix ?_
    refine wR 2 102 ?_
    refine W.len Dk eST a1.kids [] (by kernel_rfl) (by kernel_rfl) ?_
    refine wR 1 102 ?_
    refine wF ?_
    refine cI h2 (fun _ h2 => ?_) (fun _ h2 => ?_)
    ·refine bB h2 fun r31 hx38 h2 => ?_
     refine CO.w mix ?_
     refine wR 3 102 ?_
     refine W.call (HR.mi_speller__list a1 32 33 a2 p0_2 p1 p2 _ hx38) cok113 [(0, 0), (1, 1), (2, 2)] [(0, 0), (100, 102), (101, 103)] [102, 103] (show LayOk _ [] from trivial) (by kernel_rfl) (by kernel_rfl) ?_
     exact wK hk35 (a1, r31.1, r31.2) h2 [(0, 0), (100, 100), (102, 101), (103, 102)] [0, 4]
    refine bB h2 fun r33 hx40 h2 => ?_
    refine CO.w mix ?_
    refine wR 3 102 ?_
    refine W.call (HR.mi_speller__kid a1 0 a2 p0_2 p1 p2 _ hx40) cok134 [(0, 0), (1, 1), (2, 2)] [(0, 0), (100, 102), (101, 103)] [102, 103] (show LayOk _ [] from trivial) (by kernel_rfl) (by kernel_rfl) ?_
    exact wK hk35 (a1, r33.1, r33.2) h2 [(0, 0), (100, 100), (102, 101), (103, 102)] [0, 4]
   refine cV 102 ?_
   refine cI h2 (fun _ h2 => ?_) (fun _ h2 => ?_)
   ·refine bB h2 fun r35 hx43 h2 => ?_
    refine CO.sw mix ?_
    refine wR 3 102 ?_
    refine W.call (HR.mi_speller__kid a1 0 a2 p0_2 p1 p2 _ hx43) cok134 [(0, 0), (1, 1), (2, 2)] [(0, 0), (100, 102), (101, 103)] [102, 103] (show LayOk _ [] from trivial) (by kernel_rfl) (by kernel_rfl) ?_
    refine wF ?_
    refine bB h2 fun r38 hx46 h2 => ?_
    refine bB h2 fun r39 hx47 h2 => ?_
    refine CO.sw mix ?_
    refine wR 1 104 ?_
    refine W.call0 (mi_sign_ok 65 hx46) cok80 rfl (by kernel_rfl) ?_
    refine wR 1 104 ?_
    refine W.call (AC.gs (mi_speller__put_ok [r38] p0_2 r35.1 r35.2 hx47) (by decide)) cok79 [(0, 0), (102, 1), (103, 2)] [(0, 0), (2, 103), (100, 105)] [105] (LayOk.cons (j := 104) encSToken encSToken ([r38] : List SToken) (by kernel_rfl) (fun _ => rfl) (show LayOk _ [] from trivial)) (by kernel_rfl) (by kernel_rfl) ?_
    refine wF ?_
    refine bB h2 fun r41 hx49 h2 => ?_
    refine CO.sw mix ?_
    refine wR 3 106 ?_
    refine W.call (HR.mi_speller__kid a1 1 a2 p0_2 r39 r35.2 _ hx49) cok134 [(0, 0), (105, 1), (103, 2)] [(0, 0), (100, 106), (101, 107)] [106, 107] (show LayOk _ [] from trivial) (by kernel_rfl) (by kernel_rfl) ?_
    refine wF ?_
    refine bB h2 fun r44 hx52 h2 => ?_
    refine bB h2 fun r45 hx53 h2 => ?_
    refine CO.sw mix ?_
    refine wR 1 108 ?_
    refine W.call0 (mi_sign_ok 66 hx52) cok80 rfl (by kernel_rfl) ?_
    refine wR 1 108 ?_
    refine W.call (AC.gs (mi_speller__put_ok [r44] p0_2 r41.1 r41.2 hx53) (by decide)) cok79 [(0, 0), (106, 1), (107, 2)] [(0, 0), (2, 107), (100, 109)] [109] (LayOk.cons (j := 108) encSToken encSToken ([r44] : List SToken) (by kernel_rfl) (fun _ => rfl) (show LayOk _ [] from trivial)) (by kernel_rfl) (by kernel_rfl) ?_
    refine wF ?_
    refine bB h2 fun r47 hx55 h2 => ?_
    refine CO.cutE (tl 103 []) [(110, .vec false 102 3 (r47.1.map encSToken)), (111, .vec false 61 2 (r47.2.map encSSpan)), (0, .cells 81 [.own 110, .own 111, V.b p0_2])] mix (by
     refine wR 3 110 ?_
     refine W.call (HR.mi_speller__kid a1 2 a2 p0_2 r45 r41.2 _ hx55) cok134 [(0, 0), (109, 1), (107, 2)] [(0, 0), (100, 110), (101, 111)] [110, 111] (show LayOk _ [] from trivial) (by kernel_rfl) (by kernel_rfl) ?_
     exact fI
     ) ?_
    cases h2
    exact eG [(0, 0), (110, 100), (111, 101)] (.inl rfl) (RetV.none rfl)
   refine bB h2 fun r49 hx57 h2 => ?_
   refine CO.sw mix ?_
   refine wR 3 102 ?_
   refine W.call (HR.mi_speller__kid a1 0 a2 p0_2 p1 p2 _ hx57) cok134 [(0, 0), (1, 1), (2, 2)] [(0, 0), (100, 102), (101, 103)] [102, 103] (show LayOk _ [] from trivial) (by kernel_rfl) (by kernel_rfl) ?_
   refine wF ?_
   refine CO.join (fun (⟨a1, a2, r49, y54⟩ : (STree × SPos × ((List SToken) × (List SSpan)) × (List SToken))) => ⟨tl 103 [(0, .loc 0 0), (4, .loc 100 0), (5, .loc 101 0)], [(0, .cells 81 [.own 102, .own 103, V.b p0_2]), (100, .cells 69 [V.i a1.kind, V.i a1.op, V.s a1.text, V.s a1.other, .sl false false (a1.kids.map eST)]), (101, .cells 30 [V.i a2.Level, V.b a2.Dollar, V.b a2.NoIn, V.b a2.NoGt, V.b a2.NoSign]), (102, .vec false 102 3 (y54.map encSToken)), (103, .vec false 61 2 (r49.2.map encSSpan))]⟩) (fun i => mi_speller__operator_k3 N R p0_2 i = some r) ?_ ?_
   · rintro ⟨a1, a2, r49, y54⟩ h63
     rw [mi_speller__operator_k3] at h63
     refine bB h63 fun r56 hx65 h63 => ?_
     refine CO.cutE (tl 103 []) [(106, .vec false 102 3 (r56.1.map encSToken)), (107, .vec false 61 2 (r56.2.map encSSpan)), (0, .cells 81 [.own 106, .own 107, V.b p0_2])] mix (by
      refine wR 3 106 ?_
      refine W.call (HR.mi_speller__kid a1 1 a2 p0_2 y54 r49.2 _ hx65) cok134 [(0, 0), (102, 1), (103, 2)] [(0, 0), (100, 106), (101, 107)] [106, 107] (show LayOk _ [] from trivial) (by kernel_rfl) (by kernel_rfl) ?_
      exact fI
      ) ?_
     cases h63
     exact eG [(0, 0), (106, 100), (107, 101)] (.inl rfl) (RetV.none rfl)
   intro hk66
   refine cV 104 ?_
   refine cI h2 (fun _ h2 => ?_) (fun _ h2 => ?_)
   ·refine bB h2 fun r59 hx70 h2 => ?_
    refine bB h2 fun r60 hx71 h2 => ?_
    refine CO.w mix ?_
    refine wR 3 104 ?_
    refine W.call0 (mi_sign_ok a1.op hx70) cok80 rfl (by kernel_rfl) ?_
    refine wR 1 104 ?_
    refine W.call (AC.gs (mi_speller__put_ok [r59] p0_2 r49.1 r49.2 hx71) (by decide)) cok79 [(0, 0), (102, 1), (103, 2)] [(0, 0), (2, 103), (100, 105)] [105] (LayOk.cons (j := 104) encSToken encSToken ([r59] : List SToken) (by kernel_rfl) (fun _ => rfl) (show LayOk _ [] from trivial)) (by kernel_rfl) (by kernel_rfl) ?_
    exact wK hk66 (a1, a2, r49, r60) h2 [(0, 0), (100, 100), (101, 101), (105, 102), (103, 103)] [0, 4, 5]
   exact sK hk66 (a1, a2, r49, r49.1) h2 [(0, 0), (100, 100), (101, 101), (102, 102), (103, 103)] [0, 4, 5]
 intro hk72
 refine cV 102 ?_
 refine cI h (fun _ h => ?_) (fun _ h => ?_)
 ·exact sK hk72 (a1, a2, p1, p2, (a1.kind == 9)) h [(0, 0), (100, 100), (101, 101), (1, 1), (2, 2)] [0, 4, 5, 7, 25]
 exact cK 102 hk72 (a1, a2, p1, p2, (a1.kind == 11)) h [(0, 0), (100, 100), (101, 101), (1, 1), (2, 2)] [0, 4, 5, 7, 25]

theorem mi_speller__kid_F_ok (N : Nat) (R : Rec4) (HR : RecOk4 R) (a1 : STree) (a2 : Int) (a3 : SPos) (p0_2 : Bool) (p1 : List SToken) (p2 : List SSpan) {r : ((List SToken) × (List SSpan))} (h : mi_speller__kid_F N R a1 a2 a3 p0_2 p1 p2 = some r) :
    AC Tryz.prog (GS [0, 1]) 134 [.loc 0 0, .agg [V.i a1.kind, V.i a1.op, V.s a1.text, V.s a1.other, .sl false false (a1.kids.map eST)], V.i a2, .agg [V.i a3.Level, V.b a3.Dollar, V.b a3.NoIn, V.b a3.NoGt, V.b a3.NoSign]] [(0, .cells 81 [.own 1, .own 2, V.b p0_2]), (1, .vec false 102 3 (p1.map encSToken)), (2, .vec false 61 2 (p2.map encSSpan))] (.tup []) [(0, .cells 81 [.own 100, .own 101, V.b p0_2]), (100, .vec false 102 3 (r.1.map encSToken)), (101, .vec false 61 2 (r.2.map encSSpan))] := by
 rw [mi_speller__kid_F] at h
 refine AC.enter Tryz.func134 rfl ?_
 refine cV 100 ?_
 refine bB h fun r3 hx3 h => ?_
 refine bB h fun e4 hx4 h => ?_
 refine CO.sw mix ?_
 refine wR 1 102 ?_
 refine W.call (AC.gs (mi_tree__node_ok N a1 hx3) (by decide)) cok75 [] [(100, 102)] [102] (show LayOk _ [] from trivial) (by kernel_rfl) (by kernel_rfl) ?_
 refine wR 3 103 ?_
 refine W.ixDr Dk eST hx4 5 (by kernel_rfl) (encSTree_eq e4) (by kernel_rfl) ?_
 refine wR 5 103 ?_
 refine wF ?_
 refine bB h fun r6 hx6 h => ?_
 refine CO.sw mix ?_
 refine wR 3 105 ?_
 refine W.lend (AC.gs (mi_KidPos_ok r3 a2 a3 hx6) (by decide)) cok155 [] [] (LayOk.cons (j := 102) encI encI r3.Kids (by kernel_rfl) (fun _ => rfl) (show LayOk _ [] from trivial)) (.agg _ (.cons (.c _) (.cons (.c _) (.cons (.c _) (.cons (.c _) (.cons (.c _) .nil)))))) .nil (by kernel_rfl) (by kernel_rfl) ?_
 refine wR 2 105 ?_
 refine wF ?_
 refine CO.seq' ?_
 refine bB h fun r12 hx13 h => ?_
 refine CO.sw mix ?_
 refine wR 2 106 ?_
 refine W.lend (AC.gs (mi_isTarget_ok r3 a2 hx13) (by decide)) cok156 [] [] (LayOk.cons (j := 102) encI encI r3.Kids (by kernel_rfl) (fun _ => rfl) (show LayOk _ [] from trivial)) (.c _) .nil (by kernel_rfl) (by kernel_rfl) ?_
 refine wF ?_
 refine cI h (fun _ h => ?_) (fun _ h => ?_)
 ·refine bB h fun r14 hx16 h => ?_
  refine CO.sw mix ?_
  refine wR 3 106 ?_
  refine W.call (HR.mi_speller__bare e4 r6 p0_2 p1 p2 _ hx16) cok78 [(0, 0), (1, 1), (2, 2)] [(0, 0), (100, 106), (101, 107)] [106, 107] (show LayOk _ [] from trivial) (by kernel_rfl) (by kernel_rfl) ?_
  refine wF ?_
  refine CO.ret ?_
  cases h
  exact eG [(0, 0), (106, 100), (107, 101)] (.inr rfl) (RetV.none rfl)
 refine CO.skip ?_
 refine bB h fun r16 hx18 h => ?_
 refine CO.cutE (tl 33 []) [(106, .vec false 102 3 (r16.1.map encSToken)), (107, .vec false 61 2 (r16.2.map encSSpan)), (0, .cells 81 [.own 106, .own 107, V.b p0_2])] mix (by
  refine wR 3 106 ?_
  refine W.call (HR.mi_speller__expr e4 r6 p0_2 p1 p2 _ hx18) cok52 [(0, 0), (1, 1), (2, 2)] [(0, 0), (100, 106), (101, 107)] [106, 107] (show LayOk _ [] from trivial) (by kernel_rfl) (by kernel_rfl) ?_
  exact fI
  ) ?_
 cases h
 exact eG [(0, 0), (106, 100), (107, 101)] (.inl rfl) (RetV.none rfl)

theorem mi_speller__list_F_ok (N : Nat) (R : Rec4) (HR : RecOk4 R) (a1 : STree) (a2 : Int) (a3 : Int) (a4 : SPos) (p0_2 : Bool) (p1 : List SToken) (p2 : List SSpan) {r : ((List SToken) × (List SSpan))} (h : mi_speller__list_F N R a1 a2 a3 a4 p0_2 p1 p2 = some r) :
    AC Tryz.prog (GS [0, 1]) 113 [.loc 0 0, .agg [V.i a1.kind, V.i a1.op, V.s a1.text, V.s a1.other, .sl false false (a1.kids.map eST)], V.i a2, V.i a3, .agg [V.i a4.Level, V.b a4.Dollar, V.b a4.NoIn, V.b a4.NoGt, V.b a4.NoSign]] [(0, .cells 81 [.own 1, .own 2, V.b p0_2]), (1, .vec false 102 3 (p1.map encSToken)), (2, .vec false 61 2 (p2.map encSSpan))] (.tup []) [(0, .cells 81 [.own 100, .own 101, V.b p0_2]), (100, .vec false 102 3 (r.1.map encSToken)), (101, .vec false 61 2 (r.2.map encSSpan))] := by
 rw [mi_speller__list_F] at h
 refine AC.enter Tryz.func113 rfl ?_
 refine cV 100 ?_
 refine bB h fun r3 hx3 h => ?_
 refine bB h fun r4 hx4 h => ?_
 refine CO.sw mix ?_
 refine wR 2 102 ?_
 refine W.call0 (mi_sign_ok a2 hx3) cok80 rfl (by kernel_rfl) ?_
 refine wR 1 102 ?_
 refine W.call (AC.gs (mi_speller__put_ok [r3] p0_2 p1 p2 hx4) (by decide)) cok79 [(0, 0), (1, 1), (2, 2)] [(0, 0), (2, 2), (100, 103)] [103] (LayOk.cons (j := 102) encSToken encSToken ([r3] : List SToken) (by kernel_rfl) (fun _ => rfl) (show LayOk _ [] from trivial)) (by kernel_rfl) (by kernel_rfl) ?_
 refine wF ?_
 refine CO.seq' ?_
 refine CO.sw mix ?_
 refine wR 2 104 ?_
 refine W.len Dk eST a1.kids [] (by kernel_rfl) (by kernel_rfl) ?_
 refine wR 1 104 ?_
 refine wF ?_
 refine CO.block' ?_
 refine CO.loopJ (fun (⟨a3, a1, a4, y63, y64, y65⟩ : (Int × STree × SPos × Int × (List SToken) × (List SSpan))) => ⟨tl 39 [(0, .loc 0 0), (3, V.i a3), (6, .loc 100 0), (9, .loc 101 0), (18, V.i (a1.kids.length : Int)), (19, V.i y63)], [(0, .cells 81 [.own 102, .own 103, V.b p0_2]), (100, .cells 69 [V.i a1.kind, V.i a1.op, V.s a1.text, V.s a1.other, .sl false false (a1.kids.map eST)]), (101, .cells 30 [V.i a4.Level, V.b a4.Dollar, V.b a4.NoIn, V.b a4.NoGt, V.b a4.NoSign]), (102, .vec false 102 3 (y64.map encSToken)), (103, .vec false 61 2 (y65.map encSSpan))]⟩) (fun n i => mi_speller__list_l1 N R p0_2 n i = some r) (n0 := N) (i0 := (a3, a1, a4, 0, r4, p2)) (wS [(0, 0), (100, 100), (101, 101), (103, 102), (2, 103)] [0, 3, 6, 9, 18, 19]) h (fun i h => by simp [mi_speller__list_l1] at h) ?_
 rintro n1 ⟨a3, a1, a4, y63, y64, y65⟩ h109 ih110
 rw [mi_speller__list_l1] at h109
 refine cV 170 ?_
 refine CO.seq' ?_
 refine cI h109 (fun _ h109 => ?_) (fun _ h109 => ?_)
 ·refine CO.skip ?_
  refine CO.seq' ?_
  refine CO.block' ?_
  refine cV 170 ?_
  refine CO.join (fun (⟨a3, y63, a1, a4, y65, y106⟩ : (Int × Int × STree × SPos × (List SSpan) × (List SToken))) => ⟨tl 39 [(0, .loc 0 0), (3, V.i a3), (6, .loc 100 0), (9, .loc 101 0), (10, V.i y63), (18, V.i (a1.kids.length : Int)), (19, V.i y63)], [(0, .cells 81 [.own 102, .own 103, V.b p0_2]), (100, .cells 69 [V.i a1.kind, V.i a1.op, V.s a1.text, V.s a1.other, .sl false false (a1.kids.map eST)]), (101, .cells 30 [V.i a4.Level, V.b a4.Dollar, V.b a4.NoIn, V.b a4.NoGt, V.b a4.NoSign]), (102, .vec false 102 3 (y106.map encSToken)), (103, .vec false 61 2 (y65.map encSSpan))]⟩) (fun i => mi_speller__list_k2 N R p0_2 (mi_speller__list_l1 N R p0_2 n1) i = some r) ?_ ?_
  · rintro ⟨a3, y63, a1, a4, y65, y106⟩ h132
    rw [mi_speller__list_k2] at h132
    refine bB h132 fun r108 hx134 h132 => ?_
    refine CO.endR (tl 39 [(0, .loc 0 0), (3, V.i a3), (6, .loc 100 0), (9, .loc 101 0), (18, V.i (a1.kids.length : Int)), (19, V.i y63)]) [(172, .vec false 102 3 (r108.1.map encSToken)), (173, .vec false 61 2 (r108.2.map encSSpan)), (0, .cells 81 [.own 172, .own 173, V.b p0_2]), (100, .cells 69 [V.i a1.kind, V.i a1.op, V.s a1.text, V.s a1.other, .sl false false (a1.kids.map eST)]), (101, .cells 30 [V.i a4.Level, V.b a4.Dollar, V.b a4.NoIn, V.b a4.NoGt, V.b a4.NoSign])] mix (by
     refine wR 4 172 ?_
     refine W.call (HR.mi_speller__kid a1 y63 a4 p0_2 y106 y65 _ hx134) cok134 [(0, 0), (102, 1), (103, 2)] [(0, 0), (100, 172), (101, 173)] [172, 173] (show LayOk _ [] from trivial) (by kernel_rfl) (by kernel_rfl) ?_
     exact fI
     ) (fun st hw => ?_)
    refine CO.weak hw ?_
    exact cK 174 ih110 (a3, a1, a4, (IntKind.wrap .i64 (y63 + 1)), r108.1, r108.2) h132 [(0, 0), (100, 100), (101, 101), (172, 102), (173, 103)] [0, 3, 6, 9, 18, 19]
  intro hk135
  refine cV 170 ?_
  refine cI h109 (fun _ h109 => ?_) (fun _ h109 => ?_)
  ·refine bB h109 fun r111 hx139 h109 => ?_
   refine bB h109 fun r112 hx140 h109 => ?_
   refine CO.w mix ?_
   refine wR 1 170 ?_
   refine W.call0 (mi_sign_ok 36 hx139) cok80 rfl (by kernel_rfl) ?_
   refine wR 1 170 ?_
   refine W.call (AC.gs (mi_speller__put_ok [r111] p0_2 y64 y65 hx140) (by decide)) cok79 [(0, 0), (102, 1), (103, 2)] [(0, 0), (2, 103), (100, 171)] [171] (LayOk.cons (j := 170) encSToken encSToken ([r111] : List SToken) (by kernel_rfl) (fun _ => rfl) (show LayOk _ [] from trivial)) (by kernel_rfl) (by kernel_rfl) ?_
   exact wK hk135 (a3, y63, a1, a4, y65, r112) h109 [(0, 0), (100, 100), (101, 101), (171, 102), (103, 103)] [0, 3, 6, 9, 10, 18, 19]
  exact sK hk135 (a3, y63, a1, a4, y65, y64) h109 [(0, 0), (100, 100), (101, 101), (102, 102), (103, 103)] [0, 3, 6, 9, 10, 18, 19]
 refine CO.exit ?_
 refine bB h109 fun r115 hx143 h109 => ?_
 refine bB h109 fun r116 hx144 h109 => ?_
 refine CO.cutE (tl 39 []) [(171, .vec false 102 3 (r116.map encSToken)), (0, .cells 81 [.own 171, .own 103, V.b p0_2]), (103, .vec false 61 2 (y65.map encSSpan))] mix (by
  refine wR 2 170 ?_
  refine W.call0 (mi_sign_ok a3 hx143) cok80 rfl (by kernel_rfl) ?_
  refine wR 1 170 ?_
  refine W.call (AC.gs (mi_speller__put_ok [r115] p0_2 y64 y65 hx144) (by decide)) cok79 [(0, 0), (102, 1), (103, 2)] [(0, 0), (2, 103), (100, 171)] [171] (LayOk.cons (j := 170) encSToken encSToken ([r115] : List SToken) (by kernel_rfl) (fun _ => rfl) (show LayOk _ [] from trivial)) (by kernel_rfl) (by kernel_rfl) ?_
  exact fI
  ) ?_
 cases h109
 exact eG [(0, 0), (171, 100), (103, 101)] (.inl rfl) (RetV.none rfl)

theorem mi_speller__bare_F_ok (N : Nat) (R : Rec4) (HR : RecOk4 R) (a1 : STree) (a2 : SPos) (p0_2 : Bool) (p1 : List SToken) (p2 : List SSpan) {r : ((List SToken) × (List SSpan))} (h : mi_speller__bare_F N R a1 a2 p0_2 p1 p2 = some r) :
    AC Tryz.prog (GS [0, 1]) 78 [.loc 0 0, .agg [V.i a1.kind, V.i a1.op, V.s a1.text, V.s a1.other, .sl false false (a1.kids.map eST)], .agg [V.i a2.Level, V.b a2.Dollar, V.b a2.NoIn, V.b a2.NoGt, V.b a2.NoSign]] [(0, .cells 81 [.own 1, .own 2, V.b p0_2]), (1, .vec false 102 3 (p1.map encSToken)), (2, .vec false 61 2 (p2.map encSSpan))] (.tup []) [(0, .cells 81 [.own 100, .own 101, V.b p0_2]), (100, .vec false 102 3 (r.1.map encSToken)), (101, .vec false 61 2 (r.2.map encSSpan))] := by
 rw [mi_speller__bare_F] at h
 refine AC.enter Tryz.func78 rfl ?_
 refine cV 100 ?_
 refine CO.sw mix ?_
 refine wR 4 102 ?_
 refine W.len Dk encSToken p1 [1] (by kernel_rfl) (by kernel_rfl) ?_
 refine wR 1 102 ?_
 refine wF ?_
 refine CO.join (fun (⟨p1, y23, y24⟩ : ((List SToken) × (List SToken) × (List SSpan))) => ⟨tl 102 [(0, .loc 0 0), (6, V.i (p1.length : Int))], [(0, .cells 81 [.own 100, .own 101, V.b p0_2]), (100, .vec false 102 3 (y23.map encSToken)), (101, .vec false 61 2 (y24.map encSSpan))]⟩) (fun i => mi_speller__bare_k1 N R p0_2 i = some r) ?_ ?_
 · rintro ⟨p1, y23, y24⟩ h30
   rw [mi_speller__bare_k1] at h30
   refine bB h30 fun x26 hx32 h30 => ?_
   refine CO.cutE (tl 102 []) [(0, .cells 81 [.own 100, .own 107, V.b p0_2]), (107, .vec false 61 2 (x26.map encSSpan)), (100, .vec false 102 3 (y23.map encSToken))] mix (by
    refine wR 10 106 ?_
    refine W.len Dk encSToken y23 [100] (by kernel_rfl) (by kernel_rfl) ?_
    refine wR 2 106 ?_
    refine W.appO Dk encSSpan (a := 101) (c := 106) (el := 61) (sz := 2) 16 hx32 rfl 107 (by kernel_rfl) ?_
    refine wR 3 108 ?_
    exact fI
    ) ?_
   cases h30
   exact eG [(0, 0), (100, 100), (107, 101)] (.inl rfl) (RetV.none rfl)
 intro hk33
 refine cV 102 ?_
 refine CO.block' ?_
 refine cV 102 ?_
 refine cI h (fun _ h => ?_) (fun _ h => ?_)
 ·refine bB h fun r28 hx36 h => ?_
  refine CO.w mix ?_
  refine wR 5 102 ?_
  refine W.call (AC.gs (mi_speller__put_ok [(⟨6, a1.text, 0⟩ : SToken)] p0_2 p1 p2 hx36) (by decide)) cok79 [(0, 0), (1, 1), (2, 2)] [(0, 0), (2, 2), (100, 103)] [103] (LayOk.cons (j := 102) encSToken encSToken ([(⟨6, a1.text, 0⟩ : SToken)] : List SToken) (by kernel_rfl) (fun _ => rfl) (show LayOk _ [] from trivial)) (by kernel_rfl) (by kernel_rfl) ?_
  exact wK hk33 (p1, r28, p2) h [(0, 0), (103, 100), (2, 101)] [0, 6]
 refine cV 102 ?_
 refine cI h (fun _ h => ?_) (fun _ h => ?_)
 ·refine bB h fun r30 hx39 h => ?_
  refine CO.w mix ?_
  refine wR 5 102 ?_
  refine W.call (AC.gs (mi_speller__put_ok [(⟨3, a1.text, 0⟩ : SToken)] p0_2 p1 p2 hx39) (by decide)) cok79 [(0, 0), (1, 1), (2, 2)] [(0, 0), (2, 2), (100, 103)] [103] (LayOk.cons (j := 102) encSToken encSToken ([(⟨3, a1.text, 0⟩ : SToken)] : List SToken) (by kernel_rfl) (fun _ => rfl) (show LayOk _ [] from trivial)) (by kernel_rfl) (by kernel_rfl) ?_
  exact wK hk33 (p1, r30, p2) h [(0, 0), (103, 100), (2, 101)] [0, 6]
 refine cV 102 ?_
 refine cI h (fun _ h => ?_) (fun _ h => ?_)
 ·refine bB h fun r32 hx42 h => ?_
  refine CO.w mix ?_
  refine wR 5 102 ?_
  refine W.call (AC.gs (mi_speller__put_ok [(⟨4, a1.text, 0⟩ : SToken)] p0_2 p1 p2 hx42) (by decide)) cok79 [(0, 0), (1, 1), (2, 2)] [(0, 0), (2, 2), (100, 103)] [103] (LayOk.cons (j := 102) encSToken encSToken ([(⟨4, a1.text, 0⟩ : SToken)] : List SToken) (by kernel_rfl) (fun _ => rfl) (show LayOk _ [] from trivial)) (by kernel_rfl) (by kernel_rfl) ?_
  exact wK hk33 (p1, r32, p2) h [(0, 0), (103, 100), (2, 101)] [0, 6]
 refine cV 102 ?_
 refine cI h (fun _ h => ?_) (fun _ h => ?_)
 ·refine bB h fun r34 hx45 h => ?_
  refine CO.w mix ?_
  refine wR 5 102 ?_
  refine W.call (AC.gs (mi_speller__put_ok [(⟨5, a1.text, 0⟩ : SToken)] p0_2 p1 p2 hx45) (by decide)) cok79 [(0, 0), (1, 1), (2, 2)] [(0, 0), (2, 2), (100, 103)] [103] (LayOk.cons (j := 102) encSToken encSToken ([(⟨5, a1.text, 0⟩ : SToken)] : List SToken) (by kernel_rfl) (fun _ => rfl) (show LayOk _ [] from trivial)) (by kernel_rfl) (by kernel_rfl) ?_
  exact wK hk33 (p1, r34, p2) h [(0, 0), (103, 100), (2, 101)] [0, 6]
 refine cV 102 ?_
 refine cI h (fun _ h => ?_) (fun _ h => ?_)
 ·refine bB h fun r36 hx48 h => ?_
  refine CO.sw mix ?_
  refine wR 5 102 ?_
  refine W.call (AC.gs (mi_speller__put_ok [(⟨6, a1.text, 0⟩ : SToken)] p0_2 p1 p2 hx48) (by decide)) cok79 [(0, 0), (1, 1), (2, 2)] [(0, 0), (2, 2), (100, 103)] [103] (LayOk.cons (j := 102) encSToken encSToken ([(⟨6, a1.text, 0⟩ : SToken)] : List SToken) (by kernel_rfl) (fun _ => rfl) (show LayOk _ [] from trivial)) (by kernel_rfl) (by kernel_rfl) ?_
  refine wF ?_
  refine bB h fun r38 hx50 h => ?_
  refine CO.w mix ?_
  refine wR 3 104 ?_
  refine W.call (HR.mi_speller__list a1 34 35 a2 p0_2 r36 p2 _ hx50) cok113 [(0, 0), (103, 1), (2, 2)] [(0, 0), (100, 104), (101, 105)] [104, 105] (show LayOk _ [] from trivial) (by kernel_rfl) (by kernel_rfl) ?_
  exact wK hk33 (p1, r38.1, r38.2) h [(0, 0), (104, 100), (105, 101)] [0, 6]
 refine cV 102 ?_
 refine cI h (fun _ h => ?_) (fun _ h => ?_)
 ·refine bB h fun r40 hx53 h => ?_
  refine CO.sw mix ?_
  refine wR 5 102 ?_
  refine W.call (AC.gs (mi_speller__put_ok [(⟨7, a1.text, 0⟩ : SToken)] p0_2 p1 p2 hx53) (by decide)) cok79 [(0, 0), (1, 1), (2, 2)] [(0, 0), (2, 2), (100, 103)] [103] (LayOk.cons (j := 102) encSToken encSToken ([(⟨7, a1.text, 0⟩ : SToken)] : List SToken) (by kernel_rfl) (fun _ => rfl) (show LayOk _ [] from trivial)) (by kernel_rfl) (by kernel_rfl) ?_
  refine wF ?_
  refine bB h fun r42 hx55 h => ?_
  refine CO.w mix ?_
  refine wR 3 104 ?_
  refine W.call (HR.mi_speller__list a1 32 33 a2 p0_2 r40 p2 _ hx55) cok113 [(0, 0), (103, 1), (2, 2)] [(0, 0), (100, 104), (101, 105)] [104, 105] (show LayOk _ [] from trivial) (by kernel_rfl) (by kernel_rfl) ?_
  exact wK hk33 (p1, r42.1, r42.2) h [(0, 0), (104, 100), (105, 101)] [0, 6]
 refine cV 102 ?_
 refine cI h (fun _ h => ?_) (fun _ h => ?_)
 ·refine bB h fun r44 hx58 h => ?_
  refine CO.sw mix ?_
  refine wR 5 102 ?_
  refine W.call (AC.gs (mi_speller__put_ok [(⟨8, a1.text, 0⟩ : SToken)] p0_2 p1 p2 hx58) (by decide)) cok79 [(0, 0), (1, 1), (2, 2)] [(0, 0), (2, 2), (100, 103)] [103] (LayOk.cons (j := 102) encSToken encSToken ([(⟨8, a1.text, 0⟩ : SToken)] : List SToken) (by kernel_rfl) (fun _ => rfl) (show LayOk _ [] from trivial)) (by kernel_rfl) (by kernel_rfl) ?_
  refine wF ?_
  refine bB h fun r46 hx60 h => ?_
  refine CO.w mix ?_
  refine wR 3 104 ?_
  refine W.call (HR.mi_speller__list a1 32 33 a2 p0_2 r44 p2 _ hx60) cok113 [(0, 0), (103, 1), (2, 2)] [(0, 0), (100, 104), (101, 105)] [104, 105] (show LayOk _ [] from trivial) (by kernel_rfl) (by kernel_rfl) ?_
  exact wK hk33 (p1, r46.1, r46.2) h [(0, 0), (104, 100), (105, 101)] [0, 6]
 refine bB h fun r48 hx62 h => ?_
 refine CO.w mix ?_
 refine wR 3 102 ?_
 refine W.call (HR.mi_speller__operator a1 a2 p0_2 p1 p2 _ hx62) cok114 [(0, 0), (1, 1), (2, 2)] [(0, 0), (100, 102), (101, 103)] [102, 103] (show LayOk _ [] from trivial) (by kernel_rfl) (by kernel_rfl) ?_
 exact wK hk33 (p1, r48.1, r48.2) h [(0, 0), (102, 100), (103, 101)] [0, 6]

theorem mi_speller__expr_F_ok (N : Nat) (R : Rec4) (HR : RecOk4 R) (a1 : STree) (a2 : SPos) (p0_2 : Bool) (p1 : List SToken) (p2 : List SSpan) {r : ((List SToken) × (List SSpan))} (h : mi_speller__expr_F N R a1 a2 p0_2 p1 p2 = some r) :
    AC Tryz.prog (GS [0, 1]) 52 [.loc 0 0, .agg [V.i a1.kind, V.i a1.op, V.s a1.text, V.s a1.other, .sl false false (a1.kids.map eST)], .agg [V.i a2.Level, V.b a2.Dollar, V.b a2.NoIn, V.b a2.NoGt, V.b a2.NoSign]] [(0, .cells 81 [.own 1, .own 2, V.b p0_2]), (1, .vec false 102 3 (p1.map encSToken)), (2, .vec false 61 2 (p2.map encSSpan))] (.tup []) [(0, .cells 81 [.own 100, .own 101, V.b p0_2]), (100, .vec false 102 3 (r.1.map encSToken)), (101, .vec false 61 2 (r.2.map encSSpan))] := by
 rw [mi_speller__expr_F] at h
 refine AC.enter Tryz.func52 rfl ?_
 refine cV 100 ?_
 refine bB h fun r2 hx2 h => ?_
 refine CO.sw mix ?_
 refine wR 1 102 ?_
 refine W.call (AC.gs (mi_tree__node_ok N a1 hx2) (by decide)) cok75 [] [(100, 102)] [102] (show LayOk _ [] from trivial) (by kernel_rfl) (by kernel_rfl) ?_
 refine wR 2 103 ?_
 refine wF ?_
 refine bB h fun r4 hx4 h => ?_
 refine CO.sw mix ?_
 refine wR 2 104 ?_
 refine W.lend (AC.gs (mi_Fits_ok r2 a2 hx4) (by decide)) cok76 [] [] (LayOk.cons (j := 102) encI encI r2.Kids (by kernel_rfl) (fun _ => rfl) (show LayOk _ [] from trivial)) (.c _) .nil (by kernel_rfl) (by kernel_rfl) ?_
 refine wR 2 104 ?_
 refine wF ?_
 refine CO.join (fun (⟨a1, a2, p1, p2, y8⟩ : (STree × SPos × (List SToken) × (List SSpan) × Bool)) => ⟨tl 44 [(0, .loc 0 0), (4, .loc 100 0), (5, .loc 101 0), (7, V.b y8)], [(0, .cells 81 [.own 1, .own 2, V.b p0_2]), (100, .cells 69 [V.i a1.kind, V.i a1.op, V.s a1.text, V.s a1.other, .sl false false (a1.kids.map eST)]), (101, .cells 30 [V.i a2.Level, V.b a2.Dollar, V.b a2.NoIn, V.b a2.NoGt, V.b a2.NoSign]), (1, .vec false 102 3 (p1.map encSToken)), (2, .vec false 61 2 (p2.map encSSpan))]⟩) (fun i => mi_speller__expr_k1 N R p0_2 i = some r) ?_ ?_
 · rintro ⟨a1, a2, p1, p2, y8⟩ h11
   rw [mi_speller__expr_k1] at h11
   refine CO.seq' ?_
   refine cV 104 ?_
   refine cI h11 (fun _ h11 => ?_) (fun _ h11 => ?_)
   ·refine bB h11 fun r12 hx17 h11 => ?_
    refine CO.sw mix ?_
    refine wR 3 104 ?_
    refine W.call (HR.mi_speller__bare a1 a2 p0_2 p1 p2 _ hx17) cok78 [(0, 0), (1, 1), (2, 2)] [(0, 0), (100, 104), (101, 105)] [104, 105] (show LayOk _ [] from trivial) (by kernel_rfl) (by kernel_rfl) ?_
    refine wF ?_
    refine CO.ret ?_
    cases h11
    exact eG [(0, 0), (104, 100), (105, 101)] (.inr rfl) (RetV.none rfl)
   refine CO.skip ?_
   refine bB h11 fun r15 hx20 h11 => ?_
   refine bB h11 fun r16 hx21 h11 => ?_
   refine CO.sw mix ?_
   refine wR 1 104 ?_
   refine W.call0 (mi_sign_ok 32 hx20) cok80 rfl (by kernel_rfl) ?_
   refine wR 1 104 ?_
   refine W.call (AC.gs (mi_speller__put_ok [r15] p0_2 p1 p2 hx21) (by decide)) cok79 [(0, 0), (1, 1), (2, 2)] [(0, 0), (2, 2), (100, 105)] [105] (LayOk.cons (j := 104) encSToken encSToken ([r15] : List SToken) (by kernel_rfl) (fun _ => rfl) (show LayOk _ [] from trivial)) (by kernel_rfl) (by kernel_rfl) ?_
   refine wF ?_
   refine bB h11 fun r19 hx24 h11 => ?_
   refine bB h11 fun r20 hx25 h11 => ?_
   refine CO.sw mix ?_
   refine wR 2 106 ?_
   refine W.call0 (AC.gs (mi_Top_ok  hx24) (by decide)) cok81 rfl (by kernel_rfl) ?_
   refine W.call (HR.mi_speller__bare a1 r19 p0_2 r16 p2 _ hx25) cok78 [(0, 0), (105, 1), (2, 2)] [(0, 0), (100, 106), (101, 107)] [106, 107] (show LayOk _ [] from trivial) (by kernel_rfl) (by kernel_rfl) ?_
   refine wF ?_
   refine bB h11 fun r23 hx28 h11 => ?_
   refine bB h11 fun r24 hx29 h11 => ?_
   refine CO.cutE (tl 44 []) [(109, .vec false 102 3 (r24.map encSToken)), (107, .vec false 61 2 (r20.2.map encSSpan)), (0, .cells 81 [.own 109, .own 107, V.b p0_2])] mix (by
    refine wR 1 108 ?_
    refine W.call0 (mi_sign_ok 33 hx28) cok80 rfl (by kernel_rfl) ?_
    refine wR 1 108 ?_
    refine W.call (AC.gs (mi_speller__put_ok [r23] p0_2 r20.1 r20.2 hx29) (by decide)) cok79 [(0, 0), (106, 1), (107, 2)] [(0, 0), (2, 107), (100, 109)] [109] (LayOk.cons (j := 108) encSToken encSToken ([r23] : List SToken) (by kernel_rfl) (fun _ => rfl) (show LayOk _ [] from trivial)) (by kernel_rfl) (by kernel_rfl) ?_
    exact fI
    ) ?_
   cases h11
   exact eG [(0, 0), (109, 100), (107, 101)] (.inl rfl) (RetV.none rfl)
 intro hk30
 refine cV 104 ?_
 refine cI h (fun _ h => ?_) (fun _ h => ?_)
 ·refine bB h fun y26 hv34 h => ?_
  refine CO.endR (tl 44 [(0, .loc 0 0), (4, .loc 100 0), (5, .loc 101 0), (7, V.b y26)]) [(0, .cells 81 [.own 1, .own 2, V.b p0_2]), (100, .cells 69 [V.i a1.kind, V.i a1.op, V.s a1.text, V.s a1.other, .sl false false (a1.kids.map eST)]), (101, .cells 30 [V.i a2.Level, V.b a2.Dollar, V.b a2.NoIn, V.b a2.NoGt, V.b a2.NoSign]), (1, .vec false 102 3 (p1.map encSToken)), (2, .vec false 61 2 (p2.map encSSpan))] mix (by
   refine wR 1 104 ?_
   refine bB hv34 fun r27 hx35 hv34 => ?_
   refine W.lend (AC.gs (mi_LevelOf_ok r2 hx35) (by decide)) cok77 [] [] (LayOk.cons (j := 102) encI encI r2.Kids (by kernel_rfl) (fun _ => rfl) (show LayOk _ [] from trivial)) (.c _) .nil (by kernel_rfl) (by kernel_rfl) ?_
   refine wR 2 104 ?_
   refine wJ 21 hv34 (fun hv34 => ?_) (fun hv34 => ?_)
   ·refine wR 5 104 ?_
    cases hv34
    exact fS [(0, 0), (100, 100), (101, 101), (1, 1), (2, 2)] [0, 4, 5, 7]
   refine wR 5 104 ?_
   cases hv34
   exact fS [(0, 0), (100, 100), (101, 101), (1, 1), (2, 2)] [0, 4, 5, 7]
   ) (fun st hw => ?_)
  exact hk30 (a1, a2, p1, p2, y26) h _ (hw.trans (wS [(0, 0), (100, 100), (101, 101), (1, 1), (2, 2)] [0, 4, 5, 7]))
 exact sK hk30 (a1, a2, p1, p2, (!r4)) h [(0, 0), (100, 100), (101, 101), (1, 1), (2, 2)] [0, 4, 5, 7]

theorem scc4_ok : ∀ N, RecOk4 (scc4 N)
  | 0 => ⟨fun _ _ _ _ _ _ h => (by cases h), fun _ _ _ _ _ _ _ h => (by cases h), fun _ _ _ _ _ _ _ _ h => (by cases h), fun _ _ _ _ _ _ h => (by cases h), fun _ _ _ _ _ _ h => (by cases h)⟩
  | N + 1 => ⟨fun a1 a2 p0_2 p1 p2 _ h => mi_speller__operator_F_ok N (scc4 N) (scc4_ok N) a1 a2 p0_2 p1 p2 h, fun a1 a2 a3 p0_2 p1 p2 _ h => mi_speller__kid_F_ok N (scc4 N) (scc4_ok N) a1 a2 a3 p0_2 p1 p2 h, fun a1 a2 a3 a4 p0_2 p1 p2 _ h => mi_speller__list_F_ok N (scc4 N) (scc4_ok N) a1 a2 a3 a4 p0_2 p1 p2 h, fun a1 a2 p0_2 p1 p2 _ h => mi_speller__bare_F_ok N (scc4 N) (scc4_ok N) a1 a2 p0_2 p1 p2 h, fun a1 a2 p0_2 p1 p2 _ h => mi_speller__expr_F_ok N (scc4 N) (scc4_ok N) a1 a2 p0_2 p1 p2 h⟩

theorem mi_speller__operator_ok (N : Nat) (a1 : STree) (a2 : SPos) (p0_2 : Bool) (p1 : List SToken) (p2 : List SSpan) {r : ((List SToken) × (List SSpan))} (h : mi_speller__operator N a1 a2 p0_2 p1 p2 = some r) :
    AC Tryz.prog (GS [0, 1]) 114 [.loc 0 0, .agg [V.i a1.kind, V.i a1.op, V.s a1.text, V.s a1.other, .sl false false (a1.kids.map eST)], .agg [V.i a2.Level, V.b a2.Dollar, V.b a2.NoIn, V.b a2.NoGt, V.b a2.NoSign]] [(0, .cells 81 [.own 1, .own 2, V.b p0_2]), (1, .vec false 102 3 (p1.map encSToken)), (2, .vec false 61 2 (p2.map encSSpan))] (.tup []) [(0, .cells 81 [.own 100, .own 101, V.b p0_2]), (100, .vec false 102 3 (r.1.map encSToken)), (101, .vec false 61 2 (r.2.map encSSpan))] :=
  (scc4_ok N).mi_speller__operator a1 a2 p0_2 p1 p2 r h
theorem mi_speller__kid_ok (N : Nat) (a1 : STree) (a2 : Int) (a3 : SPos) (p0_2 : Bool) (p1 : List SToken) (p2 : List SSpan) {r : ((List SToken) × (List SSpan))} (h : mi_speller__kid N a1 a2 a3 p0_2 p1 p2 = some r) :
    AC Tryz.prog (GS [0, 1]) 134 [.loc 0 0, .agg [V.i a1.kind, V.i a1.op, V.s a1.text, V.s a1.other, .sl false false (a1.kids.map eST)], V.i a2, .agg [V.i a3.Level, V.b a3.Dollar, V.b a3.NoIn, V.b a3.NoGt, V.b a3.NoSign]] [(0, .cells 81 [.own 1, .own 2, V.b p0_2]), (1, .vec false 102 3 (p1.map encSToken)), (2, .vec false 61 2 (p2.map encSSpan))] (.tup []) [(0, .cells 81 [.own 100, .own 101, V.b p0_2]), (100, .vec false 102 3 (r.1.map encSToken)), (101, .vec false 61 2 (r.2.map encSSpan))] :=
  (scc4_ok N).mi_speller__kid a1 a2 a3 p0_2 p1 p2 r h
theorem mi_speller__list_ok (N : Nat) (a1 : STree) (a2 : Int) (a3 : Int) (a4 : SPos) (p0_2 : Bool) (p1 : List SToken) (p2 : List SSpan) {r : ((List SToken) × (List SSpan))} (h : mi_speller__list N a1 a2 a3 a4 p0_2 p1 p2 = some r) :
    AC Tryz.prog (GS [0, 1]) 113 [.loc 0 0, .agg [V.i a1.kind, V.i a1.op, V.s a1.text, V.s a1.other, .sl false false (a1.kids.map eST)], V.i a2, V.i a3, .agg [V.i a4.Level, V.b a4.Dollar, V.b a4.NoIn, V.b a4.NoGt, V.b a4.NoSign]] [(0, .cells 81 [.own 1, .own 2, V.b p0_2]), (1, .vec false 102 3 (p1.map encSToken)), (2, .vec false 61 2 (p2.map encSSpan))] (.tup []) [(0, .cells 81 [.own 100, .own 101, V.b p0_2]), (100, .vec false 102 3 (r.1.map encSToken)), (101, .vec false 61 2 (r.2.map encSSpan))] :=
  (scc4_ok N).mi_speller__list a1 a2 a3 a4 p0_2 p1 p2 r h
theorem mi_speller__bare_ok (N : Nat) (a1 : STree) (a2 : SPos) (p0_2 : Bool) (p1 : List SToken) (p2 : List SSpan) {r : ((List SToken) × (List SSpan))} (h : mi_speller__bare N a1 a2 p0_2 p1 p2 = some r) :
    AC Tryz.prog (GS [0, 1]) 78 [.loc 0 0, .agg [V.i a1.kind, V.i a1.op, V.s a1.text, V.s a1.other, .sl false false (a1.kids.map eST)], .agg [V.i a2.Level, V.b a2.Dollar, V.b a2.NoIn, V.b a2.NoGt, V.b a2.NoSign]] [(0, .cells 81 [.own 1, .own 2, V.b p0_2]), (1, .vec false 102 3 (p1.map encSToken)), (2, .vec false 61 2 (p2.map encSSpan))] (.tup []) [(0, .cells 81 [.own 100, .own 101, V.b p0_2]), (100, .vec false 102 3 (r.1.map encSToken)), (101, .vec false 61 2 (r.2.map encSSpan))] :=
  (scc4_ok N).mi_speller__bare a1 a2 p0_2 p1 p2 r h
theorem mi_speller__expr_ok (N : Nat) (a1 : STree) (a2 : SPos) (p0_2 : Bool) (p1 : List SToken) (p2 : List SSpan) {r : ((List SToken) × (List SSpan))} (h : mi_speller__expr N a1 a2 p0_2 p1 p2 = some r) :
    AC Tryz.prog (GS [0, 1]) 52 [.loc 0 0, .agg [V.i a1.kind, V.i a1.op, V.s a1.text, V.s a1.other, .sl false false (a1.kids.map eST)], .agg [V.i a2.Level, V.b a2.Dollar, V.b a2.NoIn, V.b a2.NoGt, V.b a2.NoSign]] [(0, .cells 81 [.own 1, .own 2, V.b p0_2]), (1, .vec false 102 3 (p1.map encSToken)), (2, .vec false 61 2 (p2.map encSSpan))] (.tup []) [(0, .cells 81 [.own 100, .own 101, V.b p0_2]), (100, .vec false 102 3 (r.1.map encSToken)), (101, .vec false 61 2 (r.2.map encSSpan))] :=
  (scc4_ok N).mi_speller__expr a1 a2 p0_2 p1 p2 r h

theorem mi_spelled_ok (N : Nat) (a0 : List SNode) (a1 : SPos) (a2 : Bool) {r : ((List SToken) × (List SSpan))} (h : mi_spelled N a0 a1 a2 = some r) :
    AC Tryz.prog (GS [0, 1, 2]) 29 [.sl false false (a0.map (eSN false)), .agg [V.i a1.Level, V.b a1.Dollar, V.b a1.NoIn, V.b a1.NoGt, V.b a1.NoSign], V.b a2] [] (.tup [.own 100, .own 101]) [(100, .vec false 102 3 (r.1.map encSToken)), (101, .vec false 61 2 (r.2.map encSSpan))] := by
 rw [mi_spelled] at h
 refine AC.enter Tryz.func29 rfl ?_
 refine cV 100 ?_
 refine CO.seq' ?_
 refine bB h fun y8 hv12 h => ?_
 refine CO.cutR (tl 27 [(0, .sl false false (a0.map (eSN false))), (2, V.b a2), (4, .loc 100 0), (16, V.b y8)]) [(100, .cells 30 [V.i a1.Level, V.b a1.Dollar, V.b a1.NoIn, V.b a1.NoGt, V.b a1.NoSign])] mix (by
  refine wR 1 101 ?_
  refine bB hv12 fun r9 hx13 hv12 => ?_
  refine W.call0 (mi_ExprOk_ok N a0 hx13) cok50 rfl (by kernel_rfl) ?_
  refine wR 2 101 ?_
  refine wJ 12 hv12 (fun hv12 => ?_) (fun hv12 => ?_)
  ·refine wR 4 101 ?_
   cases hv12
   exact fS [(100, 100)] [0, 2, 4, 16]
  refine wR 1 101 ?_
  refine bB hv12 fun r10 hx15 hv12 => ?_
  refine W.call0 (AC.gs (mi_PosOk_ok a1 hx15) (by decide)) cok51 rfl (by kernel_rfl) ?_
  refine wR 2 101 ?_
  cases hv12
  exact fS [(100, 100)] [0, 2, 4, 16]
  ) ?_
 refine cI h (fun _ h => ?_) (fun _ h => ?_)
 ·refine cV 101 ?_
  refine CO.weak (Weak.nil 6 101 102 3 (by kernel_rfl) (by kernel_rfl)) ?_
  refine CO.weak (Weak.nil 7 102 61 2 (by kernel_rfl) (by kernel_rfl)) ?_
  refine CO.ret ?_
  cases h
  exact eG [(101, 100), (102, 101)] (.inr rfl) (RetV.two rfl (oT (t := 6) (r := .own 101)) (oT (t := 7) (r := .own 102)))
 refine CO.skip ?_
 refine cU 4 101 (tl 27 [(0, .sl false false (a0.map (eSN false))), (4, .loc 100 0), (8, .loc 101 0)]) [(101, .cells 81 [.c (.slice none 0 0), .c (.slice none 0 0), V.b a2]), (100, .cells 30 [V.i a1.Level, V.b a1.Dollar, V.b a1.NoIn, V.b a1.NoGt, V.b a1.NoSign])] ?_
 refine CO.weak (st' := ⟨tl 27 [(0, .sl false false (a0.map (eSN false))), (4, .loc 100 0), (8, .loc 101 0)], [(102, .vec false 102 3 ([].map encSToken)), (101, .cells 81 [.own 102, .c (.slice none 0 0), V.b a2]), (100, .cells 30 [V.i a1.Level, V.b a1.Dollar, V.b a1.NoIn, V.b a1.NoGt, V.b a1.NoSign])]⟩) ((Weak.nilCell 101 0 102 102 3 (ety := 81) (cs := [.c (.slice none 0 0), .c (.slice none 0 0), V.b a2]) (by kernel_rfl) (by kernel_rfl) (by kernel_rfl)).trans (Weak.eq (by kernel_rfl) (by kernel_rfl))) ?_
 refine CO.weak (st' := ⟨tl 27 [(0, .sl false false (a0.map (eSN false))), (4, .loc 100 0), (8, .loc 101 0)], [(103, .vec false 61 2 ([].map encSSpan)), (102, .vec false 102 3 ([].map encSToken)), (101, .cells 81 [.own 102, .own 103, V.b a2]), (100, .cells 30 [V.i a1.Level, V.b a1.Dollar, V.b a1.NoIn, V.b a1.NoGt, V.b a1.NoSign])]⟩) ((Weak.nilCell 101 1 103 61 2 (ety := 81) (cs := [.own 102, .c (.slice none 0 0), V.b a2]) (by kernel_rfl) (by kernel_rfl) (by kernel_rfl)).trans (Weak.eq (by kernel_rfl) (by kernel_rfl))) ?_
 refine bB h fun r17 hx23 h => ?_
 refine bB h fun r18 hx24 h => ?_
 refine CO.sw mix ?_
 refine wR 1 104 ?_
 refine W.call0 (AC.gs (mi_rootOf_ok N a0 hx23) (by decide)) cok53 rfl (by kernel_rfl) ?_
 refine wR 1 104 ?_
 refine W.call (AC.gs (mi_speller__expr_ok N r17 a1 a2 [] [] hx24) (by decide)) cok52 [(101, 0), (102, 1), (103, 2)] [(0, 101), (100, 104), (101, 105)] [104, 105] (show LayOk _ [] from trivial) (by kernel_rfl) (by kernel_rfl) ?_
 refine wF ?_
 refine cV 106 ?_
 refine CO.ret ?_
 cases h
 exact eG [(104, 100), (105, 101)] (.inr rfl) (RetV.two rfl (oT (t := 6) (r := .own 104)) (oT (t := 7) (r := .own 105)))

theorem mi_SpansOf_ok (N : Nat) (a0 : List SNode) (a1 : SPos) {r : (List SSpan)} (h : mi_SpansOf N a0 a1 = some r) :
    AC Tryz.prog (GS [0, 1, 2]) 10 [.sl false false (a0.map (eSN false)), .agg [V.i a1.Level, V.b a1.Dollar, V.b a1.NoIn, V.b a1.NoGt, V.b a1.NoSign]] [] (.own 100) [(100, .vec false 61 2 (r.map encSSpan))] := by
 rw [mi_SpansOf] at h
 refine AC.enter Tryz.func10 rfl ?_
 refine cV 100 ?_
 refine bB h fun r2 hx2 h => ?_
 refine CO.sw mix ?_
 refine wR 2 101 ?_
 refine W.call (mi_spelled_ok N a0 a1 false hx2) cok29 [] [(100, 101), (101, 102)] [101, 102] (show LayOk _ [] from trivial) (by kernel_rfl) (by kernel_rfl) ?_
 refine wR 5 103 ?_
 refine wF ?_
 refine cV 103 ?_
 refine CO.ret ?_
 cases h
 exact eG [(102, 100)] (.inr rfl) (RetV.one rfl (oT (t := 4) (r := .own 102)))

theorem ml_eqSpan_ok (a0 : SSpan) (a1 : SSpan) {r : Bool} (h : ml_eqSpan a0 a1 = some r) :
    AC Tryz.prog (GS []) 30 [.agg [V.i a0.From, V.i a0.To], .agg [V.i a1.From, V.i a1.To]] [] (V.b r) [] := by
 rw [ml_eqSpan] at h
 refine AC.enter Tryz.func30 rfl ?_
 refine cV 100 ?_
 refine CO.seq' ?_
 refine cV 102 ?_
 refine cI h (fun _ h => ?_) (fun _ h => ?_)
 ·refine cV 102 ?_
  cases h
  exact e1 4 id
 refine CO.skip ?_
 refine CO.seq' ?_
 refine cV 102 ?_
 refine cI h (fun _ h => ?_) (fun _ h => ?_)
 ·refine cV 102 ?_
  cases h
  exact e1 4 id
 refine CO.skip ?_
 refine cV 102 ?_
 cases h
 exact e1 4 id

theorem ml_eqSpanS_ok (N : Nat) (a0 : List SSpan) (a1 : List SSpan) {r : Bool} (h : ml_eqSpanS N a0 a1 = some r) :
    AC Tryz.prog (GS []) 11 [.sl false false (a0.map encSSpan), .sl false false (a1.map encSSpan)] [] (V.b r) [] := by
 rw [ml_eqSpanS] at h
 refine AC.enter Tryz.func11 rfl ?_
 refine cV 100 ?_
 refine CO.seq' ?_
 refine CO.sw mix ?_
 refine wR 1 100 ?_
 refine W.len Dk encSSpan a0 [] (by kernel_rfl) (by kernel_rfl) ?_
 refine wR 1 100 ?_
 refine W.len Dk encSSpan a1 [] (by kernel_rfl) (by kernel_rfl) ?_
 refine wR 1 100 ?_
 refine wF ?_
 refine cI h (fun _ h => ?_) (fun _ h => ?_)
 ·refine cV 100 ?_
  cases h
  exact e1 4 id
 refine CO.skip ?_
 refine CO.seq' ?_
 refine cV 100 ?_
 refine CO.block' ?_
 refine CO.loopJ (fun (⟨a0, a1, y51⟩ : ((List SSpan) × (List SSpan) × Int)) => ⟨tl 27 [(0, .sl false false (a0.map encSSpan)), (1, .sl false false (a1.map encSSpan)), (5, V.i y51)], []⟩) (fun n i => ml_eqSpanS_l1 N n i = some r) (n0 := N) (i0 := (a0, a1, 0)) (wS [] [0, 1, 5]) h (fun i h => by simp [ml_eqSpanS_l1] at h) ?_
 rintro n1 ⟨a0, a1, y51⟩ h85 ih86
 rw [ml_eqSpanS_l1] at h85
 refine CO.seq' ?_
 refine CO.sw mix ?_
 refine wR 2 160 ?_
 refine W.len Dk encSSpan a0 [] (by kernel_rfl) (by kernel_rfl) ?_
 refine wR 1 160 ?_
 refine wF ?_
 refine cI h85 (fun _ h85 => ?_) (fun _ h85 => ?_)
 ·refine CO.skip ?_
  refine CO.seq' ?_
  refine CO.block' ?_
  refine bB h85 fun e74 hx99 h85 => ?_
  refine bB h85 fun e75 hx100 h85 => ?_
  refine bB h85 fun r76 hx101 h85 => ?_
  refine CO.sw mix ?_
  refine wR 2 160 ?_
  refine W.ixD Dk encSSpan hx99 2 (by kernel_rfl) (by kernel_rfl) ?_
  refine wR 3 160 ?_
  refine W.ixD Dk encSSpan hx100 2 (by kernel_rfl) (by kernel_rfl) ?_
  refine wR 1 160 ?_
  refine W.call0 (ml_eqSpan_ok e74 e75 hx101) cok30 rfl (by kernel_rfl) ?_
  refine wR 1 160 ?_
  refine wF ?_
  refine cI h85 (fun _ h85 => ?_) (fun _ h85 => ?_)
  ·refine cV 160 ?_
   cases h85
   exact e1 4 id
  refine CO.skip ?_
  exact cK 160 ih86 (a0, a1, (IntKind.wrap .i64 (y51 + 1))) h85 [] [0, 1, 5]
 refine CO.exit ?_
 refine cV 160 ?_
 cases h85
 exact e1 4 id

theorem ml_eqIntS_ok (N : Nat) (a0 : List Int) (a1 : List Int) {r : Bool} (h : ml_eqIntS N a0 a1 = some r) :
    AC Tryz.prog (GS []) 21 [.sl false false (a0.map encI), .sl false false (a1.map encI)] [] (V.b r) [] := by
 rw [ml_eqIntS] at h
 refine AC.enter Tryz.func21 rfl ?_
 refine cV 100 ?_
 refine CO.seq' ?_
 refine CO.sw mix ?_
 refine wR 1 100 ?_
 refine W.len Dk encI a0 [] (by kernel_rfl) (by kernel_rfl) ?_
 refine wR 1 100 ?_
 refine W.len Dk encI a1 [] (by kernel_rfl) (by kernel_rfl) ?_
 refine wR 1 100 ?_
 refine wF ?_
 refine cI h (fun _ h => ?_) (fun _ h => ?_)
 ·refine cV 100 ?_
  cases h
  exact e1 4 id
 refine CO.skip ?_
 refine CO.seq' ?_
 refine cV 100 ?_
 refine CO.block' ?_
 refine CO.loopJ (fun (⟨a0, a1, y35⟩ : ((List Int) × (List Int) × Int)) => ⟨tl 26 [(0, .sl false false (a0.map encI)), (1, .sl false false (a1.map encI)), (5, V.i y35)], []⟩) (fun n i => ml_eqIntS_l1 N n i = some r) (n0 := N) (i0 := (a0, a1, 0)) (wS [] [0, 1, 5]) h (fun i h => by simp [ml_eqIntS_l1] at h) ?_
 rintro n1 ⟨a0, a1, y35⟩ h65 ih66
 rw [ml_eqIntS_l1] at h65
 refine CO.seq' ?_
 refine CO.sw mix ?_
 refine wR 2 160 ?_
 refine W.len Dk encI a0 [] (by kernel_rfl) (by kernel_rfl) ?_
 refine wR 1 160 ?_
 refine wF ?_
 refine cI h65 (fun _ h65 => ?_) (fun _ h65 => ?_)
 ·refine CO.skip ?_
  refine CO.seq' ?_
  refine CO.block' ?_
  refine bB h65 fun e51 hx76 h65 => ?_
  refine bB h65 fun e52 hx77 h65 => ?_
  refine CO.sw mix ?_
  refine wR 2 160 ?_
  refine W.ixD Dk encI hx76 1 (by kernel_rfl) (by kernel_rfl) ?_
  refine wR 3 160 ?_
  refine W.ixD Dk encI hx77 1 (by kernel_rfl) (by kernel_rfl) ?_
  refine wR 2 160 ?_
  refine wF ?_
  refine cI h65 (fun _ h65 => ?_) (fun _ h65 => ?_)
  ·refine cV 160 ?_
   cases h65
   exact e1 4 id
  refine CO.skip ?_
  exact cK 160 ih66 (a0, a1, (IntKind.wrap .i64 (y35 + 1))) h65 [] [0, 1, 5]
 refine CO.exit ?_
 refine cV 160 ?_
 cases h65
 exact e1 4 id

theorem ml_eqNode_ok (N : Nat) (a0 : SNode) (a1 : SNode) {r : Bool} (h : ml_eqNode N a0 a1 = some r) :
    AC Tryz.prog (GS []) 31 [.agg [V.i a0.Kind, V.i a0.Op, V.s a0.Text, V.s a0.Other, .sl false false (a0.Kids.map encI)], .agg [V.i a1.Kind, V.i a1.Op, V.s a1.Text, V.s a1.Other, .sl false false (a1.Kids.map encI)]] [] (V.b r) [] := by
 rw [ml_eqNode] at h
 refine AC.enter Tryz.func31 rfl ?_
 refine cV 100 ?_
 refine CO.seq' ?_
 refine cV 102 ?_
 refine cI h (fun _ h => ?_) (fun _ h => ?_)
 ·refine cV 102 ?_
  cases h
  exact e1 4 id
 refine CO.skip ?_
 refine CO.seq' ?_
 refine cV 102 ?_
 refine cI h (fun _ h => ?_) (fun _ h => ?_)
 ·refine cV 102 ?_
  cases h
  exact e1 4 id
 refine CO.skip ?_
 refine CO.seq' ?_
 refine cV 102 ?_
 refine cI h (fun _ h => ?_) (fun _ h => ?_)
 ·refine cV 102 ?_
  cases h
  exact e1 4 id
 refine CO.skip ?_
 refine CO.seq' ?_
 refine cV 102 ?_
 refine cI h (fun _ h => ?_) (fun _ h => ?_)
 ·refine cV 102 ?_
  cases h
  exact e1 4 id
 refine CO.skip ?_
 refine CO.seq' ?_
 refine bB h fun r4 hx13 h => ?_
 refine cC 4 102 (ml_eqIntS_ok N a0.Kids a1.Kids hx13) cok21 ?_
 refine cI h (fun _ h => ?_) (fun _ h => ?_)
 ·refine cV 102 ?_
  cases h
  exact e1 4 id
 refine CO.skip ?_
 refine cV 102 ?_
 cases h
 exact e1 4 id

theorem ml_eqNodeS_ok (N : Nat) (a0 : List SNode) (a1 : List SNode) {r : Bool} (h : ml_eqNodeS N a0 a1 = some r) :
    AC Tryz.prog (GS []) 12 [.sl false false (a0.map (eSN false)), .sl false false (a1.map (eSN false))] [] (V.b r) [] := by
 rw [ml_eqNodeS] at h
 refine AC.enter Tryz.func12 rfl ?_
 refine cV 100 ?_
 refine CO.seq' ?_
 refine CO.sw mix ?_
 refine wR 1 100 ?_
 refine W.len Dk (eSN false) a0 [] (by kernel_rfl) (by kernel_rfl) ?_
 refine wR 1 100 ?_
 refine W.len Dk (eSN false) a1 [] (by kernel_rfl) (by kernel_rfl) ?_
 refine wR 1 100 ?_
 refine wF ?_
 refine cI h (fun _ h => ?_) (fun _ h => ?_)
 ·refine cV 100 ?_
  cases h
  exact e1 4 id
 refine CO.skip ?_
 refine CO.seq' ?_
 refine cV 100 ?_
 refine CO.block' ?_
 refine CO.loopJ (fun (⟨a0, a1, y51⟩ : ((List SNode) × (List SNode) × Int)) => ⟨tl 27 [(0, .sl false false (a0.map (eSN false))), (1, .sl false false (a1.map (eSN false))), (5, V.i y51)], []⟩) (fun n i => ml_eqNodeS_l1 N n i = some r) (n0 := N) (i0 := (a0, a1, 0)) (wS [] [0, 1, 5]) h (fun i h => by simp [ml_eqNodeS_l1] at h) ?_
 rintro n1 ⟨a0, a1, y51⟩ h85 ih86
 rw [ml_eqNodeS_l1] at h85
 refine CO.seq' ?_
 refine CO.sw mix ?_
 refine wR 2 160 ?_
 refine W.len Dk (eSN false) a0 [] (by kernel_rfl) (by kernel_rfl) ?_
 refine wR 1 160 ?_
 refine wF ?_
 refine cI h85 (fun _ h85 => ?_) (fun _ h85 => ?_)
 ·refine CO.skip ?_
  refine CO.seq' ?_
  refine CO.block' ?_
  refine bB h85 fun e74 hx99 h85 => ?_
  refine bB h85 fun e75 hx100 h85 => ?_
  refine bB h85 fun r76 hx101 h85 => ?_
  refine CO.sw mix ?_
  refine wR 2 160 ?_
  refine W.ixD Dk (eSN false) hx99 5 (by kernel_rfl) (by kernel_rfl) ?_
  refine wR 3 160 ?_
  refine W.ixD Dk (eSN false) hx100 5 (by kernel_rfl) (by kernel_rfl) ?_
  refine wR 1 160 ?_
  refine W.call0 (ml_eqNode_ok N e74 e75 hx101) cok31 rfl (by kernel_rfl) ?_
  refine wR 1 160 ?_
  refine wF ?_
  refine cI h85 (fun _ h85 => ?_) (fun _ h85 => ?_)
  ·refine cV 160 ?_
   cases h85
   exact e1 4 id
  refine CO.skip ?_
  exact cK 160 ih86 (a0, a1, (IntKind.wrap .i64 (y51 + 1))) h85 [] [0, 1, 5]
 refine CO.exit ?_
 refine cV 160 ?_
 cases h85
 exact e1 4 id

theorem ml_markText_ok (N : Nat) (a0 : Int) {r : (List UInt8)} (h : ml_markText N a0 = some r) :
    AC Tryz.prog (GS []) 32 [V.i a0] [] (V.s r) [] := by
 rw [ml_markText] at h
 refine AC.enter Tryz.func32 rfl ?_
 refine cV 100 ?_
 refine CO.seq' ?_
 refine cV 100 ?_
 refine cI h (fun _ h => ?_) (fun _ h => ?_)
 ·refine cV 100 ?_
  cases h
  exact e1 2 id
 refine CO.skip ?_
 refine cV 100 ?_
 refine CO.seq' ?_
 refine CO.block' ?_
 refine CO.loopJ (fun (⟨y13, y14⟩ : (Int × (List UInt8))) => ⟨tl 20 [(0, V.i y13), (3, V.s y14)], []⟩) (fun n i => ml_markText_l1 N n i = some r) (n0 := N) (i0 := (a0, [])) (wS [] [0, 3]) h (fun i h => by simp [ml_markText_l1] at h) ?_
 rintro n1 ⟨y13, y14⟩ h25 ih26
 rw [ml_markText_l1] at h25
 refine CO.seq' ?_
 refine cV 162 ?_
 refine cI h25 (fun _ h25 => ?_) (fun _ h25 => ?_)
 ·refine CO.skip ?_
  refine CO.block' ?_
  refine bB h25 fun s20 hx30 h25 => ?_
  refine CO.sw mix ?_
  refine wR 4 162 ?_
  refine wR 1 162 ?_
  refine W.vecEq 162 (nn := true) (e := 5) (k := 1) (rows := [[.c (.int .u8 (IntKind.wrap .u8 (IntKind.wrap .i64 (48 + (Int.tmod y13 10)))))]]) (rows' := [(bytI (IntKind.wrap .i64 (48 + (Int.tmod y13 10))))].map byteRow) (by kernel_rfl) (by first | (simp only [List.map_cons, List.map_nil, ← bytI_row]; done) | (simp only [List.map_cons, List.map_nil, ← bytI_row]; rfl)) ?_
  refine W.strO Dk ([(bytI (IntKind.wrap .i64 (48 + (Int.tmod y13 10))))] : List UInt8) (a := 162) (by kernel_rfl) ?_
  refine wR 1 163 ?_
  refine W.cat hx30 (by kernel_rfl) ?_
  refine wR 1 163 ?_
  refine wF ?_
  exact cK 163 ih26 ((IntKind.wrap .i64 (Int.tdiv y13 10)), s20) h25 [] [0, 3]
 refine CO.exit ?_
 refine bB h25 fun s22 hx32 h25 => ?_
 refine CO.sw mix ?_
 refine wR 1 162 ?_
 refine W.cat hx32 (by kernel_rfl) ?_
 refine wR 1 162 ?_
 refine wF ?_
 cases h25
 exact e1 2 id

theorem ml_markIntS_ok (e0 : TypeId) (N : Nat) (a1 : Int) (p0 : List Int) {r : (Int × (List Int))} (h : ml_markIntS N a1 p0 = some r) :
    AC Tryz.prog (GS []) 22 [.own 0, V.i a1] [(0, .vec false e0 1 (p0.map encI))] (V.i r.1) [(0, .vec false e0 1 (r.2.map encI))] := by
 rw [ml_markIntS] at h
 refine AC.enter Tryz.func22 rfl ?_
 refine cV 100 ?_
 refine CO.seq' ?_
 refine cV 100 ?_
 refine CO.block' ?_
 refine CO.loopJ (fun (⟨y39, y40, y41⟩ : (Int × Int × (List Int))) => ⟨tl 19 [(0, .own 0), (1, V.i y39), (5, V.i y40)], [(0, .vec false e0 1 (y41.map encI))]⟩) (fun n i => ml_markIntS_l1 N n i = some r) (n0 := N) (i0 := (a1, 0, p0)) (wS [(0, 0)] [0, 1, 5]) h (fun i h => by simp [ml_markIntS_l1] at h) ?_
 rintro n1 ⟨y39, y40, y41⟩ h53 ih54
 rw [ml_markIntS_l1] at h53
 refine CO.seq' ?_
 refine CO.sw mix ?_
 refine wR 2 160 ?_
 refine W.len Dk encI y41 [0] (by kernel_rfl) (by kernel_rfl) ?_
 refine wR 1 160 ?_
 refine wF ?_
 refine cI h53 (fun _ h53 => ?_) (fun _ h53 => ?_)
 ·refine CO.skip ?_
  refine CO.seq' ?_
  refine CO.block' ?_
  refine bB h53 fun e59 hx63 h53 => ?_
  refine bB h53 fun x60 hu64 h53 => ?_
  refine CO.sw mix ?_
  refine wR 3 160 ?_
  refine W.ixO Dk encI hx63 0 1 (by kernel_rfl) ?_
  refine W.stO Dk encI (x' := y39) hx63 hu64 (j := 0) (nn := false) (ety := e0) (sz := 1) (b := 0) (ys := [V.i y39]) (C := []) (R := []) (by kernel_rfl) (by kernel_rfl) ?_
  refine wF ?_
  refine cE 3 160 (tl 19 [(0, .own 0), (1, V.i (IntKind.wrap .i64 (y39 + 1))), (5, V.i y40)]) [(0, .vec false e0 1 (x60.map encI))] (fun st hw => ?_)
  refine CO.weak hw ?_
  exact cK 160 ih54 ((IntKind.wrap .i64 (y39 + 1)), (IntKind.wrap .i64 (y40 + 1)), x60) h53 [(0, 0)] [0, 1, 5]
 refine CO.exit ?_
 refine cV 160 ?_
 refine CO.ret ?_
 cases h53
 exact eG [(0, 0)] (.inr rfl) (RetV.one rfl (oT (t := 4) (r := V.i y39)))

theorem ml_markIntS_v2_ok (N : Nat) (a1 : Int) {r : Int} (h : ml_markIntS_v2 N a1 = some r) :
    AC Tryz.prog (GS []) 22 [.sl false false ([].map encI), V.i a1] [] (V.i r) [] := by
 rw [ml_markIntS_v2] at h
 refine AC.enter Tryz.func22 rfl ?_
 refine cV 100 ?_
 refine CO.seq' ?_
 refine cV 100 ?_
 refine CO.block' ?_
 refine CO.loopJ (fun (a1 : Int) => ⟨tl 19 [(0, .sl false false ([].map encI)), (1, V.i a1), (5, V.i 0)], []⟩) (fun n i => ml_markIntS_v2_l1 N n i = some r) (n0 := N) (i0 := a1) (wS [] [0, 1, 5]) h (fun i h => by simp [ml_markIntS_v2_l1] at h) ?_
 rintro n1 a1 h3 ih4
 rw [ml_markIntS_v2_l1] at h3
 refine CO.seq' ?_
 refine CO.sw mix ?_
 refine wR 2 120 ?_
 refine W.len Dk encI [] [] (by kernel_rfl) (by kernel_rfl) ?_
 refine wR 1 120 ?_
 refine wF ?_
 refine CO.ifF (c := false) rfl (by kernel_rfl) ?_
 refine CO.exit ?_
 refine cV 120 ?_
 cases h3
 exact e1 4 id

theorem ml_markIntS_nil (N : Nat) (k : Int) (l : List Int) {r : (Int × (List Int))} (h : ml_markIntS N k l = some r) (hl : l = []) :
    r.2.map encI = [] ∧ AC Tryz.prog (GS []) 22 [.sl false false [], V.i k] [] (V.i r.1) [] := by
  subst hl
  have h2 : r.2 = [] ∧ ml_markIntS_v2 N k = some r.1 := by
    cases N with
    | zero => simp [ml_markIntS_l1, ml_markIntS] at h
    | succ N =>
      simp [ml_markIntS_l1, ml_markIntS] at h
      subst h
      simp [ml_markIntS_v2_l1, ml_markIntS_v2]
  exact ⟨by rw [h2.1]; rfl, ml_markIntS_v2_ok N k h2.2⟩

theorem ml_markNodeS_ok (e0 : TypeId) (N : Nat) (a1 : Int) (p0 : List SNode) {r : (Int × (List SNode))} (h : ml_markNodeS N a1 p0 = some r) :
    AC Tryz.prog (GS []) 13 [.own 0, V.i a1] [(0, .vec false e0 5 (p0.map (eSN true)))] (V.i r.1) [(0, .vec false e0 5 (r.2.map (eSN true)))] := by
 rw [ml_markNodeS] at h
 refine AC.enter Tryz.func13 rfl ?_
 refine cV 100 ?_
 refine CO.seq' ?_
 refine cV 100 ?_
 refine CO.block' ?_
 refine CO.loopJ (fun (⟨y191, y192, y193⟩ : (Int × Int × (List SNode))) => ⟨tl 50 [(0, .own 0), (1, V.i y191), (5, V.i y192)], [(0, .vec false e0 5 (y193.map (eSN true)))]⟩) (fun n i => ml_markNodeS_l1 N n i = some r) (n0 := N) (i0 := (a1, 0, p0)) (wS [(0, 0)] [0, 1, 5]) h (fun i h => by simp [ml_markNodeS_l1] at h) ?_
 rintro n1 ⟨y191, y192, y193⟩ h243 ih244
 rw [ml_markNodeS_l1] at h243
 refine CO.seq' ?_
 refine CO.sw mix ?_
 refine wR 2 160 ?_
 refine W.len Dk (eSN true) y193 [0] (by kernel_rfl) (by kernel_rfl) ?_
 refine wR 1 160 ?_
 refine wF ?_
 refine cI h243 (fun _ h243 => ?_) (fun _ h243 => ?_)
 ·refine CO.skip ?_
  refine CO.seq' ?_
  refine CO.block' ?_
  refine bB h243 fun e268 hx272 h243 => ?_
  refine bB h243 fun x269 hu273 h243 => ?_
  refine CO.sw mix ?_
  refine wR 3 160 ?_
  refine W.ixO Dk (eSN true) hx272 0 5 (by kernel_rfl) ?_
  refine wR 1 160 ?_
  refine W.stO Dk (eSN true) (x' := (⟨y191, e268.Op, e268.Text, e268.Other, e268.Kids⟩ : SNode)) hx272 hu273 (j := 0) (nn := false) (ety := e0) (sz := 5) (b := 0) (ys := [V.i y191]) (C := []) (R := []) (by kernel_rfl) (by kernel_rfl) ?_
  refine wF ?_
  refine cV 160 ?_
  refine bB h243 fun e272 hx276 h243 => ?_
  refine bB h243 fun x273 hu277 h243 => ?_
  refine CO.sw mix ?_
  refine wR 3 160 ?_
  refine W.ixO Dk (eSN true) hx276 0 5 (by kernel_rfl) ?_
  refine wR 1 160 ?_
  refine W.stO Dk (eSN true) (x' := (⟨e272.Kind, (IntKind.wrap .i64 (y191 + 1)), e272.Text, e272.Other, e272.Kids⟩ : SNode)) hx276 hu277 (j := 0) (nn := false) (ety := e0) (sz := 5) (b := 1) (ys := [V.i (IntKind.wrap .i64 (y191 + 1))]) (C := []) (R := []) (by kernel_rfl) (by kernel_rfl) ?_
  refine wF ?_
  refine cV 160 ?_
  refine bB h243 fun r277 hx281 h243 => ?_
  refine bB h243 fun e278 hx282 h243 => ?_
  refine bB h243 fun x279 hu283 h243 => ?_
  refine CO.sw mix ?_
  refine wR 3 160 ?_
  refine W.call0 (ml_markText_ok N (IntKind.wrap .i64 ((IntKind.wrap .i64 (y191 + 1)) + 1)) hx281) cok32 rfl (by kernel_rfl) ?_
  refine W.ixO Dk (eSN true) hx282 0 5 (by kernel_rfl) ?_
  refine wR 1 160 ?_
  refine W.stO Dk (eSN true) (x' := (⟨e278.Kind, e278.Op, r277, e278.Other, e278.Kids⟩ : SNode)) hx282 hu283 (j := 0) (nn := false) (ety := e0) (sz := 5) (b := 2) (ys := [V.s r277]) (C := []) (R := []) (by kernel_rfl) (by kernel_rfl) ?_
  refine wF ?_
  refine cV 160 ?_
  refine bB h243 fun r283 hx287 h243 => ?_
  refine bB h243 fun e284 hx288 h243 => ?_
  refine bB h243 fun x285 hu289 h243 => ?_
  refine CO.sw mix ?_
  refine wR 3 160 ?_
  refine W.call0 (ml_markText_ok N (IntKind.wrap .i64 ((IntKind.wrap .i64 ((IntKind.wrap .i64 (y191 + 1)) + 1)) + 1)) hx287) cok32 rfl (by kernel_rfl) ?_
  refine W.ixO Dk (eSN true) hx288 0 5 (by kernel_rfl) ?_
  refine wR 1 160 ?_
  refine W.stO Dk (eSN true) (x' := (⟨e284.Kind, e284.Op, e284.Text, r283, e284.Kids⟩ : SNode)) hx288 hu289 (j := 0) (nn := false) (ety := e0) (sz := 5) (b := 3) (ys := [V.s r283]) (C := []) (R := []) (by kernel_rfl) (by kernel_rfl) ?_
  refine wF ?_
  refine cV 160 ?_
  refine bB h243 fun e286 hx290 h243 => ?_
  refine bB h243 fun r287 hx291 h243 => ?_
  refine bB h243 fun x288 hu292 h243 => ?_
  refine CO.nestEnd Dk 4 (tl 50 [(0, .own 0), (1, V.i (IntKind.wrap .i64 ((IntKind.wrap .i64 ((IntKind.wrap .i64 ((IntKind.wrap .i64 (y191 + 1)) + 1)) + 1)) + 1))), (5, V.i y192), (45, .vp 0 5 y192.toNat 4)]) [(0, .vec false e0 5 (x285.map (eSN true)))] (tl 50 [(0, .own 0), (1, V.i r287.1), (5, V.i y192)]) [(0, .vec false e0 5 (x288.map (eSN true)))] (by kernel_rfl) (by
      refine wR 2 160 ?_
      refine W.ixO Dk (eSN true) hx290 0 5 (by kernel_rfl) ?_
      refine wR 1 160 ?_
      exact W.fin (by decide) (by kernel_rfl) (wS [(0, 0)] [0, 1, 5, 45])
      ) ⟨_, rfl, rfl, rfl⟩ ⟨_, rfl, rfl, rfl⟩ ⟨_, rfl, rfl, rfl⟩ cok22 (by kernel_rfl) (by kernel_rfl) (i := 0) (k := 5) (m := y192.toNat) (b := 4) (u := .int .i64 (IntKind.wrap .i64 ((IntKind.wrap .i64 ((IntKind.wrap .i64 ((IntKind.wrap .i64 (y191 + 1)) + 1)) + 1)) + 1))) (by kernel_rfl) (by kernel_rfl) (nn := false) (nn2 := false) (ety := e0) (eSN true) (x' := (⟨e286.Kind, e286.Op, e286.Text, e286.Other, r287.2⟩ : SNode)) hx290 hu292 rfl (by kernel_rfl) (srows := e286.Kids.map encI) (srows' := r287.2.map encI) (by kernel_rfl) (by kernel_rfl) (u' := .int .i64 r287.1) (k2 := 1) (fun _ e => ml_markIntS_ok e N (IntKind.wrap .i64 ((IntKind.wrap .i64 ((IntKind.wrap .i64 ((IntKind.wrap .i64 (y191 + 1)) + 1)) + 1)) + 1)) e286.Kids hx291) (fun h0 => ml_markIntS_nil N (IntKind.wrap .i64 ((IntKind.wrap .i64 ((IntKind.wrap .i64 ((IntKind.wrap .i64 (y191 + 1)) + 1)) + 1)) + 1)) e286.Kids hx291 (List.map_eq_nil_iff.1 h0)) (fun r hr => by obtain ⟨a, _, rfl⟩ := List.mem_map.1 hr; rfl) (by
      refine wR 1 160 ?_
      exact W.fin (by decide) (by kernel_rfl) (wS [(0, 0)] [0, 1, 5])
   ) (fun st hw => ?_)
  refine CO.weak hw ?_
  exact cK 160 ih244 (r287.1, (IntKind.wrap .i64 (y192 + 1)), x288) h243 [(0, 0)] [0, 1, 5]
 refine CO.exit ?_
 refine cV 160 ?_
 refine CO.ret ?_
 cases h243
 exact eG [(0, 0)] (.inr rfl) (RetV.one rfl (oT (t := 4) (r := V.i y191)))

theorem ml_markSpanS_ok (e0 : TypeId) (N : Nat) (a1 : Int) (p0 : List SSpan) {r : (Int × (List SSpan))} (h : ml_markSpanS N a1 p0 = some r) :
    AC Tryz.prog (GS []) 14 [.own 0, V.i a1] [(0, .vec false e0 2 (p0.map encSSpan))] (V.i r.1) [(0, .vec false e0 2 (r.2.map encSSpan))] := by
 rw [ml_markSpanS] at h
 refine AC.enter Tryz.func14 rfl ?_
 refine cV 100 ?_
 refine CO.seq' ?_
 refine cV 100 ?_
 refine CO.block' ?_
 refine CO.loopJ (fun (⟨y71, y72, y73⟩ : (Int × Int × (List SSpan))) => ⟨tl 27 [(0, .own 0), (1, V.i y71), (5, V.i y72)], [(0, .vec false e0 2 (y73.map encSSpan))]⟩) (fun n i => ml_markSpanS_l1 N n i = some r) (n0 := N) (i0 := (a1, 0, p0)) (wS [(0, 0)] [0, 1, 5]) h (fun i h => by simp [ml_markSpanS_l1] at h) ?_
 rintro n1 ⟨y71, y72, y73⟩ h93 ih94
 rw [ml_markSpanS_l1] at h93
 refine CO.seq' ?_
 refine CO.sw mix ?_
 refine wR 2 160 ?_
 refine W.len Dk encSSpan y73 [0] (by kernel_rfl) (by kernel_rfl) ?_
 refine wR 1 160 ?_
 refine wF ?_
 refine cI h93 (fun _ h93 => ?_) (fun _ h93 => ?_)
 ·refine CO.skip ?_
  refine CO.seq' ?_
  refine CO.block' ?_
  refine bB h93 fun e103 hx107 h93 => ?_
  refine bB h93 fun x104 hu108 h93 => ?_
  refine CO.sw mix ?_
  refine wR 3 160 ?_
  refine W.ixO Dk encSSpan hx107 0 2 (by kernel_rfl) ?_
  refine wR 1 160 ?_
  refine W.stO Dk encSSpan (x' := (⟨y71, e103.To⟩ : SSpan)) hx107 hu108 (j := 0) (nn := false) (ety := e0) (sz := 2) (b := 0) (ys := [V.i y71]) (C := []) (R := []) (by kernel_rfl) (by kernel_rfl) ?_
  refine wF ?_
  refine cV 160 ?_
  refine bB h93 fun e107 hx111 h93 => ?_
  refine bB h93 fun x108 hu112 h93 => ?_
  refine CO.sw mix ?_
  refine wR 3 160 ?_
  refine W.ixO Dk encSSpan hx111 0 2 (by kernel_rfl) ?_
  refine wR 1 160 ?_
  refine W.stO Dk encSSpan (x' := (⟨e107.From, (IntKind.wrap .i64 (y71 + 1))⟩ : SSpan)) hx111 hu112 (j := 0) (nn := false) (ety := e0) (sz := 2) (b := 1) (ys := [V.i (IntKind.wrap .i64 (y71 + 1))]) (C := []) (R := []) (by kernel_rfl) (by kernel_rfl) ?_
  refine wF ?_
  refine cE 3 160 (tl 27 [(0, .own 0), (1, V.i (IntKind.wrap .i64 ((IntKind.wrap .i64 (y71 + 1)) + 1))), (5, V.i y72)]) [(0, .vec false e0 2 (x108.map encSSpan))] (fun st hw => ?_)
  refine CO.weak hw ?_
  exact cK 160 ih94 ((IntKind.wrap .i64 ((IntKind.wrap .i64 (y71 + 1)) + 1)), (IntKind.wrap .i64 (y72 + 1)), x108) h93 [(0, 0)] [0, 1, 5]
 refine CO.exit ?_
 refine cV 160 ?_
 refine CO.ret ?_
 cases h93
 exact eG [(0, 0)] (.inr rfl) (RetV.one rfl (oT (t := 4) (r := V.i y71)))

theorem ml_heldSpanS_ok (N : Nat) (a0 : List SSpan) (a1 : Int) {r : Int} (h : ml_heldSpanS N a0 a1 = some r) :
    AC Tryz.prog (GS []) 15 [.sl false false (a0.map encSSpan), V.i a1] [] (V.i r) [] := by
 rw [ml_heldSpanS] at h
 refine AC.enter Tryz.func15 rfl ?_
 refine cV 100 ?_
 refine CO.seq' ?_
 refine cV 100 ?_
 refine CO.block' ?_
 refine CO.loopJ (fun (⟨a0, y69, y70⟩ : ((List SSpan) × Int × Int)) => ⟨tl 31 [(0, .sl false false (a0.map encSSpan)), (1, V.i y69), (5, V.i y70)], []⟩) (fun n i => ml_heldSpanS_l1 N n i = some r) (n0 := N) (i0 := (a0, a1, 0)) (wS [] [0, 1, 5]) h (fun i h => by simp [ml_heldSpanS_l1] at h) ?_
 rintro n1 ⟨a0, y69, y70⟩ h133 ih134
 rw [ml_heldSpanS_l1] at h133
 refine CO.seq' ?_
 refine CO.sw mix ?_
 refine wR 2 160 ?_
 refine W.len Dk encSSpan a0 [] (by kernel_rfl) (by kernel_rfl) ?_
 refine wR 1 160 ?_
 refine wF ?_
 refine cI h133 (fun _ h133 => ?_) (fun _ h133 => ?_)
 ·refine CO.skip ?_
  refine CO.seq' ?_
  refine CO.block' ?_
  refine CO.seq' ?_
  refine bB h133 fun e100 hx153 h133 => ?_
  refine CO.sw mix ?_
  refine wR 2 160 ?_
  refine W.ixD Dk encSSpan hx153 2 (by kernel_rfl) (by kernel_rfl) ?_
  refine wR 4 160 ?_
  refine wF ?_
  refine cI h133 (fun _ h133 => ?_) (fun _ h133 => ?_)
  ·refine cV 160 ?_
   cases h133
   exact e1 4 id
  refine CO.skip ?_
  refine cV 160 ?_
  refine CO.seq' ?_
  refine bB h133 fun e104 hx159 h133 => ?_
  refine CO.sw mix ?_
  refine wR 2 160 ?_
  refine W.ixD Dk encSSpan hx159 2 (by kernel_rfl) (by kernel_rfl) ?_
  refine wR 4 160 ?_
  refine wF ?_
  refine cI h133 (fun _ h133 => ?_) (fun _ h133 => ?_)
  ·refine cV 160 ?_
   cases h133
   exact e1 4 id
  refine CO.skip ?_
  refine cE 3 160 (tl 31 [(0, .sl false false (a0.map encSSpan)), (1, V.i (IntKind.wrap .i64 ((IntKind.wrap .i64 (y69 + 1)) + 1))), (5, V.i y70)]) [] (fun st hw => ?_)
  refine CO.weak hw ?_
  exact cK 160 ih134 (a0, (IntKind.wrap .i64 ((IntKind.wrap .i64 (y69 + 1)) + 1)), (IntKind.wrap .i64 (y70 + 1))) h133 [] [0, 1, 5]
 refine CO.exit ?_
 refine cV 160 ?_
 cases h133
 exact e1 4 id

theorem ml_FnExactSpansOf_ok (N : Nat) (a0 : List SNode) (a1 : SPos) {r : Bool} (h : ml_FnExactSpansOf N a0 a1 = some r) :
    AC Tryz.prog (GS [0, 1, 2]) 3 [.sl false false (a0.map (eSN false)), .agg [V.i a1.Level, V.b a1.Dollar, V.b a1.NoIn, V.b a1.NoGt, V.b a1.NoSign]] [] (V.b r) [] := by
 rw [ml_FnExactSpansOf] at h
 refine AC.enter Tryz.func3 rfl ?_
 refine cV 100 ?_
 refine cV 101 ?_
 refine bB h fun r2 hx2 h => ?_
 refine cC 2 101 (AC.gs (ml_szNodeS_ok N a0 1048576 hx2) (by decide)) cok6 ?_
 refine CO.seq' ?_
 refine cV 101 ?_
 refine cI h (fun _ h => ?_) (fun _ h => ?_)
 ·refine cV 101 ?_
  cases h
  exact e1 4 id
 refine CO.skip ?_
 refine bB h fun r6 hx8 h => ?_
 refine bB h fun r7 hx9 h => ?_
 refine bB h fun r8 hx10 h => ?_
 refine CO.sw mix ?_
 refine wR 1 101 ?_
 refine W.call (AC.gs (ml_toNodeS_ok N a0 hx8) (by decide)) cok8 [] [(100, 101)] [101] (show LayOk _ [] from trivial) (by kernel_rfl) (by kernel_rfl) ?_
 refine wR 1 102 ?_
 refine W.call0 (AC.gs (ml_toPos_ok a1 hx9) (by decide)) cok9 rfl (by kernel_rfl) ?_
 refine W.lend (AC.gs (ms_SpansOf_ok N r6 r7 hx10) (by decide)) cok7 [(100, 102)] [102] (LayOk.cons (j := 101) (eSN true) (eSN false) r6 (by kernel_rfl) (sh_eSN _) (show LayOk _ [] from trivial)) (.own _) (.cons (DeepR.map (fun _ => (.cons (.c _) (.cons (.c _) .nil))) _) .nil) (by kernel_rfl) (by kernel_rfl) ?_
 refine wR 1 103 ?_
 refine wF ?_
 refine bB h fun r10 hx12 h => ?_
 refine CO.sw mix ?_
 refine wR 1 103 ?_
 refine W.call (AC.gs (ml_toNodeS_ok N a0 hx12) (by decide)) cok8 [] [(100, 103)] [103] (show LayOk _ [] from trivial) (by kernel_rfl) (by kernel_rfl) ?_
 refine wR 1 104 ?_
 refine wF ?_
 refine bB h fun r13 hx15 h => ?_
 refine bB h fun r14 hx16 h => ?_
 refine CO.sw mix ?_
 refine wR 2 104 ?_
 refine W.call0 (AC.gs (ml_toPos_ok a1 hx15) (by decide)) cok9 rfl (by kernel_rfl) ?_
 refine W.lend (mi_SpansOf_ok N r10 r13 hx16) cok10 [(100, 104)] [104] (LayOk.cons (j := 103) (eSN true) (eSN false) r10 (by kernel_rfl) (sh_eSN _) (show LayOk _ [] from trivial)) (.own _) (.cons (DeepR.map (fun _ => (.cons (.c _) (.cons (.c _) .nil))) _) .nil) (by kernel_rfl) (by kernel_rfl) ?_
 refine wR 1 105 ?_
 refine wF ?_
 refine CO.seq' ?_
 refine bB h fun r18 hx21 h => ?_
 refine CO.sw mix ?_
 refine wR 2 105 ?_
 refine W.lend (AC.gs (ml_eqSpanS_ok N r14 r8 hx21) (by decide)) cok11 [] [] (LayOk.cons (j := 104) encSSpan encSSpan r14 (by kernel_rfl) (fun _ => rfl) (LayOk.cons (j := 102) encSSpan encSSpan r8 (by kernel_rfl) (fun _ => rfl) (show LayOk _ [] from trivial))) (.c _) .nil (by kernel_rfl) (by kernel_rfl) ?_
 refine wR 1 105 ?_
 refine wF ?_
 refine cI h (fun _ h => ?_) (fun _ h => ?_)
 ·refine cV 105 ?_
  cases h
  exact e1 4 id
 refine CO.skip ?_
 refine CO.seq' ?_
 refine bB h fun r25 hx30 h => ?_
 refine bB h fun r26 hx31 h => ?_
 refine CO.sw mix ?_
 refine wR 2 105 ?_
 refine W.call (AC.gs (ml_toNodeS_ok N a0 hx30) (by decide)) cok8 [] [(100, 105)] [105] (show LayOk _ [] from trivial) (by kernel_rfl) (by kernel_rfl) ?_
 refine W.lend (AC.gs (ml_eqNodeS_ok N r10 r25 hx31) (by decide)) cok12 [] [] (LayOk.cons (j := 103) (eSN true) (eSN false) r10 (by kernel_rfl) (sh_eSN _) (LayOk.cons (j := 105) (eSN true) (eSN false) r25 (by kernel_rfl) (sh_eSN _) (show LayOk _ [] from trivial))) (.c _) .nil (by kernel_rfl) (by kernel_rfl) ?_
 refine wR 1 106 ?_
 refine wF ?_
 refine cI h (fun _ h => ?_) (fun _ h => ?_)
 ·refine cV 106 ?_
  cases h
  exact e1 4 id
 refine CO.skip ?_
 refine cV 106 ?_
 refine bB h fun r28 hx34 h => ?_
 refine CO.sw mix ?_
 refine wR 2 106 ?_
 refine W.call (AC.gs (ml_markNodeS_ok 54 N 1 r10 hx34) (by decide)) cok13 [(103, 0)] [(0, 103)] [] (show LayOk _ [] from trivial) (by kernel_rfl) (by kernel_rfl) ?_
 refine wR 1 106 ?_
 refine wF ?_
 refine CO.seq' ?_
 refine bB h fun y33 hv43 h => ?_
 refine CO.cutR (tl 77 [(0, .sl false false (a0.map (eSN false))), (3, .loc 100 0), (6, .own 101), (8, .own 102), (48, V.b y33)]) [(100, .cells 24 [V.i a1.Level, V.b a1.Dollar, V.b a1.NoIn, V.b a1.NoGt, V.b a1.NoSign]), (101, .vec false 61 2 (r8.map encSSpan)), (102, .vec false 61 2 (r14.map encSSpan))] mix (by
  refine wR 3 106 ?_
  refine wJ 43 hv43 (fun hv43 => ?_) (fun hv43 => ?_)
  ·refine wR 5 106 ?_
   cases hv43
   exact fS [(100, 100), (102, 101), (104, 102)] [0, 3, 6, 8, 48]
  refine wR 2 106 ?_
  refine bB hv43 fun r34 hx45 hv43 => ?_
  refine W.lend (AC.gs (ml_eqSpanS_ok N r14 r8 hx45) (by decide)) cok11 [] [] (LayOk.cons (j := 104) encSSpan encSSpan r14 (by kernel_rfl) (fun _ => rfl) (LayOk.cons (j := 102) encSSpan encSSpan r8 (by kernel_rfl) (fun _ => rfl) (show LayOk _ [] from trivial))) (.c _) .nil (by kernel_rfl) (by kernel_rfl) ?_
  refine wR 2 106 ?_
  cases hv43
  exact fS [(100, 100), (102, 101), (104, 102)] [0, 3, 6, 8, 48]
  ) ?_
 refine cI h (fun _ h => ?_) (fun _ h => ?_)
 ·refine cV 106 ?_
  cases h
  exact e1 4 id
 refine CO.skip ?_
 refine cV 106 ?_
 refine bB h fun r36 hx48 h => ?_
 refine CO.sw mix ?_
 refine wR 2 106 ?_
 refine W.call (AC.gs (ml_markSpanS_ok 61 N 1 r14 hx48) (by decide)) cok14 [(102, 0)] [(0, 102)] [] (show LayOk _ [] from trivial) (by kernel_rfl) (by kernel_rfl) ?_
 refine wR 1 106 ?_
 refine wF ?_
 refine cV 106 ?_
 refine bB h fun r38 hx50 h => ?_
 refine CO.sw mix ?_
 refine wR 2 106 ?_
 refine W.lend (AC.gs (ml_heldSpanS_ok N r36.2 1 hx50) (by decide)) cok15 [] [] (LayOk.cons (j := 102) encSSpan encSSpan r36.2 (by kernel_rfl) (fun _ => rfl) (show LayOk _ [] from trivial)) (.c _) .nil (by kernel_rfl) (by kernel_rfl) ?_
 refine wR 1 106 ?_
 refine wF ?_
 refine CO.seq' ?_
 refine cV 106 ?_
 refine cI h (fun _ h => ?_) (fun _ h => ?_)
 ·refine cV 106 ?_
  cases h
  exact e1 4 id
 refine CO.skip ?_
 refine CO.seq' ?_
 refine cV 106 ?_
 refine cI h (fun _ h => ?_) (fun _ h => ?_)
 ·refine cV 106 ?_
  cases h
  exact e1 4 id
 refine CO.skip ?_
 refine bB h fun r42 hx58 h => ?_
 refine bB h fun r43 hx59 h => ?_
 refine bB h fun r44 hx60 h => ?_
 refine CO.sw mix ?_
 refine wR 1 106 ?_
 refine W.call (AC.gs (ml_toNodeS_ok N a0 hx58) (by decide)) cok8 [] [(100, 106)] [106] (show LayOk _ [] from trivial) (by kernel_rfl) (by kernel_rfl) ?_
 refine wR 1 107 ?_
 refine W.call0 (AC.gs (ml_toPos_ok a1 hx59) (by decide)) cok9 rfl (by kernel_rfl) ?_
 refine W.lend (mi_SpansOf_ok N r42 r43 hx60) cok10 [(100, 107)] [107] (LayOk.cons (j := 106) (eSN true) (eSN false) r42 (by kernel_rfl) (sh_eSN _) (show LayOk _ [] from trivial)) (.own _) (.cons (DeepR.map (fun _ => (.cons (.c _) (.cons (.c _) .nil))) _) .nil) (by kernel_rfl) (by kernel_rfl) ?_
 refine wR 1 108 ?_
 refine wF ?_
 refine CO.seq' ?_
 refine bB h fun r48 hx65 h => ?_
 refine CO.sw mix ?_
 refine wR 2 108 ?_
 refine W.lend (AC.gs (ml_eqSpanS_ok N r44 r8 hx65) (by decide)) cok11 [] [] (LayOk.cons (j := 107) encSSpan encSSpan r44 (by kernel_rfl) (fun _ => rfl) (LayOk.cons (j := 101) encSSpan encSSpan r8 (by kernel_rfl) (fun _ => rfl) (show LayOk _ [] from trivial))) (.c _) .nil (by kernel_rfl) (by kernel_rfl) ?_
 refine wR 1 108 ?_
 refine wF ?_
 refine cI h (fun _ h => ?_) (fun _ h => ?_)
 ·refine cV 108 ?_
  cases h
  exact e1 4 id
 refine CO.skip ?_
 refine cV 108 ?_
 refine bB h fun r50 hx68 h => ?_
 refine CO.sw mix ?_
 refine wR 2 108 ?_
 refine W.lend (AC.gs (ml_heldSpanS_ok N r36.2 1 hx68) (by decide)) cok15 [] [] (LayOk.cons (j := 102) encSSpan encSSpan r36.2 (by kernel_rfl) (fun _ => rfl) (show LayOk _ [] from trivial)) (.c _) .nil (by kernel_rfl) (by kernel_rfl) ?_
 refine wR 1 108 ?_
 refine wF ?_
 refine CO.seq' ?_
 refine cV 108 ?_
 refine cI h (fun _ h => ?_) (fun _ h => ?_)
 ·refine cV 108 ?_
  cases h
  exact e1 4 id
 refine CO.skip ?_
 refine CO.seq' ?_
 refine cV 108 ?_
 refine cI h (fun _ h => ?_) (fun _ h => ?_)
 ·refine cV 108 ?_
  cases h
  exact e1 4 id
 refine CO.skip ?_
 refine cV 108 ?_
 cases h
 exact e1 4 id

end Go.Proofs.Tryz
