/-
 The walks that show that the code computes the models, part 5.
-/
import Derived.Test.YtgnkbpkhbcmhlaaGreatDoorHoVW4
namespace Go.Proofs.Tryz
open Go.Av
set_option maxRecDepth 100000
set_option maxHeartbeats 8000000
set_option linter.unusedSimpArgs false
set_option linter.unusedVariables false

theorem mi_binLevel_ok (a0 : Int) (a1 : Int) {r : Int} (h : mi_binLevel a0 a1 = some r) :
    AC Tryz.prog (GS []) 179 [V.i a0, V.i a1] [] (V.i r) [] := by
 rw [mi_binLevel] at h
 refine AC.enter Tryz.func179 rfl (cV 100 (cV 100 ?_))
 refine CO.join (fun (⟨a1, y3, y4⟩ : (Int × Int × Int)) => ⟨tl 27 [(1, V.i a1), (5, V.i y3), (6, V.i y4)], []⟩) (fun i => mi_binLevel_k1 i = some r) ?_ ?_
 · rintro ⟨a1, y3, y4⟩ h10
   rw [mi_binLevel_k1] at h10
   refine CO.seq' (cV 100 ?_)
   refine cI h10 (fun _ h10 => ?_) (fun _ h10 => ?_)
   ·refine cV 100 ?_
    cases h10
    exact e1 4 id
   refine CO.skip (cV 100 ?_)
   cases h10
   exact e1 4 id
 intro hk13
 refine bB h fun r6 hx15 h => (cC 1 100 (mi_OpLevel_ok a0 hx15) cok128 (CO.block' (cV 100 ?_)))
 refine cI h (fun _ h => ?_) (fun _ h => ?_)
 ·exact cK 100 hk13 (a1, 3, 4) h [] [1, 5, 6]
 refine cV 100 ?_
 refine cI h (fun _ h => ?_) (fun _ h => ?_)
 ·exact cK 100 hk13 (a1, 4, 5) h [] [1, 5, 6]
 refine cV 100 ?_
 refine cI h (fun _ h => ?_) (fun _ h => ?_)
 ·exact cK 100 hk13 (a1, 7, 7) h [] [1, 5, 6]
 refine cV 100 ?_
 refine cI h (fun _ h => ?_) (fun _ h => ?_)
 ·exact cK 100 hk13 (a1, 8, 8) h [] [1, 5, 6]
 refine cV 100 ?_
 refine cI h (fun _ h => ?_) (fun _ h => ?_)
 ·exact cK 100 hk13 (a1, 8, 9) h [] [1, 5, 6]
 refine cV 100 ?_
 refine cI h (fun _ h => ?_) (fun _ h => ?_)
 ·exact cK 100 hk13 (a1, 9, 10) h [] [1, 5, 6]
 refine cV 100 ?_
 refine cI h (fun _ h => ?_) (fun _ h => ?_)
 ·exact cK 100 hk13 (a1, 10, 11) h [] [1, 5, 6]
 exact cK 100 hk13 (a1, 13, 11) h [] [1, 5, 6]

theorem mi_kidLevel_ok (a0 : SNode) (a1 : Int) {r : Int} (h : mi_kidLevel a0 a1 = some r) :
    AC Tryz.prog (GS []) 159 [.agg [V.i a0.Kind, V.i a0.Op, V.s a0.Text, V.s a0.Other, sL eNI a0.Kids], V.i a1] [] (V.i r) [] := by
 rw [mi_kidLevel] at h
 refine AC.enter Tryz.func159 rfl (cV 100 (CO.seq' (cV 101 (CO.block' (cV 101 ?_)))))
 refine cI h (fun _ h => ?_) (fun _ h => ?_)
 ·refine CO.seq' (cV 101 ?_)
  refine cI h (fun _ h => ?_) (fun _ h => ?_)
  ·refine cV 101 ?_
   cases h
   exact e1 4 id
  refine CO.skip (cV 101 ?_)
  cases h
  exact e1 4 id
 refine cV 101 ?_
 refine cI h (fun _ h => ?_) (fun _ h => ?_)
 ·refine CO.seq' (cV 101 ?_)
  refine cI h (fun _ h => ?_) (fun _ h => ?_)
  ·refine cV 101 ?_
   cases h
   exact e1 4 id
  refine CO.skip (cV 101 ?_)
  cases h
  exact e1 4 id
 refine cV 101 ?_
 refine cI h (fun _ h => ?_) (fun _ h => ?_)
 ·refine cV 101 ?_
  cases h
  exact e1 4 id
 refine cV 101 ?_
 refine cI h (fun _ h => ?_) (fun _ h => ?_)
 ·refine cV 101 ?_
  cases h
  exact e1 4 id
 refine cV 101 ?_
 refine cI h (fun _ h => ?_) (fun _ h => ?_)
 ·refine bB h fun r4 hx22 h => (cC 3 101 (mi_binLevel_ok a0.Op a1 hx22) cok179 ?_)
  cases h
  exact e1 4 id
 refine CO.skip (cV 101 ?_)
 cases h
 exact e1 4 id

theorem mi_KidPos_ok (a0 : SNode) (a1 : Int) (a2 : SPos) {r : SPos} (h : mi_KidPos a0 a1 a2 = some r) :
    AC Tryz.prog (GS []) 131 [.agg [V.i a0.Kind, V.i a0.Op, V.s a0.Text, V.s a0.Other, sL eNI a0.Kids], V.i a1, .agg [V.i a2.Level, V.b a2.Dollar, V.b a2.NoIn, V.b a2.NoGt, V.b a2.NoSign]] [] (.agg [V.i r.Level, V.b r.Dollar, V.b r.NoIn, V.b r.NoGt, V.b r.NoSign]) [] := by
 rw [mi_KidPos] at h
 refine AC.enter Tryz.func131 rfl (cV 100 (CO.seq' (bB h fun y11 hv18 h => ?_)))
 refine CO.cutR (tl 81 [(1, V.i a1), (3, .loc 100 0), (5, .loc 101 0), (6, .loc 102 0), (24, V.b y11)]) [(100, .cells 49 [V.i a0.Kind, V.i a0.Op, V.s a0.Text, V.s a0.Other, sL eNI a0.Kids]), (101, .cells 30 [V.i a2.Level, V.b a2.Dollar, V.b a2.NoIn, V.b a2.NoGt, V.b a2.NoSign]), (102, .cells 30 [V.i 0, V.b false, V.b false, V.b false, V.b false])] mix (by
  refine wR 1 103 (bB hv18 fun r12 hx19 hv18 => (w0 (mi_PosOk_ok a2 hx19) cok26 (wR 2 103 ?_)))
  refine wJ 11 hv18 (fun hv18 => ?_) (fun hv18 => ?_)
  ·refine wR 13 103 ?_
   cases hv18
   exact fS [(100, 100), (101, 101), (102, 102)] [1, 3, 5, 6, 24]
  refine wR 3 103 (wN eNI a0.Kids [] (wR 1 103 (bB hv18 fun r13 hx21 hv18 => (w0 (mi_within_ok a1 0 (wr ((a0.Kids.length : Int) - 1)) hx21) cok41 (wR 3 103 ?_)))))
  refine wJ 20 hv18 (fun hv18 => ?_) (fun hv18 => ?_)
  ·refine wR 4 103 ?_
   cases hv18
   exact fS [(100, 100), (101, 101), (102, 102)] [1, 3, 5, 6, 24]
  refine wR 1 103 (bB hv18 fun r14 hx23 hv18 => (w0 (mi_LevelOf_ok a0 hx23) cok91 (wR 2 103 ?_)))
  cases hv18
  exact fS [(100, 100), (101, 101), (102, 102)] [1, 3, 5, 6, 24]
  ) ?_
 refine cI h (fun _ h => ?_) (fun _ h => ?_)
 ·refine cV 103 (CO.ret ?_)
  cases h
  exact eG [] (.inr rfl) (RetV.one rfl (OneR.cell Dk (r := .agg [V.i 0, V.b false, V.b false, V.b false, V.b false]) (i := 102) (ety := 30) (cs := [V.i 0, V.b false, V.b false, V.b false, V.b false]) (by kernel_rfl) (by kernel_rfl) (by kernel_rfl)))
 refine CO.skip (CO.seq' (bB h fun y21 hv38 h => ?_))
 refine CO.cutR (tl 81 [(1, V.i a1), (3, .loc 100 0), (5, .loc 101 0), (6, .loc 102 0), (39, V.b y21)]) [(100, .cells 49 [V.i a0.Kind, V.i a0.Op, V.s a0.Text, V.s a0.Other, sL eNI a0.Kids]), (101, .cells 30 [V.i a2.Level, V.b a2.Dollar, V.b a2.NoIn, V.b a2.NoGt, V.b a2.NoSign]), (102, .cells 30 [V.i 0, V.b false, V.b false, V.b false, V.b false])] mix (by
  refine wR 1 103 (bB hv38 fun r22 hx39 hv38 => (w0 (mi_LevelOf_ok a0 hx39) cok91 (wR 2 103 ?_)))
  refine wJ 29 hv38 (fun hv38 => ?_) (fun hv38 => ?_)
  ·refine wR 10 103 ?_
   cases hv38
   exact fS [(100, 100), (101, 101), (102, 102)] [1, 3, 5, 6, 39]
  refine wR 4 103 ?_
  refine wJ 33 hv38 (fun hv38 => ?_) (fun hv38 => ?_)
  ·refine wR 2 103 (wN eNI a0.Kids [] (wR 3 103 ?_))
   cases hv38
   exact fS [(100, 100), (101, 101), (102, 102)] [1, 3, 5, 6, 39]
  refine wR 6 103 ?_
  cases hv38
  exact fS [(100, 100), (101, 101), (102, 102)] [1, 3, 5, 6, 39]
  ) ?_
 refine cI h (fun _ h => ?_) (fun _ h => ?_)
 ·refine bB h fun r24 hx44 h => (cC 0 103 (mi_Top_ok  hx44) cok61 (CO.ret ?_))
  have h := sI h
  subst h
  exact eG [] (.inr rfl) (RetV.one rfl (OneR.cell Dk (r := .agg [V.i r24.Level, V.b r24.Dollar, V.b r24.NoIn, V.b r24.NoGt, V.b r24.NoSign]) (i := 102) (ety := 30) (cs := [V.i r24.Level, V.b r24.Dollar, V.b r24.NoIn, V.b r24.NoGt, V.b r24.NoSign]) (by kernel_rfl) (by kernel_rfl) (by kernel_rfl)))
 refine CO.skip (bB h fun r26 hx46 h => (cC 2 103 (mi_kidLevel_ok a0 a1 hx46) cok159 ?_))
 refine CO.join (fun (⟨r26, a0, a2, y29⟩ : (Int × SNode × SPos × Bool)) => ⟨tl 81 [(6, .loc 100 0), (7, .loc 101 0)], [(100, .cells 30 [V.i 0, V.b false, V.b false, V.b false, V.b false]), (101, .cells 30 [V.i r26, V.b (a0.Kind == 6), V.b a2.NoIn, V.b a2.NoGt, V.b y29])]⟩) (fun i => mi_KidPos_k1 i = some r) ?_ ?_
 · rintro ⟨r26, a0, a2, y29⟩ h69
   rw [mi_KidPos_k1] at h69
   refine cV 104 (CO.ret ?_)
   have h69 := sI h69
   subst h69
   exact eG [] (.inr rfl) (RetV.one rfl (OneR.cell Dk (r := .agg [V.i r26, V.b (a0.Kind == 6), V.b a2.NoIn, V.b a2.NoGt, V.b y29]) (i := 100) (ety := 30) (cs := [V.i r26, V.b (a0.Kind == 6), V.b a2.NoIn, V.b a2.NoGt, V.b y29]) (by kernel_rfl) (by kernel_rfl) (by kernel_rfl)))
 intro hk70
 refine cV 104 (CO.block' ?_)
 refine CO.join (fun (⟨a1, a0, a2, r26, y30⟩ : (Int × SNode × SPos × Int × Bool)) => ⟨tl 81 [(1, V.i a1), (3, .loc 100 0), (5, .loc 101 0), (6, .loc 102 0), (7, .loc 103 0), (75, V.b y30)], [(100, .cells 49 [V.i a0.Kind, V.i a0.Op, V.s a0.Text, V.s a0.Other, sL eNI a0.Kids]), (101, .cells 30 [V.i a2.Level, V.b a2.Dollar, V.b a2.NoIn, V.b a2.NoGt, V.b a2.NoSign]), (102, .cells 30 [V.i 0, V.b false, V.b false, V.b false, V.b false]), (103, .cells 30 [V.i r26, V.b (a0.Kind == 6), V.b a2.NoIn, V.b a2.NoGt, V.b false])]⟩) (fun i => mi_KidPos_k2 i = some r) ?_ ?_
 · rintro ⟨a1, a0, a2, r26, y30⟩ h74
   rw [mi_KidPos_k2] at h74
   refine cI h74 (fun _ h74 => ?_) (fun _ h74 => ?_)
   ·exact sK hk70 (r26, a0, a2, false) h74 [(102, 100), (103, 101)] [6, 7]
   refine bB h74 fun y31 hv82 h74 => ?_
   refine CO.endR (tl 81 [(6, .loc 100 0), (7, .loc 101 0)]) [(100, .cells 30 [V.i 0, V.b false, V.b false, V.b false, V.b false]), (101, .cells 30 [V.i r26, V.b (a0.Kind == 6), V.b a2.NoIn, V.b a2.NoGt, V.b y31])] mix (by
    refine wR 3 104 ?_
    refine wJ 56 hv82 (fun hv82 => ?_) (fun hv82 => ?_)
    ·refine wR 4 104 ?_
     refine wJ 60 hv82 (fun hv82 => ?_) (fun hv82 => ?_)
     ·refine wR 15 104 ?_
      cases hv82
      exact fS [(102, 100), (103, 101)] [6, 7]
     refine wR 3 104 ?_
     refine wJ 63 hv82 (fun hv82 => ?_) (fun hv82 => ?_)
     ·refine wR 5 104 ?_
      refine wJ 68 hv82 (fun hv82 => ?_) (fun hv82 => ?_)
      ·refine wR 7 104 ?_
       cases hv82
       exact fS [(102, 100), (103, 101)] [6, 7]
      refine wR 7 104 ?_
      cases hv82
      exact fS [(102, 100), (103, 101)] [6, 7]
     refine wR 12 104 ?_
     cases hv82
     exact fS [(102, 100), (103, 101)] [6, 7]
    refine wR 7 104 ?_
    refine wJ 63 hv82 (fun hv82 => ?_) (fun hv82 => ?_)
    ·refine wR 5 104 ?_
     refine wJ 68 hv82 (fun hv82 => ?_) (fun hv82 => ?_)
     ·refine wR 7 104 ?_
      cases hv82
      exact fS [(102, 100), (103, 101)] [6, 7]
     refine wR 7 104 ?_
     cases hv82
     exact fS [(102, 100), (103, 101)] [6, 7]
    refine wR 12 104 ?_
    cases hv82
    exact fS [(102, 100), (103, 101)] [6, 7]
    ) (fun st hw => ?_)
   exact hk70 (r26, a0, a2, y31) h74 _ (hw.trans (wS [(100, 100), (101, 101)] [6, 7]))
 intro hk89
 refine cV 104 ?_
 refine cI h (fun _ h => ?_) (fun _ h => ?_)
 ·exact sK hk89 (a1, a0, a2, r26, (a0.Kind == 11)) h [(100, 100), (101, 101), (102, 102), (103, 103)] [1, 3, 5, 6, 7, 75]
 refine cV 104 ?_
 refine cI h (fun _ h => ?_) (fun _ h => ?_)
 ·exact sK hk89 (a1, a0, a2, r26, (a0.Kind == 9)) h [(100, 100), (101, 101), (102, 102), (103, 103)] [1, 3, 5, 6, 7, 75]
 refine cV 104 ?_
 refine cI h (fun _ h => ?_) (fun _ h => ?_)
 ·exact sK hk89 (a1, a0, a2, r26, (a0.Kind == 10)) h [(100, 100), (101, 101), (102, 102), (103, 103)] [1, 3, 5, 6, 7, 75]
 exact cK 104 hk89 (a1, a0, a2, r26, (a0.Kind == 6)) h [(100, 100), (101, 101), (102, 102), (103, 103)] [1, 3, 5, 6, 7, 75]

theorem mi_isTarget_ok (a0 : SNode) (a1 : Int) {r : Bool} (h : mi_isTarget a0 a1 = some r) :
    AC Tryz.prog (GS []) 132 [.agg [V.i a0.Kind, V.i a0.Op, V.s a0.Text, V.s a0.Other, sL eNI a0.Kids], V.i a1] [] (V.b r) [] := by
 rw [mi_isTarget] at h
 refine AC.enter Tryz.func132 rfl (cV 100 (bB h fun y1 hv4 h => ?_))
 refine CO.cutR (tl 22 [(4, V.b y1)]) [] mix (by
  refine wR 3 101 ?_
  refine wJ 7 hv4 (fun hv4 => ?_) (fun hv4 => ?_)
  ·refine wR 4 101 ?_
   refine wJ 11 hv4 (fun hv4 => ?_) (fun hv4 => ?_)
   ·refine wR 11 101 ?_
    cases hv4
    exact fS [] [4]
   refine wR 5 101 ?_
   refine wJ 16 hv4 (fun hv4 => ?_) (fun hv4 => ?_)
   ·refine wR 6 101 ?_
    cases hv4
    exact fS [] [4]
   refine wR 6 101 ?_
   cases hv4
   exact fS [] [4]
  refine wR 15 101 ?_
  cases hv4
  exact fS [] [4]
  ) ?_
 cases h
 exact e1 4 id

theorem mi_speller__put_ok (a1 : LT) (pc : Bool) (p1 : LT) (p2 : List SSpan) {r : LT} (h : mi_speller__put a1 pc p1 p2 = some r) :
    AC Tryz.prog (GS []) 180 [.loc 0 0, sL eTk a1] [(0, .cells 143 [.own 1, .own 2, V.b pc]), (1, vX 105 3 eTk p1), (2, vX 174 2 encSSpan p2)] (.tup []) [(0, .cells 143 [.own 100, .own 2, V.b pc]), (2, vX 174 2 encSSpan p2), (100, vX 105 3 eTk r)] := by
 rw [mi_speller__put] at h
 refine AC.enter Tryz.func180 rfl (bB h fun x2 hx2 h => ?_)
 refine CO.cutE (tl 13 []) [(0, .cells 143 [.own 100, .own 2, V.b pc]), (100, vX 105 3 eTk x2), (2, vX 174 2 encSSpan p2)] mix (by
  refine wR 6 100 (W.appD Dk eTk (a := 1) (el := 105) 32 hx2 rfl 100 3 (fun _ => by first | rfl | kernel_rfl) (by kernel_rfl) (wR 3 101 ?_))
  exact fI
  ) ?_
 cases h
 exact eG [(0, 0), (2, 2), (100, 100)] (.inl rfl) (RetV.none rfl)

theorem mi_sign_ok (a0 : Int) {r : SToken} (h : mi_sign a0 = some r) :
    AC Tryz.prog (GS [0, 1]) 135 [V.i a0] [] (.agg [V.i r.Kind, V.s r.Text, V.i r.At]) [] := by
 rw [mi_sign] at h
 refine AC.enter Tryz.func135 rfl (cV 100 (bB h fun r2 hx2 h => (cC 2 101 (mi_SpellOf_ok a0 hx2) cok94 (CO.ret ?_))))
 have h := sI h
 subst h
 exact eG [] (.inr rfl) (RetV.one rfl (OneR.cell Dk (r := .agg [V.i a0, V.s r2, V.i 0]) (i := 100) (ety := 105) (cs := [V.i a0, V.s r2, V.i 0]) (by kernel_rfl) (by kernel_rfl) (by kernel_rfl)))

structure RecOk5 (R : Rec5) : Prop where
 mi_speller__expr : ∀ (a1 : STree) (a2 : SPos) (pc : Bool) (p1 : LT) (p2 : List SSpan) (r : (LT × (List SSpan))), R.mi_speller__expr a1 a2 pc p1 p2 = some r → AC Tryz.prog (GS [0, 1]) 161 [.loc 0 0, .agg [V.i a1.kind, V.i a1.op, V.s a1.text, V.s a1.other, sL eST a1.kids], .agg [V.i a2.Level, V.b a2.Dollar, V.b a2.NoIn, V.b a2.NoGt, V.b a2.NoSign]] [(0, .cells 143 [.own 1, .own 2, V.b pc]), (1, vX 105 3 eTk p1), (2, vX 174 2 encSSpan p2)] (.tup []) [(0, .cells 143 [.own 100, .own 101, V.b pc]), (100, vX 105 3 eTk r.1), (101, vX 174 2 encSSpan r.2)]
 mi_speller__operator : ∀ (a1 : STree) (a2 : SPos) (pc : Bool) (p1 : LT) (p2 : List SSpan) (r : (LT × (List SSpan))), R.mi_speller__operator a1 a2 pc p1 p2 = some r → AC Tryz.prog (GS [0, 1]) 182 [.loc 0 0, .agg [V.i a1.kind, V.i a1.op, V.s a1.text, V.s a1.other, sL eST a1.kids], .agg [V.i a2.Level, V.b a2.Dollar, V.b a2.NoIn, V.b a2.NoGt, V.b a2.NoSign]] [(0, .cells 143 [.own 1, .own 2, V.b pc]), (1, vX 105 3 eTk p1), (2, vX 174 2 encSSpan p2)] (.tup []) [(0, .cells 143 [.own 100, .own 101, V.b pc]), (100, vX 105 3 eTk r.1), (101, vX 174 2 encSSpan r.2)]
 mi_speller__list : ∀ (a1 : STree) (a2 : Int) (a3 : Int) (a4 : SPos) (pc : Bool) (p1 : LT) (p2 : List SSpan) (r : (LT × (List SSpan))), R.mi_speller__list a1 a2 a3 a4 pc p1 p2 = some r → AC Tryz.prog (GS [0, 1]) 181 [.loc 0 0, .agg [V.i a1.kind, V.i a1.op, V.s a1.text, V.s a1.other, sL eST a1.kids], V.i a2, V.i a3, .agg [V.i a4.Level, V.b a4.Dollar, V.b a4.NoIn, V.b a4.NoGt, V.b a4.NoSign]] [(0, .cells 143 [.own 1, .own 2, V.b pc]), (1, vX 105 3 eTk p1), (2, vX 174 2 encSSpan p2)] (.tup []) [(0, .cells 143 [.own 100, .own 101, V.b pc]), (100, vX 105 3 eTk r.1), (101, vX 174 2 encSSpan r.2)]
 mi_speller__bare : ∀ (a1 : STree) (a2 : SPos) (pc : Bool) (p1 : LT) (p2 : List SSpan) (r : (LT × (List SSpan))), R.mi_speller__bare a1 a2 pc p1 p2 = some r → AC Tryz.prog (GS [0, 1]) 160 [.loc 0 0, .agg [V.i a1.kind, V.i a1.op, V.s a1.text, V.s a1.other, sL eST a1.kids], .agg [V.i a2.Level, V.b a2.Dollar, V.b a2.NoIn, V.b a2.NoGt, V.b a2.NoSign]] [(0, .cells 143 [.own 1, .own 2, V.b pc]), (1, vX 105 3 eTk p1), (2, vX 174 2 encSSpan p2)] (.tup []) [(0, .cells 143 [.own 100, .own 101, V.b pc]), (100, vX 105 3 eTk r.1), (101, vX 174 2 encSSpan r.2)]
 mi_speller__kid : ∀ (a1 : STree) (a2 : Int) (a3 : SPos) (pc : Bool) (p1 : LT) (p2 : List SSpan) (r : (LT × (List SSpan))), R.mi_speller__kid a1 a2 a3 pc p1 p2 = some r → AC Tryz.prog (GS [0, 1]) 133 [.loc 0 0, .agg [V.i a1.kind, V.i a1.op, V.s a1.text, V.s a1.other, sL eST a1.kids], V.i a2, .agg [V.i a3.Level, V.b a3.Dollar, V.b a3.NoIn, V.b a3.NoGt, V.b a3.NoSign]] [(0, .cells 143 [.own 1, .own 2, V.b pc]), (1, vX 105 3 eTk p1), (2, vX 174 2 encSSpan p2)] (.tup []) [(0, .cells 143 [.own 100, .own 101, V.b pc]), (100, vX 105 3 eTk r.1), (101, vX 174 2 encSSpan r.2)]

theorem mi_speller__expr_F_ok (N : Nat) (R : Rec5) (HR : RecOk5 R) (a1 : STree) (a2 : SPos) (pc : Bool) (p1 : LT) (p2 : List SSpan) {r : (LT × (List SSpan))} (h : mi_speller__expr_F N R a1 a2 pc p1 p2 = some r) :
    AC Tryz.prog (GS [0, 1]) 161 [.loc 0 0, .agg [V.i a1.kind, V.i a1.op, V.s a1.text, V.s a1.other, sL eST a1.kids], .agg [V.i a2.Level, V.b a2.Dollar, V.b a2.NoIn, V.b a2.NoGt, V.b a2.NoSign]] [(0, .cells 143 [.own 1, .own 2, V.b pc]), (1, vX 105 3 eTk p1), (2, vX 174 2 encSSpan p2)] (.tup []) [(0, .cells 143 [.own 100, .own 101, V.b pc]), (100, vX 105 3 eTk r.1), (101, vX 174 2 encSSpan r.2)] := by
 rw [mi_speller__expr_F] at h
 refine AC.enter Tryz.func161 rfl (cV 100 (bB h fun r2 hx2 h => (CO.sw mix (wR 1 102 (wC (AC.gs (mi_tree__node_ok N a1 hx2) (by decide)) cok57 [] [(100, 102)] [102] (wR 2 103 (wF (bB h fun r4 hx4 h => ?_))))))))
 refine CO.sw mix (wR 2 104 (W.lend (AC.gs (mi_Fits_ok r2 a2 hx4) (by decide)) cok56 [] [] (LayOk.cons (j := 102) eNI eNI r2.Kids (by kernel_rfl) (fun _ => rfl) lO) (.c _) .nil (by kernel_rfl) (by kernel_rfl) (wR 2 104 (wF ?_))))
 refine CO.join (fun (⟨a1, a2, p1, p2, y8⟩ : (STree × SPos × LT × (List SSpan) × Bool)) => ⟨tl 44 [(0, .loc 0 0), (4, .loc 100 0), (5, .loc 101 0), (7, V.b y8)], [(0, .cells 143 [.own 1, .own 2, V.b pc]), (100, .cells 57 [V.i a1.kind, V.i a1.op, V.s a1.text, V.s a1.other, sL eST a1.kids]), (101, .cells 30 [V.i a2.Level, V.b a2.Dollar, V.b a2.NoIn, V.b a2.NoGt, V.b a2.NoSign]), (1, vX 105 3 eTk p1), (2, vX 174 2 encSSpan p2)]⟩) (fun i => mi_speller__expr_k1 N R pc i = some r) ?_ ?_
 · rintro ⟨a1, a2, p1, p2, y8⟩ h11
   rw [mi_speller__expr_k1] at h11
   refine CO.seq' (cV 104 ?_)
   refine cI h11 (fun _ h11 => ?_) (fun _ h11 => ?_)
   ·refine bB h11 fun r12 hx17 h11 => (CO.sw mix (wR 3 104 (wC (HR.mi_speller__bare a1 a2 pc p1 p2 _ hx17) cok160 [(0, 0), (1, 1), (2, 2)] [(0, 0), (100, 104), (101, 105)] [104, 105] (wF (CO.ret ?_)))))
    cases h11
    exact eG [(0, 0), (104, 100), (105, 101)] (.inr rfl) (RetV.none rfl)
   refine CO.skip (bB h11 fun r15 hx20 h11 => (bB h11 fun r16 hx21 h11 => (CO.sw mix (wR 1 104 (w0 (mi_sign_ok 32 hx20) cok135 (wR 1 104 (wD (AC.gs (mi_speller__put_ok [r15] pc p1 p2 hx21) (by decide)) cok180 [(0, 0), (1, 1), (2, 2)] [(0, 0), (2, 2), (100, 105)] [105] (LayOk.cons (j := 104) eTk eTk ([r15] : LT) (by kernel_rfl) (fun _ => rfl) lO) (wF ?_))))))))
   refine bB h11 fun r19 hx24 h11 => (bB h11 fun r20 hx25 h11 => (CO.sw mix (wR 2 106 (w0 (AC.gs (mi_Top_ok  hx24) (by decide)) cok61 (wC (HR.mi_speller__bare a1 r19 pc r16 p2 _ hx25) cok160 [(0, 0), (105, 1), (2, 2)] [(0, 0), (100, 106), (101, 107)] [106, 107] (wF (bB h11 fun r23 hx28 h11 => (bB h11 fun r24 hx29 h11 => ?_))))))))
   refine CO.cutE (tl 44 []) [(109, vX 105 3 eTk r24), (107, vX 174 2 encSSpan r20.2), (0, .cells 143 [.own 109, .own 107, V.b pc])] mix (by
    refine wR 1 108 (w0 (mi_sign_ok 33 hx28) cok135 (wR 1 108 (wD (AC.gs (mi_speller__put_ok [r23] pc r20.1 r20.2 hx29) (by decide)) cok180 [(0, 0), (106, 1), (107, 2)] [(0, 0), (2, 107), (100, 109)] [109] (LayOk.cons (j := 108) eTk eTk ([r23] : LT) (by kernel_rfl) (fun _ => rfl) lO) ?_)))
    exact fI
    ) ?_
   cases h11
   exact eG [(0, 0), (109, 100), (107, 101)] (.inl rfl) (RetV.none rfl)
 intro hk30
 refine cV 104 ?_
 refine cI h (fun _ h => ?_) (fun _ h => ?_)
 ·refine bB h fun y26 hv34 h => ?_
  refine CO.endR (tl 44 [(0, .loc 0 0), (4, .loc 100 0), (5, .loc 101 0), (7, V.b y26)]) [(0, .cells 143 [.own 1, .own 2, V.b pc]), (100, .cells 57 [V.i a1.kind, V.i a1.op, V.s a1.text, V.s a1.other, sL eST a1.kids]), (101, .cells 30 [V.i a2.Level, V.b a2.Dollar, V.b a2.NoIn, V.b a2.NoGt, V.b a2.NoSign]), (1, vX 105 3 eTk p1), (2, vX 174 2 encSSpan p2)] mix (by
   refine wR 1 104 (bB hv34 fun r27 hx35 hv34 => (W.lend (AC.gs (mi_LevelOf_ok r2 hx35) (by decide)) cok91 [] [] (LayOk.cons (j := 102) eNI eNI r2.Kids (by kernel_rfl) (fun _ => rfl) lO) (.c _) .nil (by kernel_rfl) (by kernel_rfl) (wR 2 104 ?_)))
   refine wJ 21 hv34 (fun hv34 => ?_) (fun hv34 => ?_)
   ·refine wR 5 104 ?_
    cases hv34
    exact fS [(0, 0), (100, 100), (101, 101), (1, 1), (2, 2)] [0, 4, 5, 7]
   refine wR 5 104 ?_
   cases hv34
   exact fS [(0, 0), (100, 100), (101, 101), (1, 1), (2, 2)] [0, 4, 5, 7]
   ) (fun st hw => ?_)
  exact hk30 (a1, a2, p1, p2, y26) h _ (hw.trans (wS [(0, 0), (100, 100), (101, 101), (1, 1), (2, 2)] [0, 4, 5, 7]))
 exact sK hk30 (a1, a2, p1, p2, (!r4)) h [(0, 0), (100, 100), (101, 101), (1, 1), (2, 2)] [0, 4, 5, 7]

theorem mi_speller__operator_F_ok (N : Nat) (R : Rec5) (HR : RecOk5 R) (a1 : STree) (a2 : SPos) (pc : Bool) (p1 : LT) (p2 : List SSpan) {r : (LT × (List SSpan))} (h : mi_speller__operator_F N R a1 a2 pc p1 p2 = some r) :
    AC Tryz.prog (GS [0, 1]) 182 [.loc 0 0, .agg [V.i a1.kind, V.i a1.op, V.s a1.text, V.s a1.other, sL eST a1.kids], .agg [V.i a2.Level, V.b a2.Dollar, V.b a2.NoIn, V.b a2.NoGt, V.b a2.NoSign]] [(0, .cells 143 [.own 1, .own 2, V.b pc]), (1, vX 105 3 eTk p1), (2, vX 174 2 encSSpan p2)] (.tup []) [(0, .cells 143 [.own 100, .own 101, V.b pc]), (100, vX 105 3 eTk r.1), (101, vX 174 2 encSSpan r.2)] := by
 rw [mi_speller__operator_F] at h
 refine AC.enter Tryz.func182 rfl (cV 100 (cV 102 (CO.block' ?_)))
 refine CO.join (fun (⟨a1, a2, p1, p2, y1⟩ : (STree × SPos × LT × (List SSpan) × Bool)) => ⟨tl 103 [(0, .loc 0 0), (4, .loc 100 0), (5, .loc 101 0), (7, V.i a1.kind), (25, V.b y1)], [(0, .cells 143 [.own 1, .own 2, V.b pc]), (100, .cells 57 [V.i a1.kind, V.i a1.op, V.s a1.text, V.s a1.other, sL eST a1.kids]), (101, .cells 30 [V.i a2.Level, V.b a2.Dollar, V.b a2.NoIn, V.b a2.NoGt, V.b a2.NoSign]), (1, vX 105 3 eTk p1), (2, vX 174 2 encSSpan p2)]⟩) (fun i => mi_speller__operator_k1 N R pc i = some r) ?_ ?_
 · rintro ⟨a1, a2, p1, p2, y1⟩ h2
   rw [mi_speller__operator_k1] at h2
   refine cI h2 (fun _ h2 => ?_) (fun _ h2 => ?_)
   ·refine bB h2 fun r4 hx6 h2 => (bB h2 fun r5 hx7 h2 => (CO.sw mix (wR 3 102 (w0 (mi_sign_ok a1.op hx6) cok135 (wR 1 102 (wD (AC.gs (mi_speller__put_ok [r4] pc p1 p2 hx7) (by decide)) cok180 [(0, 0), (1, 1), (2, 2)] [(0, 0), (2, 2), (100, 103)] [103] (LayOk.cons (j := 102) eTk eTk ([r4] : LT) (by kernel_rfl) (fun _ => rfl) lO) (wF (bB h2 fun r7 hx9 h2 => ?_))))))))
    refine CO.cutE (tl 103 []) [(104, vX 105 3 eTk r7.1), (105, vX 174 2 encSSpan r7.2), (0, .cells 143 [.own 104, .own 105, V.b pc])] mix (by
     refine wR 3 104 (wC (HR.mi_speller__kid a1 0 a2 pc r5 p2 _ hx9) cok133 [(0, 0), (103, 1), (2, 2)] [(0, 0), (100, 104), (101, 105)] [104, 105] ?_)
     exact fI
     ) ?_
    cases h2
    exact eG [(0, 0), (104, 100), (105, 101)] (.inl rfl) (RetV.none rfl)
   refine cV 102 ?_
   refine cI h2 (fun _ h2 => ?_) (fun _ h2 => ?_)
   ·refine bB h2 fun r10 hx13 h2 => (bB h2 fun r11 hx14 h2 => (CO.sw mix (wR 1 102 (w0 (mi_sign_ok 68 hx13) cok135 (wR 1 102 (wD (AC.gs (mi_speller__put_ok [r10] pc p1 p2 hx14) (by decide)) cok180 [(0, 0), (1, 1), (2, 2)] [(0, 0), (2, 2), (100, 103)] [103] (LayOk.cons (j := 102) eTk eTk ([r10] : LT) (by kernel_rfl) (fun _ => rfl) lO) (wF (bB h2 fun r13 hx16 h2 => ?_))))))))
    refine CO.cutE (tl 103 []) [(104, vX 105 3 eTk r13.1), (105, vX 174 2 encSSpan r13.2), (0, .cells 143 [.own 104, .own 105, V.b pc])] mix (by
     refine wR 3 104 (wC (HR.mi_speller__kid a1 0 a2 pc r11 p2 _ hx16) cok133 [(0, 0), (103, 1), (2, 2)] [(0, 0), (100, 104), (101, 105)] [104, 105] ?_)
     exact fI
     ) ?_
    cases h2
    exact eG [(0, 0), (104, 100), (105, 101)] (.inl rfl) (RetV.none rfl)
   refine cV 102 ?_
   refine cI h2 (fun _ h2 => ?_) (fun _ h2 => ?_)
   ·refine bB h2 fun r15 hx19 h2 => (CO.sw mix (wR 3 102 (wC (HR.mi_speller__kid a1 0 a2 pc p1 p2 _ hx19) cok133 [(0, 0), (1, 1), (2, 2)] [(0, 0), (100, 102), (101, 103)] [102, 103] (wF (bB h2 fun r18 hx22 h2 => (bB h2 fun r19 hx23 h2 => ?_))))))
    refine CO.cutE (tl 103 []) [(105, vX 105 3 eTk r19), (103, vX 174 2 encSSpan r15.2), (0, .cells 143 [.own 105, .own 103, V.b pc])] mix (by
     refine wR 3 104 (w0 (mi_sign_ok a1.op hx22) cok135 (wR 1 104 (wD (AC.gs (mi_speller__put_ok [r18] pc r15.1 r15.2 hx23) (by decide)) cok180 [(0, 0), (102, 1), (103, 2)] [(0, 0), (2, 103), (100, 105)] [105] (LayOk.cons (j := 104) eTk eTk ([r18] : LT) (by kernel_rfl) (fun _ => rfl) lO) ?_)))
     exact fI
     ) ?_
    cases h2
    exact eG [(0, 0), (105, 100), (103, 101)] (.inl rfl) (RetV.none rfl)
   refine cV 102 ?_
   refine cI h2 (fun _ h2 => ?_) (fun _ h2 => ?_)
   ·refine CO.join (fun (⟨a1, y24, y25⟩ : (STree × LT × (List SSpan))) => ⟨tl 103 [(0, .loc 0 0), (4, .loc 100 0)], [(0, .cells 143 [.own 101, .own 102, V.b pc]), (100, .cells 57 [V.i a1.kind, V.i a1.op, V.s a1.text, V.s a1.other, sL eST a1.kids]), (101, vX 105 3 eTk y24), (102, vX 174 2 encSSpan y25)]⟩) (fun i => mi_speller__operator_k2 N R pc i = some r) ?_ ?_
    · rintro ⟨a1, y24, y25⟩ h30
      rw [mi_speller__operator_k2] at h30
      refine bB h30 fun r28 hx33 h30 => (bB h30 fun r29 hx34 h30 => ?_)
      refine CO.cutE (tl 103 []) [(105, vX 105 3 eTk r29), (0, .cells 143 [.own 105, .own 102, V.b pc]), (102, vX 174 2 encSSpan y25)] mix (by
       refine wR 1 104 (w0 (mi_sign_ok 24 hx33) cok135 (wR 4 104 (wD (AC.gs (mi_speller__put_ok [r28, (⟨6, a1.text, 0⟩ : SToken)] pc y24 y25 hx34) (by decide)) cok180 [(0, 0), (101, 1), (102, 2)] [(0, 0), (2, 102), (100, 105)] [105] (LayOk.cons (j := 104) eTk eTk ([r28, (⟨6, a1.text, 0⟩ : SToken)] : LT) (by kernel_rfl) (fun _ => rfl) lO) ?_)))
       exact fI
       ) ?_
      cases h30
      exact eG [(0, 0), (105, 100), (102, 101)] (.inl rfl) (RetV.none rfl)
    intro hk35
    refine CO.sw mix (wR 2 102 (wN eST a1.kids [] (wR 1 102 (wF ?_))))
    refine cI h2 (fun _ h2 => ?_) (fun _ h2 => ?_)
    ·refine bB h2 fun r31 hx38 h2 => (CO.w mix (wR 3 102 (wC (HR.mi_speller__list a1 32 33 a2 pc p1 p2 _ hx38) cok181 [(0, 0), (1, 1), (2, 2)] [(0, 0), (100, 102), (101, 103)] [102, 103] ?_)))
     exact wK hk35 (a1, r31.1, r31.2) h2 [(0, 0), (100, 100), (102, 101), (103, 102)] [0, 4]
    refine bB h2 fun r33 hx40 h2 => (CO.w mix (wR 3 102 (wC (HR.mi_speller__kid a1 0 a2 pc p1 p2 _ hx40) cok133 [(0, 0), (1, 1), (2, 2)] [(0, 0), (100, 102), (101, 103)] [102, 103] ?_)))
    exact wK hk35 (a1, r33.1, r33.2) h2 [(0, 0), (100, 100), (102, 101), (103, 102)] [0, 4]
   refine cV 102 ?_
   refine cI h2 (fun _ h2 => ?_) (fun _ h2 => ?_)
   ·refine bB h2 fun r35 hx43 h2 => (CO.sw mix (wR 3 102 (wC (HR.mi_speller__kid a1 0 a2 pc p1 p2 _ hx43) cok133 [(0, 0), (1, 1), (2, 2)] [(0, 0), (100, 102), (101, 103)] [102, 103] (wF (bB h2 fun r38 hx46 h2 => (bB h2 fun r39 hx47 h2 => (CO.sw mix (wR 1 104 ?_))))))))
    refine w0 (mi_sign_ok 65 hx46) cok135 (wR 1 104 (wD (AC.gs (mi_speller__put_ok [r38] pc r35.1 r35.2 hx47) (by decide)) cok180 [(0, 0), (102, 1), (103, 2)] [(0, 0), (2, 103), (100, 105)] [105] (LayOk.cons (j := 104) eTk eTk ([r38] : LT) (by kernel_rfl) (fun _ => rfl) lO) (wF (bB h2 fun r41 hx49 h2 => (CO.sw mix (wR 3 106 (wC (HR.mi_speller__kid a1 1 a2 pc r39 r35.2 _ hx49) cok133 [(0, 0), (105, 1), (103, 2)] [(0, 0), (100, 106), (101, 107)] [106, 107] (wF ?_))))))))
    refine bB h2 fun r44 hx52 h2 => (bB h2 fun r45 hx53 h2 => (CO.sw mix (wR 1 108 (w0 (mi_sign_ok 66 hx52) cok135 (wR 1 108 (wD (AC.gs (mi_speller__put_ok [r44] pc r41.1 r41.2 hx53) (by decide)) cok180 [(0, 0), (106, 1), (107, 2)] [(0, 0), (2, 107), (100, 109)] [109] (LayOk.cons (j := 108) eTk eTk ([r44] : LT) (by kernel_rfl) (fun _ => rfl) lO) (wF (bB h2 fun r47 hx55 h2 => ?_))))))))
    refine CO.cutE (tl 103 []) [(110, vX 105 3 eTk r47.1), (111, vX 174 2 encSSpan r47.2), (0, .cells 143 [.own 110, .own 111, V.b pc])] mix (by
     refine wR 3 110 (wC (HR.mi_speller__kid a1 2 a2 pc r45 r41.2 _ hx55) cok133 [(0, 0), (109, 1), (107, 2)] [(0, 0), (100, 110), (101, 111)] [110, 111] ?_)
     exact fI
     ) ?_
    cases h2
    exact eG [(0, 0), (110, 100), (111, 101)] (.inl rfl) (RetV.none rfl)
   refine bB h2 fun r49 hx57 h2 => (CO.sw mix (wR 3 102 (wC (HR.mi_speller__kid a1 0 a2 pc p1 p2 _ hx57) cok133 [(0, 0), (1, 1), (2, 2)] [(0, 0), (100, 102), (101, 103)] [102, 103] (wF ?_))))
   refine CO.join (fun (⟨a1, a2, r49, y54⟩ : (STree × SPos × (LT × (List SSpan)) × LT)) => ⟨tl 103 [(0, .loc 0 0), (4, .loc 100 0), (5, .loc 101 0)], [(0, .cells 143 [.own 102, .own 103, V.b pc]), (100, .cells 57 [V.i a1.kind, V.i a1.op, V.s a1.text, V.s a1.other, sL eST a1.kids]), (101, .cells 30 [V.i a2.Level, V.b a2.Dollar, V.b a2.NoIn, V.b a2.NoGt, V.b a2.NoSign]), (102, vX 105 3 eTk y54), (103, vX 174 2 encSSpan r49.2)]⟩) (fun i => mi_speller__operator_k3 N R pc i = some r) ?_ ?_
   · rintro ⟨a1, a2, r49, y54⟩ h63
     rw [mi_speller__operator_k3] at h63
     refine bB h63 fun r56 hx65 h63 => ?_
     refine CO.cutE (tl 103 []) [(106, vX 105 3 eTk r56.1), (107, vX 174 2 encSSpan r56.2), (0, .cells 143 [.own 106, .own 107, V.b pc])] mix (by
      refine wR 3 106 (wC (HR.mi_speller__kid a1 1 a2 pc y54 r49.2 _ hx65) cok133 [(0, 0), (102, 1), (103, 2)] [(0, 0), (100, 106), (101, 107)] [106, 107] ?_)
      exact fI
      ) ?_
     cases h63
     exact eG [(0, 0), (106, 100), (107, 101)] (.inl rfl) (RetV.none rfl)
   intro hk66
   refine cV 104 ?_
   refine cI h2 (fun _ h2 => ?_) (fun _ h2 => ?_)
   ·refine bB h2 fun r59 hx70 h2 => (bB h2 fun r60 hx71 h2 => (CO.w mix (wR 3 104 (w0 (mi_sign_ok a1.op hx70) cok135 (wR 1 104 (wD (AC.gs (mi_speller__put_ok [r59] pc r49.1 r49.2 hx71) (by decide)) cok180 [(0, 0), (102, 1), (103, 2)] [(0, 0), (2, 103), (100, 105)] [105] (LayOk.cons (j := 104) eTk eTk ([r59] : LT) (by kernel_rfl) (fun _ => rfl) lO) ?_))))))
    exact wK hk66 (a1, a2, r49, r60) h2 [(0, 0), (100, 100), (101, 101), (105, 102), (103, 103)] [0, 4, 5]
   exact sK hk66 (a1, a2, r49, r49.1) h2 [(0, 0), (100, 100), (101, 101), (102, 102), (103, 103)] [0, 4, 5]
 intro hk72
 refine cV 102 ?_
 refine cI h (fun _ h => ?_) (fun _ h => ?_)
 ·exact sK hk72 (a1, a2, p1, p2, (a1.kind == 9)) h [(0, 0), (100, 100), (101, 101), (1, 1), (2, 2)] [0, 4, 5, 7, 25]
 exact cK 102 hk72 (a1, a2, p1, p2, (a1.kind == 11)) h [(0, 0), (100, 100), (101, 101), (1, 1), (2, 2)] [0, 4, 5, 7, 25]

theorem mi_speller__list_F_ok (N : Nat) (R : Rec5) (HR : RecOk5 R) (a1 : STree) (a2 : Int) (a3 : Int) (a4 : SPos) (pc : Bool) (p1 : LT) (p2 : List SSpan) {r : (LT × (List SSpan))} (h : mi_speller__list_F N R a1 a2 a3 a4 pc p1 p2 = some r) :
    AC Tryz.prog (GS [0, 1]) 181 [.loc 0 0, .agg [V.i a1.kind, V.i a1.op, V.s a1.text, V.s a1.other, sL eST a1.kids], V.i a2, V.i a3, .agg [V.i a4.Level, V.b a4.Dollar, V.b a4.NoIn, V.b a4.NoGt, V.b a4.NoSign]] [(0, .cells 143 [.own 1, .own 2, V.b pc]), (1, vX 105 3 eTk p1), (2, vX 174 2 encSSpan p2)] (.tup []) [(0, .cells 143 [.own 100, .own 101, V.b pc]), (100, vX 105 3 eTk r.1), (101, vX 174 2 encSSpan r.2)] := by
 rw [mi_speller__list_F] at h
 refine AC.enter Tryz.func181 rfl (cV 100 (bB h fun r3 hx3 h => (bB h fun r4 hx4 h => (CO.sw mix (wR 2 102 (w0 (mi_sign_ok a2 hx3) cok135 (wR 1 102 (wD (AC.gs (mi_speller__put_ok [r3] pc p1 p2 hx4) (by decide)) cok180 [(0, 0), (1, 1), (2, 2)] [(0, 0), (2, 2), (100, 103)] [103] (LayOk.cons (j := 102) eTk eTk ([r3] : LT) (by kernel_rfl) (fun _ => rfl) lO) ?_))))))))
 refine wF (CO.seq' (CO.sw mix (wR 2 104 (wN eST a1.kids [] (wR 1 104 (wF (CO.block' (CO.loopJ (fun (⟨a3, a1, a4, y63, y64, y65⟩ : (Int × STree × SPos × Int × LT × (List SSpan))) => ⟨tl 39 [(0, .loc 0 0), (3, V.i a3), (6, .loc 100 0), (9, .loc 101 0), (18, V.i (a1.kids.length : Int)), (19, V.i y63)], [(0, .cells 143 [.own 102, .own 103, V.b pc]), (100, .cells 57 [V.i a1.kind, V.i a1.op, V.s a1.text, V.s a1.other, sL eST a1.kids]), (101, .cells 30 [V.i a4.Level, V.b a4.Dollar, V.b a4.NoIn, V.b a4.NoGt, V.b a4.NoSign]), (102, vX 105 3 eTk y64), (103, vX 174 2 encSSpan y65)]⟩) (fun n i => mi_speller__list_l1 N R pc n i = some r) (n0 := N) (i0 := (a3, a1, a4, 0, r4, p2)) (wS [(0, 0), (100, 100), (101, 101), (103, 102), (2, 103)] [0, 3, 6, 9, 18, 19]) h (fun i h => by simp [mi_speller__list_l1] at h) ?_))))))))
 rintro n1 ⟨a3, a1, a4, y63, y64, y65⟩ h109 ih110
 rw [mi_speller__list_l1] at h109
 refine cV 170 (CO.seq' ?_)
 refine cI h109 (fun _ h109 => ?_) (fun _ h109 => ?_)
 ·refine CO.skip (CO.seq' (CO.block' (cV 170 ?_)))
  refine CO.join (fun (⟨a3, y63, a1, a4, y65, y106⟩ : (Int × Int × STree × SPos × (List SSpan) × LT)) => ⟨tl 39 [(0, .loc 0 0), (3, V.i a3), (6, .loc 100 0), (9, .loc 101 0), (10, V.i y63), (18, V.i (a1.kids.length : Int)), (19, V.i y63)], [(0, .cells 143 [.own 102, .own 103, V.b pc]), (100, .cells 57 [V.i a1.kind, V.i a1.op, V.s a1.text, V.s a1.other, sL eST a1.kids]), (101, .cells 30 [V.i a4.Level, V.b a4.Dollar, V.b a4.NoIn, V.b a4.NoGt, V.b a4.NoSign]), (102, vX 105 3 eTk y106), (103, vX 174 2 encSSpan y65)]⟩) (fun i => mi_speller__list_k2 N R pc (mi_speller__list_l1 N R pc n1) i = some r) ?_ ?_
  · rintro ⟨a3, y63, a1, a4, y65, y106⟩ h132
    rw [mi_speller__list_k2] at h132
    refine bB h132 fun r108 hx134 h132 => ?_
    refine CO.endR (tl 39 [(0, .loc 0 0), (3, V.i a3), (6, .loc 100 0), (9, .loc 101 0), (18, V.i (a1.kids.length : Int)), (19, V.i y63)]) [(172, vX 105 3 eTk r108.1), (173, vX 174 2 encSSpan r108.2), (0, .cells 143 [.own 172, .own 173, V.b pc]), (100, .cells 57 [V.i a1.kind, V.i a1.op, V.s a1.text, V.s a1.other, sL eST a1.kids]), (101, .cells 30 [V.i a4.Level, V.b a4.Dollar, V.b a4.NoIn, V.b a4.NoGt, V.b a4.NoSign])] mix (by
     refine wR 4 172 (wC (HR.mi_speller__kid a1 y63 a4 pc y106 y65 _ hx134) cok133 [(0, 0), (102, 1), (103, 2)] [(0, 0), (100, 172), (101, 173)] [172, 173] ?_)
     exact fI
     ) (fun st hw => ?_)
    refine CO.weak hw ?_
    exact cK 174 ih110 (a3, a1, a4, (wr (y63 + 1)), r108.1, r108.2) h132 [(0, 0), (100, 100), (101, 101), (172, 102), (173, 103)] [0, 3, 6, 9, 18, 19]
  intro hk135
  refine cV 170 ?_
  refine cI h109 (fun _ h109 => ?_) (fun _ h109 => ?_)
  ·refine bB h109 fun r111 hx139 h109 => (bB h109 fun r112 hx140 h109 => (CO.w mix (wR 1 170 (w0 (mi_sign_ok 36 hx139) cok135 (wR 1 170 (wD (AC.gs (mi_speller__put_ok [r111] pc y64 y65 hx140) (by decide)) cok180 [(0, 0), (102, 1), (103, 2)] [(0, 0), (2, 103), (100, 171)] [171] (LayOk.cons (j := 170) eTk eTk ([r111] : LT) (by kernel_rfl) (fun _ => rfl) lO) ?_))))))
   exact wK hk135 (a3, y63, a1, a4, y65, r112) h109 [(0, 0), (100, 100), (101, 101), (171, 102), (103, 103)] [0, 3, 6, 9, 10, 18, 19]
  exact sK hk135 (a3, y63, a1, a4, y65, y64) h109 [(0, 0), (100, 100), (101, 101), (102, 102), (103, 103)] [0, 3, 6, 9, 10, 18, 19]
 refine CO.exit (bB h109 fun r115 hx143 h109 => (bB h109 fun r116 hx144 h109 => ?_))
 refine CO.cutE (tl 39 []) [(171, vX 105 3 eTk r116), (0, .cells 143 [.own 171, .own 103, V.b pc]), (103, vX 174 2 encSSpan y65)] mix (by
  refine wR 2 170 (w0 (mi_sign_ok a3 hx143) cok135 (wR 1 170 (wD (AC.gs (mi_speller__put_ok [r115] pc y64 y65 hx144) (by decide)) cok180 [(0, 0), (102, 1), (103, 2)] [(0, 0), (2, 103), (100, 171)] [171] (LayOk.cons (j := 170) eTk eTk ([r115] : LT) (by kernel_rfl) (fun _ => rfl) lO) ?_)))
  exact fI
  ) ?_
 cases h109
 exact eG [(0, 0), (171, 100), (103, 101)] (.inl rfl) (RetV.none rfl)

theorem mi_speller__bare_F_ok (N : Nat) (R : Rec5) (HR : RecOk5 R) (a1 : STree) (a2 : SPos) (pc : Bool) (p1 : LT) (p2 : List SSpan) {r : (LT × (List SSpan))} (h : mi_speller__bare_F N R a1 a2 pc p1 p2 = some r) :
    AC Tryz.prog (GS [0, 1]) 160 [.loc 0 0, .agg [V.i a1.kind, V.i a1.op, V.s a1.text, V.s a1.other, sL eST a1.kids], .agg [V.i a2.Level, V.b a2.Dollar, V.b a2.NoIn, V.b a2.NoGt, V.b a2.NoSign]] [(0, .cells 143 [.own 1, .own 2, V.b pc]), (1, vX 105 3 eTk p1), (2, vX 174 2 encSSpan p2)] (.tup []) [(0, .cells 143 [.own 100, .own 101, V.b pc]), (100, vX 105 3 eTk r.1), (101, vX 174 2 encSSpan r.2)] := by
 rw [mi_speller__bare_F] at h
 refine AC.enter Tryz.func160 rfl (cV 100 (CO.sw mix (wR 4 102 (wN eTk p1 [1] (wR 1 102 (wF ?_))))))
 refine CO.join (fun (⟨p1, y23, y24⟩ : (LT × LT × (List SSpan))) => ⟨tl 102 [(0, .loc 0 0), (6, V.i (p1.length : Int))], [(0, .cells 143 [.own 100, .own 101, V.b pc]), (100, vX 105 3 eTk y23), (101, vX 174 2 encSSpan y24)]⟩) (fun i => mi_speller__bare_k1 N R pc i = some r) ?_ ?_
 · rintro ⟨p1, y23, y24⟩ h30
   rw [mi_speller__bare_k1] at h30
   refine bB h30 fun x26 hx32 h30 => ?_
   refine CO.cutE (tl 102 []) [(0, .cells 143 [.own 100, .own 107, V.b pc]), (107, vX 174 2 encSSpan x26), (100, vX 105 3 eTk y23)] mix (by
    refine wR 10 106 (wN eTk y23 [100] (wR 2 106 (W.appO Dk encSSpan (a := 101) (c := 106) (el := 174) (sz := 2) 16 hx32 rfl 107 (by kernel_rfl) (wR 3 108 ?_))))
    exact fI
    ) ?_
   cases h30
   exact eG [(0, 0), (100, 100), (107, 101)] (.inl rfl) (RetV.none rfl)
 intro hk33
 refine cV 102 (CO.block' (cV 102 ?_))
 refine cI h (fun _ h => ?_) (fun _ h => ?_)
 ·refine bB h fun r28 hx36 h => (CO.w mix (wR 5 102 (wD (AC.gs (mi_speller__put_ok [(⟨6, a1.text, 0⟩ : SToken)] pc p1 p2 hx36) (by decide)) cok180 [(0, 0), (1, 1), (2, 2)] [(0, 0), (2, 2), (100, 103)] [103] (LayOk.cons (j := 102) eTk eTk ([(⟨6, a1.text, 0⟩ : SToken)] : LT) (by kernel_rfl) (fun _ => rfl) lO) ?_)))
  exact wK hk33 (p1, r28, p2) h [(0, 0), (103, 100), (2, 101)] [0, 6]
 refine cV 102 ?_
 refine cI h (fun _ h => ?_) (fun _ h => ?_)
 ·refine bB h fun r30 hx39 h => (CO.w mix (wR 5 102 (wD (AC.gs (mi_speller__put_ok [(⟨3, a1.text, 0⟩ : SToken)] pc p1 p2 hx39) (by decide)) cok180 [(0, 0), (1, 1), (2, 2)] [(0, 0), (2, 2), (100, 103)] [103] (LayOk.cons (j := 102) eTk eTk ([(⟨3, a1.text, 0⟩ : SToken)] : LT) (by kernel_rfl) (fun _ => rfl) lO) ?_)))
  exact wK hk33 (p1, r30, p2) h [(0, 0), (103, 100), (2, 101)] [0, 6]
 refine cV 102 ?_
 refine cI h (fun _ h => ?_) (fun _ h => ?_)
 ·refine bB h fun r32 hx42 h => (CO.w mix (wR 5 102 (wD (AC.gs (mi_speller__put_ok [(⟨4, a1.text, 0⟩ : SToken)] pc p1 p2 hx42) (by decide)) cok180 [(0, 0), (1, 1), (2, 2)] [(0, 0), (2, 2), (100, 103)] [103] (LayOk.cons (j := 102) eTk eTk ([(⟨4, a1.text, 0⟩ : SToken)] : LT) (by kernel_rfl) (fun _ => rfl) lO) ?_)))
  exact wK hk33 (p1, r32, p2) h [(0, 0), (103, 100), (2, 101)] [0, 6]
 refine cV 102 ?_
 refine cI h (fun _ h => ?_) (fun _ h => ?_)
 ·refine bB h fun r34 hx45 h => (CO.w mix (wR 5 102 (wD (AC.gs (mi_speller__put_ok [(⟨5, a1.text, 0⟩ : SToken)] pc p1 p2 hx45) (by decide)) cok180 [(0, 0), (1, 1), (2, 2)] [(0, 0), (2, 2), (100, 103)] [103] (LayOk.cons (j := 102) eTk eTk ([(⟨5, a1.text, 0⟩ : SToken)] : LT) (by kernel_rfl) (fun _ => rfl) lO) ?_)))
  exact wK hk33 (p1, r34, p2) h [(0, 0), (103, 100), (2, 101)] [0, 6]
 refine cV 102 ?_
 refine cI h (fun _ h => ?_) (fun _ h => ?_)
 ·refine bB h fun r36 hx48 h => (CO.sw mix (wR 5 102 (wD (AC.gs (mi_speller__put_ok [(⟨6, a1.text, 0⟩ : SToken)] pc p1 p2 hx48) (by decide)) cok180 [(0, 0), (1, 1), (2, 2)] [(0, 0), (2, 2), (100, 103)] [103] (LayOk.cons (j := 102) eTk eTk ([(⟨6, a1.text, 0⟩ : SToken)] : LT) (by kernel_rfl) (fun _ => rfl) lO) (wF (bB h fun r38 hx50 h => (CO.w mix (wR 3 104 (wC (HR.mi_speller__list a1 34 35 a2 pc r36 p2 _ hx50) cok181 [(0, 0), (103, 1), (2, 2)] [(0, 0), (100, 104), (101, 105)] [104, 105] ?_))))))))
  exact wK hk33 (p1, r38.1, r38.2) h [(0, 0), (104, 100), (105, 101)] [0, 6]
 refine cV 102 ?_
 refine cI h (fun _ h => ?_) (fun _ h => ?_)
 ·refine bB h fun r40 hx53 h => (CO.sw mix (wR 5 102 (wD (AC.gs (mi_speller__put_ok [(⟨7, a1.text, 0⟩ : SToken)] pc p1 p2 hx53) (by decide)) cok180 [(0, 0), (1, 1), (2, 2)] [(0, 0), (2, 2), (100, 103)] [103] (LayOk.cons (j := 102) eTk eTk ([(⟨7, a1.text, 0⟩ : SToken)] : LT) (by kernel_rfl) (fun _ => rfl) lO) (wF (bB h fun r42 hx55 h => (CO.w mix (wR 3 104 (wC (HR.mi_speller__list a1 32 33 a2 pc r40 p2 _ hx55) cok181 [(0, 0), (103, 1), (2, 2)] [(0, 0), (100, 104), (101, 105)] [104, 105] ?_))))))))
  exact wK hk33 (p1, r42.1, r42.2) h [(0, 0), (104, 100), (105, 101)] [0, 6]
 refine cV 102 ?_
 refine cI h (fun _ h => ?_) (fun _ h => ?_)
 ·refine bB h fun r44 hx58 h => (CO.sw mix (wR 5 102 (wD (AC.gs (mi_speller__put_ok [(⟨8, a1.text, 0⟩ : SToken)] pc p1 p2 hx58) (by decide)) cok180 [(0, 0), (1, 1), (2, 2)] [(0, 0), (2, 2), (100, 103)] [103] (LayOk.cons (j := 102) eTk eTk ([(⟨8, a1.text, 0⟩ : SToken)] : LT) (by kernel_rfl) (fun _ => rfl) lO) (wF (bB h fun r46 hx60 h => (CO.w mix (wR 3 104 (wC (HR.mi_speller__list a1 32 33 a2 pc r44 p2 _ hx60) cok181 [(0, 0), (103, 1), (2, 2)] [(0, 0), (100, 104), (101, 105)] [104, 105] ?_))))))))
  exact wK hk33 (p1, r46.1, r46.2) h [(0, 0), (104, 100), (105, 101)] [0, 6]
 refine bB h fun r48 hx62 h => (CO.w mix (wR 3 102 (wC (HR.mi_speller__operator a1 a2 pc p1 p2 _ hx62) cok182 [(0, 0), (1, 1), (2, 2)] [(0, 0), (100, 102), (101, 103)] [102, 103] ?_)))
 exact wK hk33 (p1, r48.1, r48.2) h [(0, 0), (102, 100), (103, 101)] [0, 6]

theorem mi_speller__kid_F_ok (N : Nat) (R : Rec5) (HR : RecOk5 R) (a1 : STree) (a2 : Int) (a3 : SPos) (pc : Bool) (p1 : LT) (p2 : List SSpan) {r : (LT × (List SSpan))} (h : mi_speller__kid_F N R a1 a2 a3 pc p1 p2 = some r) :
    AC Tryz.prog (GS [0, 1]) 133 [.loc 0 0, .agg [V.i a1.kind, V.i a1.op, V.s a1.text, V.s a1.other, sL eST a1.kids], V.i a2, .agg [V.i a3.Level, V.b a3.Dollar, V.b a3.NoIn, V.b a3.NoGt, V.b a3.NoSign]] [(0, .cells 143 [.own 1, .own 2, V.b pc]), (1, vX 105 3 eTk p1), (2, vX 174 2 encSSpan p2)] (.tup []) [(0, .cells 143 [.own 100, .own 101, V.b pc]), (100, vX 105 3 eTk r.1), (101, vX 174 2 encSSpan r.2)] := by
 rw [mi_speller__kid_F] at h
 refine AC.enter Tryz.func133 rfl (cV 100 (bB h fun r3 hx3 h => (bB h fun e4 hx4 h => (CO.sw mix (wR 1 102 (wC (AC.gs (mi_tree__node_ok N a1 hx3) (by decide)) cok57 [] [(100, 102)] [102] (wR 3 103 (W.ixDr Dk eST hx4 5 (by kernel_rfl) (encSTree_eq e4) (by kernel_rfl) ?_))))))))
 refine wR 5 103 (wF (bB h fun r6 hx6 h => (CO.sw mix (wR 3 105 (W.lend (AC.gs (mi_KidPos_ok r3 a2 a3 hx6) (by decide)) cok131 [] [] (LayOk.cons (j := 102) eNI eNI r3.Kids (by kernel_rfl) (fun _ => rfl) lO) (.agg _ (.cons (.c _) (.cons (.c _) (.cons (.c _) (.cons (.c _) (.cons (.c _) .nil)))))) .nil (by kernel_rfl) (by kernel_rfl) (wR 2 105 (wF (CO.seq' ?_))))))))
 refine bB h fun r12 hx13 h => (CO.sw mix (wR 2 106 (W.lend (AC.gs (mi_isTarget_ok r3 a2 hx13) (by decide)) cok132 [] [] (LayOk.cons (j := 102) eNI eNI r3.Kids (by kernel_rfl) (fun _ => rfl) lO) (.c _) .nil (by kernel_rfl) (by kernel_rfl) (wF ?_))))
 refine cI h (fun _ h => ?_) (fun _ h => ?_)
 ·refine bB h fun r14 hx16 h => (CO.sw mix (wR 3 106 (wC (HR.mi_speller__bare e4 r6 pc p1 p2 _ hx16) cok160 [(0, 0), (1, 1), (2, 2)] [(0, 0), (100, 106), (101, 107)] [106, 107] (wF (CO.ret ?_)))))
  cases h
  exact eG [(0, 0), (106, 100), (107, 101)] (.inr rfl) (RetV.none rfl)
 refine CO.skip (bB h fun r16 hx18 h => ?_)
 refine CO.cutE (tl 33 []) [(106, vX 105 3 eTk r16.1), (107, vX 174 2 encSSpan r16.2), (0, .cells 143 [.own 106, .own 107, V.b pc])] mix (by
  refine wR 3 106 (wC (HR.mi_speller__expr e4 r6 pc p1 p2 _ hx18) cok161 [(0, 0), (1, 1), (2, 2)] [(0, 0), (100, 106), (101, 107)] [106, 107] ?_)
  exact fI
  ) ?_
 cases h
 exact eG [(0, 0), (106, 100), (107, 101)] (.inl rfl) (RetV.none rfl)

theorem scc5_ok : ∀ N, RecOk5 (scc5 N)
 | 0 => ⟨fun _ _ _ _ _ _ h => (by cases h), fun _ _ _ _ _ _ h => (by cases h), fun _ _ _ _ _ _ _ _ h => (by cases h), fun _ _ _ _ _ _ h => (by cases h), fun _ _ _ _ _ _ _ h => (by cases h)⟩
 | N + 1 => ⟨fun a1 a2 pc p1 p2 _ h => mi_speller__expr_F_ok N (scc5 N) (scc5_ok N) a1 a2 pc p1 p2 h, fun a1 a2 pc p1 p2 _ h => mi_speller__operator_F_ok N (scc5 N) (scc5_ok N) a1 a2 pc p1 p2 h, fun a1 a2 a3 a4 pc p1 p2 _ h => mi_speller__list_F_ok N (scc5 N) (scc5_ok N) a1 a2 a3 a4 pc p1 p2 h, fun a1 a2 pc p1 p2 _ h => mi_speller__bare_F_ok N (scc5 N) (scc5_ok N) a1 a2 pc p1 p2 h, fun a1 a2 a3 pc p1 p2 _ h => mi_speller__kid_F_ok N (scc5 N) (scc5_ok N) a1 a2 a3 pc p1 p2 h⟩

theorem mi_speller__kid_ok (N : Nat) (a1 : STree) (a2 : Int) (a3 : SPos) (pc : Bool) (p1 : LT) (p2 : List SSpan) {r : (LT × (List SSpan))} (h : mi_speller__kid N a1 a2 a3 pc p1 p2 = some r) :
  AC Tryz.prog (GS [0, 1]) 133 [.loc 0 0, .agg [V.i a1.kind, V.i a1.op, V.s a1.text, V.s a1.other, sL eST a1.kids], V.i a2, .agg [V.i a3.Level, V.b a3.Dollar, V.b a3.NoIn, V.b a3.NoGt, V.b a3.NoSign]] [(0, .cells 143 [.own 1, .own 2, V.b pc]), (1, vX 105 3 eTk p1), (2, vX 174 2 encSSpan p2)] (.tup []) [(0, .cells 143 [.own 100, .own 101, V.b pc]), (100, vX 105 3 eTk r.1), (101, vX 174 2 encSSpan r.2)] :=
 (scc5_ok N).mi_speller__kid a1 a2 a3 pc p1 p2 r h

theorem m_stringslite_HasPrefix_ok (a0 : LU) (a1 : LU) {r : Bool} (h : m_stringslite_HasPrefix a0 a1 = some r) :
    AC Tryz.prog (GS []) 193 [V.s a0, V.s a1] [] (V.b r) [] := by
 rw [m_stringslite_HasPrefix] at h
 refine AC.enter Tryz.func193 rfl (cV 100 (bB h fun y2 hv3 h => ?_))
 refine CO.cutR (tl 18 [(4, V.b y2)]) [] mix (by
  refine wR 6 100 ?_
  refine wJ 10 hv3 (fun hv3 => ?_) (fun hv3 => ?_)
  ·refine wR 3 100 (bB hv3 fun s3 hx5 hv3 => (W.cutS Dk hx5 (by kernel_rfl) (wR 4 100 ?_)))
   cases hv3
   exact fS [] [4]
  refine wR 8 100 ?_
  cases hv3
  exact fS [] [4]
  ) ?_
 cases h
 exact e1 4 id

theorem m_strings_HasPrefix_ok (a0 : LU) (a1 : LU) {r : Bool} (h : m_strings_HasPrefix a0 a1 = some r) :
    AC Tryz.prog (GS []) 185 [V.s a0, V.s a1] [] (V.b r) [] := by
 rw [m_strings_HasPrefix] at h
 refine AC.enter Tryz.func185 rfl (cV 100 (bB h fun r2 hx2 h => (cC 2 100 (m_stringslite_HasPrefix_ok a0 a1 hx2) cok193 ?_)))
 cases h
 exact e1 4 id

theorem mi_OpAt_ok (N : Nat) (a0 : LU) (a1 : Int) {r : (Int × Int)} (h : mi_OpAt N a0 a1 = some r) :
    AC Tryz.prog (GS [1]) 163 [V.s a0, V.i a1] [] (.tup [V.i r.1, V.i r.2]) [] := by
 rw [mi_OpAt] at h
 refine AC.enter Tryz.func163 rfl (cV 100 (CO.seq' (bB h fun r4 hx5 h => (cC 4 100 (AC.gs (mi_within_ok a1 0 (wr ((a0.length : Int) - 1)) hx5) (by decide)) cok41 ?_))))
 refine cI h (fun _ h => ?_) (fun _ h => ?_)
 ·refine cV 100 (CO.ret ?_)
  cases h
  exact eG [] (.inr rfl) (RetV.two rfl (oT (t := 4) (r := V.i 0)) (oT (t := 5) (r := V.i 0)))
 refine CO.skip (cV 100 (CO.seq' (cV 100 (CO.block' (CO.loopJ (fun (⟨a0, a1, y75, y76, y77⟩ : (LU × Int × Int × Int × Int)) => ⟨tl 39 [(0, V.s a0), (1, V.i a1), (6, V.i y75), (7, V.i y76), (16, .agg (tab_signs.map V.s)), (17, V.i y77)], []⟩) (fun n i => mi_OpAt_l1 N n i = some r) (n0 := N) (i0 := (a0, a1, 0, 0, 0)) (wS [] [0, 1, 6, 7, 16, 17]) h (fun i h => by simp [mi_OpAt_l1] at h) ?_)))))
 rintro n1 ⟨a0, a1, y75, y76, y77⟩ h125 ih126
 rw [mi_OpAt_l1] at h125
 refine cV 160 (CO.seq' ?_)
 refine cI h125 (fun _ h125 => ?_) (fun _ h125 => ?_)
 ·refine CO.skip ?_
  refine CO.join (fun (⟨a0, a1, y77, y104, y105⟩ : (LU × Int × Int × Int × Int)) => ⟨tl 39 [(0, V.s a0), (1, V.i a1), (6, V.i y104), (7, V.i y105), (16, .agg (tab_signs.map V.s)), (17, V.i y77)], []⟩) (fun i => mi_OpAt_k2 N (mi_OpAt_l1 N n1) i = some r) ?_ ?_
  · rintro ⟨a0, a1, y77, y104, y105⟩ h139
    rw [mi_OpAt_k2] at h139
    exact cK 160 ih126 (a0, a1, y104, y105, (wr (y77 + 1))) h139 [] [0, 1, 6, 7, 16, 17]
  intro hk140
  refine CO.block' (bB h125 fun e107 hx142 h125 => (CO.sw mix (wR 1 160 (W.ixA Dk V.s (l := tab_signs) hx142 (by kernel_rfl) (wR 2 160 (wF (bB h125 fun y110 hv146 h125 => ?_)))))))
  refine CO.cutR (tl 39 [(0, V.s a0), (1, V.i a1), (6, V.i y75), (7, V.i y76), (8, V.i y77), (9, V.s e107), (16, .agg (tab_signs.map V.s)), (17, V.i y77), (31, V.b y110)]) [] mix (by
   refine wR 5 160 ?_
   refine wJ 25 hv146 (fun hv146 => ?_) (fun hv146 => ?_)
   ·refine wR 2 160 (bB hv146 fun s111 hx148 hv146 => (W.cutS Dk hx148 (by kernel_rfl) (wR 1 160 (bB hv146 fun r112 hx149 hv146 => (w0 (AC.gs (m_strings_HasPrefix_ok s111 e107 hx149) (by decide)) cok185 (wR 1 160 ?_))))))
    cases hv146
    exact fS [] [0, 1, 6, 7, 8, 9, 16, 17, 31]
   refine wR 6 160 ?_
   cases hv146
   exact fS [] [0, 1, 6, 7, 8, 9, 16, 17, 31]
   ) ?_
  refine cI h125 (fun _ h125 => ?_) (fun _ h125 => ?_)
  ·exact cK 160 hk140 (a0, a1, y77, (wr (30 + y77)), (e107.length : Int)) h125 [] [0, 1, 6, 7, 16, 17]
  exact sK hk140 (a0, a1, y77, y75, y76) h125 [] [0, 1, 6, 7, 16, 17]
 refine CO.exit (cV 160 (CO.ret ?_))
 have h125 := sI h125
 subst h125
 exact eG [] (.inr rfl) (RetV.two rfl (oT (t := 4) (r := V.i y75)) (oT (t := 5) (r := V.i y76)))

theorem mi_NeedsGap_ok (N : Nat) (a0 : SToken) (a1 : SToken) {r : Bool} (h : mi_NeedsGap N a0 a1 = some r) :
    AC Tryz.prog (GS [1]) 134 [.agg [V.i a0.Kind, V.s a0.Text, V.i a0.At], .agg [V.i a1.Kind, V.s a1.Text, V.i a1.At]] [] (V.b r) [] := by
 rw [mi_NeedsGap] at h
 refine AC.enter Tryz.func134 rfl (cV 100 (CO.seq' (bB h fun y2 hv15 h => ?_)))
 refine CO.cutR (tl 91 [(2, .loc 100 0), (3, .loc 101 0), (31, V.b y2)]) [(100, .cells 105 [V.i a0.Kind, V.s a0.Text, V.i a0.At]), (101, .cells 105 [V.i a1.Kind, V.s a1.Text, V.i a1.At])] mix (by
  refine wR 4 102 ?_
  refine wJ 12 hv15 (fun hv15 => ?_) (fun hv15 => ?_)
  ·refine wR 19 102 ?_
   cases hv15
   exact fS [(100, 100), (101, 101)] [2, 3, 31]
  refine wR 5 102 ?_
  refine wJ 17 hv15 (fun hv15 => ?_) (fun hv15 => ?_)
  ·refine wR 14 102 ?_
   cases hv15
   exact fS [(100, 100), (101, 101)] [2, 3, 31]
  refine wR 5 102 ?_
  refine wJ 22 hv15 (fun hv15 => ?_) (fun hv15 => ?_)
  ·refine wR 9 102 ?_
   cases hv15
   exact fS [(100, 100), (101, 101)] [2, 3, 31]
  refine wR 5 102 ?_
  refine wJ 27 hv15 (fun hv15 => ?_) (fun hv15 => ?_)
  ·refine wR 4 102 ?_
   cases hv15
   exact fS [(100, 100), (101, 101)] [2, 3, 31]
  refine wR 4 102 ?_
  cases hv15
  exact fS [(100, 100), (101, 101)] [2, 3, 31]
  ) ?_
 refine cI h (fun _ h => ?_) (fun _ h => ?_)
 ·refine cV 102 ?_
  cases h
  exact e1 4 id
 refine CO.skip (bB h fun b5 hx23 h => (bB h fun b6 hx24 h => (CO.sw mix (wR 6 102 (W.ixS Dk hx23 (by kernel_rfl) (wR 3 102 (W.ixS Dk hx24 (by kernel_rfl) (wR 3 102 ?_))))))))
 refine wF (CO.seq' (CO.block' (bB h fun y20 hv51 h => ?_)))
 refine CO.cutR (tl 91 [(2, .loc 100 0), (3, .loc 101 0), (6, V.i (wr ((b6).toNat : Int))), (44, V.b y20)]) [(100, .cells 105 [V.i a0.Kind, V.s a0.Text, V.i a0.At]), (101, .cells 105 [V.i a1.Kind, V.s a1.Text, V.i a1.At])] mix (by
  refine wR 1 102 (bB hv51 fun r21 hx52 hv51 => (w0 (AC.gs (mi_IsWordByte_ok (wr ((b5).toNat : Int)) hx52) (by decide)) cok162 (wR 1 102 ?_)))
  refine wJ 47 hv51 (fun hv51 => ?_) (fun hv51 => ?_)
  ·refine wR 1 102 (bB hv51 fun r22 hx54 hv51 => (w0 (AC.gs (mi_IsWordByte_ok (wr ((b6).toNat : Int)) hx54) (by decide)) cok162 (wR 2 102 ?_)))
   cases hv51
   exact fS [(100, 100), (101, 101)] [2, 3, 6, 44]
  refine wR 4 102 ?_
  cases hv51
  exact fS [(100, 100), (101, 101)] [2, 3, 6, 44]
  ) ?_
 refine cI h (fun _ h => ?_) (fun _ h => ?_)
 ·refine cV 102 ?_
  cases h
  exact e1 4 id
 refine bB h fun y24 hv59 h => ?_
 refine CO.cutR (tl 91 [(2, .loc 100 0), (3, .loc 101 0), (51, V.b y24)]) [(100, .cells 105 [V.i a0.Kind, V.s a0.Text, V.i a0.At]), (101, .cells 105 [V.i a1.Kind, V.s a1.Text, V.i a1.At])] mix (by
  refine wR 4 102 ?_
  refine wJ 55 hv59 (fun hv59 => ?_) (fun hv59 => ?_)
  ·refine wR 1 102 (bB hv59 fun r25 hx61 hv59 => (w0 (AC.gs (mi_IsWordByte_ok (wr ((b6).toNat : Int)) hx61) (by decide)) cok162 (wR 1 102 ?_)))
   refine wJ 58 hv59 (fun hv59 => ?_) (fun hv59 => ?_)
   ·refine wR 5 102 ?_
    cases hv59
    exact fS [(100, 100), (101, 101)] [2, 3, 51]
   refine wR 5 102 ?_
   cases hv59
   exact fS [(100, 100), (101, 101)] [2, 3, 51]
  refine wR 8 102 ?_
  cases hv59
  exact fS [(100, 100), (101, 101)] [2, 3, 51]
  ) ?_
 refine cI h (fun _ h => ?_) (fun _ h => ?_)
 ·refine cV 102 ?_
  cases h
  exact e1 4 id
 refine bB h fun y26 hv65 h => ?_
 refine CO.cutR (tl 91 [(2, .loc 100 0), (3, .loc 101 0), (63, V.b y26)]) [(100, .cells 105 [V.i a0.Kind, V.s a0.Text, V.i a0.At]), (101, .cells 105 [V.i a1.Kind, V.s a1.Text, V.i a1.At])] mix (by
  refine wR 4 102 ?_
  refine wJ 67 hv65 (fun hv65 => ?_) (fun hv65 => ?_)
  ·refine wR 5 102 ?_
   cases hv65
   exact fS [(100, 100), (101, 101)] [2, 3, 63]
  refine wR 5 102 ?_
  cases hv65
  exact fS [(100, 100), (101, 101)] [2, 3, 63]
  ) ?_
 refine cI h (fun _ h => ?_) (fun _ h => ?_)
 ·refine cV 102 ?_
  cases h
  exact e1 4 id
 refine bB h fun r28 hx69 h => (cC 2 102 (AC.gs (mi_isSignKind_ok a0.Kind hx69) (by decide)) cok130 ?_)
 refine cI h (fun _ h => ?_) (fun _ h => ?_)
 ·refine cV 102 ?_
  cases h
  exact e1 4 id
 refine CO.skip (bB h fun s31 hx73 h => (bB h fun r32 hx74 h => (CO.sw mix (wR 4 102 (W.cat hx73 (by kernel_rfl) (w0 (mi_OpAt_ok N s31 0 hx74) cok163 (wR 5 102 (wF ?_))))))))
 refine cV 102 ?_
 cases h
 exact e1 4 id

end Go.Proofs.Tryz
