/-
 The walks that show that the code computes the models, part 5.
-/
import Derived.Test.YtgnkbpkhbcmhlaaGreatDoorEdSW4
namespace Go.Proofs.Tryz
open Go.Av
set_option maxRecDepth 100000
set_option maxHeartbeats 8000000
set_option linter.unusedSimpArgs false
set_option linter.unusedVariables false

structure RecOk5 (R : Rec5) : Prop where
 mi_speller__expr : ∀ (a1 : STree) (a2 : SPos) (pc : Bool) (p1 : LT) (p2 : List SSpan) (r : (LT × (List SSpan))), R.mi_speller__expr a1 a2 pc p1 p2 = some r → AC Tryz.prog (GS [0, 1]) 161 [.loc 0 0, .agg [V.i a1.kind, V.i a1.op, V.s a1.text, V.s a1.other, sL eST a1.kids], .agg [V.i a2.Level, V.b a2.Dollar, V.b a2.NoIn, V.b a2.NoGt, V.b a2.NoSign]] [(0, .cells 143 [.own 1, .own 2, V.b pc]), (1, vX 105 3 eTk p1), (2, vX 174 2 encSSpan p2)] (.tup []) [(0, .cells 143 [.own 100, .own 101, V.b pc]), (100, vX 105 3 eTk r.1), (101, vX 174 2 encSSpan r.2)]
 mi_speller__operator : ∀ (a1 : STree) (a2 : SPos) (pc : Bool) (p1 : LT) (p2 : List SSpan) (r : (LT × (List SSpan))), R.mi_speller__operator a1 a2 pc p1 p2 = some r → AC Tryz.prog (GS [0, 1]) 182 [.loc 0 0, .agg [V.i a1.kind, V.i a1.op, V.s a1.text, V.s a1.other, sL eST a1.kids], .agg [V.i a2.Level, V.b a2.Dollar, V.b a2.NoIn, V.b a2.NoGt, V.b a2.NoSign]] [(0, .cells 143 [.own 1, .own 2, V.b pc]), (1, vX 105 3 eTk p1), (2, vX 174 2 encSSpan p2)] (.tup []) [(0, .cells 143 [.own 100, .own 101, V.b pc]), (100, vX 105 3 eTk r.1), (101, vX 174 2 encSSpan r.2)]
 mi_speller__list : ∀ (a1 : STree) (a2 : Int) (a3 : Int) (a4 : SPos) (pc : Bool) (p1 : LT) (p2 : List SSpan) (r : (LT × (List SSpan))), R.mi_speller__list a1 a2 a3 a4 pc p1 p2 = some r → AC Tryz.prog (GS [0, 1]) 181 [.loc 0 0, .agg [V.i a1.kind, V.i a1.op, V.s a1.text, V.s a1.other, sL eST a1.kids], V.i a2, V.i a3, .agg [V.i a4.Level, V.b a4.Dollar, V.b a4.NoIn, V.b a4.NoGt, V.b a4.NoSign]] [(0, .cells 143 [.own 1, .own 2, V.b pc]), (1, vX 105 3 eTk p1), (2, vX 174 2 encSSpan p2)] (.tup []) [(0, .cells 143 [.own 100, .own 101, V.b pc]), (100, vX 105 3 eTk r.1), (101, vX 174 2 encSSpan r.2)]
 mi_speller__bare : ∀ (a1 : STree) (a2 : SPos) (pc : Bool) (p1 : LT) (p2 : List SSpan) (r : (LT × (List SSpan))), R.mi_speller__bare a1 a2 pc p1 p2 = some r → AC Tryz.prog (GS [0, 1]) 160 [.loc 0 0, .agg [V.i a1.kind, V.i a1.op, V.s a1.text, V.s a1.other, sL eST a1.kids], .agg [V.i a2.Level, V.b a2.Dollar, V.b a2.NoIn, V.b a2.NoGt, V.b a2.NoSign]] [(0, .cells 143 [.own 1, .own 2, V.b pc]), (1, vX 105 3 eTk p1), (2, vX 174 2 encSSpan p2)] (.tup []) [(0, .cells 143 [.own 100, .own 101, V.b pc]), (100, vX 105 3 eTk r.1), (101, vX 174 2 encSSpan r.2)]
 mi_speller__kid : ∀ (a1 : STree) (a2 : Int) (a3 : SPos) (pc : Bool) (p1 : LT) (p2 : List SSpan) (r : (LT × (List SSpan))), R.mi_speller__kid a1 a2 a3 pc p1 p2 = some r → AC Tryz.prog (GS [0, 1]) 133 [.loc 0 0, .agg [V.i a1.kind, V.i a1.op, V.s a1.text, V.s a1.other, sL eST a1.kids], V.i a2, .agg [V.i a3.Level, V.b a3.Dollar, V.b a3.NoIn, V.b a3.NoGt, V.b a3.NoSign]] [(0, .cells 143 [.own 1, .own 2, V.b pc]), (1, vX 105 3 eTk p1), (2, vX 174 2 encSSpan p2)] (.tup []) [(0, .cells 143 [.own 100, .own 101, V.b pc]), (100, vX 105 3 eTk r.1), (101, vX 174 2 encSSpan r.2)]

theorem mi_speller__expr_F_ok (N : Nat) (R : Rec5) (HR : RecOk5 R) (a1 : STree) (a2 : SPos) (pc : Bool) (p1 : LT) (p2 : List SSpan) {r : (LT × (List SSpan))} (h : mi_speller__expr_F N R a1 a2 pc p1 p2 = some r) :
    AC Tryz.prog (GS [0, 1]) 161 [.loc 0 0, .agg [V.i a1.kind, V.i a1.op, V.s a1.text, V.s a1.other, sL eST a1.kids], .agg [V.i a2.Level, V.b a2.Dollar, V.b a2.NoIn, V.b a2.NoGt, V.b a2.NoSign]] [(0, .cells 143 [.own 1, .own 2, V.b pc]), (1, vX 105 3 eTk p1), (2, vX 174 2 encSSpan p2)] (.tup []) [(0, .cells 143 [.own 100, .own 101, V.b pc]), (100, vX 105 3 eTk r.1), (101, vX 174 2 encSSpan r.2)] := by
 rw [mi_speller__expr_F] at h
 refine AC.enter Tryz.func161 rfl (cV 100 (bB h fun r2 hx2 h => (CO.sw mix (wR 1 102 (wC (AC.gs (mi_tree__node_ok N a1 hx2) (by decide)) cok57 [] [(100, 102)] [102] (wR 2 103 (wF (bB h fun r4 hx4 h => ?_))))))))
 refine CO.sw mix (wR 2 104 (W.lend (AC.gs (mi_Fits_ok r2 a2 hx4) (by decide)) cok56 [] [] (LayOk.cons (j := 102) eNI eNI r2.Kids (by kernel_rfl) (fun _ => rfl) lO) (.c _) .nil (by kernel_rfl) (by kernel_rfl) (wR 2 104 (wF ?_))))
 refine CO.join (fun (⟨a1, a2, p1, p2, y8⟩ : (STree × SPos × LT × (List SSpan) × Bool)) => ⟨tl 44 [(0, .loc 0 0), (4, .loc 100 0), (5, .loc 101 0), (7, V.b y8)], [(0, .cells 143 [.own 1, .own 2, V.b pc]), (100, .cells 57 [V.i a1.kind, V.i a1.op, V.s a1.text, V.s a1.other, sL eST a1.kids]), (101, .cells 30 [V.i a2.Level, V.b a2.Dollar, V.b a2.NoIn, V.b a2.NoGt, V.b a2.NoSign]), (1, vX 105 3 eTk p1), (2, vX 174 2 encSSpan p2)]⟩) (fun i => mi_speller__expr_k1 N R pc i = some r) ?_ ?_
 · rintro ⟨a1, a2, p1, p2, y8⟩ h11
   rw [mi_speller__expr_k1] at h11
   refine CO.seq' (cV 104 ?_)
   refine cI h11 (fun _ h11 => ?_) (fun _ h11 => ?_)
   ·refine bB h11 fun r12 hx17 h11 => (CO.sw mix (wR 3 104 (wC (HR.mi_speller__bare a1 a2 pc p1 p2 _ hx17) cok160 [(0, 0), (1, 1), (2, 2)] [(0, 0), (100, 104), (101, 105)] [104, 105] (wF (CO.ret ?_)))))
    cases h11
    exact eG [(0, 0), (104, 100), (105, 101)] (.inr rfl) (RetV.none rfl)
   refine CO.skip (bB h11 fun r15 hx20 h11 => (bB h11 fun r16 hx21 h11 => (CO.sw mix (wR 1 104 (w0 (mi_sign_ok 32 hx20) cok135 (wR 1 104 (wD (AC.gs (mi_speller__put_ok [r15] pc p1 p2 hx21) (by decide)) cok180 [(0, 0), (1, 1), (2, 2)] [(0, 0), (2, 2), (100, 105)] [105] (LayOk.cons (j := 104) eTk eTk ([r15] : LT) (by kernel_rfl) (fun _ => rfl) lO) (wF ?_))))))))
   refine bB h11 fun r19 hx24 h11 => (bB h11 fun r20 hx25 h11 => (CO.sw mix (wR 2 106 (w0 (AC.gs (mi_Top_ok  hx24) (by decide)) cok61 (wC (HR.mi_speller__bare a1 r19 pc r16 p2 _ hx25) cok160 [(0, 0), (105, 1), (2, 2)] [(0, 0), (100, 106), (101, 107)] [106, 107] (wF (bB h11 fun r23 hx28 h11 => (bB h11 fun r24 hx29 h11 => ?_))))))))
   refine CO.cutE (tl 44 []) [(109, vX 105 3 eTk r24), (107, vX 174 2 encSSpan r20.2), (0, .cells 143 [.own 109, .own 107, V.b pc])] mix (by
    refine wR 1 108 (w0 (mi_sign_ok 33 hx28) cok135 (wR 1 108 (wD (AC.gs (mi_speller__put_ok [r23] pc r20.1 r20.2 hx29) (by decide)) cok180 [(0, 0), (106, 1), (107, 2)] [(0, 0), (2, 107), (100, 109)] [109] (LayOk.cons (j := 108) eTk eTk ([r23] : LT) (by kernel_rfl) (fun _ => rfl) lO) ?_)))
    exact fI
    ) ?_
   cases h11
   exact eG [(0, 0), (109, 100), (107, 101)] (.inl rfl) (RetV.none rfl)
 intro hk30
 refine cV 104 ?_
 refine cI h (fun _ h => ?_) (fun _ h => ?_)
 ·refine bB h fun y26 hv34 h => ?_
  refine CO.endR (tl 44 [(0, .loc 0 0), (4, .loc 100 0), (5, .loc 101 0), (7, V.b y26)]) [(0, .cells 143 [.own 1, .own 2, V.b pc]), (100, .cells 57 [V.i a1.kind, V.i a1.op, V.s a1.text, V.s a1.other, sL eST a1.kids]), (101, .cells 30 [V.i a2.Level, V.b a2.Dollar, V.b a2.NoIn, V.b a2.NoGt, V.b a2.NoSign]), (1, vX 105 3 eTk p1), (2, vX 174 2 encSSpan p2)] mix (by
   refine wR 1 104 (bB hv34 fun r27 hx35 hv34 => (W.lend (AC.gs (mi_LevelOf_ok r2 hx35) (by decide)) cok91 [] [] (LayOk.cons (j := 102) eNI eNI r2.Kids (by kernel_rfl) (fun _ => rfl) lO) (.c _) .nil (by kernel_rfl) (by kernel_rfl) (wR 2 104 ?_)))
   refine wJ 21 hv34 (fun hv34 => ?_) (fun hv34 => ?_)
   ·refine wR 5 104 ?_
    cases hv34
    exact fS [(0, 0), (100, 100), (101, 101), (1, 1), (2, 2)] [0, 4, 5, 7]
   refine wR 5 104 ?_
   cases hv34
   exact fS [(0, 0), (100, 100), (101, 101), (1, 1), (2, 2)] [0, 4, 5, 7]
   ) (fun st hw => ?_)
  exact hk30 (a1, a2, p1, p2, y26) h _ (hw.trans (wS [(0, 0), (100, 100), (101, 101), (1, 1), (2, 2)] [0, 4, 5, 7]))
 exact sK hk30 (a1, a2, p1, p2, (!r4)) h [(0, 0), (100, 100), (101, 101), (1, 1), (2, 2)] [0, 4, 5, 7]

theorem mi_speller__operator_F_ok (N : Nat) (R : Rec5) (HR : RecOk5 R) (a1 : STree) (a2 : SPos) (pc : Bool) (p1 : LT) (p2 : List SSpan) {r : (LT × (List SSpan))} (h : mi_speller__operator_F N R a1 a2 pc p1 p2 = some r) :
    AC Tryz.prog (GS [0, 1]) 182 [.loc 0 0, .agg [V.i a1.kind, V.i a1.op, V.s a1.text, V.s a1.other, sL eST a1.kids], .agg [V.i a2.Level, V.b a2.Dollar, V.b a2.NoIn, V.b a2.NoGt, V.b a2.NoSign]] [(0, .cells 143 [.own 1, .own 2, V.b pc]), (1, vX 105 3 eTk p1), (2, vX 174 2 encSSpan p2)] (.tup []) [(0, .cells 143 [.own 100, .own 101, V.b pc]), (100, vX 105 3 eTk r.1), (101, vX 174 2 encSSpan r.2)] := by
 rw [mi_speller__operator_F] at h
 refine AC.enter Tryz.func182 rfl (cV 100 (cV 102 (CO.block' ?_)))
 refine CO.join (fun (⟨a1, a2, p1, p2, y1⟩ : (STree × SPos × LT × (List SSpan) × Bool)) => ⟨tl 103 [(0, .loc 0 0), (4, .loc 100 0), (5, .loc 101 0), (7, V.i a1.kind), (25, V.b y1)], [(0, .cells 143 [.own 1, .own 2, V.b pc]), (100, .cells 57 [V.i a1.kind, V.i a1.op, V.s a1.text, V.s a1.other, sL eST a1.kids]), (101, .cells 30 [V.i a2.Level, V.b a2.Dollar, V.b a2.NoIn, V.b a2.NoGt, V.b a2.NoSign]), (1, vX 105 3 eTk p1), (2, vX 174 2 encSSpan p2)]⟩) (fun i => mi_speller__operator_k1 N R pc i = some r) ?_ ?_
 · rintro ⟨a1, a2, p1, p2, y1⟩ h2
   rw [mi_speller__operator_k1] at h2
   refine cI h2 (fun _ h2 => ?_) (fun _ h2 => ?_)
   ·refine bB h2 fun r4 hx6 h2 => (bB h2 fun r5 hx7 h2 => (CO.sw mix (wR 3 102 (w0 (mi_sign_ok a1.op hx6) cok135 (wR 1 102 (wD (AC.gs (mi_speller__put_ok [r4] pc p1 p2 hx7) (by decide)) cok180 [(0, 0), (1, 1), (2, 2)] [(0, 0), (2, 2), (100, 103)] [103] (LayOk.cons (j := 102) eTk eTk ([r4] : LT) (by kernel_rfl) (fun _ => rfl) lO) (wF (bB h2 fun r7 hx9 h2 => ?_))))))))
    refine CO.cutE (tl 103 []) [(104, vX 105 3 eTk r7.1), (105, vX 174 2 encSSpan r7.2), (0, .cells 143 [.own 104, .own 105, V.b pc])] mix (by
     refine wR 3 104 (wC (HR.mi_speller__kid a1 0 a2 pc r5 p2 _ hx9) cok133 [(0, 0), (103, 1), (2, 2)] [(0, 0), (100, 104), (101, 105)] [104, 105] ?_)
     exact fI
     ) ?_
    cases h2
    exact eG [(0, 0), (104, 100), (105, 101)] (.inl rfl) (RetV.none rfl)
   refine cV 102 ?_
   refine cI h2 (fun _ h2 => ?_) (fun _ h2 => ?_)
   ·refine bB h2 fun r10 hx13 h2 => (bB h2 fun r11 hx14 h2 => (CO.sw mix (wR 1 102 (w0 (mi_sign_ok 68 hx13) cok135 (wR 1 102 (wD (AC.gs (mi_speller__put_ok [r10] pc p1 p2 hx14) (by decide)) cok180 [(0, 0), (1, 1), (2, 2)] [(0, 0), (2, 2), (100, 103)] [103] (LayOk.cons (j := 102) eTk eTk ([r10] : LT) (by kernel_rfl) (fun _ => rfl) lO) (wF (bB h2 fun r13 hx16 h2 => ?_))))))))
    refine CO.cutE (tl 103 []) [(104, vX 105 3 eTk r13.1), (105, vX 174 2 encSSpan r13.2), (0, .cells 143 [.own 104, .own 105, V.b pc])] mix (by
     refine wR 3 104 (wC (HR.mi_speller__kid a1 0 a2 pc r11 p2 _ hx16) cok133 [(0, 0), (103, 1), (2, 2)] [(0, 0), (100, 104), (101, 105)] [104, 105] ?_)
     exact fI
     ) ?_
    cases h2
    exact eG [(0, 0), (104, 100), (105, 101)] (.inl rfl) (RetV.none rfl)
   refine cV 102 ?_
   refine cI h2 (fun _ h2 => ?_) (fun _ h2 => ?_)
   ·refine bB h2 fun r15 hx19 h2 => (CO.sw mix (wR 3 102 (wC (HR.mi_speller__kid a1 0 a2 pc p1 p2 _ hx19) cok133 [(0, 0), (1, 1), (2, 2)] [(0, 0), (100, 102), (101, 103)] [102, 103] (wF (bB h2 fun r18 hx22 h2 => (bB h2 fun r19 hx23 h2 => ?_))))))
    refine CO.cutE (tl 103 []) [(105, vX 105 3 eTk r19), (103, vX 174 2 encSSpan r15.2), (0, .cells 143 [.own 105, .own 103, V.b pc])] mix (by
     refine wR 3 104 (w0 (mi_sign_ok a1.op hx22) cok135 (wR 1 104 (wD (AC.gs (mi_speller__put_ok [r18] pc r15.1 r15.2 hx23) (by decide)) cok180 [(0, 0), (102, 1), (103, 2)] [(0, 0), (2, 103), (100, 105)] [105] (LayOk.cons (j := 104) eTk eTk ([r18] : LT) (by kernel_rfl) (fun _ => rfl) lO) ?_)))
     exact fI
     ) ?_
    cases h2
    exact eG [(0, 0), (105, 100), (103, 101)] (.inl rfl) (RetV.none rfl)
   refine cV 102 ?_
   refine cI h2 (fun _ h2 => ?_) (fun _ h2 => ?_)
   ·refine CO.join (fun (⟨a1, y24, y25⟩ : (STree × LT × (List SSpan))) => ⟨tl 103 [(0, .loc 0 0), (4, .loc 100 0)], [(0, .cells 143 [.own 101, .own 102, V.b pc]), (100, .cells 57 [V.i a1.kind, V.i a1.op, V.s a1.text, V.s a1.other, sL eST a1.kids]), (101, vX 105 3 eTk y24), (102, vX 174 2 encSSpan y25)]⟩) (fun i => mi_speller__operator_k2 N R pc i = some r) ?_ ?_
    · rintro ⟨a1, y24, y25⟩ h30
      rw [mi_speller__operator_k2] at h30
      refine bB h30 fun r28 hx33 h30 => (bB h30 fun r29 hx34 h30 => ?_)
      refine CO.cutE (tl 103 []) [(105, vX 105 3 eTk r29), (0, .cells 143 [.own 105, .own 102, V.b pc]), (102, vX 174 2 encSSpan y25)] mix (by
       refine wR 1 104 (w0 (mi_sign_ok 24 hx33) cok135 (wR 4 104 (wD (AC.gs (mi_speller__put_ok [r28, (⟨6, a1.text, 0⟩ : SToken)] pc y24 y25 hx34) (by decide)) cok180 [(0, 0), (101, 1), (102, 2)] [(0, 0), (2, 102), (100, 105)] [105] (LayOk.cons (j := 104) eTk eTk ([r28, (⟨6, a1.text, 0⟩ : SToken)] : LT) (by kernel_rfl) (fun _ => rfl) lO) ?_)))
       exact fI
       ) ?_
      cases h30
      exact eG [(0, 0), (105, 100), (102, 101)] (.inl rfl) (RetV.none rfl)
    intro hk35
    refine CO.sw mix (wR 2 102 (wN eST a1.kids [] (wR 1 102 (wF ?_))))
    refine cI h2 (fun _ h2 => ?_) (fun _ h2 => ?_)
    ·refine bB h2 fun r31 hx38 h2 => (CO.w mix (wR 3 102 (wC (HR.mi_speller__list a1 32 33 a2 pc p1 p2 _ hx38) cok181 [(0, 0), (1, 1), (2, 2)] [(0, 0), (100, 102), (101, 103)] [102, 103] ?_)))
     exact wK hk35 (a1, r31.1, r31.2) h2 [(0, 0), (100, 100), (102, 101), (103, 102)] [0, 4]
    refine bB h2 fun r33 hx40 h2 => (CO.w mix (wR 3 102 (wC (HR.mi_speller__kid a1 0 a2 pc p1 p2 _ hx40) cok133 [(0, 0), (1, 1), (2, 2)] [(0, 0), (100, 102), (101, 103)] [102, 103] ?_)))
    exact wK hk35 (a1, r33.1, r33.2) h2 [(0, 0), (100, 100), (102, 101), (103, 102)] [0, 4]
   refine cV 102 ?_
   refine cI h2 (fun _ h2 => ?_) (fun _ h2 => ?_)
   ·refine bB h2 fun r35 hx43 h2 => (CO.sw mix (wR 3 102 (wC (HR.mi_speller__kid a1 0 a2 pc p1 p2 _ hx43) cok133 [(0, 0), (1, 1), (2, 2)] [(0, 0), (100, 102), (101, 103)] [102, 103] (wF (bB h2 fun r38 hx46 h2 => (bB h2 fun r39 hx47 h2 => (CO.sw mix (wR 1 104 ?_))))))))
    refine w0 (mi_sign_ok 65 hx46) cok135 (wR 1 104 (wD (AC.gs (mi_speller__put_ok [r38] pc r35.1 r35.2 hx47) (by decide)) cok180 [(0, 0), (102, 1), (103, 2)] [(0, 0), (2, 103), (100, 105)] [105] (LayOk.cons (j := 104) eTk eTk ([r38] : LT) (by kernel_rfl) (fun _ => rfl) lO) (wF (bB h2 fun r41 hx49 h2 => (CO.sw mix (wR 3 106 (wC (HR.mi_speller__kid a1 1 a2 pc r39 r35.2 _ hx49) cok133 [(0, 0), (105, 1), (103, 2)] [(0, 0), (100, 106), (101, 107)] [106, 107] (wF ?_))))))))
    refine bB h2 fun r44 hx52 h2 => (bB h2 fun r45 hx53 h2 => (CO.sw mix (wR 1 108 (w0 (mi_sign_ok 66 hx52) cok135 (wR 1 108 (wD (AC.gs (mi_speller__put_ok [r44] pc r41.1 r41.2 hx53) (by decide)) cok180 [(0, 0), (106, 1), (107, 2)] [(0, 0), (2, 107), (100, 109)] [109] (LayOk.cons (j := 108) eTk eTk ([r44] : LT) (by kernel_rfl) (fun _ => rfl) lO) (wF (bB h2 fun r47 hx55 h2 => ?_))))))))
    refine CO.cutE (tl 103 []) [(110, vX 105 3 eTk r47.1), (111, vX 174 2 encSSpan r47.2), (0, .cells 143 [.own 110, .own 111, V.b pc])] mix (by
     refine wR 3 110 (wC (HR.mi_speller__kid a1 2 a2 pc r45 r41.2 _ hx55) cok133 [(0, 0), (109, 1), (107, 2)] [(0, 0), (100, 110), (101, 111)] [110, 111] ?_)
     exact fI
     ) ?_
    cases h2
    exact eG [(0, 0), (110, 100), (111, 101)] (.inl rfl) (RetV.none rfl)
   refine bB h2 fun r49 hx57 h2 => (CO.sw mix (wR 3 102 (wC (HR.mi_speller__kid a1 0 a2 pc p1 p2 _ hx57) cok133 [(0, 0), (1, 1), (2, 2)] [(0, 0), (100, 102), (101, 103)] [102, 103] (wF ?_))))
   refine CO.join (fun (⟨a1, a2, r49, y54⟩ : (STree × SPos × (LT × (List SSpan)) × LT)) => ⟨tl 103 [(0, .loc 0 0), (4, .loc 100 0), (5, .loc 101 0)], [(0, .cells 143 [.own 102, .own 103, V.b pc]), (100, .cells 57 [V.i a1.kind, V.i a1.op, V.s a1.text, V.s a1.other, sL eST a1.kids]), (101, .cells 30 [V.i a2.Level, V.b a2.Dollar, V.b a2.NoIn, V.b a2.NoGt, V.b a2.NoSign]), (102, vX 105 3 eTk y54), (103, vX 174 2 encSSpan r49.2)]⟩) (fun i => mi_speller__operator_k3 N R pc i = some r) ?_ ?_
   · rintro ⟨a1, a2, r49, y54⟩ h63
     rw [mi_speller__operator_k3] at h63
     refine bB h63 fun r56 hx65 h63 => ?_
     refine CO.cutE (tl 103 []) [(106, vX 105 3 eTk r56.1), (107, vX 174 2 encSSpan r56.2), (0, .cells 143 [.own 106, .own 107, V.b pc])] mix (by
      refine wR 3 106 (wC (HR.mi_speller__kid a1 1 a2 pc y54 r49.2 _ hx65) cok133 [(0, 0), (102, 1), (103, 2)] [(0, 0), (100, 106), (101, 107)] [106, 107] ?_)
      exact fI
      ) ?_
     cases h63
     exact eG [(0, 0), (106, 100), (107, 101)] (.inl rfl) (RetV.none rfl)
   intro hk66
   refine cV 104 ?_
   refine cI h2 (fun _ h2 => ?_) (fun _ h2 => ?_)
   ·refine bB h2 fun r59 hx70 h2 => (bB h2 fun r60 hx71 h2 => (CO.w mix (wR 3 104 (w0 (mi_sign_ok a1.op hx70) cok135 (wR 1 104 (wD (AC.gs (mi_speller__put_ok [r59] pc r49.1 r49.2 hx71) (by decide)) cok180 [(0, 0), (102, 1), (103, 2)] [(0, 0), (2, 103), (100, 105)] [105] (LayOk.cons (j := 104) eTk eTk ([r59] : LT) (by kernel_rfl) (fun _ => rfl) lO) ?_))))))
    exact wK hk66 (a1, a2, r49, r60) h2 [(0, 0), (100, 100), (101, 101), (105, 102), (103, 103)] [0, 4, 5]
   exact sK hk66 (a1, a2, r49, r49.1) h2 [(0, 0), (100, 100), (101, 101), (102, 102), (103, 103)] [0, 4, 5]
 intro hk72
 refine cV 102 ?_
 refine cI h (fun _ h => ?_) (fun _ h => ?_)
 ·exact sK hk72 (a1, a2, p1, p2, (a1.kind == 9)) h [(0, 0), (100, 100), (101, 101), (1, 1), (2, 2)] [0, 4, 5, 7, 25]
 exact cK 102 hk72 (a1, a2, p1, p2, (a1.kind == 11)) h [(0, 0), (100, 100), (101, 101), (1, 1), (2, 2)] [0, 4, 5, 7, 25]

theorem mi_speller__list_F_ok (N : Nat) (R : Rec5) (HR : RecOk5 R) (a1 : STree) (a2 : Int) (a3 : Int) (a4 : SPos) (pc : Bool) (p1 : LT) (p2 : List SSpan) {r : (LT × (List SSpan))} (h : mi_speller__list_F N R a1 a2 a3 a4 pc p1 p2 = some r) :
    AC Tryz.prog (GS [0, 1]) 181 [.loc 0 0, .agg [V.i a1.kind, V.i a1.op, V.s a1.text, V.s a1.other, sL eST a1.kids], V.i a2, V.i a3, .agg [V.i a4.Level, V.b a4.Dollar, V.b a4.NoIn, V.b a4.NoGt, V.b a4.NoSign]] [(0, .cells 143 [.own 1, .own 2, V.b pc]), (1, vX 105 3 eTk p1), (2, vX 174 2 encSSpan p2)] (.tup []) [(0, .cells 143 [.own 100, .own 101, V.b pc]), (100, vX 105 3 eTk r.1), (101, vX 174 2 encSSpan r.2)] := by
 rw [mi_speller__list_F] at h
 refine AC.enter Tryz.func181 rfl (cV 100 (bB h fun r3 hx3 h => (bB h fun r4 hx4 h => (CO.sw mix (wR 2 102 (w0 (mi_sign_ok a2 hx3) cok135 (wR 1 102 (wD (AC.gs (mi_speller__put_ok [r3] pc p1 p2 hx4) (by decide)) cok180 [(0, 0), (1, 1), (2, 2)] [(0, 0), (2, 2), (100, 103)] [103] (LayOk.cons (j := 102) eTk eTk ([r3] : LT) (by kernel_rfl) (fun _ => rfl) lO) ?_))))))))
 refine wF (CO.seq' (CO.sw mix (wR 2 104 (wN eST a1.kids [] (wR 1 104 (wF (CO.block' (CO.loopJ (fun (⟨a3, a1, a4, y63, y64, y65⟩ : (Int × STree × SPos × Int × LT × (List SSpan))) => ⟨tl 39 [(0, .loc 0 0), (3, V.i a3), (6, .loc 100 0), (9, .loc 101 0), (18, V.i (a1.kids.length : Int)), (19, V.i y63)], [(0, .cells 143 [.own 102, .own 103, V.b pc]), (100, .cells 57 [V.i a1.kind, V.i a1.op, V.s a1.text, V.s a1.other, sL eST a1.kids]), (101, .cells 30 [V.i a4.Level, V.b a4.Dollar, V.b a4.NoIn, V.b a4.NoGt, V.b a4.NoSign]), (102, vX 105 3 eTk y64), (103, vX 174 2 encSSpan y65)]⟩) (fun n i => mi_speller__list_l1 N R pc n i = some r) (n0 := N) (i0 := (a3, a1, a4, 0, r4, p2)) (wS [(0, 0), (100, 100), (101, 101), (103, 102), (2, 103)] [0, 3, 6, 9, 18, 19]) h (fun i h => by simp [mi_speller__list_l1] at h) ?_))))))))
 rintro n1 ⟨a3, a1, a4, y63, y64, y65⟩ h109 ih110
 rw [mi_speller__list_l1] at h109
 refine cV 170 (CO.seq' ?_)
 refine cI h109 (fun _ h109 => ?_) (fun _ h109 => ?_)
 ·refine CO.skip (CO.seq' (CO.block' (cV 170 ?_)))
  refine CO.join (fun (⟨a3, y63, a1, a4, y65, y106⟩ : (Int × Int × STree × SPos × (List SSpan) × LT)) => ⟨tl 39 [(0, .loc 0 0), (3, V.i a3), (6, .loc 100 0), (9, .loc 101 0), (10, V.i y63), (18, V.i (a1.kids.length : Int)), (19, V.i y63)], [(0, .cells 143 [.own 102, .own 103, V.b pc]), (100, .cells 57 [V.i a1.kind, V.i a1.op, V.s a1.text, V.s a1.other, sL eST a1.kids]), (101, .cells 30 [V.i a4.Level, V.b a4.Dollar, V.b a4.NoIn, V.b a4.NoGt, V.b a4.NoSign]), (102, vX 105 3 eTk y106), (103, vX 174 2 encSSpan y65)]⟩) (fun i => mi_speller__list_k2 N R pc (mi_speller__list_l1 N R pc n1) i = some r) ?_ ?_
  · rintro ⟨a3, y63, a1, a4, y65, y106⟩ h132
    rw [mi_speller__list_k2] at h132
    refine bB h132 fun r108 hx134 h132 => ?_
    refine CO.endR (tl 39 [(0, .loc 0 0), (3, V.i a3), (6, .loc 100 0), (9, .loc 101 0), (18, V.i (a1.kids.length : Int)), (19, V.i y63)]) [(172, vX 105 3 eTk r108.1), (173, vX 174 2 encSSpan r108.2), (0, .cells 143 [.own 172, .own 173, V.b pc]), (100, .cells 57 [V.i a1.kind, V.i a1.op, V.s a1.text, V.s a1.other, sL eST a1.kids]), (101, .cells 30 [V.i a4.Level, V.b a4.Dollar, V.b a4.NoIn, V.b a4.NoGt, V.b a4.NoSign])] mix (by
     refine wR 4 172 (wC (HR.mi_speller__kid a1 y63 a4 pc y106 y65 _ hx134) cok133 [(0, 0), (102, 1), (103, 2)] [(0, 0), (100, 172), (101, 173)] [172, 173] ?_)
     exact fI
     ) (fun st hw => ?_)
    refine CO.weak hw ?_
    exact cK 174 ih110 (a3, a1, a4, (wr (y63 + 1)), r108.1, r108.2) h132 [(0, 0), (100, 100), (101, 101), (172, 102), (173, 103)] [0, 3, 6, 9, 18, 19]
  intro hk135
  refine cV 170 ?_
  refine cI h109 (fun _ h109 => ?_) (fun _ h109 => ?_)
  ·refine bB h109 fun r111 hx139 h109 => (bB h109 fun r112 hx140 h109 => (CO.w mix (wR 1 170 (w0 (mi_sign_ok 36 hx139) cok135 (wR 1 170 (wD (AC.gs (mi_speller__put_ok [r111] pc y64 y65 hx140) (by decide)) cok180 [(0, 0), (102, 1), (103, 2)] [(0, 0), (2, 103), (100, 171)] [171] (LayOk.cons (j := 170) eTk eTk ([r111] : LT) (by kernel_rfl) (fun _ => rfl) lO) ?_))))))
   exact wK hk135 (a3, y63, a1, a4, y65, r112) h109 [(0, 0), (100, 100), (101, 101), (171, 102), (103, 103)] [0, 3, 6, 9, 10, 18, 19]
  exact sK hk135 (a3, y63, a1, a4, y65, y64) h109 [(0, 0), (100, 100), (101, 101), (102, 102), (103, 103)] [0, 3, 6, 9, 10, 18, 19]
 refine CO.exit (bB h109 fun r115 hx143 h109 => (bB h109 fun r116 hx144 h109 => ?_))
 refine CO.cutE (tl 39 []) [(171, vX 105 3 eTk r116), (0, .cells 143 [.own 171, .own 103, V.b pc]), (103, vX 174 2 encSSpan y65)] mix (by
  refine wR 2 170 (w0 (mi_sign_ok a3 hx143) cok135 (wR 1 170 (wD (AC.gs (mi_speller__put_ok [r115] pc y64 y65 hx144) (by decide)) cok180 [(0, 0), (102, 1), (103, 2)] [(0, 0), (2, 103), (100, 171)] [171] (LayOk.cons (j := 170) eTk eTk ([r115] : LT) (by kernel_rfl) (fun _ => rfl) lO) ?_)))
  exact fI
  ) ?_
 cases h109
 exact eG [(0, 0), (171, 100), (103, 101)] (.inl rfl) (RetV.none rfl)

theorem mi_speller__bare_F_ok (N : Nat) (R : Rec5) (HR : RecOk5 R) (a1 : STree) (a2 : SPos) (pc : Bool) (p1 : LT) (p2 : List SSpan) {r : (LT × (List SSpan))} (h : mi_speller__bare_F N R a1 a2 pc p1 p2 = some r) :
    AC Tryz.prog (GS [0, 1]) 160 [.loc 0 0, .agg [V.i a1.kind, V.i a1.op, V.s a1.text, V.s a1.other, sL eST a1.kids], .agg [V.i a2.Level, V.b a2.Dollar, V.b a2.NoIn, V.b a2.NoGt, V.b a2.NoSign]] [(0, .cells 143 [.own 1, .own 2, V.b pc]), (1, vX 105 3 eTk p1), (2, vX 174 2 encSSpan p2)] (.tup []) [(0, .cells 143 [.own 100, .own 101, V.b pc]), (100, vX 105 3 eTk r.1), (101, vX 174 2 encSSpan r.2)] := by
 rw [mi_speller__bare_F] at h
 refine AC.enter Tryz.func160 rfl (cV 100 (CO.sw mix (wR 4 102 (wN eTk p1 [1] (wR 1 102 (wF ?_))))))
 refine CO.join (fun (⟨p1, y23, y24⟩ : (LT × LT × (List SSpan))) => ⟨tl 102 [(0, .loc 0 0), (6, V.i (p1.length : Int))], [(0, .cells 143 [.own 100, .own 101, V.b pc]), (100, vX 105 3 eTk y23), (101, vX 174 2 encSSpan y24)]⟩) (fun i => mi_speller__bare_k1 N R pc i = some r) ?_ ?_
 · rintro ⟨p1, y23, y24⟩ h30
   rw [mi_speller__bare_k1] at h30
   refine bB h30 fun x26 hx32 h30 => ?_
   refine CO.cutE (tl 102 []) [(0, .cells 143 [.own 100, .own 107, V.b pc]), (107, vX 174 2 encSSpan x26), (100, vX 105 3 eTk y23)] mix (by
    refine wR 10 106 (wN eTk y23 [100] (wR 2 106 (W.appO Dk encSSpan (a := 101) (c := 106) (el := 174) (sz := 2) 16 hx32 rfl 107 (by kernel_rfl) (wR 3 108 ?_))))
    exact fI
    ) ?_
   cases h30
   exact eG [(0, 0), (100, 100), (107, 101)] (.inl rfl) (RetV.none rfl)
 intro hk33
 refine cV 102 (CO.block' (cV 102 ?_))
 refine cI h (fun _ h => ?_) (fun _ h => ?_)
 ·refine bB h fun r28 hx36 h => (CO.w mix (wR 5 102 (wD (AC.gs (mi_speller__put_ok [(⟨6, a1.text, 0⟩ : SToken)] pc p1 p2 hx36) (by decide)) cok180 [(0, 0), (1, 1), (2, 2)] [(0, 0), (2, 2), (100, 103)] [103] (LayOk.cons (j := 102) eTk eTk ([(⟨6, a1.text, 0⟩ : SToken)] : LT) (by kernel_rfl) (fun _ => rfl) lO) ?_)))
  exact wK hk33 (p1, r28, p2) h [(0, 0), (103, 100), (2, 101)] [0, 6]
 refine cV 102 ?_
 refine cI h (fun _ h => ?_) (fun _ h => ?_)
 ·refine bB h fun r30 hx39 h => (CO.w mix (wR 5 102 (wD (AC.gs (mi_speller__put_ok [(⟨3, a1.text, 0⟩ : SToken)] pc p1 p2 hx39) (by decide)) cok180 [(0, 0), (1, 1), (2, 2)] [(0, 0), (2, 2), (100, 103)] [103] (LayOk.cons (j := 102) eTk eTk ([(⟨3, a1.text, 0⟩ : SToken)] : LT) (by kernel_rfl) (fun _ => rfl) lO) ?_)))
  exact wK hk33 (p1, r30, p2) h [(0, 0), (103, 100), (2, 101)] [0, 6]
 refine cV 102 ?_
 refine cI h (fun _ h => ?_) (fun _ h => ?_)
 ·refine bB h fun r32 hx42 h => (CO.w mix (wR 5 102 (wD (AC.gs (mi_speller__put_ok [(⟨4, a1.text, 0⟩ : SToken)] pc p1 p2 hx42) (by decide)) cok180 [(0, 0), (1, 1), (2, 2)] [(0, 0), (2, 2), (100, 103)] [103] (LayOk.cons (j := 102) eTk eTk ([(⟨4, a1.text, 0⟩ : SToken)] : LT) (by kernel_rfl) (fun _ => rfl) lO) ?_)))
  exact wK hk33 (p1, r32, p2) h [(0, 0), (103, 100), (2, 101)] [0, 6]
 refine cV 102 ?_
 refine cI h (fun _ h => ?_) (fun _ h => ?_)
 ·refine bB h fun r34 hx45 h => (CO.w mix (wR 5 102 (wD (AC.gs (mi_speller__put_ok [(⟨5, a1.text, 0⟩ : SToken)] pc p1 p2 hx45) (by decide)) cok180 [(0, 0), (1, 1), (2, 2)] [(0, 0), (2, 2), (100, 103)] [103] (LayOk.cons (j := 102) eTk eTk ([(⟨5, a1.text, 0⟩ : SToken)] : LT) (by kernel_rfl) (fun _ => rfl) lO) ?_)))
  exact wK hk33 (p1, r34, p2) h [(0, 0), (103, 100), (2, 101)] [0, 6]
 refine cV 102 ?_
 refine cI h (fun _ h => ?_) (fun _ h => ?_)
 ·refine bB h fun r36 hx48 h => (CO.sw mix (wR 5 102 (wD (AC.gs (mi_speller__put_ok [(⟨6, a1.text, 0⟩ : SToken)] pc p1 p2 hx48) (by decide)) cok180 [(0, 0), (1, 1), (2, 2)] [(0, 0), (2, 2), (100, 103)] [103] (LayOk.cons (j := 102) eTk eTk ([(⟨6, a1.text, 0⟩ : SToken)] : LT) (by kernel_rfl) (fun _ => rfl) lO) (wF (bB h fun r38 hx50 h => (CO.w mix (wR 3 104 (wC (HR.mi_speller__list a1 34 35 a2 pc r36 p2 _ hx50) cok181 [(0, 0), (103, 1), (2, 2)] [(0, 0), (100, 104), (101, 105)] [104, 105] ?_))))))))
  exact wK hk33 (p1, r38.1, r38.2) h [(0, 0), (104, 100), (105, 101)] [0, 6]
 refine cV 102 ?_
 refine cI h (fun _ h => ?_) (fun _ h => ?_)
 ·refine bB h fun r40 hx53 h => (CO.sw mix (wR 5 102 (wD (AC.gs (mi_speller__put_ok [(⟨7, a1.text, 0⟩ : SToken)] pc p1 p2 hx53) (by decide)) cok180 [(0, 0), (1, 1), (2, 2)] [(0, 0), (2, 2), (100, 103)] [103] (LayOk.cons (j := 102) eTk eTk ([(⟨7, a1.text, 0⟩ : SToken)] : LT) (by kernel_rfl) (fun _ => rfl) lO) (wF (bB h fun r42 hx55 h => (CO.w mix (wR 3 104 (wC (HR.mi_speller__list a1 32 33 a2 pc r40 p2 _ hx55) cok181 [(0, 0), (103, 1), (2, 2)] [(0, 0), (100, 104), (101, 105)] [104, 105] ?_))))))))
  exact wK hk33 (p1, r42.1, r42.2) h [(0, 0), (104, 100), (105, 101)] [0, 6]
 refine cV 102 ?_
 refine cI h (fun _ h => ?_) (fun _ h => ?_)
 ·refine bB h fun r44 hx58 h => (CO.sw mix (wR 5 102 (wD (AC.gs (mi_speller__put_ok [(⟨8, a1.text, 0⟩ : SToken)] pc p1 p2 hx58) (by decide)) cok180 [(0, 0), (1, 1), (2, 2)] [(0, 0), (2, 2), (100, 103)] [103] (LayOk.cons (j := 102) eTk eTk ([(⟨8, a1.text, 0⟩ : SToken)] : LT) (by kernel_rfl) (fun _ => rfl) lO) (wF (bB h fun r46 hx60 h => (CO.w mix (wR 3 104 (wC (HR.mi_speller__list a1 32 33 a2 pc r44 p2 _ hx60) cok181 [(0, 0), (103, 1), (2, 2)] [(0, 0), (100, 104), (101, 105)] [104, 105] ?_))))))))
  exact wK hk33 (p1, r46.1, r46.2) h [(0, 0), (104, 100), (105, 101)] [0, 6]
 refine bB h fun r48 hx62 h => (CO.w mix (wR 3 102 (wC (HR.mi_speller__operator a1 a2 pc p1 p2 _ hx62) cok182 [(0, 0), (1, 1), (2, 2)] [(0, 0), (100, 102), (101, 103)] [102, 103] ?_)))
 exact wK hk33 (p1, r48.1, r48.2) h [(0, 0), (102, 100), (103, 101)] [0, 6]

theorem mi_speller__kid_F_ok (N : Nat) (R : Rec5) (HR : RecOk5 R) (a1 : STree) (a2 : Int) (a3 : SPos) (pc : Bool) (p1 : LT) (p2 : List SSpan) {r : (LT × (List SSpan))} (h : mi_speller__kid_F N R a1 a2 a3 pc p1 p2 = some r) :
    AC Tryz.prog (GS [0, 1]) 133 [.loc 0 0, .agg [V.i a1.kind, V.i a1.op, V.s a1.text, V.s a1.other, sL eST a1.kids], V.i a2, .agg [V.i a3.Level, V.b a3.Dollar, V.b a3.NoIn, V.b a3.NoGt, V.b a3.NoSign]] [(0, .cells 143 [.own 1, .own 2, V.b pc]), (1, vX 105 3 eTk p1), (2, vX 174 2 encSSpan p2)] (.tup []) [(0, .cells 143 [.own 100, .own 101, V.b pc]), (100, vX 105 3 eTk r.1), (101, vX 174 2 encSSpan r.2)] := by
 rw [mi_speller__kid_F] at h
 refine AC.enter Tryz.func133 rfl (cV 100 (bB h fun r3 hx3 h => (bB h fun e4 hx4 h => (CO.sw mix (wR 1 102 (wC (AC.gs (mi_tree__node_ok N a1 hx3) (by decide)) cok57 [] [(100, 102)] [102] (wR 3 103 (W.ixDr Dk eST hx4 5 (by kernel_rfl) (encSTree_eq e4) (by kernel_rfl) ?_))))))))
 refine wR 5 103 (wF (bB h fun r6 hx6 h => (CO.sw mix (wR 3 105 (W.lend (AC.gs (mi_KidPos_ok r3 a2 a3 hx6) (by decide)) cok131 [] [] (LayOk.cons (j := 102) eNI eNI r3.Kids (by kernel_rfl) (fun _ => rfl) lO) (.agg _ (.cons (.c _) (.cons (.c _) (.cons (.c _) (.cons (.c _) (.cons (.c _) .nil)))))) .nil (by kernel_rfl) (by kernel_rfl) (wR 2 105 (wF (CO.seq' ?_))))))))
 refine bB h fun r12 hx13 h => (CO.sw mix (wR 2 106 (W.lend (AC.gs (mi_isTarget_ok r3 a2 hx13) (by decide)) cok132 [] [] (LayOk.cons (j := 102) eNI eNI r3.Kids (by kernel_rfl) (fun _ => rfl) lO) (.c _) .nil (by kernel_rfl) (by kernel_rfl) (wF ?_))))
 refine cI h (fun _ h => ?_) (fun _ h => ?_)
 ·refine bB h fun r14 hx16 h => (CO.sw mix (wR 3 106 (wC (HR.mi_speller__bare e4 r6 pc p1 p2 _ hx16) cok160 [(0, 0), (1, 1), (2, 2)] [(0, 0), (100, 106), (101, 107)] [106, 107] (wF (CO.ret ?_)))))
  cases h
  exact eG [(0, 0), (106, 100), (107, 101)] (.inr rfl) (RetV.none rfl)
 refine CO.skip (bB h fun r16 hx18 h => ?_)
 refine CO.cutE (tl 33 []) [(106, vX 105 3 eTk r16.1), (107, vX 174 2 encSSpan r16.2), (0, .cells 143 [.own 106, .own 107, V.b pc])] mix (by
  refine wR 3 106 (wC (HR.mi_speller__expr e4 r6 pc p1 p2 _ hx18) cok161 [(0, 0), (1, 1), (2, 2)] [(0, 0), (100, 106), (101, 107)] [106, 107] ?_)
  exact fI
  ) ?_
 cases h
 exact eG [(0, 0), (106, 100), (107, 101)] (.inl rfl) (RetV.none rfl)

theorem scc5_ok : ∀ N, RecOk5 (scc5 N)
 | 0 => ⟨fun _ _ _ _ _ _ h => (by cases h), fun _ _ _ _ _ _ h => (by cases h), fun _ _ _ _ _ _ _ _ h => (by cases h), fun _ _ _ _ _ _ h => (by cases h), fun _ _ _ _ _ _ _ h => (by cases h)⟩
 | N + 1 => ⟨fun a1 a2 pc p1 p2 _ h => mi_speller__expr_F_ok N (scc5 N) (scc5_ok N) a1 a2 pc p1 p2 h, fun a1 a2 pc p1 p2 _ h => mi_speller__operator_F_ok N (scc5 N) (scc5_ok N) a1 a2 pc p1 p2 h, fun a1 a2 a3 a4 pc p1 p2 _ h => mi_speller__list_F_ok N (scc5 N) (scc5_ok N) a1 a2 a3 a4 pc p1 p2 h, fun a1 a2 pc p1 p2 _ h => mi_speller__bare_F_ok N (scc5 N) (scc5_ok N) a1 a2 pc p1 p2 h, fun a1 a2 a3 pc p1 p2 _ h => mi_speller__kid_F_ok N (scc5 N) (scc5_ok N) a1 a2 a3 pc p1 p2 h⟩

theorem mi_speller__kid_ok (N : Nat) (a1 : STree) (a2 : Int) (a3 : SPos) (pc : Bool) (p1 : LT) (p2 : List SSpan) {r : (LT × (List SSpan))} (h : mi_speller__kid N a1 a2 a3 pc p1 p2 = some r) :
  AC Tryz.prog (GS [0, 1]) 133 [.loc 0 0, .agg [V.i a1.kind, V.i a1.op, V.s a1.text, V.s a1.other, sL eST a1.kids], V.i a2, .agg [V.i a3.Level, V.b a3.Dollar, V.b a3.NoIn, V.b a3.NoGt, V.b a3.NoSign]] [(0, .cells 143 [.own 1, .own 2, V.b pc]), (1, vX 105 3 eTk p1), (2, vX 174 2 encSSpan p2)] (.tup []) [(0, .cells 143 [.own 100, .own 101, V.b pc]), (100, vX 105 3 eTk r.1), (101, vX 174 2 encSSpan r.2)] :=
 (scc5_ok N).mi_speller__kid a1 a2 a3 pc p1 p2 r h

theorem m_stringslite_HasPrefix_ok (a0 : LU) (a1 : LU) {r : Bool} (h : m_stringslite_HasPrefix a0 a1 = some r) :
    AC Tryz.prog (GS []) 193 [V.s a0, V.s a1] [] (V.b r) [] := by
 rw [m_stringslite_HasPrefix] at h
 refine AC.enter Tryz.func193 rfl (cV 100 (bB h fun y2 hv3 h => ?_))
 refine CO.cutR (tl 18 [(4, V.b y2)]) [] mix (by
  refine wR 6 100 ?_
  refine wJ 10 hv3 (fun hv3 => ?_) (fun hv3 => ?_)
  ·refine wR 3 100 (bB hv3 fun s3 hx5 hv3 => (W.cutS Dk hx5 (by kernel_rfl) (wR 4 100 ?_)))
   cases hv3
   exact fS [] [4]
  refine wR 8 100 ?_
  cases hv3
  exact fS [] [4]
  ) ?_
 cases h
 exact e1 4 id

theorem m_strings_HasPrefix_ok (a0 : LU) (a1 : LU) {r : Bool} (h : m_strings_HasPrefix a0 a1 = some r) :
    AC Tryz.prog (GS []) 185 [V.s a0, V.s a1] [] (V.b r) [] := by
 rw [m_strings_HasPrefix] at h
 refine AC.enter Tryz.func185 rfl (cV 100 (bB h fun r2 hx2 h => (cC 2 100 (m_stringslite_HasPrefix_ok a0 a1 hx2) cok193 ?_)))
 cases h
 exact e1 4 id

theorem mi_OpAt_ok (N : Nat) (a0 : LU) (a1 : Int) {r : (Int × Int)} (h : mi_OpAt N a0 a1 = some r) :
    AC Tryz.prog (GS [1]) 163 [V.s a0, V.i a1] [] (.tup [V.i r.1, V.i r.2]) [] := by
 rw [mi_OpAt] at h
 refine AC.enter Tryz.func163 rfl (cV 100 (CO.seq' (bB h fun r4 hx5 h => (cC 4 100 (AC.gs (mi_within_ok a1 0 (wr ((a0.length : Int) - 1)) hx5) (by decide)) cok41 ?_))))
 refine cI h (fun _ h => ?_) (fun _ h => ?_)
 ·refine cV 100 (CO.ret ?_)
  cases h
  exact eG [] (.inr rfl) (RetV.two rfl (oT (t := 4) (r := V.i 0)) (oT (t := 5) (r := V.i 0)))
 refine CO.skip (cV 100 (CO.seq' (cV 100 (CO.block' (CO.loopJ (fun (⟨a0, a1, y75, y76, y77⟩ : (LU × Int × Int × Int × Int)) => ⟨tl 39 [(0, V.s a0), (1, V.i a1), (6, V.i y75), (7, V.i y76), (16, .agg (tab_signs.map V.s)), (17, V.i y77)], []⟩) (fun n i => mi_OpAt_l1 N n i = some r) (n0 := N) (i0 := (a0, a1, 0, 0, 0)) (wS [] [0, 1, 6, 7, 16, 17]) h (fun i h => by simp [mi_OpAt_l1] at h) ?_)))))
 rintro n1 ⟨a0, a1, y75, y76, y77⟩ h125 ih126
 rw [mi_OpAt_l1] at h125
 refine cV 160 (CO.seq' ?_)
 refine cI h125 (fun _ h125 => ?_) (fun _ h125 => ?_)
 ·refine CO.skip ?_
  refine CO.join (fun (⟨a0, a1, y77, y104, y105⟩ : (LU × Int × Int × Int × Int)) => ⟨tl 39 [(0, V.s a0), (1, V.i a1), (6, V.i y104), (7, V.i y105), (16, .agg (tab_signs.map V.s)), (17, V.i y77)], []⟩) (fun i => mi_OpAt_k2 N (mi_OpAt_l1 N n1) i = some r) ?_ ?_
  · rintro ⟨a0, a1, y77, y104, y105⟩ h139
    rw [mi_OpAt_k2] at h139
    exact cK 160 ih126 (a0, a1, y104, y105, (wr (y77 + 1))) h139 [] [0, 1, 6, 7, 16, 17]
  intro hk140
  refine CO.block' (bB h125 fun e107 hx142 h125 => (CO.sw mix (wR 1 160 (W.ixA Dk V.s (l := tab_signs) hx142 (by kernel_rfl) (wR 2 160 (wF (bB h125 fun y110 hv146 h125 => ?_)))))))
  refine CO.cutR (tl 39 [(0, V.s a0), (1, V.i a1), (6, V.i y75), (7, V.i y76), (8, V.i y77), (9, V.s e107), (16, .agg (tab_signs.map V.s)), (17, V.i y77), (31, V.b y110)]) [] mix (by
   refine wR 5 160 ?_
   refine wJ 25 hv146 (fun hv146 => ?_) (fun hv146 => ?_)
   ·refine wR 2 160 (bB hv146 fun s111 hx148 hv146 => (W.cutS Dk hx148 (by kernel_rfl) (wR 1 160 (bB hv146 fun r112 hx149 hv146 => (w0 (AC.gs (m_strings_HasPrefix_ok s111 e107 hx149) (by decide)) cok185 (wR 1 160 ?_))))))
    cases hv146
    exact fS [] [0, 1, 6, 7, 8, 9, 16, 17, 31]
   refine wR 6 160 ?_
   cases hv146
   exact fS [] [0, 1, 6, 7, 8, 9, 16, 17, 31]
   ) ?_
  refine cI h125 (fun _ h125 => ?_) (fun _ h125 => ?_)
  ·exact cK 160 hk140 (a0, a1, y77, (wr (30 + y77)), (e107.length : Int)) h125 [] [0, 1, 6, 7, 16, 17]
  exact sK hk140 (a0, a1, y77, y75, y76) h125 [] [0, 1, 6, 7, 16, 17]
 refine CO.exit (cV 160 (CO.ret ?_))
 have h125 := sI h125
 subst h125
 exact eG [] (.inr rfl) (RetV.two rfl (oT (t := 4) (r := V.i y75)) (oT (t := 5) (r := V.i y76)))

theorem mi_NeedsGap_ok (N : Nat) (a0 : SToken) (a1 : SToken) {r : Bool} (h : mi_NeedsGap N a0 a1 = some r) :
    AC Tryz.prog (GS [1]) 134 [.agg [V.i a0.Kind, V.s a0.Text, V.i a0.At], .agg [V.i a1.Kind, V.s a1.Text, V.i a1.At]] [] (V.b r) [] := by
 rw [mi_NeedsGap] at h
 refine AC.enter Tryz.func134 rfl (cV 100 (CO.seq' (bB h fun y2 hv15 h => ?_)))
 refine CO.cutR (tl 91 [(2, .loc 100 0), (3, .loc 101 0), (31, V.b y2)]) [(100, .cells 105 [V.i a0.Kind, V.s a0.Text, V.i a0.At]), (101, .cells 105 [V.i a1.Kind, V.s a1.Text, V.i a1.At])] mix (by
  refine wR 4 102 ?_
  refine wJ 12 hv15 (fun hv15 => ?_) (fun hv15 => ?_)
  ·refine wR 19 102 ?_
   cases hv15
   exact fS [(100, 100), (101, 101)] [2, 3, 31]
  refine wR 5 102 ?_
  refine wJ 17 hv15 (fun hv15 => ?_) (fun hv15 => ?_)
  ·refine wR 14 102 ?_
   cases hv15
   exact fS [(100, 100), (101, 101)] [2, 3, 31]
  refine wR 5 102 ?_
  refine wJ 22 hv15 (fun hv15 => ?_) (fun hv15 => ?_)
  ·refine wR 9 102 ?_
   cases hv15
   exact fS [(100, 100), (101, 101)] [2, 3, 31]
  refine wR 5 102 ?_
  refine wJ 27 hv15 (fun hv15 => ?_) (fun hv15 => ?_)
  ·refine wR 4 102 ?_
   cases hv15
   exact fS [(100, 100), (101, 101)] [2, 3, 31]
  refine wR 4 102 ?_
  cases hv15
  exact fS [(100, 100), (101, 101)] [2, 3, 31]
  ) ?_
 refine cI h (fun _ h => ?_) (fun _ h => ?_)
 ·refine cV 102 ?_
  cases h
  exact e1 4 id
 refine CO.skip (bB h fun b5 hx23 h => (bB h fun b6 hx24 h => (CO.sw mix (wR 6 102 (W.ixS Dk hx23 (by kernel_rfl) (wR 3 102 (W.ixS Dk hx24 (by kernel_rfl) (wR 3 102 ?_))))))))
 refine wF (CO.seq' (CO.block' (bB h fun y20 hv51 h => ?_)))
 refine CO.cutR (tl 91 [(2, .loc 100 0), (3, .loc 101 0), (6, V.i (wr ((b6).toNat : Int))), (44, V.b y20)]) [(100, .cells 105 [V.i a0.Kind, V.s a0.Text, V.i a0.At]), (101, .cells 105 [V.i a1.Kind, V.s a1.Text, V.i a1.At])] mix (by
  refine wR 1 102 (bB hv51 fun r21 hx52 hv51 => (w0 (AC.gs (mi_IsWordByte_ok (wr ((b5).toNat : Int)) hx52) (by decide)) cok162 (wR 1 102 ?_)))
  refine wJ 47 hv51 (fun hv51 => ?_) (fun hv51 => ?_)
  ·refine wR 1 102 (bB hv51 fun r22 hx54 hv51 => (w0 (AC.gs (mi_IsWordByte_ok (wr ((b6).toNat : Int)) hx54) (by decide)) cok162 (wR 2 102 ?_)))
   cases hv51
   exact fS [(100, 100), (101, 101)] [2, 3, 6, 44]
  refine wR 4 102 ?_
  cases hv51
  exact fS [(100, 100), (101, 101)] [2, 3, 6, 44]
  ) ?_
 refine cI h (fun _ h => ?_) (fun _ h => ?_)
 ·refine cV 102 ?_
  cases h
  exact e1 4 id
 refine bB h fun y24 hv59 h => ?_
 refine CO.cutR (tl 91 [(2, .loc 100 0), (3, .loc 101 0), (51, V.b y24)]) [(100, .cells 105 [V.i a0.Kind, V.s a0.Text, V.i a0.At]), (101, .cells 105 [V.i a1.Kind, V.s a1.Text, V.i a1.At])] mix (by
  refine wR 4 102 ?_
  refine wJ 55 hv59 (fun hv59 => ?_) (fun hv59 => ?_)
  ·refine wR 1 102 (bB hv59 fun r25 hx61 hv59 => (w0 (AC.gs (mi_IsWordByte_ok (wr ((b6).toNat : Int)) hx61) (by decide)) cok162 (wR 1 102 ?_)))
   refine wJ 58 hv59 (fun hv59 => ?_) (fun hv59 => ?_)
   ·refine wR 5 102 ?_
    cases hv59
    exact fS [(100, 100), (101, 101)] [2, 3, 51]
   refine wR 5 102 ?_
   cases hv59
   exact fS [(100, 100), (101, 101)] [2, 3, 51]
  refine wR 8 102 ?_
  cases hv59
  exact fS [(100, 100), (101, 101)] [2, 3, 51]
  ) ?_
 refine cI h (fun _ h => ?_) (fun _ h => ?_)
 ·refine cV 102 ?_
  cases h
  exact e1 4 id
 refine bB h fun y26 hv65 h => ?_
 refine CO.cutR (tl 91 [(2, .loc 100 0), (3, .loc 101 0), (63, V.b y26)]) [(100, .cells 105 [V.i a0.Kind, V.s a0.Text, V.i a0.At]), (101, .cells 105 [V.i a1.Kind, V.s a1.Text, V.i a1.At])] mix (by
  refine wR 4 102 ?_
  refine wJ 67 hv65 (fun hv65 => ?_) (fun hv65 => ?_)
  ·refine wR 5 102 ?_
   cases hv65
   exact fS [(100, 100), (101, 101)] [2, 3, 63]
  refine wR 5 102 ?_
  cases hv65
  exact fS [(100, 100), (101, 101)] [2, 3, 63]
  ) ?_
 refine cI h (fun _ h => ?_) (fun _ h => ?_)
 ·refine cV 102 ?_
  cases h
  exact e1 4 id
 refine bB h fun r28 hx69 h => (cC 2 102 (AC.gs (mi_isSignKind_ok a0.Kind hx69) (by decide)) cok130 ?_)
 refine cI h (fun _ h => ?_) (fun _ h => ?_)
 ·refine cV 102 ?_
  cases h
  exact e1 4 id
 refine CO.skip (bB h fun s31 hx73 h => (bB h fun r32 hx74 h => (CO.sw mix (wR 4 102 (W.cat hx73 (by kernel_rfl) (w0 (mi_OpAt_ok N s31 0 hx74) cok163 (wR 5 102 (wF ?_))))))))
 refine cV 102 ?_
 cases h
 exact e1 4 id

structure RecOk6 (R : Rec6) : Prop where
 mi_unaryDoc : ∀ (a0 : STree) (a1 : SPos) (r : SDoc), R.mi_unaryDoc a0 a1 = some r → AC Tryz.prog (GS [0, 1]) 96 [.agg [V.i a0.kind, V.i a0.op, V.s a0.text, V.s a0.other, sL eST a0.kids], .agg [V.i a1.Level, V.b a1.Dollar, V.b a1.NoIn, V.b a1.NoGt, V.b a1.NoSign]] [] (.agg [V.i r.kind, V.i r.n, V.s r.text, sL encSDoc r.kids, V.i r.group]) []
 mi_kidDoc : ∀ (a0 : STree) (a1 : Int) (a2 : SPos) (r : SDoc), R.mi_kidDoc a0 a1 a2 = some r → AC Tryz.prog (GS [0, 1]) 95 [.agg [V.i a0.kind, V.i a0.op, V.s a0.text, V.s a0.other, sL eST a0.kids], V.i a1, .agg [V.i a2.Level, V.b a2.Dollar, V.b a2.NoIn, V.b a2.NoGt, V.b a2.NoSign]] [] (.agg [V.i r.kind, V.i r.n, V.s r.text, sL encSDoc r.kids, V.i r.group]) []
 mi_listDoc : ∀ (a0 : LS) (r : SDoc), R.mi_listDoc a0 = some r → AC Tryz.prog (GS [0, 1]) 92 [sL eST a0, .fn 93 []] [] (.agg [V.i r.kind, V.i r.n, V.s r.text, sL encSDoc r.kids, V.i r.group]) []
 mi_bareDoc : ∀ (a0 : STree) (a1 : SPos) (r : SDoc), R.mi_bareDoc a0 a1 = some r → AC Tryz.prog (GS [0, 1]) 58 [.agg [V.i a0.kind, V.i a0.op, V.s a0.text, V.s a0.other, sL eST a0.kids], .agg [V.i a1.Level, V.b a1.Dollar, V.b a1.NoIn, V.b a1.NoGt, V.b a1.NoSign]] [] (.agg [V.i r.kind, V.i r.n, V.s r.text, sL encSDoc r.kids, V.i r.group]) []
 mi_exprDoc : ∀ (a0 : STree) (a1 : SPos) (r : SDoc), R.mi_exprDoc a0 a1 = some r → AC Tryz.prog (GS [0, 1]) 27 [.agg [V.i a0.kind, V.i a0.op, V.s a0.text, V.s a0.other, sL eST a0.kids], .agg [V.i a1.Level, V.b a1.Dollar, V.b a1.NoIn, V.b a1.NoGt, V.b a1.NoSign]] [] (.agg [V.i r.kind, V.i r.n, V.s r.text, sL encSDoc r.kids, V.i r.group]) []

theorem mi_unaryDoc_F_ok (N : Nat) (R : Rec6) (HR : RecOk6 R) (a0 : STree) (a1 : SPos) {r : SDoc} (h : mi_unaryDoc_F N R a0 a1 = some r) :
    AC Tryz.prog (GS [0, 1]) 96 [.agg [V.i a0.kind, V.i a0.op, V.s a0.text, V.s a0.other, sL eST a0.kids], .agg [V.i a1.Level, V.b a1.Dollar, V.b a1.NoIn, V.b a1.NoGt, V.b a1.NoSign]] [] (.agg [V.i r.kind, V.i r.n, V.s r.text, sL encSDoc r.kids, V.i r.group]) [] := by
 rw [mi_unaryDoc_F] at h
 refine AC.enter Tryz.func96 rfl (cV 100 (cU 3 103 (tl 31 [(2, .loc 100 0), (3, .loc 101 0), (4, .loc 102 0), (5, .loc 103 0)]) [(103, .cells 143 [.c (.slice none 0 0), .c (.slice none 0 0), V.b false]), (102, .cells 53 [V.i 0, V.i 0, V.s [], .c (.slice none 0 0), V.i 0]), (101, .cells 30 [V.i a1.Level, V.b a1.Dollar, V.b a1.NoIn, V.b a1.NoGt, V.b a1.NoSign]), (100, .cells 57 [V.i a0.kind, V.i a0.op, V.s a0.text, V.s a0.other, sL eST a0.kids])] (CO.weak (st' := ⟨tl 31 [(2, .loc 100 0), (3, .loc 101 0), (4, .loc 102 0), (5, .loc 103 0)], [(104, vX 105 3 eTk []), (103, .cells 143 [.own 104, .c (.slice none 0 0), V.b false]), (102, .cells 53 [V.i 0, V.i 0, V.s [], .c (.slice none 0 0), V.i 0]), (101, .cells 30 [V.i a1.Level, V.b a1.Dollar, V.b a1.NoIn, V.b a1.NoGt, V.b a1.NoSign]), (100, .cells 57 [V.i a0.kind, V.i a0.op, V.s a0.text, V.s a0.other, sL eST a0.kids])]⟩) ((Weak.nilCell 103 0 104 105 3 (ety := 143) (cs := [.c (.slice none 0 0), .c (.slice none 0 0), V.b false]) (by kernel_rfl) (by kernel_rfl) (by kernel_rfl)).trans (Weak.eq (by kernel_rfl) (by kernel_rfl))) (CO.weak (st' := ⟨tl 31 [(2, .loc 100 0), (3, .loc 101 0), (4, .loc 102 0), (5, .loc 103 0)], [(105, vX 174 2 encSSpan []), (104, vX 105 3 eTk []), (103, .cells 143 [.own 104, .own 105, V.b false]), (102, .cells 53 [V.i 0, V.i 0, V.s [], .c (.slice none 0 0), V.i 0]), (101, .cells 30 [V.i a1.Level, V.b a1.Dollar, V.b a1.NoIn, V.b a1.NoGt, V.b a1.NoSign]), (100, .cells 57 [V.i a0.kind, V.i a0.op, V.s a0.text, V.s a0.other, sL eST a0.kids])]⟩) ((Weak.nilCell 103 1 105 174 2 (ety := 143) (cs := [.own 104, .c (.slice none 0 0), V.b false]) (by kernel_rfl) (by kernel_rfl) (by kernel_rfl)).trans (Weak.eq (by kernel_rfl) (by kernel_rfl))) (bB h fun r4 hx4 h => (CO.sw mix (wR 2 106 (wC (mi_speller__kid_ok N a0 0 a1 false [] [] hx4) cok133 [(103, 0), (104, 1), (105, 2)] [(0, 103), (100, 106), (101, 107)] [106, 107] ?_))))))))
 refine wF (bB h fun r6 hx6 h => (cC 2 108 (mi_SpellOf_ok a0.op hx6) cok94 ?_))
 refine CO.join (fun (⟨a0, a1, y15⟩ : (STree × SPos × LU)) => ⟨tl 31 [(2, .loc 100 0), (3, .loc 101 0), (4, .loc 102 0), (6, V.s y15)], [(100, .cells 57 [V.i a0.kind, V.i a0.op, V.s a0.text, V.s a0.other, sL eST a0.kids]), (101, .cells 30 [V.i a1.Level, V.b a1.Dollar, V.b a1.NoIn, V.b a1.NoGt, V.b a1.NoSign]), (102, .cells 53 [V.i 0, V.i 0, V.s [], .c (.slice none 0 0), V.i 0])]⟩) (fun i => mi_unaryDoc_k1 N R i = some r) ?_ ?_
 · rintro ⟨a0, a1, y15⟩ h16
   rw [mi_unaryDoc_k1] at h16
   refine bB h16 fun r19 hx20 h16 => (bB h16 fun r20 hx21 h16 => (bB h16 fun r21 hx22 h16 => (CO.sw mix (wR 1 108 (w0 (AC.gs (mi_text_ok y15 hx20) (by decide)) cok60 (wR 2 108 (w0 (HR.mi_kidDoc a0 0 a1 _ hx21) cok95 (W.layop Dk lO (by kernel_rfl) 108 { v := .own 108, R := [], new := [(108, .vec true 53 5 [[V.i r19.kind, V.i r19.n, V.s r19.text, sL encSDoc r19.kids, V.i r19.group], [V.i r20.kind, V.i r20.n, V.s r20.text, sL encSDoc r20.kids, V.i r20.group]])], N := [108] } (by kernel_rfl) ?_))))))))
   refine W.vecEq 108 (nn := true) (e := 53) (k := 5) (rows := [[V.i r19.kind, V.i r19.n, V.s r19.text, sL encSDoc r19.kids, V.i r19.group], [V.i r20.kind, V.i r20.n, V.s r20.text, sL encSDoc r20.kids, V.i r20.group]]) (rows' := [r19, r20].map encSDoc) (by kernel_rfl) (by simp only [List.map_cons, List.map_nil, encSDoc_eq]) (wD (AC.gs (mi_cat_ok [r19, r20] hx22) (by decide)) cok59 [] [] [] (LayOk.cons (j := 108) encSDoc encSDoc ([r19, r20] : LO) (by kernel_rfl) (share_encSDoc) lO) (wR 1 109 (wF (CO.ret ?_))))
   have h16 := sI h16
   subst h16
   exact eG [] (.inr rfl) (RetV.one rfl (OneR.cell Dk (r := .agg [V.i r21.kind, V.i r21.n, V.s r21.text, sL encSDoc r21.kids, V.i r21.group]) (i := 102) (ety := 53) (cs := [V.i r21.kind, V.i r21.n, V.s r21.text, sL encSDoc r21.kids, V.i r21.group]) (by kernel_rfl) (by kernel_rfl) (by kernel_rfl)))
 intro hk23
 refine bB h fun r25 hx27 h => (bB h fun e26 hx28 h => (bB h fun r27 hx29 h => (CO.sw mix (wR 2 108 (w0 (mi_sign_ok a0.op hx27) cok135 (wR 2 108 (W.ixO Dk eTk hx28 106 3 (by kernel_rfl) (W.ldO Dk eTk hx28 105 106 0 (.agg [V.i e26.Kind, V.s e26.Text, V.i e26.At]) (by kernel_rfl) (by kernel_rfl) ?_))))))))
 refine w0 (AC.gs (mi_NeedsGap_ok N r25 e26 hx29) (by decide)) cok134 (wF ?_)
 refine cI h (fun _ h => ?_) (fun _ h => ?_)
 ·refine bB h fun s29 hx32 h => (CO.w mix (wR 1 108 (W.cat hx32 (by kernel_rfl) (wR 1 108 ?_))))
  exact wK hk23 (a0, a1, s29) h [(100, 100), (101, 101), (102, 102)] [2, 3, 4, 6]
 exact sK hk23 (a0, a1, r6) h [(100, 100), (101, 101), (102, 102)] [2, 3, 4, 6]

theorem mi_kidDoc_F_ok (N : Nat) (R : Rec6) (HR : RecOk6 R) (a0 : STree) (a1 : Int) (a2 : SPos) {r : SDoc} (h : mi_kidDoc_F N R a0 a1 a2 = some r) :
    AC Tryz.prog (GS [0, 1]) 95 [.agg [V.i a0.kind, V.i a0.op, V.s a0.text, V.s a0.other, sL eST a0.kids], V.i a1, .agg [V.i a2.Level, V.b a2.Dollar, V.b a2.NoIn, V.b a2.NoGt, V.b a2.NoSign]] [] (.agg [V.i r.kind, V.i r.n, V.s r.text, sL encSDoc r.kids, V.i r.group]) [] := by
 rw [mi_kidDoc_F] at h
 refine AC.enter Tryz.func95 rfl (cV 100 (bB h fun r2 hx2 h => (CO.sw mix (wR 1 103 (wC (AC.gs (mi_tree__node_ok N a0 hx2) (by decide)) cok57 [] [(100, 103)] [103] (wR 2 104 (wF (bB h fun r4 hx4 h => ?_))))))))
 refine CO.sw mix (wR 3 105 (W.lend (AC.gs (mi_KidPos_ok r2 a1 a2 hx4) (by decide)) cok131 [] [] (LayOk.cons (j := 103) eNI eNI r2.Kids (by kernel_rfl) (fun _ => rfl) lO) (.agg _ (.cons (.c _) (.cons (.c _) (.cons (.c _) (.cons (.c _) (.cons (.c _) .nil)))))) .nil (by kernel_rfl) (by kernel_rfl) (wR 2 105 (wF (CO.seq' (bB h fun r12 hx13 h => (CO.sw mix (wR 2 106 ?_))))))))
 refine W.lend (AC.gs (mi_isTarget_ok r2 a1 hx13) (by decide)) cok132 [] [] (LayOk.cons (j := 103) eNI eNI r2.Kids (by kernel_rfl) (fun _ => rfl) lO) (.c _) .nil (by kernel_rfl) (by kernel_rfl) (wF ?_)
 refine cI h (fun _ h => ?_) (fun _ h => ?_)
 ·refine bB h fun e15 hx17 h => (bB h fun r16 hx18 h => (CO.sw mix (wR 3 106 (W.ixDr Dk eST hx17 5 (by kernel_rfl) (encSTree_eq e15) (by kernel_rfl) (wR 2 106 (w0 (HR.mi_bareDoc e15 r4 _ hx18) cok58 (wR 1 106 (wF ?_))))))))
  refine CO.ret ?_
  have h := sI h
  subst h
  exact eG [] (.inr rfl) (RetV.one rfl (OneR.cell Dk (r := .agg [V.i r16.kind, V.i r16.n, V.s r16.text, sL encSDoc r16.kids, V.i r16.group]) (i := 102) (ety := 53) (cs := [V.i r16.kind, V.i r16.n, V.s r16.text, sL encSDoc r16.kids, V.i r16.group]) (by kernel_rfl) (by kernel_rfl) (by kernel_rfl)))
 refine CO.skip (bB h fun e19 hx21 h => (bB h fun r20 hx22 h => (CO.sw mix (wR 3 106 (W.ixDr Dk eST hx21 5 (by kernel_rfl) (encSTree_eq e19) (by kernel_rfl) (wR 2 106 (w0 (HR.mi_exprDoc e19 r4 _ hx22) cok27 (wR 1 106 ?_))))))))
 refine wF (CO.ret ?_)
 have h := sI h
 subst h
 exact eG [] (.inr rfl) (RetV.one rfl (OneR.cell Dk (r := .agg [V.i r20.kind, V.i r20.n, V.s r20.text, sL encSDoc r20.kids, V.i r20.group]) (i := 102) (ety := 53) (cs := [V.i r20.kind, V.i r20.n, V.s r20.text, sL encSDoc r20.kids, V.i r20.group]) (by kernel_rfl) (by kernel_rfl) (by kernel_rfl)))

theorem mi_listDoc_F_ok (N : Nat) (R : Rec6) (HR : RecOk6 R) (a0 : LS) {r : SDoc} (h : mi_listDoc_F N R a0 = some r) :
    AC Tryz.prog (GS [0, 1]) 92 [sL eST a0, .fn 93 []] [] (.agg [V.i r.kind, V.i r.n, V.s r.text, sL encSDoc r.kids, V.i r.group]) [] := by
 rw [mi_listDoc_F] at h
 refine AC.enter Tryz.func92 rfl (cV 100 (CO.sw mix (W.layop Dk lO (by kernel_rfl) 101 { v := .own 101, R := [], new := [(101, .vec true 53 5 [])], N := [101] } (by kernel_rfl) (W.vecEq 101 (nn := true) (e := 53) (k := 5) (rows := []) (rows' := [].map encSDoc) (by kernel_rfl) rfl (wR 1 102 (wF (CO.seq' (CO.sw mix ?_))))))))
 refine wR 1 102 (wN eST a0 [] (wR 1 102 (wF (CO.block' (CO.loopJ (fun (⟨a0, y121, y122⟩ : (LS × Int × LO)) => ⟨tl 36 [(1, .fn 93 []), (4, .loc 100 0), (5, .own 101), (9, sL eST a0), (10, V.i (a0.length : Int)), (11, V.i y121)], [(100, .cells 53 [V.i 0, V.i 0, V.s [], .c (.slice none 0 0), V.i 0]), (101, vX 53 5 encSDoc y122)]⟩) (fun n i => mi_listDoc_l1 N R n i = some r) (n0 := N) (i0 := (a0, 0, [])) (wS [(100, 100), (101, 101)] [1, 4, 5, 9, 10, 11]) h (fun i h => by simp [mi_listDoc_l1] at h) ?_)))))
 rintro n1 ⟨a0, y121, y122⟩ h189 ih190
 rw [mi_listDoc_l1] at h189
 refine cV 170 (CO.seq' ?_)
 refine cI h189 (fun _ h189 => ?_) (fun _ h189 => ?_)
 ·refine CO.skip (CO.seq' (CO.block' (bB h189 fun e189 hx218 h189 => (CO.sw mix (wR 1 170 (W.ixDr Dk eST hx218 5 (by kernel_rfl) (encSTree_eq e189) (by kernel_rfl) (wR 4 170 (wF ?_))))))))
  refine CO.join (fun (⟨y121, a0, e189, y196⟩ : (Int × LS × STree × LO)) => ⟨tl 36 [(1, .fn 93 []), (4, .loc 100 0), (5, .own 101), (6, V.i y121), (7, .loc 102 0), (9, sL eST a0), (10, V.i (a0.length : Int)), (11, V.i y121)], [(100, .cells 53 [V.i 0, V.i 0, V.s [], .c (.slice none 0 0), V.i 0]), (101, vX 53 5 encSDoc y196), (102, .cells 57 [V.i e189.kind, V.i e189.op, V.s e189.text, V.s e189.other, sL eST e189.kids])]⟩) (fun i => mi_listDoc_k2 N R (mi_listDoc_l1 N R n1) i = some r) ?_ ?_
  · rintro ⟨y121, a0, e189, y196⟩ h226
    rw [mi_listDoc_k2] at h226
    refine bB h226 fun r200 hx230 h226 => (bB h226 fun r201 hx231 h226 => (bB h226 fun x202 hx232 h226 => ?_))
    refine CO.endR (tl 36 [(1, .fn 93 []), (4, .loc 100 0), (5, .own 174), (9, sL eST a0), (10, V.i (a0.length : Int)), (11, V.i y121)]) [(174, vX 53 5 encSDoc x202), (100, .cells 53 [V.i 0, V.i 0, V.s [], .c (.slice none 0 0), V.i 0])] mix (by
     refine wR 4 173 (w0 (AC.gs (mi_atTop_ok y121 hx230) (by decide)) cok93 (w0 (HR.mi_exprDoc e189 r200 _ hx231) cok27 (W.layop Dk lO (by kernel_rfl) 173 { v := .own 173, R := [], new := [(173, .vec true 53 5 [[V.i r201.kind, V.i r201.n, V.s r201.text, sL encSDoc r201.kids, V.i r201.group]])], N := [173] } (by kernel_rfl) (W.vecEq 173 (nn := true) (e := 53) (k := 5) (rows := [[V.i r201.kind, V.i r201.n, V.s r201.text, sL encSDoc r201.kids, V.i r201.group]]) (rows' := [r201].map encSDoc) (by kernel_rfl) (by simp only [List.map_cons, List.map_nil, encSDoc_eq]) (W.appO Dk encSDoc (a := 101) (c := 173) (el := 53) (sz := 5) 64 hx232 rfl 174 (by kernel_rfl) (wR 1 175 ?_))))))
     exact fI
     ) (fun st hw => ?_)
    refine CO.weak hw ?_
    exact cK 175 ih190 (a0, (wr (y121 + 1)), x202) h226 [(100, 100), (174, 101)] [1, 4, 5, 9, 10, 11]
  intro hk233
  refine cV 171 ?_
  refine cI h189 (fun _ h189 => ?_) (fun _ h189 => ?_)
  ·refine bB h189 fun r206 hx238 h189 => (bB h189 fun r207 hx239 h189 => (bB h189 fun x208 hx240 h189 => (CO.w mix (wR 1 171 (w0 (AC.gs (mi_text_ok [44] hx238) (by decide)) cok60 (w0 (AC.gs (mi_line_ok  hx239) (by decide)) cok99 (W.layop Dk lO (by kernel_rfl) 171 { v := .own 171, R := [], new := [(171, .vec true 53 5 [[V.i r206.kind, V.i r206.n, V.s r206.text, sL encSDoc r206.kids, V.i r206.group], [V.i r207.kind, V.i r207.n, V.s r207.text, sL encSDoc r207.kids, V.i r207.group]])], N := [171] } (by kernel_rfl) (W.vecEq 171 (nn := true) (e := 53) (k := 5) (rows := [[V.i r206.kind, V.i r206.n, V.s r206.text, sL encSDoc r206.kids, V.i r206.group], [V.i r207.kind, V.i r207.n, V.s r207.text, sL encSDoc r207.kids, V.i r207.group]]) (rows' := [r206, r207].map encSDoc) (by kernel_rfl) (by simp only [List.map_cons, List.map_nil, encSDoc_eq]) ?_))))))))
   refine W.appO Dk encSDoc (a := 101) (c := 171) (el := 53) (sz := 5) 64 hx240 rfl 172 (by kernel_rfl) (wR 1 173 ?_)
   exact wK hk233 (y121, a0, e189, x208) h189 [(100, 100), (172, 101), (170, 102)] [1, 4, 5, 6, 7, 9, 10, 11]
  exact sK hk233 (y121, a0, e189, y122) h189 [(100, 100), (101, 101), (170, 102)] [1, 4, 5, 6, 7, 9, 10, 11]
 refine CO.exit (bB h189 fun r212 hx244 h189 => (bB h189 fun r213 hx245 h189 => (bB h189 fun r214 hx246 h189 => (CO.sw mix (wR 1 170 (wD (AC.gs (mi_cat_ok y122 hx244) (by decide)) cok59 [] [] [] (LayOk.cons (j := 101) encSDoc encSDoc y122 (by kernel_rfl) (share_encSDoc) lO) (w0 (AC.gs (mi_nest_ok r212 hx245) (by decide)) cok98 (w0 (AC.gs (mi_group_ok r213 hx246) (by decide)) cok97 ?_))))))))
 refine wR 1 170 (wF (CO.ret ?_))
 have h189 := sI h189
 subst h189
 exact eG [] (.inr rfl) (RetV.one rfl (OneR.cell Dk (r := .agg [V.i r214.kind, V.i r214.n, V.s r214.text, sL encSDoc r214.kids, V.i r214.group]) (i := 100) (ety := 53) (cs := [V.i r214.kind, V.i r214.n, V.s r214.text, sL encSDoc r214.kids, V.i r214.group]) (by kernel_rfl) (by kernel_rfl) (by kernel_rfl)))

theorem mi_bareDoc_F_ok (N : Nat) (R : Rec6) (HR : RecOk6 R) (a0 : STree) (a1 : SPos) {r : SDoc} (h : mi_bareDoc_F N R a0 a1 = some r) :
    AC Tryz.prog (GS [0, 1]) 58 [.agg [V.i a0.kind, V.i a0.op, V.s a0.text, V.s a0.other, sL eST a0.kids], .agg [V.i a1.Level, V.b a1.Dollar, V.b a1.NoIn, V.b a1.NoGt, V.b a1.NoSign]] [] (.agg [V.i r.kind, V.i r.n, V.s r.text, sL encSDoc r.kids, V.i r.group]) [] := by
 rw [mi_bareDoc_F] at h
 refine AC.enter Tryz.func58 rfl (cV 100 (CO.seq' (cV 103 (CO.block' ?_))))
 refine CO.join (fun (⟨a0, a1, y89⟩ : (STree × SPos × Bool)) => ⟨tl 173 [(2, .loc 100 0), (3, .loc 101 0), (4, .loc 102 0), (8, V.i a0.kind), (9, V.b y89)], [(100, .cells 57 [V.i a0.kind, V.i a0.op, V.s a0.text, V.s a0.other, sL eST a0.kids]), (101, .cells 30 [V.i a1.Level, V.b a1.Dollar, V.b a1.NoIn, V.b a1.NoGt, V.b a1.NoSign]), (102, .cells 53 [V.i 0, V.i 0, V.s [], .c (.slice none 0 0), V.i 0])]⟩) (fun i => mi_bareDoc_k1 N R i = some r) ?_ ?_
 · rintro ⟨a0, a1, y89⟩ h113
   rw [mi_bareDoc_k1] at h113
   refine cI h113 (fun _ h113 => ?_) (fun _ h113 => ?_)
   ·refine bB h113 fun r91 hx116 h113 => (cC 2 103 (AC.gs (mi_text_ok a0.text hx116) (by decide)) cok60 (CO.ret ?_))
    have h113 := sI h113
    subst h113
    exact eG [] (.inr rfl) (RetV.one rfl (OneR.cell Dk (r := .agg [V.i r91.kind, V.i r91.n, V.s r91.text, sL encSDoc r91.kids, V.i r91.group]) (i := 102) (ety := 53) (cs := [V.i r91.kind, V.i r91.n, V.s r91.text, sL encSDoc r91.kids, V.i r91.group]) (by kernel_rfl) (by kernel_rfl) (by kernel_rfl)))
   refine cV 103 ?_
   refine cI h113 (fun _ h113 => ?_) (fun _ h113 => ?_)
   ·refine bB h113 fun s97 hx123 h113 => (bB h113 fun r98 hx124 h113 => (bB h113 fun r99 hx125 h113 => (bB h113 fun r100 hx126 h113 => (bB h113 fun r101 hx127 h113 => (CO.sw mix (wR 2 103 (W.cat hx123 (by kernel_rfl) (w0 (AC.gs (mi_text_ok s97 hx124) (by decide)) cok60 ?_))))))))
    refine wR 2 103 (w0 (HR.mi_listDoc a0.kids _ hx125) cok92 (w0 (AC.gs (mi_text_ok [93] hx126) (by decide)) cok60 (W.layop Dk lO (by kernel_rfl) 103 { v := .own 103, R := [], new := [(103, .vec true 53 5 [[V.i r98.kind, V.i r98.n, V.s r98.text, sL encSDoc r98.kids, V.i r98.group], [V.i r99.kind, V.i r99.n, V.s r99.text, sL encSDoc r99.kids, V.i r99.group], [V.i r100.kind, V.i r100.n, V.s r100.text, sL encSDoc r100.kids, V.i r100.group]])], N := [103] } (by kernel_rfl) (W.vecEq 103 (nn := true) (e := 53) (k := 5) (rows := [[V.i r98.kind, V.i r98.n, V.s r98.text, sL encSDoc r98.kids, V.i r98.group], [V.i r99.kind, V.i r99.n, V.s r99.text, sL encSDoc r99.kids, V.i r99.group], [V.i r100.kind, V.i r100.n, V.s r100.text, sL encSDoc r100.kids, V.i r100.group]]) (rows' := [r98, r99, r100].map encSDoc) (by kernel_rfl) (by simp only [List.map_cons, List.map_nil, encSDoc_eq]) (wD (AC.gs (mi_cat_ok [r98, r99, r100] hx127) (by decide)) cok59 [] [] [] (LayOk.cons (j := 103) encSDoc encSDoc ([r98, r99, r100] : LO) (by kernel_rfl) (share_encSDoc) lO) (wR 1 104 (wF (CO.ret ?_))))))))
    have h113 := sI h113
    subst h113
    exact eG [] (.inr rfl) (RetV.one rfl (OneR.cell Dk (r := .agg [V.i r101.kind, V.i r101.n, V.s r101.text, sL encSDoc r101.kids, V.i r101.group]) (i := 102) (ety := 53) (cs := [V.i r101.kind, V.i r101.n, V.s r101.text, sL encSDoc r101.kids, V.i r101.group]) (by kernel_rfl) (by kernel_rfl) (by kernel_rfl)))
   refine CO.join (fun (⟨a0, a1, y102⟩ : (STree × SPos × Bool)) => ⟨tl 173 [(2, .loc 100 0), (3, .loc 101 0), (4, .loc 102 0), (8, V.i a0.kind), (29, V.b y102)], [(100, .cells 57 [V.i a0.kind, V.i a0.op, V.s a0.text, V.s a0.other, sL eST a0.kids]), (101, .cells 30 [V.i a1.Level, V.b a1.Dollar, V.b a1.NoIn, V.b a1.NoGt, V.b a1.NoSign]), (102, .cells 53 [V.i 0, V.i 0, V.s [], .c (.slice none 0 0), V.i 0])]⟩) (fun i => mi_bareDoc_k2 N R i = some r) ?_ ?_
   · rintro ⟨a0, a1, y102⟩ h129
     rw [mi_bareDoc_k2] at h129
     refine cI h129 (fun _ h129 => ?_) (fun _ h129 => ?_)
     ·refine bB h129 fun s108 hx136 h129 => (bB h129 fun r109 hx137 h129 => (bB h129 fun r110 hx138 h129 => (bB h129 fun r111 hx139 h129 => (bB h129 fun r112 hx140 h129 => (CO.sw mix (wR 2 103 (W.cat hx136 (by kernel_rfl) (w0 (AC.gs (mi_text_ok s108 hx137) (by decide)) cok60 ?_))))))))
      refine wR 2 103 (w0 (HR.mi_listDoc a0.kids _ hx138) cok92 (w0 (AC.gs (mi_text_ok [41] hx139) (by decide)) cok60 (W.layop Dk lO (by kernel_rfl) 103 { v := .own 103, R := [], new := [(103, .vec true 53 5 [[V.i r109.kind, V.i r109.n, V.s r109.text, sL encSDoc r109.kids, V.i r109.group], [V.i r110.kind, V.i r110.n, V.s r110.text, sL encSDoc r110.kids, V.i r110.group], [V.i r111.kind, V.i r111.n, V.s r111.text, sL encSDoc r111.kids, V.i r111.group]])], N := [103] } (by kernel_rfl) (W.vecEq 103 (nn := true) (e := 53) (k := 5) (rows := [[V.i r109.kind, V.i r109.n, V.s r109.text, sL encSDoc r109.kids, V.i r109.group], [V.i r110.kind, V.i r110.n, V.s r110.text, sL encSDoc r110.kids, V.i r110.group], [V.i r111.kind, V.i r111.n, V.s r111.text, sL encSDoc r111.kids, V.i r111.group]]) (rows' := [r109, r110, r111].map encSDoc) (by kernel_rfl) (by simp only [List.map_cons, List.map_nil, encSDoc_eq]) (wD (AC.gs (mi_cat_ok [r109, r110, r111] hx140) (by decide)) cok59 [] [] [] (LayOk.cons (j := 103) encSDoc encSDoc ([r109, r110, r111] : LO) (by kernel_rfl) (share_encSDoc) lO) (wR 1 104 (wF (CO.ret ?_))))))))
      have h129 := sI h129
      subst h129
      exact eG [] (.inr rfl) (RetV.one rfl (OneR.cell Dk (r := .agg [V.i r112.kind, V.i r112.n, V.s r112.text, sL encSDoc r112.kids, V.i r112.group]) (i := 102) (ety := 53) (cs := [V.i r112.kind, V.i r112.n, V.s r112.text, sL encSDoc r112.kids, V.i r112.group]) (by kernel_rfl) (by kernel_rfl) (by kernel_rfl)))
     refine cV 103 ?_
     refine cI h129 (fun _ h129 => ?_) (fun _ h129 => ?_)
     ·refine bB h129 fun r117 hx146 h129 => (bB h129 fun r118 hx147 h129 => (bB h129 fun r119 hx148 h129 => (bB h129 fun r120 hx149 h129 => (CO.sw mix (wR 2 103 (w0 (mi_SpellOf_ok a0.op hx146) cok94 (w0 (AC.gs (mi_text_ok r117 hx147) (by decide)) cok60 (wR 2 103 ?_))))))))
      refine w0 (HR.mi_kidDoc a0 0 a1 _ hx148) cok95 (W.layop Dk lO (by kernel_rfl) 103 { v := .own 103, R := [], new := [(103, .vec true 53 5 [[V.i r118.kind, V.i r118.n, V.s r118.text, sL encSDoc r118.kids, V.i r118.group], [V.i r119.kind, V.i r119.n, V.s r119.text, sL encSDoc r119.kids, V.i r119.group]])], N := [103] } (by kernel_rfl) (W.vecEq 103 (nn := true) (e := 53) (k := 5) (rows := [[V.i r118.kind, V.i r118.n, V.s r118.text, sL encSDoc r118.kids, V.i r118.group], [V.i r119.kind, V.i r119.n, V.s r119.text, sL encSDoc r119.kids, V.i r119.group]]) (rows' := [r118, r119].map encSDoc) (by kernel_rfl) (by simp only [List.map_cons, List.map_nil, encSDoc_eq]) (wD (AC.gs (mi_cat_ok [r118, r119] hx149) (by decide)) cok59 [] [] [] (LayOk.cons (j := 103) encSDoc encSDoc ([r118, r119] : LO) (by kernel_rfl) (share_encSDoc) lO) (wR 1 104 (wF (CO.ret ?_))))))
      have h129 := sI h129
      subst h129
      exact eG [] (.inr rfl) (RetV.one rfl (OneR.cell Dk (r := .agg [V.i r120.kind, V.i r120.n, V.s r120.text, sL encSDoc r120.kids, V.i r120.group]) (i := 102) (ety := 53) (cs := [V.i r120.kind, V.i r120.n, V.s r120.text, sL encSDoc r120.kids, V.i r120.group]) (by kernel_rfl) (by kernel_rfl) (by kernel_rfl)))
     refine cV 103 ?_
     refine cI h129 (fun _ h129 => ?_) (fun _ h129 => ?_)
     ·refine bB h129 fun r125 hx155 h129 => (bB h129 fun r126 hx156 h129 => (bB h129 fun r127 hx157 h129 => (bB h129 fun r128 hx158 h129 => (CO.sw mix (wR 2 103 (w0 (HR.mi_kidDoc a0 0 a1 _ hx155) cok95 (wR 2 103 (w0 (mi_SpellOf_ok a0.op hx156) cok94 ?_))))))))
      refine w0 (AC.gs (mi_text_ok r126 hx157) (by decide)) cok60 (W.layop Dk lO (by kernel_rfl) 103 { v := .own 103, R := [], new := [(103, .vec true 53 5 [[V.i r125.kind, V.i r125.n, V.s r125.text, sL encSDoc r125.kids, V.i r125.group], [V.i r127.kind, V.i r127.n, V.s r127.text, sL encSDoc r127.kids, V.i r127.group]])], N := [103] } (by kernel_rfl) (W.vecEq 103 (nn := true) (e := 53) (k := 5) (rows := [[V.i r125.kind, V.i r125.n, V.s r125.text, sL encSDoc r125.kids, V.i r125.group], [V.i r127.kind, V.i r127.n, V.s r127.text, sL encSDoc r127.kids, V.i r127.group]]) (rows' := [r125, r127].map encSDoc) (by kernel_rfl) (by simp only [List.map_cons, List.map_nil, encSDoc_eq]) (wD (AC.gs (mi_cat_ok [r125, r127] hx158) (by decide)) cok59 [] [] [] (LayOk.cons (j := 103) encSDoc encSDoc ([r125, r127] : LO) (by kernel_rfl) (share_encSDoc) lO) (wR 1 104 (wF (CO.ret ?_))))))
      have h129 := sI h129
      subst h129
      exact eG [] (.inr rfl) (RetV.one rfl (OneR.cell Dk (r := .agg [V.i r128.kind, V.i r128.n, V.s r128.text, sL encSDoc r128.kids, V.i r128.group]) (i := 102) (ety := 53) (cs := [V.i r128.kind, V.i r128.n, V.s r128.text, sL encSDoc r128.kids, V.i r128.group]) (by kernel_rfl) (by kernel_rfl) (by kernel_rfl)))
     refine cV 103 ?_
     refine cI h129 (fun _ h129 => ?_) (fun _ h129 => ?_)
     ·refine bB h129 fun r132 hx163 h129 => (bB h129 fun r133 hx164 h129 => (bB h129 fun r134 hx165 h129 => (CO.sw mix (w0 (AC.gs (mi_text_ok [36] hx163) (by decide)) cok60 (wR 2 103 (w0 (HR.mi_kidDoc a0 0 a1 _ hx164) cok95 (W.layop Dk lO (by kernel_rfl) 103 { v := .own 103, R := [], new := [(103, .vec true 53 5 [[V.i r132.kind, V.i r132.n, V.s r132.text, sL encSDoc r132.kids, V.i r132.group], [V.i r133.kind, V.i r133.n, V.s r133.text, sL encSDoc r133.kids, V.i r133.group]])], N := [103] } (by kernel_rfl) (W.vecEq 103 (nn := true) (e := 53) (k := 5) (rows := [[V.i r132.kind, V.i r132.n, V.s r132.text, sL encSDoc r132.kids, V.i r132.group], [V.i r133.kind, V.i r133.n, V.s r133.text, sL encSDoc r133.kids, V.i r133.group]]) (rows' := [r132, r133].map encSDoc) (by kernel_rfl) (by simp only [List.map_cons, List.map_nil, encSDoc_eq]) ?_))))))))
      refine wD (AC.gs (mi_cat_ok [r132, r133] hx165) (by decide)) cok59 [] [] [] (LayOk.cons (j := 103) encSDoc encSDoc ([r132, r133] : LO) (by kernel_rfl) (share_encSDoc) lO) (wR 1 104 (wF (CO.ret ?_)))
      have h129 := sI h129
      subst h129
      exact eG [] (.inr rfl) (RetV.one rfl (OneR.cell Dk (r := .agg [V.i r134.kind, V.i r134.n, V.s r134.text, sL encSDoc r134.kids, V.i r134.group]) (i := 102) (ety := 53) (cs := [V.i r134.kind, V.i r134.n, V.s r134.text, sL encSDoc r134.kids, V.i r134.group]) (by kernel_rfl) (by kernel_rfl) (by kernel_rfl)))
     refine cV 103 ?_
     refine cI h129 (fun _ h129 => ?_) (fun _ h129 => ?_)
     ·refine bB h129 fun r136 hx168 h129 => (cC 2 103 (HR.mi_unaryDoc a0 a1 _ hx168) cok96 (CO.ret ?_))
      have h129 := sI h129
      subst h129
      exact eG [] (.inr rfl) (RetV.one rfl (OneR.cell Dk (r := .agg [V.i r136.kind, V.i r136.n, V.s r136.text, sL encSDoc r136.kids, V.i r136.group]) (i := 102) (ety := 53) (cs := [V.i r136.kind, V.i r136.n, V.s r136.text, sL encSDoc r136.kids, V.i r136.group]) (by kernel_rfl) (by kernel_rfl) (by kernel_rfl)))
     refine cV 103 ?_
     refine cI h129 (fun _ h129 => ?_) (fun _ h129 => ?_)
     ·refine bB h129 fun r143 hx176 h129 => (bB h129 fun r144 hx177 h129 => (bB h129 fun r145 hx178 h129 => (bB h129 fun r146 hx179 h129 => (bB h129 fun r147 hx180 h129 => (bB h129 fun r148 hx181 h129 => (CO.sw mix (wR 2 103 (w0 (HR.mi_kidDoc a0 0 a1 _ hx176) cok95 ?_))))))))
      refine w0 (AC.gs (mi_text_ok [32, 63, 32] hx177) (by decide)) cok60 (wR 2 103 (w0 (HR.mi_kidDoc a0 1 a1 _ hx178) cok95 (w0 (AC.gs (mi_text_ok [32, 58, 32] hx179) (by decide)) cok60 (wR 2 103 (w0 (HR.mi_kidDoc a0 2 a1 _ hx180) cok95 (W.layop Dk lO (by kernel_rfl) 103 { v := .own 103, R := [], new := [(103, .vec true 53 5 [[V.i r143.kind, V.i r143.n, V.s r143.text, sL encSDoc r143.kids, V.i r143.group], [V.i r144.kind, V.i r144.n, V.s r144.text, sL encSDoc r144.kids, V.i r144.group], [V.i r145.kind, V.i r145.n, V.s r145.text, sL encSDoc r145.kids, V.i r145.group], [V.i r146.kind, V.i r146.n, V.s r146.text, sL encSDoc r146.kids, V.i r146.group], [V.i r147.kind, V.i r147.n, V.s r147.text, sL encSDoc r147.kids, V.i r147.group]])], N := [103] } (by kernel_rfl) (W.vecEq 103 (nn := true) (e := 53) (k := 5) (rows := [[V.i r143.kind, V.i r143.n, V.s r143.text, sL encSDoc r143.kids, V.i r143.group], [V.i r144.kind, V.i r144.n, V.s r144.text, sL encSDoc r144.kids, V.i r144.group], [V.i r145.kind, V.i r145.n, V.s r145.text, sL encSDoc r145.kids, V.i r145.group], [V.i r146.kind, V.i r146.n, V.s r146.text, sL encSDoc r146.kids, V.i r146.group], [V.i r147.kind, V.i r147.n, V.s r147.text, sL encSDoc r147.kids, V.i r147.group]]) (rows' := [r143, r144, r145, r146, r147].map encSDoc) (by kernel_rfl) (by simp only [List.map_cons, List.map_nil, encSDoc_eq]) (wD (AC.gs (mi_cat_ok [r143, r144, r145, r146, r147] hx181) (by decide)) cok59 [] [] [] (LayOk.cons (j := 103) encSDoc encSDoc ([r143, r144, r145, r146, r147] : LO) (by kernel_rfl) (share_encSDoc) lO) ?_))))))))
      refine wR 1 104 (wF (CO.ret ?_))
      have h129 := sI h129
      subst h129
      exact eG [] (.inr rfl) (RetV.one rfl (OneR.cell Dk (r := .agg [V.i r148.kind, V.i r148.n, V.s r148.text, sL encSDoc r148.kids, V.i r148.group]) (i := 102) (ety := 53) (cs := [V.i r148.kind, V.i r148.n, V.s r148.text, sL encSDoc r148.kids, V.i r148.group]) (by kernel_rfl) (by kernel_rfl) (by kernel_rfl)))
     refine cV 103 ?_
     refine cI h129 (fun _ h129 => ?_) (fun _ h129 => ?_)
     ·refine CO.seq' (CO.sw mix (wR 2 103 (wN eST a0.kids [] (wR 1 103 (wF ?_)))))
      refine cI h129 (fun _ h129 => ?_) (fun _ h129 => ?_)
      ·refine bB h129 fun r164 hx200 h129 => (bB h129 fun r165 hx201 h129 => (bB h129 fun s166 hx202 h129 => (bB h129 fun r167 hx203 h129 => (bB h129 fun r168 hx204 h129 => (CO.sw mix (w0 (AC.gs (mi_text_ok [40] hx200) (by decide)) cok60 (wR 2 103 (w0 (HR.mi_listDoc a0.kids _ hx201) cok92 ?_))))))))
       refine wR 2 103 (W.cat hx202 (by kernel_rfl) (w0 (AC.gs (mi_text_ok s166 hx203) (by decide)) cok60 (W.layop Dk lO (by kernel_rfl) 103 { v := .own 103, R := [], new := [(103, .vec true 53 5 [[V.i r164.kind, V.i r164.n, V.s r164.text, sL encSDoc r164.kids, V.i r164.group], [V.i r165.kind, V.i r165.n, V.s r165.text, sL encSDoc r165.kids, V.i r165.group], [V.i r167.kind, V.i r167.n, V.s r167.text, sL encSDoc r167.kids, V.i r167.group]])], N := [103] } (by kernel_rfl) (W.vecEq 103 (nn := true) (e := 53) (k := 5) (rows := [[V.i r164.kind, V.i r164.n, V.s r164.text, sL encSDoc r164.kids, V.i r164.group], [V.i r165.kind, V.i r165.n, V.s r165.text, sL encSDoc r165.kids, V.i r165.group], [V.i r167.kind, V.i r167.n, V.s r167.text, sL encSDoc r167.kids, V.i r167.group]]) (rows' := [r164, r165, r167].map encSDoc) (by kernel_rfl) (by simp only [List.map_cons, List.map_nil, encSDoc_eq]) (wD (AC.gs (mi_cat_ok [r164, r165, r167] hx204) (by decide)) cok59 [] [] [] (LayOk.cons (j := 103) encSDoc encSDoc ([r164, r165, r167] : LO) (by kernel_rfl) (share_encSDoc) lO) (wR 1 104 (wF (CO.ret ?_))))))))
       have h129 := sI h129
       subst h129
       exact eG [] (.inr rfl) (RetV.one rfl (OneR.cell Dk (r := .agg [V.i r168.kind, V.i r168.n, V.s r168.text, sL encSDoc r168.kids, V.i r168.group]) (i := 102) (ety := 53) (cs := [V.i r168.kind, V.i r168.n, V.s r168.text, sL encSDoc r168.kids, V.i r168.group]) (by kernel_rfl) (by kernel_rfl) (by kernel_rfl)))
      refine CO.skip (bB h129 fun r173 hx209 h129 => (bB h129 fun s174 hx210 h129 => (bB h129 fun r175 hx211 h129 => (bB h129 fun r176 hx212 h129 => (CO.sw mix (wR 2 103 (w0 (HR.mi_kidDoc a0 0 a1 _ hx209) cok95 (wR 2 103 ?_))))))))
      refine W.cat hx210 (by kernel_rfl) (w0 (AC.gs (mi_text_ok s174 hx211) (by decide)) cok60 (W.layop Dk lO (by kernel_rfl) 103 { v := .own 103, R := [], new := [(103, .vec true 53 5 [[V.i r173.kind, V.i r173.n, V.s r173.text, sL encSDoc r173.kids, V.i r173.group], [V.i r175.kind, V.i r175.n, V.s r175.text, sL encSDoc r175.kids, V.i r175.group]])], N := [103] } (by kernel_rfl) (W.vecEq 103 (nn := true) (e := 53) (k := 5) (rows := [[V.i r173.kind, V.i r173.n, V.s r173.text, sL encSDoc r173.kids, V.i r173.group], [V.i r175.kind, V.i r175.n, V.s r175.text, sL encSDoc r175.kids, V.i r175.group]]) (rows' := [r173, r175].map encSDoc) (by kernel_rfl) (by simp only [List.map_cons, List.map_nil, encSDoc_eq]) (wD (AC.gs (mi_cat_ok [r173, r175] hx212) (by decide)) cok59 [] [] [] (LayOk.cons (j := 103) encSDoc encSDoc ([r173, r175] : LO) (by kernel_rfl) (share_encSDoc) lO) (wR 1 104 (wF (CO.ret ?_)))))))
      have h129 := sI h129
      subst h129
      exact eG [] (.inr rfl) (RetV.one rfl (OneR.cell Dk (r := .agg [V.i r176.kind, V.i r176.n, V.s r176.text, sL encSDoc r176.kids, V.i r176.group]) (i := 102) (ety := 53) (cs := [V.i r176.kind, V.i r176.n, V.s r176.text, sL encSDoc r176.kids, V.i r176.group]) (by kernel_rfl) (by kernel_rfl) (by kernel_rfl)))
     refine CO.skip (bB h129 fun r179 hx215 h129 => (bB h129 fun r180 hx216 h129 => (CO.sw mix (wR 2 103 (w0 (HR.mi_kidDoc a0 0 a1 _ hx215) cok95 (wR 2 103 (w0 (HR.mi_kidDoc a0 1 a1 _ hx216) cok95 (wR 4 103 ?_))))))))
     refine wF (CO.seq' (CO.block' (bB h129 fun y201 hv246 h129 => ?_)))
     refine CO.cutR (tl 173 [(2, .loc 100 0), (4, .loc 101 0), (5, .loc 102 0), (6, .loc 103 0), (123, V.b y201)]) [(100, .cells 57 [V.i a0.kind, V.i a0.op, V.s a0.text, V.s a0.other, sL eST a0.kids]), (101, .cells 53 [V.i 0, V.i 0, V.s [], .c (.slice none 0 0), V.i 0]), (102, .cells 53 [V.i r179.kind, V.i r179.n, V.s r179.text, sL encSDoc r179.kids, V.i r179.group]), (103, .cells 53 [V.i r180.kind, V.i r180.n, V.s r180.text, sL encSDoc r180.kids, V.i r180.group])] mix (by
      refine wR 4 105 ?_
      refine wJ 127 hv246 (fun hv246 => ?_) (fun hv246 => ?_)
      ·refine wR 5 105 ?_
       cases hv246
       exact fS [(100, 100), (102, 101), (103, 102), (104, 103)] [2, 4, 5, 6, 123]
      refine wR 5 105 ?_
      cases hv246
      exact fS [(100, 100), (102, 101), (103, 102), (104, 103)] [2, 4, 5, 6, 123]
      ) ?_
     refine cI h129 (fun _ h129 => ?_) (fun _ h129 => ?_)
     ·refine bB h129 fun r204 hx251 h129 => (bB h129 fun r205 hx252 h129 => (CO.sw mix (wR 1 105 (w0 (AC.gs (mi_text_ok [32] hx251) (by decide)) cok60 (wR 1 105 (W.layop Dk lO (by kernel_rfl) 105 { v := .own 105, R := [], new := [(105, .vec true 53 5 [[V.i r179.kind, V.i r179.n, V.s r179.text, sL encSDoc r179.kids, V.i r179.group], [V.i r204.kind, V.i r204.n, V.s r204.text, sL encSDoc r204.kids, V.i r204.group], [V.i r180.kind, V.i r180.n, V.s r180.text, sL encSDoc r180.kids, V.i r180.group]])], N := [105] } (by kernel_rfl) (W.vecEq 105 (nn := true) (e := 53) (k := 5) (rows := [[V.i r179.kind, V.i r179.n, V.s r179.text, sL encSDoc r179.kids, V.i r179.group], [V.i r204.kind, V.i r204.n, V.s r204.text, sL encSDoc r204.kids, V.i r204.group], [V.i r180.kind, V.i r180.n, V.s r180.text, sL encSDoc r180.kids, V.i r180.group]]) (rows' := [r179, r204, r180].map encSDoc) (by kernel_rfl) (by simp only [List.map_cons, List.map_nil, encSDoc_eq]) (wD (AC.gs (mi_cat_ok [r179, r204, r180] hx252) (by decide)) cok59 [] [] [] (LayOk.cons (j := 105) encSDoc encSDoc ([r179, r204, r180] : LO) (by kernel_rfl) (share_encSDoc) lO) ?_))))))))
      refine wR 1 106 (wF (CO.ret ?_))
      have h129 := sI h129
      subst h129
      exact eG [] (.inr rfl) (RetV.one rfl (OneR.cell Dk (r := .agg [V.i r205.kind, V.i r205.n, V.s r205.text, sL encSDoc r205.kids, V.i r205.group]) (i := 101) (ety := 53) (cs := [V.i r205.kind, V.i r205.n, V.s r205.text, sL encSDoc r205.kids, V.i r205.group]) (by kernel_rfl) (by kernel_rfl) (by kernel_rfl)))
     refine bB h129 fun y206 hv255 h129 => ?_
     refine CO.cutR (tl 173 [(2, .loc 100 0), (4, .loc 101 0), (5, .loc 102 0), (6, .loc 103 0), (137, V.b y206)]) [(100, .cells 57 [V.i a0.kind, V.i a0.op, V.s a0.text, V.s a0.other, sL eST a0.kids]), (101, .cells 53 [V.i 0, V.i 0, V.s [], .c (.slice none 0 0), V.i 0]), (102, .cells 53 [V.i r179.kind, V.i r179.n, V.s r179.text, sL encSDoc r179.kids, V.i r179.group]), (103, .cells 53 [V.i r180.kind, V.i r180.n, V.s r180.text, sL encSDoc r180.kids, V.i r180.group])] mix (by
      refine wR 4 105 ?_
      refine wJ 141 hv255 (fun hv255 => ?_) (fun hv255 => ?_)
      ·refine wR 4 105 ?_
       refine wJ 145 hv255 (fun hv255 => ?_) (fun hv255 => ?_)
       ·refine wR 6 105 ?_
        cases hv255
        exact fS [(100, 100), (101, 101), (102, 102), (103, 103)] [2, 4, 5, 6, 137]
       refine wR 6 105 ?_
       cases hv255
       exact fS [(100, 100), (101, 101), (102, 102), (103, 103)] [2, 4, 5, 6, 137]
      refine wR 10 105 ?_
      cases hv255
      exact fS [(100, 100), (101, 101), (102, 102), (103, 103)] [2, 4, 5, 6, 137]
      ) ?_
     refine cI h129 (fun _ h129 => ?_) (fun _ h129 => ?_)
     ·refine bB h129 fun r214 hx266 h129 => (bB h129 fun s215 hx267 h129 => (bB h129 fun r216 hx268 h129 => (bB h129 fun r217 hx269 h129 => (bB h129 fun r218 hx270 h129 => (bB h129 fun r219 hx271 h129 => (bB h129 fun r220 hx272 h129 => (CO.sw mix (wR 3 105 ?_))))))))
      refine w0 (mi_SpellOf_ok a0.op hx266) cok94 (W.cat hx267 (by kernel_rfl) (w0 (AC.gs (mi_text_ok s215 hx268) (by decide)) cok60 (w0 (AC.gs (mi_line_ok  hx269) (by decide)) cok99 (wR 1 105 (W.layop Dk lO (by kernel_rfl) 105 { v := .own 105, R := [], new := [(105, .vec true 53 5 [[V.i r179.kind, V.i r179.n, V.s r179.text, sL encSDoc r179.kids, V.i r179.group], [V.i r216.kind, V.i r216.n, V.s r216.text, sL encSDoc r216.kids, V.i r216.group], [V.i r217.kind, V.i r217.n, V.s r217.text, sL encSDoc r217.kids, V.i r217.group], [V.i r180.kind, V.i r180.n, V.s r180.text, sL encSDoc r180.kids, V.i r180.group]])], N := [105] } (by kernel_rfl) (W.vecEq 105 (nn := true) (e := 53) (k := 5) (rows := [[V.i r179.kind, V.i r179.n, V.s r179.text, sL encSDoc r179.kids, V.i r179.group], [V.i r216.kind, V.i r216.n, V.s r216.text, sL encSDoc r216.kids, V.i r216.group], [V.i r217.kind, V.i r217.n, V.s r217.text, sL encSDoc r217.kids, V.i r217.group], [V.i r180.kind, V.i r180.n, V.s r180.text, sL encSDoc r180.kids, V.i r180.group]]) (rows' := [r179, r216, r217, r180].map encSDoc) (by kernel_rfl) (by simp only [List.map_cons, List.map_nil, encSDoc_eq]) (wD (AC.gs (mi_cat_ok [r179, r216, r217, r180] hx270) (by decide)) cok59 [] [] [] (LayOk.cons (j := 105) encSDoc encSDoc ([r179, r216, r217, r180] : LO) (by kernel_rfl) (share_encSDoc) lO) (w0 (AC.gs (mi_nest_ok r218 hx271) (by decide)) cok98 ?_))))))))
      refine w0 (AC.gs (mi_group_ok r219 hx272) (by decide)) cok97 (wR 1 106 (wF (CO.ret ?_)))
      have h129 := sI h129
      subst h129
      exact eG [] (.inr rfl) (RetV.one rfl (OneR.cell Dk (r := .agg [V.i r220.kind, V.i r220.n, V.s r220.text, sL encSDoc r220.kids, V.i r220.group]) (i := 101) (ety := 53) (cs := [V.i r220.kind, V.i r220.n, V.s r220.text, sL encSDoc r220.kids, V.i r220.group]) (by kernel_rfl) (by kernel_rfl) (by kernel_rfl)))
     refine CO.skip (bB h129 fun r226 hx278 h129 => (bB h129 fun s227 hx279 h129 => (bB h129 fun s228 hx280 h129 => (bB h129 fun r229 hx281 h129 => (bB h129 fun r230 hx282 h129 => (CO.sw mix (wR 3 105 (w0 (mi_SpellOf_ok a0.op hx278) cok94 ?_))))))))
     refine W.cat hx279 (by kernel_rfl) (W.cat hx280 (by kernel_rfl) (w0 (AC.gs (mi_text_ok s228 hx281) (by decide)) cok60 (wR 1 105 (W.layop Dk lO (by kernel_rfl) 105 { v := .own 105, R := [], new := [(105, .vec true 53 5 [[V.i r179.kind, V.i r179.n, V.s r179.text, sL encSDoc r179.kids, V.i r179.group], [V.i r229.kind, V.i r229.n, V.s r229.text, sL encSDoc r229.kids, V.i r229.group], [V.i r180.kind, V.i r180.n, V.s r180.text, sL encSDoc r180.kids, V.i r180.group]])], N := [105] } (by kernel_rfl) (W.vecEq 105 (nn := true) (e := 53) (k := 5) (rows := [[V.i r179.kind, V.i r179.n, V.s r179.text, sL encSDoc r179.kids, V.i r179.group], [V.i r229.kind, V.i r229.n, V.s r229.text, sL encSDoc r229.kids, V.i r229.group], [V.i r180.kind, V.i r180.n, V.s r180.text, sL encSDoc r180.kids, V.i r180.group]]) (rows' := [r179, r229, r180].map encSDoc) (by kernel_rfl) (by simp only [List.map_cons, List.map_nil, encSDoc_eq]) (wD (AC.gs (mi_cat_ok [r179, r229, r180] hx282) (by decide)) cok59 [] [] [] (LayOk.cons (j := 105) encSDoc encSDoc ([r179, r229, r180] : LO) (by kernel_rfl) (share_encSDoc) lO) (wR 1 106 (wF ?_))))))))
     refine CO.ret ?_
     have h129 := sI h129
     subst h129
     exact eG [] (.inr rfl) (RetV.one rfl (OneR.cell Dk (r := .agg [V.i r230.kind, V.i r230.n, V.s r230.text, sL encSDoc r230.kids, V.i r230.group]) (i := 101) (ety := 53) (cs := [V.i r230.kind, V.i r230.n, V.s r230.text, sL encSDoc r230.kids, V.i r230.group]) (by kernel_rfl) (by kernel_rfl) (by kernel_rfl)))
   intro hk283
   refine cV 103 ?_
   refine cI h113 (fun _ h113 => ?_) (fun _ h113 => ?_)
   ·exact sK hk283 (a0, a1, (a0.kind == 7)) h113 [(100, 100), (101, 101), (102, 102)] [2, 3, 4, 8, 29]
   exact cK 103 hk283 (a0, a1, (a0.kind == 8)) h113 [(100, 100), (101, 101), (102, 102)] [2, 3, 4, 8, 29]
 intro hk285
 refine cV 103 ?_
 refine cI h (fun _ h => ?_) (fun _ h => ?_)
 ·exact sK hk285 (a0, a1, (a0.kind == 1)) h [(100, 100), (101, 101), (102, 102)] [2, 3, 4, 8, 9]
 refine cV 103 ?_
 refine cI h (fun _ h => ?_) (fun _ h => ?_)
 ·exact sK hk285 (a0, a1, (a0.kind == 2)) h [(100, 100), (101, 101), (102, 102)] [2, 3, 4, 8, 9]
 refine cV 103 ?_
 refine cI h (fun _ h => ?_) (fun _ h => ?_)
 ·exact sK hk285 (a0, a1, (a0.kind == 3)) h [(100, 100), (101, 101), (102, 102)] [2, 3, 4, 8, 9]
 exact cK 103 hk285 (a0, a1, (a0.kind == 4)) h [(100, 100), (101, 101), (102, 102)] [2, 3, 4, 8, 9]

theorem mi_exprDoc_F_ok (N : Nat) (R : Rec6) (HR : RecOk6 R) (a0 : STree) (a1 : SPos) {r : SDoc} (h : mi_exprDoc_F N R a0 a1 = some r) :
    AC Tryz.prog (GS [0, 1]) 27 [.agg [V.i a0.kind, V.i a0.op, V.s a0.text, V.s a0.other, sL eST a0.kids], .agg [V.i a1.Level, V.b a1.Dollar, V.b a1.NoIn, V.b a1.NoGt, V.b a1.NoSign]] [] (.agg [V.i r.kind, V.i r.n, V.s r.text, sL encSDoc r.kids, V.i r.group]) [] := by
 rw [mi_exprDoc_F] at h
 refine AC.enter Tryz.func27 rfl (cV 100 (CO.seq' (bB h fun r9 hx10 h => (bB h fun r10 hx11 h => (CO.sw mix (wR 1 103 (wC (AC.gs (mi_tree__node_ok N a0 hx10) (by decide)) cok57 [] [(100, 103)] [103] (wR 1 104 ?_))))))))
 refine W.lend (AC.gs (mi_Fits_ok r9 a1 hx11) (by decide)) cok56 [] [] (LayOk.cons (j := 103) eNI eNI r9.Kids (by kernel_rfl) (fun _ => rfl) lO) (.c _) .nil (by kernel_rfl) (by kernel_rfl) (wF ?_)
 refine cI h (fun _ h => ?_) (fun _ h => ?_)
 ·refine bB h fun r12 hx14 h => (cC 2 104 (HR.mi_bareDoc a0 a1 _ hx14) cok58 (CO.ret ?_))
  have h := sI h
  subst h
  exact eG [] (.inr rfl) (RetV.one rfl (OneR.cell Dk (r := .agg [V.i r12.kind, V.i r12.n, V.s r12.text, sL encSDoc r12.kids, V.i r12.group]) (i := 102) (ety := 53) (cs := [V.i r12.kind, V.i r12.n, V.s r12.text, sL encSDoc r12.kids, V.i r12.group]) (by kernel_rfl) (by kernel_rfl) (by kernel_rfl)))
 refine CO.skip (bB h fun r18 hx20 h => (bB h fun r19 hx21 h => (bB h fun r20 hx22 h => (bB h fun r21 hx23 h => (bB h fun r22 hx24 h => (CO.sw mix (w0 (AC.gs (mi_text_ok [40] hx20) (by decide)) cok60 (wR 1 104 ?_))))))))
 refine w0 (AC.gs (mi_Top_ok  hx21) (by decide)) cok61 (w0 (HR.mi_bareDoc a0 r19 _ hx22) cok58 (w0 (AC.gs (mi_text_ok [41] hx23) (by decide)) cok60 (W.layop Dk lO (by kernel_rfl) 104 { v := .own 104, R := [], new := [(104, .vec true 53 5 [[V.i r18.kind, V.i r18.n, V.s r18.text, sL encSDoc r18.kids, V.i r18.group], [V.i r20.kind, V.i r20.n, V.s r20.text, sL encSDoc r20.kids, V.i r20.group], [V.i r21.kind, V.i r21.n, V.s r21.text, sL encSDoc r21.kids, V.i r21.group]])], N := [104] } (by kernel_rfl) (W.vecEq 104 (nn := true) (e := 53) (k := 5) (rows := [[V.i r18.kind, V.i r18.n, V.s r18.text, sL encSDoc r18.kids, V.i r18.group], [V.i r20.kind, V.i r20.n, V.s r20.text, sL encSDoc r20.kids, V.i r20.group], [V.i r21.kind, V.i r21.n, V.s r21.text, sL encSDoc r21.kids, V.i r21.group]]) (rows' := [r18, r20, r21].map encSDoc) (by kernel_rfl) (by simp only [List.map_cons, List.map_nil, encSDoc_eq]) (wD (AC.gs (mi_cat_ok [r18, r20, r21] hx24) (by decide)) cok59 [] [] [] (LayOk.cons (j := 104) encSDoc encSDoc ([r18, r20, r21] : LO) (by kernel_rfl) (share_encSDoc) lO) (wR 1 105 (wF (CO.ret ?_))))))))
 have h := sI h
 subst h
 exact eG [] (.inr rfl) (RetV.one rfl (OneR.cell Dk (r := .agg [V.i r22.kind, V.i r22.n, V.s r22.text, sL encSDoc r22.kids, V.i r22.group]) (i := 102) (ety := 53) (cs := [V.i r22.kind, V.i r22.n, V.s r22.text, sL encSDoc r22.kids, V.i r22.group]) (by kernel_rfl) (by kernel_rfl) (by kernel_rfl)))

theorem scc6_ok : ∀ N, RecOk6 (scc6 N)
 | 0 => ⟨fun _ _ _ h => (by cases h), fun _ _ _ _ h => (by cases h), fun _ _ h => (by cases h), fun _ _ _ h => (by cases h), fun _ _ _ h => (by cases h)⟩
 | N + 1 => ⟨fun a0 a1 _ h => mi_unaryDoc_F_ok N (scc6 N) (scc6_ok N) a0 a1 h, fun a0 a1 a2 _ h => mi_kidDoc_F_ok N (scc6 N) (scc6_ok N) a0 a1 a2 h, fun a0 _ h => mi_listDoc_F_ok N (scc6 N) (scc6_ok N) a0 h, fun a0 a1 _ h => mi_bareDoc_F_ok N (scc6 N) (scc6_ok N) a0 a1 h, fun a0 a1 _ h => mi_exprDoc_F_ok N (scc6 N) (scc6_ok N) a0 a1 h⟩

theorem mi_exprDoc_ok (N : Nat) (a0 : STree) (a1 : SPos) {r : SDoc} (h : mi_exprDoc N a0 a1 = some r) :
  AC Tryz.prog (GS [0, 1]) 27 [.agg [V.i a0.kind, V.i a0.op, V.s a0.text, V.s a0.other, sL eST a0.kids], .agg [V.i a1.Level, V.b a1.Dollar, V.b a1.NoIn, V.b a1.NoGt, V.b a1.NoSign]] [] (.agg [V.i r.kind, V.i r.n, V.s r.text, sL encSDoc r.kids, V.i r.group]) [] :=
 (scc6_ok N).mi_exprDoc a0 a1 r h

structure RecOk7 (R : Rec7) : Prop where
 mi_doc__add : ∀ (a0 : SDoc) (p0 : LD) (r : LD), R.mi_doc__add a0 p0 = some r → AC Tryz.prog (GS []) 62 [.agg [V.i a0.kind, V.i a0.n, V.s a0.text, sL encSDoc a0.kids, V.i a0.group], .own 0] [(0, .vec false 62 4 (p0.map (encSDNode true)))] (.own 100) [(100, .vec false 62 4 (r.map (encSDNode true)))]

theorem mi_doc__add_F_ok (N : Nat) (R : Rec7) (HR : RecOk7 R) (a0 : SDoc) (p0 : LD) {r : LD} (h : mi_doc__add_F N R a0 p0 = some r) :
    AC Tryz.prog (GS []) 62 [.agg [V.i a0.kind, V.i a0.n, V.s a0.text, sL encSDoc a0.kids, V.i a0.group], .own 0] [(0, .vec false 62 4 (p0.map (encSDNode true)))] (.own 100) [(100, .vec false 62 4 (r.map (encSDNode true)))] := by
 rw [mi_doc__add_F] at h
 refine AC.enter Tryz.func62 rfl (cV 100 (cV 101 (CO.seq' (CO.sw mix (wR 2 102 (wN encSDoc a0.kids [] (wR 1 102 (wF ?_))))))))
 refine CO.block' (CO.loopJ (fun (⟨a0, y59, y60, y61⟩ : (SDoc × Int × LD × (List Int))) => ⟨tl 38 [(1, .own 100), (5, .loc 101 0), (16, sL encSDoc a0.kids), (17, V.i (a0.kids.length : Int)), (18, V.i y59)], [(100, .vec false 62 4 (y60.map (encSDNode true))), (101, .cells 62 [V.i a0.kind, V.i a0.n, V.s a0.text, .own 102]), (102, vX 3 1 eNI y61)]⟩) (fun n i => mi_doc__add_l1 N R n i = some r) (n0 := N) (i0 := (a0, 0, p0, [])) ((Weak.nilCell 101 3 102 3 1 (ety := 62) (cs := [V.i a0.kind, V.i a0.n, V.s a0.text, .c (.slice none 0 0)]) (by kernel_rfl) (by kernel_rfl) (by kernel_rfl)).trans (wS [(0, 100), (101, 101), (102, 102)] [1, 5, 16, 17, 18])) h (fun i h => by simp [mi_doc__add_l1] at h) ?_)
 rintro n1 ⟨a0, y59, y60, y61⟩ h77 ih78
 rw [mi_doc__add_l1] at h77
 refine cV 171 (CO.seq' ?_)
 refine cI h77 (fun _ h77 => ?_) (fun _ h77 => ?_)
 ·refine CO.skip (CO.seq' (CO.block' (bB h77 fun e84 hx88 h77 => (CO.sw mix (W.ixDr Dk encSDoc hx88 5 (by kernel_rfl) (encSDoc_eq e84) (by kernel_rfl) (wR 3 171 (wF (bB h77 fun r86 hx90 h77 => ?_))))))))
  refine CO.sw mix (wR 2 172 (wC (HR.mi_doc__add e84 y60 _ hx90) cok62 [(100, 0)] [(100, 172)] [172] (wR 1 173 (wF (bB h77 fun x88 hx92 h77 => ?_)))))
  refine CO.endR (tl 38 [(1, .own 172), (5, .loc 101 0), (16, sL encSDoc a0.kids), (17, V.i (a0.kids.length : Int)), (18, V.i y59)]) [(101, .cells 62 [V.i a0.kind, V.i a0.n, V.s a0.text, .own 174]), (174, vX 3 1 eNI x88), (172, .vec false 62 4 (r86.map (encSDNode true)))] mix (by
   refine wR 3 173 (wN (encSDNode true) r86 [172] (wR 2 173 (W.appO Dk eNI (a := 102) (c := 173) (el := 3) (sz := 1) 8 hx92 rfl 174 (by kernel_rfl) (wR 2 175 ?_))))
   exact fI
   ) (fun st hw => ?_)
  refine CO.weak hw ?_
  exact cK 175 ih78 (a0, (wr (y59 + 1)), r86, x88) h77 [(172, 100), (101, 101), (174, 102)] [1, 5, 16, 17, 18]
 refine CO.exit (bB h77 fun x90 hx94 h77 => (CO.sw mix (wR 3 171 (W.appO Dk (encSDNode true) (a := 100) (c := 171) (el := 62) (sz := 4) 56 hx94 rfl 172 (by kernel_rfl) (wR 1 173 (wF (CO.ret ?_)))))))
 cases h77
 exact eG [(172, 100)] (.inr rfl) (RetV.one rfl (oT (t := 4) (r := .own 172)))

theorem scc7_ok : ∀ N, RecOk7 (scc7 N)
 | 0 => ⟨fun _ _ _ h => (by cases h)⟩
 | N + 1 => ⟨fun a0 p0 _ h => mi_doc__add_F_ok N (scc7 N) (scc7_ok N) a0 p0 h⟩

theorem mi_doc__add_ok (N : Nat) (a0 : SDoc) (p0 : LD) {r : LD} (h : mi_doc__add N a0 p0 = some r) :
  AC Tryz.prog (GS []) 62 [.agg [V.i a0.kind, V.i a0.n, V.s a0.text, sL encSDoc a0.kids, V.i a0.group], .own 0] [(0, .vec false 62 4 (p0.map (encSDNode true)))] (.own 100) [(100, .vec false 62 4 (r.map (encSDNode true)))] :=
 (scc7_ok N).mi_doc__add a0 p0 r h

theorem mi_doc__list_ok (N : Nat) (a0 : SDoc) {r : LD} (h : mi_doc__list N a0 = some r) :
    AC Tryz.prog (GS []) 29 [.agg [V.i a0.kind, V.i a0.n, V.s a0.text, sL encSDoc a0.kids, V.i a0.group]] [] (.own 100) [(100, .vec false 62 4 (r.map (encSDNode true)))] := by
 rw [mi_doc__list] at h
 refine AC.enter Tryz.func29 rfl (cV 100 (bB h fun r2 hx2 h => (CO.sw mix (wR 1 101 (W.callK (AC.nilArg 1 0 62 4 (mi_doc__add_ok N a0 [] hx2) (by kernel_rfl) (by kernel_rfl) (by kernel_rfl) (by kernel_rfl) rfl) cok62 [] [(100, 101)] [1] [101] lO (by kernel_rfl) (by kernel_rfl) (wR 1 102 (wF (CO.ret ?_))))))))
 cases h
 exact eG [(101, 100)] (.inr rfl) (RetV.one rfl (oT (t := 2) (r := .own 101)))

theorem mi_ExprDoc_ok (N : Nat) (a0 : LN) (a1 : SPos) {r : LD} (h : mi_ExprDoc N a0 a1 = some r) :
    AC Tryz.prog (GS [0, 1, 2]) 10 [.sl false false (a0.map (eSN false)), .agg [V.i a1.Level, V.b a1.Dollar, V.b a1.NoIn, V.b a1.NoGt, V.b a1.NoSign]] [] (.own 100) [(100, .vec false 62 4 (r.map (encSDNode true)))] := by
 rw [mi_ExprDoc] at h
 refine AC.enter Tryz.func10 rfl (cV 100 (CO.seq' (bB h fun y8 hv12 h => ?_)))
 refine CO.cutR (tl 18 [(0, .sl false false (a0.map (eSN false))), (3, .loc 100 0), (12, V.b y8)]) [(100, .cells 30 [V.i a1.Level, V.b a1.Dollar, V.b a1.NoIn, V.b a1.NoGt, V.b a1.NoSign])] mix (by
  refine wR 1 101 (bB hv12 fun r9 hx13 hv12 => (w0 (mi_ExprOk_ok N a0 hx13) cok25 (wR 2 101 ?_)))
  refine wJ 8 hv12 (fun hv12 => ?_) (fun hv12 => ?_)
  ·refine wR 4 101 ?_
   cases hv12
   exact fS [(100, 100)] [0, 3, 12]
  refine wR 1 101 (bB hv12 fun r10 hx15 hv12 => (w0 (AC.gs (mi_PosOk_ok a1 hx15) (by decide)) cok26 (wR 2 101 ?_)))
  cases hv12
  exact fS [(100, 100)] [0, 3, 12]
  ) ?_
 refine cI h (fun _ h => ?_) (fun _ h => ?_)
 ·refine cV 101 (CO.weak (Weak.nil 4 101 62 4 (by kernel_rfl) (by kernel_rfl)) (CO.ret ?_))
  cases h
  exact eG [(101, 100)] (.inr rfl) (RetV.one rfl (oT (t := 4) (r := .own 101)))
 refine CO.skip (bB h fun r14 hx20 h => (bB h fun r15 hx21 h => (bB h fun r16 hx22 h => (CO.sw mix (wR 1 101 (w0 (AC.gs (mi_rootOf_ok N a0 hx20) (by decide)) cok28 (wR 1 101 (w0 (AC.gs (mi_exprDoc_ok N r14 a1 hx21) (by decide)) cok27 ?_))))))))
 refine wC (AC.gs (mi_doc__list_ok N r15 hx22) (by decide)) cok29 [] [(100, 101)] [101] (wR 1 102 (wF (CO.ret ?_)))
 cases h
 exact eG [(101, 100)] (.inr rfl) (RetV.one rfl (oT (t := 4) (r := .own 101)))

end Go.Proofs.Tryz
