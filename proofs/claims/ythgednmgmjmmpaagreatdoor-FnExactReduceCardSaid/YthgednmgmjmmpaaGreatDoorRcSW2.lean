/-
 The walks that show that the code computes the models, part 2.
-/
import Derived.Test.YthgednmgmjmmpaaGreatDoorRcSW1
namespace Go.Proofs.Tryz
open Go.Av
set_option maxRecDepth 100000
set_option maxHeartbeats 8000000
set_option linter.unusedSimpArgs false
set_option linter.unusedVariables false

theorem ms_OpLevel_ok (a0 : Int) {r : Int} (h : ms_OpLevel a0 = some r) :
    AC0 186 [V.i a0] [] (V.i r) [] := by
 rw [ms_OpLevel] at h
 refine AC.enter Tryz.func186 rfl (cV 100 (CO.seq' (cV 100 (CO.block' (cV 100 ?_)))))
 refine cI h (fun _ h => ?_) (fun _ h => ?_)
 ·refine cV 100 ?_
  cases h
  exact e1 2 id
 refine cV 100 ?_
 refine cI h (fun _ h => ?_) (fun _ h => ?_)
 ·refine cV 100 ?_
  cases h
  exact e1 2 id
 refine CO.join (fun (⟨a0, y5⟩ : (Int × Bool)) => ⟨tl 29 [(3, V.i a0), (8, V.b y5)], []⟩) (fun i => ms_OpLevel_k1 i = some r) ?_ ?_
 · rintro ⟨a0, y5⟩ h38
   rw [ms_OpLevel_k1] at h38
   refine cI h38 (fun _ h38 => ?_) (fun _ h38 => ?_)
   ·refine cV 100 ?_
    cases h38
    exact e1 2 id
   refine CO.join (fun (⟨a0, y6⟩ : (Int × Bool)) => ⟨tl 29 [(3, V.i a0), (11, V.b y6)], []⟩) (fun i => ms_OpLevel_k2 i = some r) ?_ ?_
   · rintro ⟨a0, y6⟩ h45
     rw [ms_OpLevel_k2] at h45
     refine cI h45 (fun _ h45 => ?_) (fun _ h45 => ?_)
     ·refine cV 100 ?_
      cases h45
      exact e1 2 id
     refine cV 100 ?_
     refine cI h45 (fun _ h45 => ?_) (fun _ h45 => ?_)
     ·refine cV 100 ?_
      cases h45
      exact e1 2 id
     refine CO.join (fun (⟨a0, y7⟩ : (Int × Bool)) => ⟨tl 29 [(3, V.i a0), (20, V.b y7)], []⟩) (fun i => ms_OpLevel_k3 i = some r) ?_ ?_
     · rintro ⟨a0, y7⟩ h49
       rw [ms_OpLevel_k3] at h49
       refine cI h49 (fun _ h49 => ?_) (fun _ h49 => ?_)
       ·refine cV 100 ?_
        cases h49
        exact e1 2 id
       refine CO.join (fun (⟨a0, y8⟩ : (Int × Bool)) => ⟨tl 29 [(3, V.i a0), (23, V.b y8)], []⟩) (fun i => ms_OpLevel_k4 i = some r) ?_ ?_
       · rintro ⟨a0, y8⟩ h53
         rw [ms_OpLevel_k4] at h53
         refine cI h53 (fun _ h53 => ?_) (fun _ h53 => ?_)
         ·refine cV 100 ?_
          cases h53
          exact e1 2 id
         refine cV 100 ?_
         refine cI h53 (fun _ h53 => ?_) (fun _ h53 => ?_)
         ·refine cV 100 ?_
          cases h53
          exact e1 2 id
         refine CO.skip (cV 100 ?_)
         cases h53
         exact e1 2 id
       intro hk56
       refine cV 100 ?_
       refine cI h49 (fun _ h49 => ?_) (fun _ h49 => ?_)
       ·exact sK hk56 (a0, (a0 == 57)) h49 [] [3, 23]
       refine cV 100 ?_
       refine cI h49 (fun _ h49 => ?_) (fun _ h49 => ?_)
       ·exact sK hk56 (a0, (a0 == 58)) h49 [] [3, 23]
       exact cK 100 hk56 (a0, (a0 == 59)) h49 [] [3, 23]
     intro hk59
     refine cV 100 ?_
     refine cI h45 (fun _ h45 => ?_) (fun _ h45 => ?_)
     ·exact sK hk59 (a0, (a0 == 55)) h45 [] [3, 20]
     exact cK 100 hk59 (a0, (a0 == 56)) h45 [] [3, 20]
   intro hk61
   refine cV 100 ?_
   refine cI h38 (fun _ h38 => ?_) (fun _ h38 => ?_)
   ·exact sK hk61 (a0, (a0 == 63)) h38 [] [3, 11]
   refine cV 100 ?_
   refine cI h38 (fun _ h38 => ?_) (fun _ h38 => ?_)
   ·exact sK hk61 (a0, (a0 == 48)) h38 [] [3, 11]
   refine cV 100 ?_
   refine cI h38 (fun _ h38 => ?_) (fun _ h38 => ?_)
   ·exact sK hk61 (a0, (a0 == 47)) h38 [] [3, 11]
   refine cV 100 ?_
   refine cI h38 (fun _ h38 => ?_) (fun _ h38 => ?_)
   ·exact sK hk61 (a0, (a0 == 50)) h38 [] [3, 11]
   refine cV 100 ?_
   refine cI h38 (fun _ h38 => ?_) (fun _ h38 => ?_)
   ·exact sK hk61 (a0, (a0 == 62)) h38 [] [3, 11]
   exact cK 100 hk61 (a0, (a0 == 49)) h38 [] [3, 11]
 intro hk67
 refine cV 100 ?_
 refine cI h (fun _ h => ?_) (fun _ h => ?_)
 ·exact sK hk67 (a0, (a0 == 67)) h [] [3, 8]
 exact cK 100 hk67 (a0, (a0 == 46)) h [] [3, 8]

theorem ms_l9Sides_ok (a0 : Int) {r : (Int × Int)} (h : ms_l9Sides a0 = some r) :
    AC0 147 [V.i a0] [] (.tup [V.i r.1, V.i r.2]) [] := by
 rw [ms_l9Sides] at h
 refine AC.enter Tryz.func147 rfl (cV 100 (CO.seq' (bB h fun r4 hx11 h => (cC 1 100 (ms_OpLevel_ok a0 hx11) cok186 (CO.block' (cV 100 ?_))))))
 refine cI h (fun _ h => ?_) (fun _ h => ?_)
 ·refine cV 100 (CO.ret ?_)
  cases h
  exact eG [] (.inr rfl) (RetV.two rfl (oT (t := 2) (r := V.i 3)) (oT (t := 3) (r := V.i 4)))
 refine cV 100 ?_
 refine cI h (fun _ h => ?_) (fun _ h => ?_)
 ·refine cV 100 (CO.ret ?_)
  cases h
  exact eG [] (.inr rfl) (RetV.two rfl (oT (t := 2) (r := V.i 4)) (oT (t := 3) (r := V.i 5)))
 refine cV 100 ?_
 refine cI h (fun _ h => ?_) (fun _ h => ?_)
 ·refine cV 100 (CO.ret ?_)
  cases h
  exact eG [] (.inr rfl) (RetV.two rfl (oT (t := 2) (r := V.i 7)) (oT (t := 3) (r := V.i 7)))
 refine cV 100 ?_
 refine cI h (fun _ h => ?_) (fun _ h => ?_)
 ·refine cV 100 (CO.ret ?_)
  cases h
  exact eG [] (.inr rfl) (RetV.two rfl (oT (t := 2) (r := V.i 8)) (oT (t := 3) (r := V.i 8)))
 refine cV 100 ?_
 refine cI h (fun _ h => ?_) (fun _ h => ?_)
 ·refine cV 100 (CO.ret ?_)
  cases h
  exact eG [] (.inr rfl) (RetV.two rfl (oT (t := 2) (r := V.i 8)) (oT (t := 3) (r := V.i 9)))
 refine cV 100 ?_
 refine cI h (fun _ h => ?_) (fun _ h => ?_)
 ·refine cV 100 (CO.ret ?_)
  cases h
  exact eG [] (.inr rfl) (RetV.two rfl (oT (t := 2) (r := V.i 9)) (oT (t := 3) (r := V.i 10)))
 refine cV 100 ?_
 refine cI h (fun _ h => ?_) (fun _ h => ?_)
 ·refine cV 100 (CO.ret ?_)
  cases h
  exact eG [] (.inr rfl) (RetV.two rfl (oT (t := 2) (r := V.i 10)) (oT (t := 3) (r := V.i 11)))
 refine CO.skip (cV 100 (CO.ret ?_))
 cases h
 exact eG [] (.inr rfl) (RetV.two rfl (oT (t := 2) (r := V.i 13)) (oT (t := 3) (r := V.i 11)))

theorem ms_l11Is_ok (a1 : Int) (a2 : SPos) (pa : LT) (pb : Int) (pc : Bool) (p1 : LT) {r : Bool} (h : ms_l11Is a1 a2 pa pb pc p1 = some r) :
    AC0 149 [.loc 0 0, V.i a1, .agg [V.i a2.Level, V.b a2.Dollar, V.b a2.NoIn, V.b a2.NoGt, V.b a2.NoSign]] [(0, cP 87 pa pb pc 1), (1, vX 55 3 eTk p1)] (V.b r) [(0, cP 87 pa pb pc 1), (1, vX 55 3 eTk p1)] := by
 rw [ms_l11Is] at h
 refine AC.enter Tryz.func149 rfl (cV 100 (bB h fun r2 hx2 h => (CO.sw mix (wR 1 101 (W.call (ms_l11Kind_ok pa pb pc p1 hx2) cok63 [(0, 0), (1, 1)] [(0, 0), (1, 1)] [] lO (by kernel_rfl) (by kernel_rfl) (wR 1 101 (wF (CO.seq' ?_))))))))
 refine bB h fun y7 hv13 h => ?_
 refine CO.cutR (tl 48 [(0, .loc 0 0), (1, V.i a1), (5, .loc 100 0), (7, V.i r2), (17, V.b y7)]) [(0, cP 87 pa pb pc 1), (100, .cells 30 [V.i a2.Level, V.b a2.Dollar, V.b a2.NoIn, V.b a2.NoGt, V.b a2.NoSign]), (1, vX 55 3 eTk p1)] mix (by
  refine wR 5 101 ?_
  refine wJ 14 hv13 (fun hv13 => ?_) (fun hv13 => ?_)
  ·refine wR 3 101 ?_
   cases hv13
   exact fS [(0, 0), (100, 100), (1, 1)] [0, 1, 5, 7, 17]
  refine wR 3 101 ?_
  cases hv13
  exact fS [(0, 0), (100, 100), (1, 1)] [0, 1, 5, 7, 17]
  ) ?_
 refine cI h (fun _ h => ?_) (fun _ h => ?_)
 ·refine bB h fun y9 hv18 h => ?_
  refine CO.cutR (tl 48 [(6, V.b y9)]) [(0, cP 87 pa pb pc 1), (1, vX 55 3 eTk p1)] mix (by
   refine wR 6 101 ?_
   refine wJ 23 hv18 (fun hv18 => ?_) (fun hv18 => ?_)
   ·refine wR 1 101 (bB hv18 fun r10 hx20 hv18 => (W.call0 (ms_BeginsOperand_ok r2 hx20) cok61 rfl (by kernel_rfl) (wR 2 101 ?_)))
    cases hv18
    exact fS [(0, 0), (1, 1)] [6]
   refine wR 4 101 ?_
   cases hv18
   exact fS [(0, 0), (1, 1)] [6]
   ) ?_
  refine CO.ret ?_
  have h := sI h
  subst h
  exact eG [(0, 0), (1, 1)] (.inr rfl) (RetV.one rfl (oT (t := 6) (r := V.b y9)))
 refine CO.skip (bB h fun y12 hv26 h => ?_)
 refine CO.cutR (tl 48 [(6, V.b y12)]) [(0, cP 87 pa pb pc 1), (1, vX 55 3 eTk p1)] mix (by
  refine wR 3 101 ?_
  refine wJ 29 hv26 (fun hv26 => ?_) (fun hv26 => ?_)
  ·refine wR 4 101 ?_
   refine wJ 33 hv26 (fun hv26 => ?_) (fun hv26 => ?_)
   ·refine wR 1 101 (bB hv26 fun r13 hx29 hv26 => (W.call0 (ms_OpLevel_ok r2 hx29) cok186 rfl (by kernel_rfl) (wR 4 101 ?_)))
    refine wJ 39 hv26 (fun hv26 => ?_) (fun hv26 => ?_)
    ·refine wR 3 101 ?_
     refine wJ 42 hv26 (fun hv26 => ?_) (fun hv26 => ?_)
     ·refine wR 6 101 ?_
      cases hv26
      exact fS [(0, 0), (1, 1)] [6]
     refine wR 6 101 ?_
     cases hv26
     exact fS [(0, 0), (1, 1)] [6]
    refine wR 9 101 ?_
    cases hv26
    exact fS [(0, 0), (1, 1)] [6]
   refine wR 15 101 ?_
   cases hv26
   exact fS [(0, 0), (1, 1)] [6]
  refine wR 19 101 ?_
  cases hv26
  exact fS [(0, 0), (1, 1)] [6]
  ) ?_
 refine CO.ret ?_
 have h := sI h
 subst h
 exact eG [(0, 0), (1, 1)] (.inr rfl) (RetV.one rfl (oT (t := 6) (r := V.b y12)))

theorem ms_l11Leaf_ok (a1 : Int) (pa : LT) (pb : Int) (pc : Bool) (p1 : LT) {r : (SL11X × Int × Bool)} (h : ms_l11Leaf a1 pa pb pc p1 = some r) :
    AC0 151 [.loc 0 0, V.i a1] [(0, cP 87 pa pb pc 1), (1, vX 55 3 eTk p1)] (.agg [.own 100, V.b r.1.held]) [(0, cP 87 pa r.2.1 r.2.2 1), (1, vX 55 3 eTk p1), (100, .vec false 73 5 (r.1.l.map (eSN true)))] := by
 rw [ms_l11Leaf] at h
 refine AC.enter Tryz.func151 rfl (cV 100 (bB h fun e3 hx3 h => (bB h fun r4 hx4 h => (CO.sw mix (wR 9 101 (W.ixD Dk eTk hx3 3 (by kernel_rfl) (by kernel_rfl) (wR 2 101 (W.call (ms_l11Take_ok e3.Kind pa pb pc p1 hx4) cok91 [(0, 0), (1, 1)] [(0, 0), (1, 1)] [] lO (by kernel_rfl) (by kernel_rfl) ?_))))))))
 refine wR 2 101 (wF (cV 102 (CO.ret ?_)))
 cases h
 exact eG [(0, 0), (1, 1), (102, 100)] (.inr rfl) (RetV.one rfl (OneR.cell Dk (r := .agg [.own 102, V.b false]) (i := 100) (ety := 89) (cs := [.own 102, V.b false]) (by kernel_rfl) (by kernel_rfl) (by kernel_rfl)))

end Go.Proofs.Tryz
