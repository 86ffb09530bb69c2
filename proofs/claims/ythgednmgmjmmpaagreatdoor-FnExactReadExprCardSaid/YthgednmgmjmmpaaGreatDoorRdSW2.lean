/-
 The walks that show that the code computes the models, part 2.
-/
import Derived.Test.YthgednmgmjmmpaaGreatDoorRdSW1
namespace Go.Proofs.Tryz
open Go.Av
set_option maxRecDepth 100000
set_option maxHeartbeats 8000000
set_option linter.unusedSimpArgs false
set_option linter.unusedVariables false

theorem ms_l11Comma_ok (N : Nat) (pa : LT) (pb : Int) (pc : Bool) (p1 : LT) {r : Bool} (h : ms_l11Comma N pa pb pc p1 = some r) :
    AC0 145 [.loc 0 0] [(0, cP 87 pa pb pc 1), (1, vX 55 3 eTk p1)] (V.b r) [(0, cP 87 pa pb pc 1), (1, vX 55 3 eTk p1)] := by
 rw [ms_l11Comma] at h
 refine AC.enter Tryz.func145 rfl (cV 100 (CO.seq' (bB h fun y5 hv9 h => ?_)))
 refine CO.cutR (tl 64 [(0, .loc 0 0), (13, V.b y5)]) [(0, cP 87 pa pb pc 1), (1, vX 55 3 eTk p1)] mix (by
  refine wR 5 100 ?_
  refine wJ 9 hv9 (fun hv9 => ?_) (fun hv9 => ?_)
  ·refine wR 4 100 ?_
   cases hv9
   exact fS [(0, 0), (1, 1)] [0, 13]
  refine wR 1 100 (bB hv9 fun r6 hx11 hv9 => (W.call (ms_l11Kind_ok pa pb pc p1 hx11) cok63 [(0, 0), (1, 1)] [(0, 0), (1, 1)] [] lO (by kernel_rfl) (by kernel_rfl) (wR 2 100 ?_)))
  cases hv9
  exact fS [(0, 0), (1, 1)] [0, 13]
  ) ?_
 refine cI h (fun _ h => ?_) (fun _ h => ?_)
 ·refine cV 100 (CO.ret ?_)
  cases h
  exact eG [(0, 0), (1, 1)] (.inr rfl) (RetV.one rfl (oT (t := 2) (r := V.b false)))
 refine CO.skip (cV 100 (CO.seq' (cV 100 (CO.block' (CO.loopJ (fun (⟨y179, y180⟩ : (Int × Int)) => ⟨tl 64 [(0, .loc 0 0), (3, V.i y179), (4, V.i y180)], [(0, cP 87 pa pb pc 1), (1, vX 55 3 eTk p1)]⟩) (fun n i => ms_l11Comma_l1 N pa pb pc p1 n i = some r) (n0 := N) (i0 := (0, pb)) (wS [(0, 0), (1, 1)] [0, 3, 4]) h (fun i h => by simp [ms_l11Comma_l1] at h) ?_)))))
 rintro n1 ⟨y179, y180⟩ h345 ih346
 rw [ms_l11Comma_l1] at h345
 refine CO.seq' (CO.sw mix (wR 5 160 (W.len Dk eTk pa [] (by kernel_rfl) (by kernel_rfl) (wR 1 160 (wF ?_)))))
 refine cI h345 (fun _ h345 => ?_) (fun _ h345 => ?_)
 ·refine CO.skip (CO.seq' (CO.block' ?_))
  refine CO.join (fun (⟨y180, y250⟩ : (Int × Int)) => ⟨tl 64 [(0, .loc 0 0), (3, V.i y250), (4, V.i y180)], [(0, cP 87 pa pb pc 1), (1, vX 55 3 eTk p1)]⟩) (fun i => ms_l11Comma_k2 N pa pb pc p1 (ms_l11Comma_l1 N pa pb pc p1 n1) i = some r) ?_ ?_
  · rintro ⟨y180, y250⟩ h386
    rw [ms_l11Comma_k2] at h386
    refine CO.join (fun (⟨y180, y255⟩ : (Int × Int)) => ⟨tl 64 [(0, .loc 0 0), (3, V.i y255), (4, V.i y180)], [(0, cP 87 pa pb pc 1), (1, vX 55 3 eTk p1)]⟩) (fun i => ms_l11Comma_k3 N pa pb pc p1 (ms_l11Comma_l1 N pa pb pc p1 n1) i = some r) ?_ ?_
    · rintro ⟨y180, y255⟩ h392
      rw [ms_l11Comma_k3] at h392
      refine CO.seq' (cV 160 ?_)
      refine cI h392 (fun _ h392 => ?_) (fun _ h392 => ?_)
      ·refine cV 160 (CO.ret ?_)
       cases h392
       exact eG [(0, 0), (1, 1)] (.inr rfl) (RetV.one rfl (oT (t := 2) (r := V.b false)))
      refine CO.skip (bB h392 fun y257 hv397 h392 => ?_)
      refine CO.cutR (tl 64 [(0, .loc 0 0), (3, V.i y255), (4, V.i y180), (63, V.b y257)]) [(0, cP 87 pa pb pc 1), (1, vX 55 3 eTk p1)] mix (by
       refine wR 3 160 ?_
       refine wJ 53 hv397 (fun hv397 => ?_) (fun hv397 => ?_)
       ·refine wR 5 160 (bB hv397 fun e258 hx399 hv397 => (W.ixD Dk eTk hx399 3 (by kernel_rfl) (by kernel_rfl) (wR 4 160 ?_)))
        cases hv397
        exact fS [(0, 0), (1, 1)] [0, 3, 4, 63]
       refine wR 10 160 ?_
       cases hv397
       exact fS [(0, 0), (1, 1)] [0, 3, 4, 63]
       ) ?_
      refine cI h392 (fun _ h392 => ?_) (fun _ h392 => ?_)
      ·refine cV 160 (CO.ret ?_)
       cases h392
       exact eG [(0, 0), (1, 1)] (.inr rfl) (RetV.one rfl (oT (t := 2) (r := V.b true)))
      refine CO.skip ?_
      exact cK 160 ih346 (y255, (IntKind.wrap .i64 (y180 + 1))) h392 [(0, 0), (1, 1)] [0, 3, 4]
    intro hk401
    refine bB h386 fun e261 hx404 h386 => (bB h386 fun r262 hx405 h386 => (CO.sw mix (wR 5 160 (W.ixD Dk eTk hx404 3 (by kernel_rfl) (by kernel_rfl) (wR 2 160 (W.call0 (ms_l10Close_ok e261.Kind hx405) cok89 rfl (by kernel_rfl) (wF ?_)))))))
    refine cI h386 (fun _ h386 => ?_) (fun _ h386 => ?_)
    ·exact cK 160 hk401 (y180, (IntKind.wrap .i64 (y250 - 1))) h386 [(0, 0), (1, 1)] [0, 3, 4]
    exact sK hk401 (y180, y250) h386 [(0, 0), (1, 1)] [0, 3, 4]
  intro hk407
  refine bB h345 fun e265 hx410 h345 => (bB h345 fun r266 hx411 h345 => (CO.sw mix (wR 5 160 (W.ixD Dk eTk hx410 3 (by kernel_rfl) (by kernel_rfl) (wR 2 160 (W.call0 (ms_l10Open_ok e265.Kind hx411) cok90 rfl (by kernel_rfl) (wF ?_)))))))
  refine cI h345 (fun _ h345 => ?_) (fun _ h345 => ?_)
  ·exact cK 160 hk407 (y180, (IntKind.wrap .i64 (y179 + 1))) h345 [(0, 0), (1, 1)] [0, 3, 4]
  exact sK hk407 (y180, y179) h345 [(0, 0), (1, 1)] [0, 3, 4]
 refine CO.exit (cV 160 (CO.ret ?_))
 cases h345
 exact eG [(0, 0), (1, 1)] (.inr rfl) (RetV.one rfl (oT (t := 2) (r := V.b false)))

theorem ms_l11Lines_ok (N : Nat) (pa : LT) (pb : Int) (pc : Bool) (p1 : LT) {r : (Int × LT)} (h : ms_l11Lines N pa pb pc p1 = some r) :
    AC0 150 [.loc 0 0] [(0, cP 87 pa pb pc 1), (1, vX 55 3 eTk p1)] (.tup []) [(0, cP 87 pa r.1 pc 100), (100, vX 55 3 eTk r.2)] := by
 rw [ms_l11Lines] at h
 refine AC.enter Tryz.func150 rfl (CO.block' (CO.loopJ (fun (⟨y24, y25⟩ : (Int × LT)) => ⟨tl 47 [(0, .loc 0 0)], [(0, cP 87 pa y24 pc 100), (100, vX 55 3 eTk y25)]⟩) (fun n i => ms_l11Lines_l1 N pa pc n i = some r) (n0 := N) (i0 := (pb, p1)) (wS [(0, 0), (1, 100)] [0]) h (fun i h => by simp [ms_l11Lines_l1] at h) ?_))
 rintro n1 ⟨y24, y25⟩ h73 ih74
 rw [ms_l11Lines_l1] at h73
 refine CO.seq' (bB h73 fun y58 hv89 h73 => ?_)
 refine CO.cutR (tl 47 [(0, .loc 0 0), (16, V.b y58)]) [(0, cP 87 pa y24 pc 100), (100, vX 55 3 eTk y25)] mix (by
  refine wR 6 164 ?_
  refine wJ 7 hv89 (fun hv89 => ?_) (fun hv89 => ?_)
  ·refine wR 1 164 (bB hv89 fun r59 hx91 hv89 => (W.call (ms_l11Kind_ok pa y24 pc y25 hx91) cok63 [(0, 0), (100, 1)] [(0, 0), (1, 100)] [] lO (by kernel_rfl) (by kernel_rfl) (wR 2 164 ?_)))
   refine wJ 11 hv89 (fun hv89 => ?_) (fun hv89 => ?_)
   ·refine wR 5 164 ?_
    cases hv89
    exact fS [(0, 0), (100, 100)] [0, 16]
   refine wR 1 164 (bB hv89 fun r60 hx93 hv89 => (W.call (ms_l11Kind_ok pa y24 pc y25 hx93) cok63 [(0, 0), (100, 1)] [(0, 0), (1, 100)] [] lO (by kernel_rfl) (by kernel_rfl) (wR 3 164 ?_)))
   cases hv89
   exact fS [(0, 0), (100, 100)] [0, 16]
  refine wR 9 164 ?_
  cases hv89
  exact fS [(0, 0), (100, 100)] [0, 16]
  ) ?_
 refine cI h73 (fun _ h73 => ?_) (fun _ h73 => ?_)
 ·refine CO.skip (CO.block' ?_)
  refine CO.join (fun (⟨y24, y67⟩ : (Int × LT)) => ⟨tl 47 [(0, .loc 0 0)], [(0, cP 87 pa y24 pc 100), (100, vX 55 3 eTk y67)]⟩) (fun i => ms_l11Lines_k2 N pa pc (ms_l11Lines_l1 N pa pc n1) i = some r) ?_ ?_
  · rintro ⟨y24, y67⟩ h102
    rw [ms_l11Lines_k2] at h102
    exact cK 166 ih74 ((IntKind.wrap .i64 (y24 + 1)), y67) h102 [(0, 0), (100, 100)] [0]
  intro hk103
  refine bB h73 fun r69 hx105 h73 => (CO.sw mix (wR 1 164 (W.call (ms_l11Kind_ok pa y24 pc y25 hx105) cok63 [(0, 0), (100, 1)] [(0, 0), (1, 100)] [] lO (by kernel_rfl) (by kernel_rfl) (wR 1 164 (wF ?_)))))
  refine cI h73 (fun _ h73 => ?_) (fun _ h73 => ?_)
  ·refine bB h73 fun e72 hx109 h73 => (bB h73 fun x73 hx110 h73 => (CO.w mix (wR 13 164 (W.ixD Dk eTk hx109 3 (by kernel_rfl) (by kernel_rfl) (wR 2 164 (W.appO Dk eTk (a := 100) (c := 164) (el := 55) (sz := 3) 32 hx110 rfl 165 (by kernel_rfl) (wR 3 166 ?_)))))))
   exact wK hk103 (y24, x73) h73 [(0, 0), (165, 100)] [0]
  exact sK hk103 (y24, y25) h73 [(0, 0), (100, 100)] [0]
 refine CO.exit ?_
 cases h73
 exact eG [(0, 0), (100, 100)] (.inl rfl) (RetV.none rfl)

theorem ms_l11Any_ok (a0 : Int) {r : Int} (h : ms_l11Any a0 = some r) :
    AC0 148 [V.i a0] [] (V.i r) [] := by
 rw [ms_l11Any] at h
 refine AC.enter Tryz.func148 rfl (cV 100 (bB h fun e2 hx2 h => (CO.sw mix (wR 2 100 (W.ixO Dk eNI hx2 100 1 (by kernel_rfl) (W.ldO Dk eNI hx2 3 100 0 (V.i e2) (by kernel_rfl) (by kernel_rfl) (wR 1 101 (wF ?_))))))))
 cases h
 exact e1 2 id

theorem ms_OpLevel_ok (a0 : Int) {r : Int} (h : ms_OpLevel a0 = some r) :
    AC0 186 [V.i a0] [] (V.i r) [] := by
 rw [ms_OpLevel] at h
 refine AC.enter Tryz.func186 rfl (cV 100 (CO.seq' (cV 100 (CO.block' (cV 100 ?_)))))
 refine cI h (fun _ h => ?_) (fun _ h => ?_)
 ·refine cV 100 ?_
  cases h
  exact e1 2 id
 refine cV 100 ?_
 refine cI h (fun _ h => ?_) (fun _ h => ?_)
 ·refine cV 100 ?_
  cases h
  exact e1 2 id
 refine CO.join (fun (⟨a0, y5⟩ : (Int × Bool)) => ⟨tl 29 [(3, V.i a0), (8, V.b y5)], []⟩) (fun i => ms_OpLevel_k1 i = some r) ?_ ?_
 · rintro ⟨a0, y5⟩ h38
   rw [ms_OpLevel_k1] at h38
   refine cI h38 (fun _ h38 => ?_) (fun _ h38 => ?_)
   ·refine cV 100 ?_
    cases h38
    exact e1 2 id
   refine CO.join (fun (⟨a0, y6⟩ : (Int × Bool)) => ⟨tl 29 [(3, V.i a0), (11, V.b y6)], []⟩) (fun i => ms_OpLevel_k2 i = some r) ?_ ?_
   · rintro ⟨a0, y6⟩ h45
     rw [ms_OpLevel_k2] at h45
     refine cI h45 (fun _ h45 => ?_) (fun _ h45 => ?_)
     ·refine cV 100 ?_
      cases h45
      exact e1 2 id
     refine cV 100 ?_
     refine cI h45 (fun _ h45 => ?_) (fun _ h45 => ?_)
     ·refine cV 100 ?_
      cases h45
      exact e1 2 id
     refine CO.join (fun (⟨a0, y7⟩ : (Int × Bool)) => ⟨tl 29 [(3, V.i a0), (20, V.b y7)], []⟩) (fun i => ms_OpLevel_k3 i = some r) ?_ ?_
     · rintro ⟨a0, y7⟩ h49
       rw [ms_OpLevel_k3] at h49
       refine cI h49 (fun _ h49 => ?_) (fun _ h49 => ?_)
       ·refine cV 100 ?_
        cases h49
        exact e1 2 id
       refine CO.join (fun (⟨a0, y8⟩ : (Int × Bool)) => ⟨tl 29 [(3, V.i a0), (23, V.b y8)], []⟩) (fun i => ms_OpLevel_k4 i = some r) ?_ ?_
       · rintro ⟨a0, y8⟩ h53
         rw [ms_OpLevel_k4] at h53
         refine cI h53 (fun _ h53 => ?_) (fun _ h53 => ?_)
         ·refine cV 100 ?_
          cases h53
          exact e1 2 id
         refine cV 100 ?_
         refine cI h53 (fun _ h53 => ?_) (fun _ h53 => ?_)
         ·refine cV 100 ?_
          cases h53
          exact e1 2 id
         refine CO.skip (cV 100 ?_)
         cases h53
         exact e1 2 id
       intro hk56
       refine cV 100 ?_
       refine cI h49 (fun _ h49 => ?_) (fun _ h49 => ?_)
       ·exact sK hk56 (a0, (a0 == 57)) h49 [] [3, 23]
       refine cV 100 ?_
       refine cI h49 (fun _ h49 => ?_) (fun _ h49 => ?_)
       ·exact sK hk56 (a0, (a0 == 58)) h49 [] [3, 23]
       exact cK 100 hk56 (a0, (a0 == 59)) h49 [] [3, 23]
     intro hk59
     refine cV 100 ?_
     refine cI h45 (fun _ h45 => ?_) (fun _ h45 => ?_)
     ·exact sK hk59 (a0, (a0 == 55)) h45 [] [3, 20]
     exact cK 100 hk59 (a0, (a0 == 56)) h45 [] [3, 20]
   intro hk61
   refine cV 100 ?_
   refine cI h38 (fun _ h38 => ?_) (fun _ h38 => ?_)
   ·exact sK hk61 (a0, (a0 == 63)) h38 [] [3, 11]
   refine cV 100 ?_
   refine cI h38 (fun _ h38 => ?_) (fun _ h38 => ?_)
   ·exact sK hk61 (a0, (a0 == 48)) h38 [] [3, 11]
   refine cV 100 ?_
   refine cI h38 (fun _ h38 => ?_) (fun _ h38 => ?_)
   ·exact sK hk61 (a0, (a0 == 47)) h38 [] [3, 11]
   refine cV 100 ?_
   refine cI h38 (fun _ h38 => ?_) (fun _ h38 => ?_)
   ·exact sK hk61 (a0, (a0 == 50)) h38 [] [3, 11]
   refine cV 100 ?_
   refine cI h38 (fun _ h38 => ?_) (fun _ h38 => ?_)
   ·exact sK hk61 (a0, (a0 == 62)) h38 [] [3, 11]
   exact cK 100 hk61 (a0, (a0 == 49)) h38 [] [3, 11]
 intro hk67
 refine cV 100 ?_
 refine cI h (fun _ h => ?_) (fun _ h => ?_)
 ·exact sK hk67 (a0, (a0 == 67)) h [] [3, 8]
 exact cK 100 hk67 (a0, (a0 == 46)) h [] [3, 8]

theorem ms_l9Sides_ok (a0 : Int) {r : (Int × Int)} (h : ms_l9Sides a0 = some r) :
    AC0 147 [V.i a0] [] (.tup [V.i r.1, V.i r.2]) [] := by
 rw [ms_l9Sides] at h
 refine AC.enter Tryz.func147 rfl (cV 100 (CO.seq' (bB h fun r4 hx11 h => (cC 1 100 (ms_OpLevel_ok a0 hx11) cok186 (CO.block' (cV 100 ?_))))))
 refine cI h (fun _ h => ?_) (fun _ h => ?_)
 ·refine cV 100 (CO.ret ?_)
  cases h
  exact eG [] (.inr rfl) (RetV.two rfl (oT (t := 2) (r := V.i 3)) (oT (t := 3) (r := V.i 4)))
 refine cV 100 ?_
 refine cI h (fun _ h => ?_) (fun _ h => ?_)
 ·refine cV 100 (CO.ret ?_)
  cases h
  exact eG [] (.inr rfl) (RetV.two rfl (oT (t := 2) (r := V.i 4)) (oT (t := 3) (r := V.i 5)))
 refine cV 100 ?_
 refine cI h (fun _ h => ?_) (fun _ h => ?_)
 ·refine cV 100 (CO.ret ?_)
  cases h
  exact eG [] (.inr rfl) (RetV.two rfl (oT (t := 2) (r := V.i 7)) (oT (t := 3) (r := V.i 7)))
 refine cV 100 ?_
 refine cI h (fun _ h => ?_) (fun _ h => ?_)
 ·refine cV 100 (CO.ret ?_)
  cases h
  exact eG [] (.inr rfl) (RetV.two rfl (oT (t := 2) (r := V.i 8)) (oT (t := 3) (r := V.i 8)))
 refine cV 100 ?_
 refine cI h (fun _ h => ?_) (fun _ h => ?_)
 ·refine cV 100 (CO.ret ?_)
  cases h
  exact eG [] (.inr rfl) (RetV.two rfl (oT (t := 2) (r := V.i 8)) (oT (t := 3) (r := V.i 9)))
 refine cV 100 ?_
 refine cI h (fun _ h => ?_) (fun _ h => ?_)
 ·refine cV 100 (CO.ret ?_)
  cases h
  exact eG [] (.inr rfl) (RetV.two rfl (oT (t := 2) (r := V.i 9)) (oT (t := 3) (r := V.i 10)))
 refine cV 100 ?_
 refine cI h (fun _ h => ?_) (fun _ h => ?_)
 ·refine cV 100 (CO.ret ?_)
  cases h
  exact eG [] (.inr rfl) (RetV.two rfl (oT (t := 2) (r := V.i 10)) (oT (t := 3) (r := V.i 11)))
 refine CO.skip (cV 100 (CO.ret ?_))
 cases h
 exact eG [] (.inr rfl) (RetV.two rfl (oT (t := 2) (r := V.i 13)) (oT (t := 3) (r := V.i 11)))

theorem ms_l11Is_ok (a1 : Int) (a2 : SPos) (pa : LT) (pb : Int) (pc : Bool) (p1 : LT) {r : Bool} (h : ms_l11Is a1 a2 pa pb pc p1 = some r) :
    AC0 149 [.loc 0 0, V.i a1, .agg [V.i a2.Level, V.b a2.Dollar, V.b a2.NoIn, V.b a2.NoGt, V.b a2.NoSign]] [(0, cP 87 pa pb pc 1), (1, vX 55 3 eTk p1)] (V.b r) [(0, cP 87 pa pb pc 1), (1, vX 55 3 eTk p1)] := by
 rw [ms_l11Is] at h
 refine AC.enter Tryz.func149 rfl (cV 100 (bB h fun r2 hx2 h => (CO.sw mix (wR 1 101 (W.call (ms_l11Kind_ok pa pb pc p1 hx2) cok63 [(0, 0), (1, 1)] [(0, 0), (1, 1)] [] lO (by kernel_rfl) (by kernel_rfl) (wR 1 101 (wF (CO.seq' ?_))))))))
 refine bB h fun y7 hv13 h => ?_
 refine CO.cutR (tl 48 [(0, .loc 0 0), (1, V.i a1), (5, .loc 100 0), (7, V.i r2), (17, V.b y7)]) [(0, cP 87 pa pb pc 1), (100, .cells 30 [V.i a2.Level, V.b a2.Dollar, V.b a2.NoIn, V.b a2.NoGt, V.b a2.NoSign]), (1, vX 55 3 eTk p1)] mix (by
  refine wR 5 101 ?_
  refine wJ 14 hv13 (fun hv13 => ?_) (fun hv13 => ?_)
  ·refine wR 3 101 ?_
   cases hv13
   exact fS [(0, 0), (100, 100), (1, 1)] [0, 1, 5, 7, 17]
  refine wR 3 101 ?_
  cases hv13
  exact fS [(0, 0), (100, 100), (1, 1)] [0, 1, 5, 7, 17]
  ) ?_
 refine cI h (fun _ h => ?_) (fun _ h => ?_)
 ·refine bB h fun y9 hv18 h => ?_
  refine CO.cutR (tl 48 [(6, V.b y9)]) [(0, cP 87 pa pb pc 1), (1, vX 55 3 eTk p1)] mix (by
   refine wR 6 101 ?_
   refine wJ 23 hv18 (fun hv18 => ?_) (fun hv18 => ?_)
   ·refine wR 1 101 (bB hv18 fun r10 hx20 hv18 => (W.call0 (ms_BeginsOperand_ok r2 hx20) cok61 rfl (by kernel_rfl) (wR 2 101 ?_)))
    cases hv18
    exact fS [(0, 0), (1, 1)] [6]
   refine wR 4 101 ?_
   cases hv18
   exact fS [(0, 0), (1, 1)] [6]
   ) ?_
  refine CO.ret ?_
  have h := sI h
  subst h
  exact eG [(0, 0), (1, 1)] (.inr rfl) (RetV.one rfl (oT (t := 6) (r := V.b y9)))
 refine CO.skip (bB h fun y12 hv26 h => ?_)
 refine CO.cutR (tl 48 [(6, V.b y12)]) [(0, cP 87 pa pb pc 1), (1, vX 55 3 eTk p1)] mix (by
  refine wR 3 101 ?_
  refine wJ 29 hv26 (fun hv26 => ?_) (fun hv26 => ?_)
  ·refine wR 4 101 ?_
   refine wJ 33 hv26 (fun hv26 => ?_) (fun hv26 => ?_)
   ·refine wR 1 101 (bB hv26 fun r13 hx29 hv26 => (W.call0 (ms_OpLevel_ok r2 hx29) cok186 rfl (by kernel_rfl) (wR 4 101 ?_)))
    refine wJ 39 hv26 (fun hv26 => ?_) (fun hv26 => ?_)
    ·refine wR 3 101 ?_
     refine wJ 42 hv26 (fun hv26 => ?_) (fun hv26 => ?_)
     ·refine wR 6 101 ?_
      cases hv26
      exact fS [(0, 0), (1, 1)] [6]
     refine wR 6 101 ?_
     cases hv26
     exact fS [(0, 0), (1, 1)] [6]
    refine wR 9 101 ?_
    cases hv26
    exact fS [(0, 0), (1, 1)] [6]
   refine wR 15 101 ?_
   cases hv26
   exact fS [(0, 0), (1, 1)] [6]
  refine wR 19 101 ?_
  cases hv26
  exact fS [(0, 0), (1, 1)] [6]
  ) ?_
 refine CO.ret ?_
 have h := sI h
 subst h
 exact eG [(0, 0), (1, 1)] (.inr rfl) (RetV.one rfl (oT (t := 6) (r := V.b y12)))

theorem ms_l11Leaf_ok (a1 : Int) (pa : LT) (pb : Int) (pc : Bool) (p1 : LT) {r : (SL11X × Int × Bool)} (h : ms_l11Leaf a1 pa pb pc p1 = some r) :
    AC0 151 [.loc 0 0, V.i a1] [(0, cP 87 pa pb pc 1), (1, vX 55 3 eTk p1)] (.agg [.own 100, V.b r.1.held]) [(0, cP 87 pa r.2.1 r.2.2 1), (1, vX 55 3 eTk p1), (100, .vec false 73 5 (r.1.l.map (eSN true)))] := by
 rw [ms_l11Leaf] at h
 refine AC.enter Tryz.func151 rfl (cV 100 (bB h fun e3 hx3 h => (bB h fun r4 hx4 h => (CO.sw mix (wR 9 101 (W.ixD Dk eTk hx3 3 (by kernel_rfl) (by kernel_rfl) (wR 2 101 (W.call (ms_l11Take_ok e3.Kind pa pb pc p1 hx4) cok91 [(0, 0), (1, 1)] [(0, 0), (1, 1)] [] lO (by kernel_rfl) (by kernel_rfl) ?_))))))))
 refine wR 2 101 (wF (cV 102 (CO.ret ?_)))
 cases h
 exact eG [(0, 0), (1, 1), (102, 100)] (.inr rfl) (RetV.one rfl (OneR.cell Dk (r := .agg [.own 102, V.b false]) (i := 100) (ety := 89) (cs := [.own 102, V.b false]) (by kernel_rfl) (by kernel_rfl) (by kernel_rfl)))

end Go.Proofs.Tryz
