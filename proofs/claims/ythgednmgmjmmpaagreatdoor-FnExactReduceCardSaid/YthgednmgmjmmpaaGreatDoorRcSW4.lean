/-
 The walks that show that the code computes the models, part 4.
-/
import Derived.Test.YthgednmgmjmmpaaGreatDoorRcSW3
namespace Go.Proofs.Tryz
open Go.Av
set_option maxRecDepth 100000
set_option maxHeartbeats 8000000
set_option linter.unusedSimpArgs false
set_option linter.unusedVariables false

theorem ms_l6Starts_ok (N : Nat) (a0 : LN) {r : ((List Int) × Bool)} (h : ms_l6Starts N a0 = some r) :
    AC0 187 [.sl false false (a0.map (eSN false))] [] (.tup [.own 100, V.b r.2]) [(100, vX 3 1 eNI r.1)] := by
 rw [ms_l6Starts] at h
 refine AC.enter Tryz.func187 rfl (cV 100 (cV 100 (CO.seq' (cV 101 (CO.block' (CO.loopJ (fun (⟨a0, y917, y918⟩ : (LN × Int × (List Int))) => ⟨tl 53 [(0, .sl false false (a0.map (eSN false))), (4, .own 100), (5, V.i y917)], [(100, vX 3 1 eNI y918)]⟩) (fun n i => ms_l6Starts_l1 N n i = some r) (n0 := N) (i0 := (a0, 0, [])) (wS [(100, 100)] [0, 4, 5]) h (fun i h => by simp [ms_l6Starts_l1] at h) ?_))))))
 rintro n1 ⟨a0, y917, y918⟩ h1961 ih1962
 rw [ms_l6Starts_l1] at h1961
 refine CO.seq' (CO.sw mix (wR 2 245 (W.len Dk (eSN false) a0 [] (by kernel_rfl) (by kernel_rfl) (wR 1 245 (wF ?_)))))
 refine cI h1961 (fun _ h1961 => ?_) (fun _ h1961 => ?_)
 ·refine CO.skip (CO.seq' (CO.block' (cV 245 (CO.seq' (bB h1961 fun e1474 hx2322 h1961 => (CO.sw mix (wR 2 245 (W.ixD Dk (eSN false) hx2322 5 (by kernel_rfl) (by kernel_rfl) ?_))))))))
  refine wR 2 245 (W.len Dk eNI e1474.Kids [] (by kernel_rfl) (by kernel_rfl) (wR 2 245 (wF (CO.block' (CO.loopJ (fun (⟨a0, y917, y918, y1499, y1500⟩ : (LN × Int × (List Int) × Int × Int)) => ⟨tl 53 [(0, .sl false false (a0.map (eSN false))), (4, .own 100), (5, V.i y917), (6, V.i y1499), (7, V.i y1500)], [(100, vX 3 1 eNI y918)]⟩) (fun n i => ms_l6Starts_l2 N (ms_l6Starts_l1 N n1) n i = some r) (n0 := N) (i0 := (a0, y917, y918, y917, (IntKind.wrap .i64 ((e1474.Kids.length : Int) - 1)))) (wS [(100, 100)] [0, 4, 5, 6, 7]) h1961 (fun i h => by simp [ms_l6Starts_l2] at h) ?_)))))
  rintro n2 ⟨a0, y917, y918, y1499, y1500⟩ h2399 ih2400
  rw [ms_l6Starts_l2] at h2399
  refine CO.seq' (cV 305 ?_)
  refine cI h2399 (fun _ h2399 => ?_) (fun _ h2399 => ?_)
  ·refine CO.skip (CO.seq' (CO.block' (CO.seq' (bB h2399 fun y1546 hv2432 h2399 => ?_))))
   refine CO.cutR (tl 53 [(0, .sl false false (a0.map (eSN false))), (4, .own 100), (5, V.i y917), (6, V.i y1499), (7, V.i y1500), (41, V.b y1546)]) [(100, vX 3 1 eNI y918)] mix (by
    refine wR 2 305 (bB hv2432 fun e1547 hx2433 hv2432 => (W.ixD Dk (eSN false) hx2433 5 (by kernel_rfl) (by kernel_rfl) (wR 3 305 (bB hv2432 fun e1548 hx2434 hv2432 => (W.ixD Dk eNI hx2434 1 (by kernel_rfl) (by kernel_rfl) (wR 5 305 ?_))))))
    refine wJ 38 hv2432 (fun hv2432 => ?_) (fun hv2432 => ?_)
    ·refine wR 3 305 ?_
     cases hv2432
     exact fS [(100, 100)] [0, 4, 5, 6, 7, 41]
    refine wR 3 305 ?_
    cases hv2432
    exact fS [(100, 100)] [0, 4, 5, 6, 7, 41]
    ) ?_
   refine cI h2399 (fun _ h2399 => ?_) (fun _ h2399 => ?_)
   ·refine cV 305 (CO.ret ?_)
    cases h2399
    exact eG [(305, 100)] (.inr rfl) (RetV.two rfl (oT (t := 2) (r := .own 305)) (oT (t := 3) (r := V.b false)))
   refine CO.skip (bB h2399 fun e1550 hx2438 h2399 => ?_)
   refine CO.endR (tl 53 [(0, .sl false false (a0.map (eSN false))), (4, .own 100), (5, V.i y917), (6, V.i e1550), (7, V.i y1500)]) [(100, vX 3 1 eNI y918)] mix (by
    refine wR 3 305 (W.ixO Dk eNI hx2438 100 1 (by kernel_rfl) (W.ldO Dk eNI hx2438 3 100 0 (V.i e1550) (by kernel_rfl) (by kernel_rfl) (wR 1 305 ?_)))
    exact fI
    ) (fun st hw => ?_)
   refine CO.weak hw ?_
   exact cK 305 ih2400 (a0, y917, y918, e1550, (IntKind.wrap .i64 (y1500 - 1))) h2399 [(100, 100)] [0, 4, 5, 6, 7]
  refine CO.exit (bB h2399 fun x1552 hx2440 h2399 => ?_)
  refine CO.endR (tl 53 [(0, .sl false false (a0.map (eSN false))), (4, .own 306), (5, V.i y917)]) [(306, vX 3 1 eNI x1552)] mix (by
   refine wR 3 305 (W.appO Dk eNI (a := 100) (c := 305) (el := 3) (sz := 1) 8 hx2440 rfl 306 (by kernel_rfl) (wR 1 307 ?_))
   exact fI
   ) (fun st hw => ?_)
  refine CO.weak hw ?_
  exact cK 307 ih1962 (a0, (IntKind.wrap .i64 (y917 + 1)), x1552) h2399 [(306, 100)] [0, 4, 5]
 refine CO.exit (cV 245 (CO.ret ?_))
 cases h1961
 exact eG [(100, 100)] (.inr rfl) (RetV.two rfl (oT (t := 2) (r := .own 100)) (oT (t := 3) (r := V.b true)))

theorem ms_ShapeOk_ok (N : Nat) (a0 : LN) {r : Bool} (h : ms_ShapeOk N a0 = some r) :
    AC0 154 [.sl false false (a0.map (eSN false))] [] (V.b r) [] := by
 rw [ms_ShapeOk] at h
 refine AC.enter Tryz.func154 rfl (cV 100 (CO.seq' (bB h fun r4 hx5 h => (CO.sw mix (wR 1 100 (W.len Dk (eSN false) a0 [] (by kernel_rfl) (by kernel_rfl) (W.call0 (ms_l1In_ok (a0.length : Int) 1 400 hx5) cok87 rfl (by kernel_rfl) (wR 1 100 ?_))))))))
 refine wF ?_
 refine cI h (fun _ h => ?_) (fun _ h => ?_)
 ·refine cV 100 ?_
  cases h
  exact e1 2 id
 refine CO.skip (bB h fun r6 hx8 h => (CO.sw mix (wR 1 100 (W.call (ms_l6Starts_ok N a0 hx8) cok187 [] [(100, 100)] [100] lO (by kernel_rfl) (by kernel_rfl) (wR 5 101 (wF (bB h fun y8 hv11 h => ?_)))))))
 refine CO.cutR (tl 24 [(2, V.b y8)]) [] mix (by
  refine wR 2 101 ?_
  refine wJ 15 hv11 (fun hv11 => ?_) (fun hv11 => ?_)
  ·refine wR 2 101 (W.len Dk (eSN false) a0 [] (by kernel_rfl) (by kernel_rfl) (wR 1 101 (bB hv11 fun e9 hx13 hv11 => (W.ixO Dk eNI hx13 100 1 (by kernel_rfl) (W.ldO Dk eNI hx13 3 100 0 (V.i e9) (by kernel_rfl) (by kernel_rfl) (wR 3 101 ?_))))))
   cases hv11
   exact fS [] [2]
  refine wR 9 101 ?_
  cases hv11
  exact fS [] [2]
  ) ?_
 cases h
 exact e1 2 id

theorem ms_DepthOf_ok (N : Nat) (a0 : LN) {r : Int} (h : ms_DepthOf N a0 = some r) :
    AC0 103 [.sl false false (a0.map (eSN false))] [] (V.i r) [] := by
 rw [ms_DepthOf] at h
 refine AC.enter Tryz.func103 rfl (cV 100 (CO.seq' (bB h fun r4 hx5 h => (cC 1 100 (ms_ShapeOk_ok N a0 hx5) cok154 ?_))))
 refine cI h (fun _ h => ?_) (fun _ h => ?_)
 ·refine cV 100 ?_
  cases h
  exact e1 2 id
 refine CO.skip (cV 100 (CO.seq' (cV 101 (CO.block' (CO.loopJ (fun (⟨a0, y857, y858⟩ : (LN × Int × (List Int))) => ⟨tl 51 [(0, .sl false false (a0.map (eSN false))), (3, .own 100), (4, V.i y857)], [(100, vX 3 1 eNI y858)]⟩) (fun n i => ms_DepthOf_l1 N n i = some r) (n0 := N) (i0 := (a0, 0, [])) (wS [(100, 100)] [0, 3, 4]) h (fun i h => by simp [ms_DepthOf_l1] at h) ?_)))))
 rintro n1 ⟨a0, y857, y858⟩ h1159 ih1160
 rw [ms_DepthOf_l1] at h1159
 refine CO.seq' (CO.sw mix (wR 2 285 (W.len Dk (eSN false) a0 [] (by kernel_rfl) (by kernel_rfl) (wR 1 285 (wF ?_)))))
 refine cI h1159 (fun _ h1159 => ?_) (fun _ h1159 => ?_)
 ·refine CO.skip (CO.seq' (CO.block' (cV 285 (CO.seq' (cV 285 (CO.block' (CO.loopJ (fun (⟨a0, y857, y858, y1247, y1248⟩ : (LN × Int × (List Int) × Int × Int)) => ⟨tl 51 [(0, .sl false false (a0.map (eSN false))), (3, .own 100), (4, V.i y857), (5, V.i y1247), (6, V.i y1248)], [(100, vX 3 1 eNI y858)]⟩) (fun n i => ms_DepthOf_l2 N (ms_DepthOf_l1 N n1) n i = some r) (n0 := N) (i0 := (a0, y857, y858, 1, 0)) (wS [(100, 100)] [0, 3, 4, 5, 6]) h1159 (fun i h => by simp [ms_DepthOf_l2] at h) ?_)))))))
  rintro n2 ⟨a0, y857, y858, y1247, y1248⟩ h1369 ih1370
  rw [ms_DepthOf_l2] at h1369
  refine CO.seq' (bB h1369 fun e1270 hx1375 h1369 => (CO.sw mix (wR 3 345 (W.ixD Dk (eSN false) hx1375 5 (by kernel_rfl) (by kernel_rfl) (wR 2 345 (W.len Dk eNI e1270.Kids [] (by kernel_rfl) (by kernel_rfl) (wR 1 345 (wF ?_))))))))
  refine cI h1369 (fun _ h1369 => ?_) (fun _ h1369 => ?_)
  ·refine CO.skip (CO.seq' (CO.block' (bB h1369 fun e1280 hx1386 h1369 => (bB h1369 fun e1281 hx1387 h1369 => (bB h1369 fun e1282 hx1388 h1369 => ?_)))))
   refine CO.endR (tl 51 [(0, .sl false false (a0.map (eSN false))), (3, .own 100), (4, V.i y857), (5, V.i (if (IntKind.wrap .i64 (1 + e1282)) > y1247 then (IntKind.wrap .i64 (1 + e1282)) else y1247)), (6, V.i y1248)]) [(100, vX 3 1 eNI y858)] mix (by
    refine wR 4 345 (W.ixD Dk (eSN false) hx1386 5 (by kernel_rfl) (by kernel_rfl) (wR 3 345 (W.ixD Dk eNI hx1387 1 (by kernel_rfl) (by kernel_rfl) (wR 1 345 (W.ixO Dk eNI hx1388 100 1 (by kernel_rfl) (W.ldO Dk eNI hx1388 3 100 0 (V.i e1282) (by kernel_rfl) (by kernel_rfl) (wR 3 345 ?_)))))))
    exact fI
    ) (fun st hw => ?_)
   refine CO.weak hw ?_
   exact cK 345 ih1370 (a0, y857, y858, (if (IntKind.wrap .i64 (1 + e1282)) > y1247 then (IntKind.wrap .i64 (1 + e1282)) else y1247), (IntKind.wrap .i64 (y1248 + 1))) h1369 [(100, 100)] [0, 3, 4, 5, 6]
  refine CO.exit (bB h1369 fun x1284 hx1390 h1369 => ?_)
  refine CO.endR (tl 51 [(0, .sl false false (a0.map (eSN false))), (3, .own 346), (4, V.i y857)]) [(346, vX 3 1 eNI x1284)] mix (by
   refine wR 3 345 (W.appO Dk eNI (a := 100) (c := 345) (el := 3) (sz := 1) 8 hx1390 rfl 346 (by kernel_rfl) (wR 1 347 ?_))
   exact fI
   ) (fun st hw => ?_)
  refine CO.weak hw ?_
  exact cK 347 ih1160 (a0, (IntKind.wrap .i64 (y857 + 1)), x1284) h1369 [(346, 100)] [0, 3, 4]
 refine CO.exit (bB h1159 fun e1286 hx1392 h1159 => (CO.sw mix (wR 2 285 (W.len Dk (eSN false) a0 [] (by kernel_rfl) (by kernel_rfl) (wR 1 285 (W.ixO Dk eNI hx1392 100 1 (by kernel_rfl) (W.ldO Dk eNI hx1392 3 100 0 (V.i e1286) (by kernel_rfl) (by kernel_rfl) (wR 1 285 ?_))))))))
 refine wF ?_
 cases h1159
 exact e1 2 id

theorem ms_l11Size_ok (N : Nat) (a0 : LN) {r : SFault} (h : ms_l11Size N a0 = some r) :
    AC0 66 [.sl false false (a0.map (eSN false))] [] (.agg [V.i r.Kind, V.i r.At]) [] := by
 rw [ms_l11Size] at h
 refine AC.enter Tryz.func66 rfl (cV 100 (CO.seq' (CO.sw mix (wR 1 101 (W.len Dk (eSN false) a0 [] (by kernel_rfl) (by kernel_rfl) (wR 1 101 (wF ?_)))))))
 refine cI h (fun _ h => ?_) (fun _ h => ?_)
 ·refine cV 101 (CO.ret ?_)
  cases h
  exact eG [] (.inr rfl) (RetV.one rfl (OneR.cell Dk (r := .agg [V.i 1, V.i 0]) (i := 100) (ety := 40) (cs := [V.i 1, V.i 0]) (by kernel_rfl) (by kernel_rfl) (by kernel_rfl)))
 refine CO.skip (CO.seq' (bB h fun r4 hx7 h => (cC 1 101 (ms_DepthOf_ok N a0 hx7) cok103 ?_)))
 refine cI h (fun _ h => ?_) (fun _ h => ?_)
 ·refine cV 101 (CO.ret ?_)
  cases h
  exact eG [] (.inr rfl) (RetV.one rfl (OneR.cell Dk (r := .agg [V.i 4, V.i 0]) (i := 100) (ety := 40) (cs := [V.i 4, V.i 0]) (by kernel_rfl) (by kernel_rfl) (by kernel_rfl)))
 refine CO.skip (cV 101 (CO.ret ?_))
 cases h
 exact eG [] (.inr rfl) (RetV.one rfl (OneR.cell Dk (r := .agg [V.i 0, V.i 0]) (i := 100) (ety := 40) (cs := [V.i 0, V.i 0]) (by kernel_rfl) (by kernel_rfl) (by kernel_rfl)))

theorem ms_ParseExpr_ok (N : Nat) (a0 : LT) (a1 : SPos) {r : (LN × Int × SFault)} (h : ms_ParseExpr N a0 a1 = some r) :
    AC0 40 [sL eTk a0, .agg [V.i a1.Level, V.b a1.Dollar, V.b a1.NoIn, V.b a1.NoGt, V.b a1.NoSign]] [] (.tup [.own 100, V.i r.2.1, .agg [V.i r.2.2.Kind, V.i r.2.2.At]]) [(100, .vec false 73 5 (r.1.map (eSN true)))] := by
 rw [ms_ParseExpr] at h
 refine AC.enter Tryz.func40 rfl (cV 100 (CO.seq' (bB h fun r4 hx5 h => (cC 1 102 (ms_PosOk_ok a1 hx5) cok58 ?_))))
 refine cI h (fun _ h => ?_) (fun _ h => ?_)
 ·refine cV 102 (CO.ret ?_)
  cases h
  exact eG [(102, 100)] (.inr rfl) (RetV.three rfl (oT (t := 4) (r := .own 102)) (oT (t := 5) (r := V.i 0)) (OneR.cell Dk (r := .agg [V.i 3, V.i 0]) (i := 101) (ety := 40) (cs := [V.i 3, V.i 0]) (by kernel_rfl) (by kernel_rfl) (by kernel_rfl)))
 refine CO.skip (CO.seq' (bB h fun r8 hx11 h => (cC 1 102 (ms_TokensOk_ok N a0 hx11) cok59 ?_)))
 refine cI h (fun _ h => ?_) (fun _ h => ?_)
 ·refine cV 102 (CO.ret ?_)
  cases h
  exact eG [(102, 100)] (.inr rfl) (RetV.three rfl (oT (t := 4) (r := .own 102)) (oT (t := 5) (r := V.i 0)) (OneR.cell Dk (r := .agg [V.i 2, V.i 0]) (i := 101) (ety := 40) (cs := [V.i 2, V.i 0]) (by kernel_rfl) (by kernel_rfl) (by kernel_rfl)))
 refine CO.skip (bB h fun r10 hx14 h => (cC 1 102 (ms_NestOf_ok N a0 hx14) cok60 (CO.seq' (cV 102 ?_))))
 refine cI h (fun _ h => ?_) (fun _ h => ?_)
 ·refine bB h fun r14 hx20 h => (CO.sw mix (wR 3 102 (W.call0 (ms_l11Fault_ok a0 r10 4 hx20) cok42 rfl (by kernel_rfl) (wR 3 103 (wF (CO.ret ?_))))))
  have h := sI h
  subst h
  exact eG [(102, 100)] (.inr rfl) (RetV.three rfl (oT (t := 4) (r := .own 102)) (oT (t := 5) (r := V.i 0)) (OneR.cell Dk (r := .agg [V.i r14.Kind, V.i r14.At]) (i := 101) (ety := 40) (cs := [V.i r14.Kind, V.i r14.At]) (by kernel_rfl) (by kernel_rfl) (by kernel_rfl)))
 refine CO.skip (CO.seq' (bB h fun y24 hv37 h => ?_))
 refine CO.cutR (tl 90 [(0, sL eTk a0), (3, .loc 100 0), (6, .loc 101 0), (43, V.b y24)]) [(100, .cells 30 [V.i a1.Level, V.b a1.Dollar, V.b a1.NoIn, V.b a1.NoGt, V.b a1.NoSign]), (101, .cells 40 [V.i 0, V.i 0])] mix (by
  refine wR 3 102 ?_
  refine wJ 31 hv37 (fun hv37 => ?_) (fun hv37 => ?_)
  ·refine wR 1 102 (W.len Dk eTk a0 [] (by kernel_rfl) (by kernel_rfl) (wR 2 102 ?_))
   refine wJ 35 hv37 (fun hv37 => ?_) (fun hv37 => ?_)
   ·refine wR 8 102 ?_
    cases hv37
    exact fS [(100, 100), (101, 101)] [0, 3, 6, 43]
   refine wR 1 102 (bB hv37 fun e25 hx40 hv37 => (W.ixD Dk eTk hx40 3 (by kernel_rfl) (by kernel_rfl) (wR 2 102 (bB hv37 fun r26 hx41 hv37 => (W.call0 (ms_BeginsOperand_ok e25.Kind hx41) cok61 rfl (by kernel_rfl) (wR 3 102 ?_))))))
   cases hv37
   exact fS [(100, 100), (101, 101)] [0, 3, 6, 43]
  refine wR 12 102 ?_
  cases hv37
  exact fS [(100, 100), (101, 101)] [0, 3, 6, 43]
  ) ?_
 refine cI h (fun _ h => ?_) (fun _ h => ?_)
 ·refine bB h fun r28 hx44 h => (CO.sw mix (wR 2 102 (W.call0 (ms_l11Fault_ok a0 0 3 hx44) cok42 rfl (by kernel_rfl) (wR 3 103 (wF (CO.ret ?_))))))
  have h := sI h
  subst h
  exact eG [(102, 100)] (.inr rfl) (RetV.three rfl (oT (t := 4) (r := .own 102)) (oT (t := 5) (r := V.i 0)) (OneR.cell Dk (r := .agg [V.i r28.Kind, V.i r28.At]) (i := 101) (ety := 40) (cs := [V.i r28.Kind, V.i r28.At]) (by kernel_rfl) (by kernel_rfl) (by kernel_rfl)))
 refine CO.skip (cV 102 (cU 3 103 (tl 90 [(0, sL eTk a0), (3, .loc 100 0), (6, .loc 101 0), (8, .loc 102 0), (9, .loc 103 0)]) [(103, .cells 89 [.c (.slice none 0 0), V.b false]), (102, .cells 87 [sL eTk a0, V.i 0, V.b false, .c (.slice none 0 0)]), (100, .cells 30 [V.i a1.Level, V.b a1.Dollar, V.b a1.NoIn, V.b a1.NoGt, V.b a1.NoSign]), (101, .cells 40 [V.i 0, V.i 0])] ?_))
 refine CO.join (fun (⟨a0, y40, y41, y42, y43, y44⟩ : (LT × Int × Bool × Bool × LT × LN)) => ⟨tl 90 [(0, sL eTk a0), (6, .loc 100 0), (8, .loc 101 0), (9, .loc 102 0)], [(100, .cells 40 [V.i 0, V.i 0]), (101, cP 87 a0 y40 y41 103), (102, .cells 89 [.own 104, V.b y42]), (103, vX 55 3 eTk y43), (104, .vec false 73 5 (y44.map (eSN true)))]⟩) (fun i => ms_ParseExpr_k1 N i = some r) ?_ ?_
 · rintro ⟨a0, y40, y41, y42, y43, y44⟩ h60
   rw [ms_ParseExpr_k1] at h60
   refine CO.seq' (cV 107 ?_)
   refine cI h60 (fun _ h60 => ?_) (fun _ h60 => ?_)
   ·refine bB h60 fun r48 hx66 h60 => (CO.sw mix (wR 6 107 (W.call0 (ms_l11Fault_ok a0 y40 3 hx66) cok42 rfl (by kernel_rfl) (wR 3 108 (wF (CO.ret ?_))))))
    have h60 := sI h60
    subst h60
    exact eG [(107, 100)] (.inr rfl) (RetV.three rfl (oT (t := 4) (r := .own 107)) (oT (t := 5) (r := V.i 0)) (OneR.cell Dk (r := .agg [V.i r48.Kind, V.i r48.At]) (i := 100) (ety := 40) (cs := [V.i r48.Kind, V.i r48.At]) (by kernel_rfl) (by kernel_rfl) (by kernel_rfl)))
   refine CO.skip (bB h60 fun r50 hx68 h60 => (CO.sw mix (wR 2 107 (W.lend (ms_l11Size_ok N y44 hx68) cok66 [] [] (LayOk.cons (j := 104) (eSN true) (eSN false) y44 (by kernel_rfl) (sh_eSN _) lO) (.agg _ (.cons (.c _) (.cons (.c _) .nil))) .nil (by kernel_rfl) (by kernel_rfl) (wR 2 107 (wF (CO.seq' (cV 108 ?_))))))))
   refine cI h60 (fun _ h60 => ?_) (fun _ h60 => ?_)
   ·refine cV 108 (CO.ret ?_)
    have h60 := sI h60
    subst h60
    exact eG [(108, 100)] (.inr rfl) (RetV.three rfl (oT (t := 4) (r := .own 108)) (oT (t := 5) (r := V.i 0)) (OneR.cell Dk (r := .agg [V.i r50.Kind, V.i r50.At]) (i := 100) (ety := 40) (cs := [V.i r50.Kind, V.i r50.At]) (by kernel_rfl) (by kernel_rfl) (by kernel_rfl)))
   refine CO.skip (cV 108 (CO.ret ?_))
   have h60 := sI h60
   subst h60
   exact eG [(104, 100)] (.inr rfl) (RetV.three rfl (oT (t := 4) (r := .own 104)) (oT (t := 5) (r := V.i y40)) (OneR.cell Dk (r := .agg [V.i 0, V.i 0]) (i := 100) (ety := 40) (cs := [V.i 0, V.i 0]) (by kernel_rfl) (by kernel_rfl) (by kernel_rfl)))
 intro hk71
 refine CO.weak (st' := ⟨tl 90 [(0, sL eTk a0), (3, .loc 100 0), (6, .loc 101 0), (8, .loc 102 0), (9, .loc 103 0)], [(104, vX 55 3 eTk []), (103, .cells 89 [.c (.slice none 0 0), V.b false]), (102, cP 87 a0 0 false 104), (100, .cells 30 [V.i a1.Level, V.b a1.Dollar, V.b a1.NoIn, V.b a1.NoGt, V.b a1.NoSign]), (101, .cells 40 [V.i 0, V.i 0])]⟩) ((Weak.nilCell 102 3 104 55 3 (ety := 87) (cs := [sL eTk a0, V.i 0, V.b false, .c (.slice none 0 0)]) (by kernel_rfl) (by kernel_rfl) (by kernel_rfl)).trans (Weak.eq (by kernel_rfl) (by kernel_rfl))) (bB h fun y55 hv78 h => ?_)
 refine CO.cutR (tl 90 [(0, sL eTk a0), (3, .loc 100 0), (6, .loc 101 0), (8, .loc 102 0), (9, .loc 103 0), (57, V.b y55)]) [(100, .cells 30 [V.i a1.Level, V.b a1.Dollar, V.b a1.NoIn, V.b a1.NoGt, V.b a1.NoSign]), (101, .cells 40 [V.i 0, V.i 0]), (102, cP 87 a0 0 false 104), (103, .cells 89 [.c (.slice none 0 0), V.b false]), (104, vX 55 3 eTk [])] mix (by
  refine wR 3 105 ?_
  refine wJ 53 hv78 (fun hv78 => ?_) (fun hv78 => ?_)
  ·refine wR 1 105 (bB hv78 fun r56 hx80 hv78 => (W.call (ms_l11Kind_ok a0 0 false [] hx80) cok63 [(102, 0), (104, 1)] [(0, 102), (1, 104)] [] lO (by kernel_rfl) (by kernel_rfl) (bB hv78 fun r57 hx81 hv78 => (W.call0 (ms_l11Signs_ok r56 hx81) cok62 rfl (by kernel_rfl) (wR 1 105 ?_)))))
   cases hv78
   exact fS [(100, 100), (101, 101), (102, 102), (103, 103), (104, 104)] [0, 3, 6, 8, 9, 57]
  refine wR 4 105 ?_
  cases hv78
  exact fS [(100, 100), (101, 101), (102, 102), (103, 103), (104, 104)] [0, 3, 6, 8, 9, 57]
  ) ?_
 refine cI h (fun _ h => ?_) (fun _ h => ?_)
 ·refine bB h fun r59 hx84 h => (CO.w mix (wR 2 105 (W.call (ms_l11Pre_ok N a1 a0 0 false [] hx84) cok64 [(102, 0), (104, 1)] [(0, 102), (100, 105), (101, 106)] [105, 106] lO (by kernel_rfl) (by kernel_rfl) (wR 1 107 ?_))))
  exact wK hk71 (a0, r59.2.1, r59.2.2.1, r59.1.held, r59.2.2.2, r59.1.l) h [(101, 100), (102, 101), (103, 102), (106, 103), (105, 104)] [0, 6, 8, 9]
 refine bB h fun r61 hx86 h => (CO.w mix (wR 2 105 (W.call (ms_l11At_ok N a1 a0 0 false [] hx86) cok65 [(102, 0), (104, 1)] [(0, 102), (100, 105), (101, 106)] [105, 106] lO (by kernel_rfl) (by kernel_rfl) (wR 1 107 ?_))))
 exact wK hk71 (a0, r61.2.1, r61.2.2.1, r61.1.held, r61.2.2.2, r61.1.l) h [(101, 100), (102, 101), (103, 102), (106, 103), (105, 104)] [0, 6, 8, 9]

theorem ms_l6Ints_ok (N : Nat) (a0 : List Int) (a1 : List Int) {r : Bool} (h : ms_l6Ints N a0 a1 = some r) :
    AC0 74 [sL eNI a0, sL eNI a1] [] (V.b r) [] := by
 rw [ms_l6Ints] at h
 refine AC.enter Tryz.func74 rfl (cV 100 (CO.seq' (CO.sw mix (wR 1 100 (W.len Dk eNI a0 [] (by kernel_rfl) (by kernel_rfl) (wR 1 100 (W.len Dk eNI a1 [] (by kernel_rfl) (by kernel_rfl) (wR 1 100 ?_))))))))
 refine wF ?_
 refine cI h (fun _ h => ?_) (fun _ h => ?_)
 ·refine cV 100 ?_
  cases h
  exact e1 4 id
 refine CO.skip (CO.seq' (cV 100 (CO.block' (CO.loopJ (fun (⟨a0, a1, y35⟩ : ((List Int) × (List Int) × Int)) => ⟨tl 26 [(0, sL eNI a0), (1, sL eNI a1), (5, V.i y35)], []⟩) (fun n i => ms_l6Ints_l1 N n i = some r) (n0 := N) (i0 := (a0, a1, 0)) (wS [] [0, 1, 5]) h (fun i h => by simp [ms_l6Ints_l1] at h) ?_))))
 rintro n1 ⟨a0, a1, y35⟩ h65 ih66
 rw [ms_l6Ints_l1] at h65
 refine CO.seq' (CO.sw mix (wR 2 160 (W.len Dk eNI a0 [] (by kernel_rfl) (by kernel_rfl) (wR 1 160 (wF ?_)))))
 refine cI h65 (fun _ h65 => ?_) (fun _ h65 => ?_)
 ·refine CO.skip (CO.seq' (CO.block' (bB h65 fun e51 hx76 h65 => (bB h65 fun e52 hx77 h65 => (CO.sw mix (wR 2 160 (W.ixD Dk eNI hx76 1 (by kernel_rfl) (by kernel_rfl) (wR 3 160 ?_))))))))
  refine W.ixD Dk eNI hx77 1 (by kernel_rfl) (by kernel_rfl) (wR 2 160 (wF ?_))
  refine cI h65 (fun _ h65 => ?_) (fun _ h65 => ?_)
  ·refine cV 160 ?_
   cases h65
   exact e1 4 id
  refine CO.skip ?_
  exact cK 160 ih66 (a0, a1, (IntKind.wrap .i64 (y35 + 1))) h65 [] [0, 1, 5]
 refine CO.exit (cV 160 ?_)
 cases h65
 exact e1 4 id

theorem ms_SameTree_ok (N : Nat) (a0 : LN) (a1 : LN) {r : Bool} (h : ms_SameTree N a0 a1 = some r) :
    AC0 50 [.sl false false (a0.map (eSN false)), .sl false false (a1.map (eSN false))] [] (V.b r) [] := by
 rw [ms_SameTree] at h
 refine AC.enter Tryz.func50 rfl (cV 100 (CO.seq' (CO.sw mix (wR 1 100 (W.len Dk (eSN false) a0 [] (by kernel_rfl) (by kernel_rfl) (wR 1 100 (W.len Dk (eSN false) a1 [] (by kernel_rfl) (by kernel_rfl) (wR 1 100 ?_))))))))
 refine wF ?_
 refine cI h (fun _ h => ?_) (fun _ h => ?_)
 ·refine cV 100 ?_
  cases h
  exact e1 4 id
 refine CO.skip (CO.seq' (cV 100 (CO.block' (CO.loopJ (fun (⟨a0, a1, y187⟩ : (LN × LN × Int)) => ⟨tl 81 [(0, .sl false false (a0.map (eSN false))), (1, .sl false false (a1.map (eSN false))), (5, V.i y187)], []⟩) (fun n i => ms_SameTree_l1 N n i = some r) (n0 := N) (i0 := (a0, a1, 0)) (wS [] [0, 1, 5]) h (fun i h => by simp [ms_SameTree_l1] at h) ?_))))
 rintro n1 ⟨a0, a1, y187⟩ h335 ih336
 rw [ms_SameTree_l1] at h335
 refine CO.seq' (CO.sw mix (wR 2 160 (W.len Dk (eSN false) a0 [] (by kernel_rfl) (by kernel_rfl) (wR 1 160 (wF ?_)))))
 refine cI h335 (fun _ h335 => ?_) (fun _ h335 => ?_)
 ·refine CO.skip (CO.seq' (CO.block' (bB h335 fun y269 hv386 h335 => ?_)))
  refine CO.cutR (tl 81 [(0, .sl false false (a0.map (eSN false))), (1, .sl false false (a1.map (eSN false))), (5, V.i y187), (80, V.b y269)]) [] mix (by
   refine wR 2 160 (bB hv386 fun e270 hx387 hv386 => (W.ixD Dk (eSN false) hx387 5 (by kernel_rfl) (by kernel_rfl) (wR 4 160 (bB hv386 fun e271 hx388 hv386 => (W.ixD Dk (eSN false) hx388 5 (by kernel_rfl) (by kernel_rfl) (wR 4 160 ?_))))))
   refine wJ 28 hv386 (fun hv386 => ?_) (fun hv386 => ?_)
   ·refine wR 52 160 ?_
    cases hv386
    exact fS [] [0, 1, 5, 80]
   refine wR 2 160 (bB hv386 fun e272 hx390 hv386 => (W.ixD Dk (eSN false) hx390 5 (by kernel_rfl) (by kernel_rfl) (wR 4 160 (bB hv386 fun e273 hx391 hv386 => (W.ixD Dk (eSN false) hx391 5 (by kernel_rfl) (by kernel_rfl) (wR 5 160 ?_))))))
   refine wJ 41 hv386 (fun hv386 => ?_) (fun hv386 => ?_)
   ·refine wR 39 160 ?_
    cases hv386
    exact fS [] [0, 1, 5, 80]
   refine wR 2 160 (bB hv386 fun e274 hx393 hv386 => (W.ixD Dk (eSN false) hx393 5 (by kernel_rfl) (by kernel_rfl) (wR 4 160 (bB hv386 fun e275 hx394 hv386 => (W.ixD Dk (eSN false) hx394 5 (by kernel_rfl) (by kernel_rfl) (wR 5 160 ?_))))))
   refine wJ 54 hv386 (fun hv386 => ?_) (fun hv386 => ?_)
   ·refine wR 26 160 ?_
    cases hv386
    exact fS [] [0, 1, 5, 80]
   refine wR 2 160 (bB hv386 fun e276 hx396 hv386 => (W.ixD Dk (eSN false) hx396 5 (by kernel_rfl) (by kernel_rfl) (wR 4 160 (bB hv386 fun e277 hx397 hv386 => (W.ixD Dk (eSN false) hx397 5 (by kernel_rfl) (by kernel_rfl) (wR 5 160 ?_))))))
   refine wJ 67 hv386 (fun hv386 => ?_) (fun hv386 => ?_)
   ·refine wR 13 160 ?_
    cases hv386
    exact fS [] [0, 1, 5, 80]
   refine wR 2 160 (bB hv386 fun e278 hx399 hv386 => (W.ixD Dk (eSN false) hx399 5 (by kernel_rfl) (by kernel_rfl) (wR 4 160 (bB hv386 fun e279 hx400 hv386 => (W.ixD Dk (eSN false) hx400 5 (by kernel_rfl) (by kernel_rfl) (wR 2 160 (bB hv386 fun r280 hx401 hv386 => (W.call0 (ms_l6Ints_ok N e278.Kids e279.Kids hx401) cok74 rfl (by kernel_rfl) ?_))))))))
   refine wR 2 160 ?_
   cases hv386
   exact fS [] [0, 1, 5, 80]
   ) ?_
  refine cI h335 (fun _ h335 => ?_) (fun _ h335 => ?_)
  ·refine cV 160 ?_
   cases h335
   exact e1 4 id
  refine CO.skip ?_
  exact cK 160 ih336 (a0, a1, (IntKind.wrap .i64 (y187 + 1))) h335 [] [0, 1, 5]
 refine CO.exit (cV 160 ?_)
 cases h335
 exact e1 4 id

theorem ms_l22Same_ok (N : Nat) (a0 : LT) (a1 : LT) (a2 : SPos) {r : Bool} (h : ms_l22Same N a0 a1 a2 = some r) :
    AC0 27 [sL eTk a0, sL eTk a1, .agg [V.i a2.Level, V.b a2.Dollar, V.b a2.NoIn, V.b a2.NoGt, V.b a2.NoSign]] [] (V.b r) [] := by
 rw [ms_l22Same] at h
 refine AC.enter Tryz.func27 rfl (cV 100 (bB h fun r2 hx2 h => (CO.sw mix (wR 2 101 (W.call (ms_ParseExpr_ok N a0 a2 hx2) cok40 [] [(100, 101)] [101] lO (by kernel_rfl) (by kernel_rfl) (wR 8 102 (wF (bB h fun r4 hx4 h => ?_))))))))
 refine CO.sw mix (wR 2 103 (W.call (ms_ParseExpr_ok N a1 a2 hx4) cok40 [] [(100, 103)] [103] lO (by kernel_rfl) (by kernel_rfl) (wR 8 104 (wF (bB h fun y6 hv10 h => ?_)))))
 refine CO.cutR (tl 52 [(6, V.b y6)]) [] mix (by
  refine wR 4 105 ?_
  refine wJ 30 hv10 (fun hv10 => ?_) (fun hv10 => ?_)
  ·refine wR 5 105 ?_
   refine wJ 35 hv10 (fun hv10 => ?_) (fun hv10 => ?_)
   ·refine wR 2 105 (W.len Dk eTk a0 [] (by kernel_rfl) (by kernel_rfl) (wR 3 105 ?_))
    refine wJ 41 hv10 (fun hv10 => ?_) (fun hv10 => ?_)
    ·refine wR 2 105 (W.len Dk eTk a1 [] (by kernel_rfl) (by kernel_rfl) (wR 3 105 ?_))
     refine wJ 47 hv10 (fun hv10 => ?_) (fun hv10 => ?_)
     ·refine wR 2 105 (bB hv10 fun r7 hx15 hv10 => (W.lend (ms_SameTree_ok N r2.1 r4.1 hx15) cok50 [] [] (LayOk.cons (j := 101) (eSN true) (eSN false) r2.1 (by kernel_rfl) (sh_eSN _) (LayOk.cons (j := 103) (eSN true) (eSN false) r4.1 (by kernel_rfl) (sh_eSN _) lO)) (.c _) .nil (by kernel_rfl) (by kernel_rfl) (wR 2 105 ?_)))
      cases hv10
      exact fS [] [6]
     refine wR 5 105 ?_
     cases hv10
     exact fS [] [6]
    refine wR 11 105 ?_
    cases hv10
    exact fS [] [6]
   refine wR 17 105 ?_
   cases hv10
   exact fS [] [6]
  refine wR 22 105 ?_
  cases hv10
  exact fS [] [6]
  ) ?_
 cases h
 exact e1 6 id

theorem ms_Reduce_ok (N : Nat) (a0 : LT) (a1 : SPos) {r : LT} (h : ms_Reduce N a0 a1 = some r) :
    AC0 16 [sL eTk a0, .agg [V.i a1.Level, V.b a1.Dollar, V.b a1.NoIn, V.b a1.NoGt, V.b a1.NoSign]] [] (.own 100) [(100, vX 55 3 eTk r)] := by
 rw [ms_Reduce] at h
 refine AC.enter Tryz.func16 rfl (cV 100 (bB h fun x2 hx2 h => (CO.sw mix (wR 2 101 (W.appD Dk eTk (a := 101) (el := 55) 32 hx2 rfl 102 3 (fun _ => by first | rfl | kernel_rfl) (by kernel_rfl) (wR 1 103 (wF (CO.seq' ?_))))))))
 refine cV 103 (CO.block' (CO.loopJ (fun (⟨a1, y1271, y1272⟩ : (SPos × Int × LT)) => ⟨tl 48 [(3, .loc 100 0), (5, .own 101), (6, V.i y1271)], [(100, .cells 30 [V.i a1.Level, V.b a1.Dollar, V.b a1.NoIn, V.b a1.NoGt, V.b a1.NoSign]), (101, vX 55 3 eTk y1272)]⟩) (fun n i => ms_Reduce_l1 N n i = some r) (n0 := N) (i0 := (a1, 0, x2)) (wS [(100, 100), (102, 101)] [3, 5, 6]) h (fun i h => by simp [ms_Reduce_l1] at h) ?_))
 rintro n1 ⟨a1, y1271, y1272⟩ h2001 ih2002
 rw [ms_Reduce_l1] at h2001
 refine CO.seq' (cV 293 ?_)
 refine cI h2001 (fun _ h2001 => ?_) (fun _ h2001 => ?_)
 ·refine CO.skip (CO.seq' (CO.block' (cV 293 (bB h2001 fun r1750 hx2205 h2001 => (CO.sw mix (wR 1 293 (W.lend (ms_PairsOf_ok N y1272 hx2205) cok26 [(100, 293)] [293] (LayOk.cons (j := 101) eTk eTk y1272 (by kernel_rfl) (fun _ => rfl) lO) (.own _) (.cons (DeepR.map (fun _ => (.cons (.c _) (.cons (.c _) .nil))) _) .nil) (by kernel_rfl) (by kernel_rfl) (wR 1 294 ?_))))))))
  refine wF (CO.seq' (cV 294 (CO.block' (CO.loopJ (fun (⟨y1271, a1, r1750, y1853, y1854, y1855⟩ : (Int × SPos × (List SSpan) × Bool × Int × LT)) => ⟨tl 48 [(3, .loc 100 0), (5, .own 101), (6, V.i y1271), (7, V.b y1853), (8, .own 102), (9, V.i y1854)], [(100, .cells 30 [V.i a1.Level, V.b a1.Dollar, V.b a1.NoIn, V.b a1.NoGt, V.b a1.NoSign]), (101, vX 55 3 eTk y1855), (102, vX 54 2 encSSpan r1750)]⟩) (fun n i => ms_Reduce_l2 N (ms_Reduce_l1 N n1) n i = some r) (n0 := N) (i0 := (y1271, a1, r1750, false, 0, y1272)) (wS [(100, 100), (101, 101), (293, 102)] [3, 5, 6, 7, 8, 9]) h2001 (fun i h => by simp [ms_Reduce_l2] at h) ?_))))
  rintro n2 ⟨y1271, a1, r1750, y1853, y1854, y1855⟩ h2368 ih2369
  rw [ms_Reduce_l2] at h2368
  refine CO.seq' (bB h2368 fun y1884 hv2375 h2368 => ?_)
  refine CO.cutR (tl 48 [(3, .loc 100 0), (5, .own 101), (6, V.i y1271), (7, V.b y1853), (8, .own 102), (9, V.i y1854), (26, V.b y1884)]) [(100, .cells 30 [V.i a1.Level, V.b a1.Dollar, V.b a1.NoIn, V.b a1.NoGt, V.b a1.NoSign]), (101, vX 55 3 eTk y1855), (102, vX 54 2 encSSpan r1750)] mix (by
   refine wR 2 358 (W.len Dk encSSpan r1750 [102] (by kernel_rfl) (by kernel_rfl) (wR 2 358 ?_))
   refine wJ 23 hv2375 (fun hv2375 => ?_) (fun hv2375 => ?_)
   ·refine wR 3 358 ?_
    cases hv2375
    exact fS [(100, 100), (101, 101), (102, 102)] [3, 5, 6, 7, 8, 9, 26]
   refine wR 3 358 ?_
   cases hv2375
   exact fS [(100, 100), (101, 101), (102, 102)] [3, 5, 6, 7, 8, 9, 26]
   ) ?_
  refine cI h2368 (fun _ h2368 => ?_) (fun _ h2368 => ?_)
  ·refine CO.skip ?_
   refine CO.join (fun (⟨y1271, y1854, a1, r1750, y1895, y1896⟩ : (Int × Int × SPos × (List SSpan) × Bool × LT)) => ⟨tl 48 [(3, .loc 100 0), (5, .own 101), (6, V.i y1271), (7, V.b y1895), (8, .own 102), (9, V.i y1854)], [(100, .cells 30 [V.i a1.Level, V.b a1.Dollar, V.b a1.NoIn, V.b a1.NoGt, V.b a1.NoSign]), (101, vX 55 3 eTk y1896), (102, vX 54 2 encSSpan r1750)]⟩) (fun i => ms_Reduce_k3 N (ms_Reduce_l1 N n1) (ms_Reduce_l2 N (ms_Reduce_l1 N n1) n2) i = some r) ?_ ?_
   · rintro ⟨y1271, y1854, a1, r1750, y1895, y1896⟩ h2389
     rw [ms_Reduce_k3] at h2389
     exact cK 360 ih2369 (y1271, a1, r1750, y1895, (IntKind.wrap .i64 (y1854 + 1)), y1896) h2389 [(100, 100), (101, 101), (102, 102)] [3, 5, 6, 7, 8, 9]
   intro hk2390
   refine CO.block' (bB h2368 fun e1900 hx2394 h2368 => (bB h2368 fun r1901 hx2395 h2368 => (bB h2368 fun r1902 hx2396 h2368 => (CO.sw mix (wR 4 358 (W.ixO Dk encSSpan hx2394 102 2 (by kernel_rfl) (W.ldO Dk encSSpan hx2394 54 102 0 (.agg [V.i e1900.From, V.i e1900.To]) (by kernel_rfl) (by kernel_rfl) (W.lend (ms_Without_ok N y1855 e1900 hx2395) cok28 [(100, 358)] [358] (LayOk.cons (j := 101) eTk eTk y1855 (by kernel_rfl) (fun _ => rfl) lO) (.own _) (.cons (DeepR.map (fun _ => (.cons (.c _) (.cons (.c _) (.cons (.c _) .nil)))) _) .nil) (by kernel_rfl) (by kernel_rfl) ?_))))))))
   refine wR 1 359 (W.lend (ms_l22Same_ok N y1855 r1901 a1 hx2396) cok27 [] [] (LayOk.cons (j := 101) eTk eTk y1855 (by kernel_rfl) (fun _ => rfl) (LayOk.cons (j := 358) eTk eTk r1901 (by kernel_rfl) (fun _ => rfl) lO)) (.c _) .nil (by kernel_rfl) (by kernel_rfl) (wF ?_))
   refine cI h2368 (fun _ h2368 => ?_) (fun _ h2368 => ?_)
   ·refine bB h2368 fun e1905 hx2400 h2368 => (bB h2368 fun r1906 hx2401 h2368 => (CO.sw mix (wR 3 359 (W.ixO Dk encSSpan hx2400 102 2 (by kernel_rfl) (W.ldO Dk encSSpan hx2400 54 102 0 (.agg [V.i e1905.From, V.i e1905.To]) (by kernel_rfl) (by kernel_rfl) (W.lend (ms_Without_ok N y1855 e1905 hx2401) cok28 [(100, 359)] [359] (LayOk.cons (j := 101) eTk eTk y1855 (by kernel_rfl) (fun _ => rfl) lO) (.own _) (.cons (DeepR.map (fun _ => (.cons (.c _) (.cons (.c _) (.cons (.c _) .nil)))) _) .nil) (by kernel_rfl) (by kernel_rfl) (wR 1 360 (wF ?_))))))))
    exact cK 360 hk2390 (y1271, y1854, a1, r1750, true, r1906) h2368 [(100, 100), (359, 101), (102, 102)] [3, 5, 6, 7, 8, 9]
   exact sK hk2390 (y1271, y1854, a1, r1750, y1853, y1855) h2368 [(100, 100), (101, 101), (102, 102)] [3, 5, 6, 7, 8, 9]
  refine CO.exit (cV 358 ?_)
  refine cI h2368 (fun _ h2368 => ?_) (fun _ h2368 => ?_)
  ·refine cV 358 (CO.ret ?_)
   cases h2368
   exact eG [(101, 100)] (.inr rfl) (RetV.one rfl (oT (t := 4) (r := .own 101)))
  refine CO.skip ?_
  exact cK 358 ih2002 (a1, (IntKind.wrap .i64 (y1271 + 1)), y1855) h2368 [(100, 100), (101, 101)] [3, 5, 6]
 refine CO.exit (cV 293 (CO.ret ?_))
 cases h2001
 exact eG [(101, 100)] (.inr rfl) (RetV.one rfl (oT (t := 4) (r := .own 101)))

theorem m_slices_Clone_Token_nil : AC0 35 [.c (.slice none 0 0)] [] (.own 100) [(100, vX 55 3 eTk ([] : LT))] := by
 refine AC.enter Tryz.func35 rfl ?_
 refine CO.cutR (tl 8 [(0, .c (.slice none 0 0))]) [] mix (by
   refine wR 1 100 ?_
   exact W.fin (by decide) (by kernel_rfl) (wS [] [0])
   ) ?_
 refine CO.seq' ?_
 refine CO.cutR (tl 8 [(0, .c (.slice none 0 0)), (4, V.b true)]) [] mix (by
   refine wR 1 100 (W.nilEq Dk true (by kernel_rfl) ?_)
   exact W.fin (by decide) (by kernel_rfl) (wS [] [0, 4])
   ) ?_
 refine CO.ifT (c := true) rfl (by kernel_rfl) ?_
 refine CO.cutR (tl 8 [(2, .c (.slice none 0 0))]) [] mix (by
   refine wR 1 100 ?_
   exact W.fin (by decide) (by kernel_rfl) (wS [] [2])
   ) ?_
 refine CO.weak (Weak.nil 2 101 55 3 (by kernel_rfl) (by kernel_rfl)) (CO.ret ?_)
 exact eG [(101, 100)] (.inr rfl) (RetV.one rfl (oT (t := 2) (r := .own 101)))

theorem m_slices_Clone_Token_nn (a0 : LT) {r : LT} (hx2 : app 32 [] a0 = some r) :
  AC0 35 [.sl true false (a0.map eTk)] [] (.own 100) [(100, vX 55 3 eTk r)] := by
 refine AC.enter Tryz.func35 rfl ?_
 refine CO.cutR (tl 8 [(0, .sl true false (a0.map eTk))]) [] mix (by
   refine wR 1 100 ?_
   exact W.fin (by decide) (by kernel_rfl) (wS [] [0])
   ) ?_
 refine CO.seq' ?_
 refine CO.cutR (tl 8 [(0, .sl true false (a0.map eTk)), (4, V.b false)]) [] mix (by
   refine wR 1 100 (W.nilEq Dk false (by kernel_rfl) ?_)
   exact W.fin (by decide) (by kernel_rfl) (wS [] [0, 4])
   ) ?_
 refine CO.ifF (c := false) rfl (by kernel_rfl) (CO.skip (CO.weak (st' := ⟨tl 8 [(0, .sl true false (a0.map eTk)), (4, V.b false)], []⟩) (Weak.refl _) ?_))
 refine CO.cutR (tl 8 [(2, .own 101)]) [(101, vX 55 3 eTk r)] mix (by
   refine wR 2 100 (W.appD Dk eTk (a := 100) (el := 55) 32 hx2 rfl 101 3 (fun _ => by first | rfl | kernel_rfl) (by kernel_rfl) (wR 1 102 ?_))
   exact W.fin (by decide) (by kernel_rfl) (wS [(101, 101)] [2])
   ) ?_
 refine CO.ret ?_
 exact eG [(101, 100)] (.inr rfl) (RetV.one rfl (oT (t := 2) (r := .own 101)))

theorem m_slices_Clone_Token_ok (a0 : LT) {r : LT} (h : m_slices_Clone_Token a0 = some r) :
  AC0 35 [sL eTk a0] [] (.own 100) [(100, vX 55 3 eTk r)] := by
 rw [m_slices_Clone_Token] at h
 obtain ⟨x2, h2, h⟩ := bind_some h
 have h := sI h
 subst h
 refine AC.slCase (fun h0 => ?_) (m_slices_Clone_Token_nn a0 h2)
 have ha : a0 = [] := by simpa using h0
 subst ha
 have hr : x2 = [] := by
  rw [app_some (by simp)] at h2
  simpa using h2.symm
 subst hr
 exact m_slices_Clone_Token_nil

theorem mi_afterCall_ok (a0 : LT) (a1 : Int) {r : Bool} (h : mi_afterCall a0 a1 = some r) :
    AC0 51 [sL eTk a0, V.i a1] [] (V.b r) [] := by
 rw [mi_afterCall] at h
 refine AC.enter Tryz.func51 rfl (cV 100 (bB h fun y3 hv5 h => ?_))
 refine CO.cutR (tl 25 [(4, V.b y3)]) [] mix (by
  refine wR 3 100 ?_
  refine wJ 7 hv5 (fun hv5 => ?_) (fun hv5 => ?_)
  ·refine wR 3 100 (bB hv5 fun e4 hx7 hv5 => (W.ixD Dk eTk hx7 3 (by kernel_rfl) (by kernel_rfl) (wR 4 100 ?_)))
   refine wJ 15 hv5 (fun hv5 => ?_) (fun hv5 => ?_)
   ·refine wR 10 100 ?_
    cases hv5
    exact fS [] [4]
   refine wR 3 100 (bB hv5 fun e5 hx9 hv5 => (W.ixD Dk eTk hx9 3 (by kernel_rfl) (by kernel_rfl) (wR 6 100 ?_)))
   cases hv5
   exact fS [] [4]
  refine wR 18 100 ?_
  cases hv5
  exact fS [] [4]
  ) ?_
 cases h
 exact e1 4 id

theorem mi_PairsOf_ok (N : Nat) (a0 : LT) {r : (List SSpan)} (h : mi_PairsOf N a0 = some r) :
    AC0 30 [sL eTk a0] [] (.own 100) [(100, vX 54 2 encSSpan r)] := by
 rw [mi_PairsOf] at h
 refine AC.enter Tryz.func30 rfl (cV 100 (cV 100 (CO.seq' (CO.sw mix (wR 1 101 (W.len Dk eTk a0 [] (by kernel_rfl) (by kernel_rfl) (wR 1 101 (wF ?_))))))))
 refine CO.block' (CO.loopJ (fun (⟨a0, y441, y442⟩ : (LT × Int × (List SSpan))) => ⟨tl 54 [(0, sL eTk a0), (3, .own 100), (9, sL eTk a0), (10, V.i (a0.length : Int)), (11, V.i y441)], [(100, vX 54 2 encSSpan y442)]⟩) (fun n i => mi_PairsOf_l1 N n i = some r) (n0 := N) (i0 := (a0, 0, [])) (wS [(100, 100)] [0, 3, 9, 10, 11]) h (fun i h => by simp [mi_PairsOf_l1] at h) ?_)
 rintro n1 ⟨a0, y441, y442⟩ h1023 ih1024
 rw [mi_PairsOf_l1] at h1023
 refine cV 287 (CO.seq' ?_)
 refine cI h1023 (fun _ h1023 => ?_) (fun _ h1023 => ?_)
 ·refine CO.skip ?_
  refine CO.join (fun (⟨a0, y441, y608⟩ : (LT × Int × (List SSpan))) => ⟨tl 54 [(0, sL eTk a0), (3, .own 100), (9, sL eTk a0), (10, V.i (a0.length : Int)), (11, V.i y441)], [(100, vX 54 2 encSSpan y608)]⟩) (fun i => mi_PairsOf_k2 N (mi_PairsOf_l1 N n1) i = some r) ?_ ?_
  · rintro ⟨a0, y441, y608⟩ h1127
    rw [mi_PairsOf_k2] at h1127
    exact cK 350 ih1024 (a0, (IntKind.wrap .i64 (y441 + 1)), y608) h1127 [(100, 100)] [0, 3, 9, 10, 11]
  intro hk1128
  refine CO.block' (bB h1023 fun e610 hx1130 h1023 => (CO.sw mix (wR 1 287 (W.ixD Dk eTk hx1130 3 (by kernel_rfl) (by kernel_rfl) (wR 4 287 (wF (CO.seq' (bB h1023 fun y615 hv1139 h1023 => ?_))))))))
  refine CO.cutR (tl 54 [(0, sL eTk a0), (3, .own 100), (4, V.i y441), (9, sL eTk a0), (10, V.i (a0.length : Int)), (11, V.i y441), (23, V.b y615)]) [(100, vX 54 2 encSSpan y442)] mix (by
   refine wR 4 288 ?_
   refine wJ 19 hv1139 (fun hv1139 => ?_) (fun hv1139 => ?_)
   ·refine wR 4 288 ?_
    cases hv1139
    exact fS [(100, 100)] [0, 3, 4, 9, 10, 11, 23]
   refine wR 2 288 (bB hv1139 fun r616 hx1141 hv1139 => (W.call0 (mi_afterCall_ok a0 y441 hx1141) cok51 rfl (by kernel_rfl) (wR 1 288 ?_)))
   cases hv1139
   exact fS [(100, 100)] [0, 3, 4, 9, 10, 11, 23]
   ) ?_
  refine cI h1023 (fun _ h1023 => ?_) (fun _ h1023 => ?_)
  ·refine CO.exit ?_
   exact hk1128 (a0, y441, y442) h1023 _ (wS [(100, 100)] [0, 3, 9, 10, 11])
  refine CO.skip (cV 288 (cV 288 (CO.block' (CO.loopJ (fun (⟨a0, y441, y442, y631, y632⟩ : (LT × Int × (List SSpan) × Int × Int)) => ⟨tl 54 [(0, sL eTk a0), (3, .own 100), (4, V.i y441), (6, V.i y631), (7, V.i y632), (9, sL eTk a0), (10, V.i (a0.length : Int)), (11, V.i y441)], [(100, vX 54 2 encSSpan y442)]⟩) (fun n i => mi_PairsOf_l3 N (mi_PairsOf_l1 N n1) n i = some r) (n0 := N) (i0 := (a0, y441, y442, 0, y441)) (wS [(100, 100)] [0, 3, 4, 6, 7, 9, 10, 11]) h1023 (fun i h => by simp [mi_PairsOf_l3] at h) ?_))))
  rintro n3 ⟨a0, y441, y442, y631, y632⟩ h1199 ih1200
  rw [mi_PairsOf_l3] at h1199
  refine CO.seq' (CO.sw mix (wR 2 348 (W.len Dk eTk a0 [] (by kernel_rfl) (by kernel_rfl) (wR 1 348 (wF ?_)))))
  refine cI h1199 (fun _ h1199 => ?_) (fun _ h1199 => ?_)
  ·refine CO.skip (CO.seq' (CO.block' ?_))
   refine CO.join (fun (⟨a0, y441, y632, y442, y658⟩ : (LT × Int × Int × (List SSpan) × Int)) => ⟨tl 54 [(0, sL eTk a0), (3, .own 100), (4, V.i y441), (6, V.i y658), (7, V.i y632), (9, sL eTk a0), (10, V.i (a0.length : Int)), (11, V.i y441)], [(100, vX 54 2 encSSpan y442)]⟩) (fun i => mi_PairsOf_k4 N (mi_PairsOf_l1 N n1) (mi_PairsOf_l3 N (mi_PairsOf_l1 N n1) n3) i = some r) ?_ ?_
   · rintro ⟨a0, y441, y632, y442, y658⟩ h1220
     rw [mi_PairsOf_k4] at h1220
     refine cV 348 ?_
     refine cI h1220 (fun _ h1220 => ?_) (fun _ h1220 => ?_)
     ·refine bB h1220 fun x660 hx1223 h1220 => (CO.sw mix (wR 5 348 (W.appO Dk encSSpan (a := 100) (c := 348) (el := 54) (sz := 2) 16 hx1223 rfl 349 (by kernel_rfl) (wR 1 350 (wF (CO.exit ?_))))))
      exact hk1128 (a0, y441, x660) h1220 _ (wS [(349, 100)] [0, 3, 9, 10, 11])
     refine CO.skip ?_
     exact cK 348 ih1200 (a0, y441, y442, y658, (IntKind.wrap .i64 (y632 + 1))) h1220 [(100, 100)] [0, 3, 4, 6, 7, 9, 10, 11]
   intro hk1224
   refine bB h1199 fun e662 hx1226 h1199 => (CO.sw mix (wR 2 348 (W.ixD Dk eTk hx1226 3 (by kernel_rfl) (by kernel_rfl) (wR 2 348 (wF (CO.block' (cV 348 ?_)))))))
   refine cI h1199 (fun _ h1199 => ?_) (fun _ h1199 => ?_)
   ·exact cK 348 hk1224 (a0, y441, y632, y442, (IntKind.wrap .i64 (y631 + 1))) h1199 [(100, 100)] [0, 3, 4, 6, 7, 9, 10, 11]
   refine cV 348 ?_
   refine cI h1199 (fun _ h1199 => ?_) (fun _ h1199 => ?_)
   ·exact cK 348 hk1224 (a0, y441, y632, y442, (IntKind.wrap .i64 (y631 - 1))) h1199 [(100, 100)] [0, 3, 4, 6, 7, 9, 10, 11]
   exact sK hk1224 (a0, y441, y632, y442, y631) h1199 [(100, 100)] [0, 3, 4, 6, 7, 9, 10, 11]
  refine CO.exit ?_
  exact hk1128 (a0, y441, y442) h1199 _ (wS [(100, 100)] [0, 3, 9, 10, 11])
 refine CO.exit (cV 287 (CO.ret ?_))
 cases h1023
 exact eG [(100, 100)] (.inr rfl) (RetV.one rfl (oT (t := 2) (r := .own 100)))

theorem mi_within_ok (a0 : Int) (a1 : Int) (a2 : Int) {r : Bool} (h : mi_within a0 a1 a2 = some r) :
    AC0 107 [V.i a0, V.i a1, V.i a2] [] (V.b r) [] := by
 rw [mi_within] at h
 refine AC.enter Tryz.func107 rfl (cV 100 (bB h fun y1 hv2 h => ?_))
 refine CO.cutR (tl 15 [(6, V.b y1)]) [] mix (by
  refine wR 4 100 ?_
  refine wJ 10 hv2 (fun hv2 => ?_) (fun hv2 => ?_)
  ·refine wR 5 100 ?_
   cases hv2
   exact fS [] [6]
  refine wR 5 100 ?_
  cases hv2
  exact fS [] [6]
  ) ?_
 cases h
 exact e1 6 id

theorem mi_PosOk_ok (a0 : SPos) {r : Bool} (h : mi_PosOk a0 = some r) :
    AC0 68 [.agg [V.i a0.Level, V.b a0.Dollar, V.b a0.NoIn, V.b a0.NoGt, V.b a0.NoSign]] [] (V.b r) [] := by
 rw [mi_PosOk] at h
 refine AC.enter Tryz.func68 rfl (cV 100 (bB h fun y2 hv4 h => ?_))
 refine CO.cutR (tl 16 [(2, V.b y2)]) [] mix (by
  refine wR 2 101 (bB hv4 fun r3 hx5 hv4 => (W.call0 (mi_within_ok a0.Level 1 15 hx5) cok107 rfl (by kernel_rfl) (wR 1 101 ?_)))
  refine wJ 6 hv4 (fun hv4 => ?_) (fun hv4 => ?_)
  ·refine wR 4 101 ?_
   refine wJ 10 hv4 (fun hv4 => ?_) (fun hv4 => ?_)
   ·refine wR 6 101 ?_
    cases hv4
    exact fS [] [2]
   refine wR 6 101 ?_
   cases hv4
   exact fS [] [2]
  refine wR 10 101 ?_
  cases hv4
  exact fS [] [2]
  ) ?_
 cases h
 exact e1 2 id

theorem m_stringslite_IndexByte_ok (a0 : LU) (a1 : Int) {r : Int} (h : m_stringslite_IndexByte a0 a1 = some r) :
    AC0 188 [V.s a0, .c (.int .u8 a1)] [] (V.i r) [] := by
 rw [m_stringslite_IndexByte] at h
 refine AC.enter Tryz.func188 rfl (cV 100 (CO.sw mix (wR 2 100 (W.ext (vs := [.string ⟨⟨a0⟩⟩, .int .u8 a1]) (ext199 _ _) (by kernel_rfl) (wR 1 100 (wF ?_))))))
 cases h
 exact e1 4 id

theorem m_stringslite_Index_ok (a0 : LU) {r : Int} (h : m_stringslite_Index a0 = some r) :
    AC0 206 [V.s a0, V.s [10]] [] (V.i r) [] := by
 rw [m_stringslite_Index] at h
 refine AC.enter Tryz.func206 rfl (cV 100 (cV 100 (CO.seq' (CO.block' (cV 100 ?_)))))
 refine cI h (fun _ h => ?_) (fun _ h => ?_)
 ·refine cV 100 ?_
  cases h
  exact e1 4 id
 refine cV 100 (CO.ifT (c := true) rfl (by kernel_rfl) (bB h fun b7 hx9 h => (bB h fun r8 hx10 h => (CO.sw mix (wR 2 100 (W.ixS Dk hx9 (by kernel_rfl) (W.call0 (m_stringslite_IndexByte_ok a0 ((b7).toNat : Int) hx10) cok188 rfl (by kernel_rfl) (wR 1 100 ?_))))))))
 refine wF ?_
 cases h
 exact e1 4 id

theorem m_strings_Index_ok (a0 : LU) {r : Int} (h : m_strings_Index a0 = some r) :
    AC0 203 [V.s a0, V.s [10]] [] (V.i r) [] := by
 rw [m_strings_Index] at h
 refine AC.enter Tryz.func203 rfl (cV 100 (bB h fun r2 hx2 h => (cC 2 100 (m_stringslite_Index_ok a0 hx2) cok206 ?_)))
 cases h
 exact e1 4 id

theorem m_strings_Contains_ok (a0 : LU) {r : Bool} (h : m_strings_Contains a0 = some r) :
    AC0 195 [V.s a0, V.s [10]] [] (V.b r) [] := by
 rw [m_strings_Contains] at h
 refine AC.enter Tryz.func195 rfl (cV 100 (bB h fun r2 hx2 h => (cC 2 100 (m_strings_Index_ok a0 hx2) cok203 ?_)))
 cases h
 exact e1 4 id

theorem mi_byteAt_ok (a0 : LU) (a1 : Int) {r : Int} (h : mi_byteAt a0 a1 = some r) :
    AC0 105 [V.s a0, V.i a1] [] (V.i r) [] := by
 rw [mi_byteAt] at h
 refine AC.enter Tryz.func105 rfl (cV 100 (CO.seq' (bB h fun r4 hx5 h => (cC 4 100 (mi_within_ok a1 0 (IntKind.wrap .i64 ((a0.length : Int) - 1)) hx5) cok107 ?_))))
 refine cI h (fun _ h => ?_) (fun _ h => ?_)
 ·refine cV 100 ?_
  cases h
  exact e1 4 id
 refine CO.skip (bB h fun b6 hx8 h => (CO.sw mix (wR 2 100 (W.ixS Dk hx8 (by kernel_rfl) (wR 2 100 (wF ?_))))))
 cases h
 exact e1 4 id

theorem mi_IsDigit_ok (a0 : Int) {r : Bool} (h : mi_IsDigit a0 = some r) :
    AC0 156 [V.i a0] [] (V.b r) [] := by
 rw [mi_IsDigit] at h
 refine AC.enter Tryz.func156 rfl (cV 100 (bB h fun y1 hv2 h => ?_))
 refine CO.cutR (tl 9 [(2, V.b y1)]) [] mix (by
  refine wR 3 100 ?_
  refine wJ 5 hv2 (fun hv2 => ?_) (fun hv2 => ?_)
  ·refine wR 4 100 ?_
   cases hv2
   exact fS [] [2]
  refine wR 4 100 ?_
  cases hv2
  exact fS [] [2]
  ) ?_
 cases h
 exact e1 2 id

theorem mi_digitsEnd_ok (N : Nat) (a0 : LU) (a1 : Int) {r : Int} (h : mi_digitsEnd N a0 a1 = some r) :
    AC0 189 [V.s a0, V.i a1] [] (V.i r) [] := by
 rw [mi_digitsEnd] at h
 refine AC.enter Tryz.func189 rfl (cV 100 (CO.seq' (CO.block' (CO.loopJ (fun (⟨a0, a1⟩ : (LU × Int)) => ⟨tl 12 [(0, V.s a0), (1, V.i a1)], []⟩) (fun n i => mi_digitsEnd_l1 N n i = some r) (n0 := N) (i0 := (a0, a1)) (wS [] [0, 1]) h (fun i h => by simp [mi_digitsEnd_l1] at h) ?_))))
 rintro n1 ⟨a0, a1⟩ h33 ih34
 rw [mi_digitsEnd_l1] at h33
 refine CO.seq' (bB h33 fun r33 hx42 h33 => (bB h33 fun r34 hx43 h33 => (CO.sw mix (wR 2 140 (W.call0 (mi_byteAt_ok a0 a1 hx42) cok105 rfl (by kernel_rfl) (W.call0 (mi_IsDigit_ok r33 hx43) cok156 rfl (by kernel_rfl) (wF ?_)))))))
 refine cI h33 (fun _ h33 => ?_) (fun _ h33 => ?_)
 ·refine CO.skip (CO.block' ?_)
  exact cK 140 ih34 (a0, (IntKind.wrap .i64 (a1 + 1))) h33 [] [0, 1]
 refine CO.exit (cV 140 ?_)
 cases h33
 exact e1 4 id

theorem mi_NumEnd_ok (N : Nat) (a0 : LU) (a1 : Int) {r : Int} (h : mi_NumEnd N a0 a1 = some r) :
    AC0 157 [V.s a0, V.i a1] [] (V.i r) [] := by
 rw [mi_NumEnd] at h
 refine AC.enter Tryz.func157 rfl (cV 100 (CO.seq' (bB h fun r4 hx5 h => (cC 4 100 (mi_within_ok a1 0 (IntKind.wrap .i64 ((a0.length : Int) - 1)) hx5) cok107 ?_))))
 refine cI h (fun _ h => ?_) (fun _ h => ?_)
 ·refine cV 100 ?_
  cases h
  exact e1 4 id
 refine CO.skip (bB h fun r6 hx8 h => (cC 2 100 (mi_digitsEnd_ok N a0 a1 hx8) cok189 (cV 100 ?_)))
 refine CO.join (fun (⟨a0, y11, y12⟩ : (LU × Int × Int)) => ⟨tl 71 [(0, V.s a0), (5, V.i y11), (6, V.i y12)], []⟩) (fun i => mi_NumEnd_k1 N i = some r) ?_ ?_
 · rintro ⟨a0, y11, y12⟩ h14
   rw [mi_NumEnd_k1] at h14
   refine CO.seq' (cV 100 ?_)
   refine cI h14 (fun _ h14 => ?_) (fun _ h14 => ?_)
   ·refine cV 100 ?_
    cases h14
    exact e1 4 id
   refine CO.skip ?_
   refine CO.join (fun (y11 : Int) => ⟨tl 71 [(5, V.i y11)], []⟩) (fun i => mi_NumEnd_k2 N i = some r) ?_ ?_
   · rintro y11 h40
     rw [mi_NumEnd_k2] at h40
     refine cV 100 ?_
     cases h40
     exact e1 4 id
   intro hk41
   refine bB h14 fun r26 hx43 h14 => (cC 2 100 (mi_byteAt_ok a0 y11 hx43) cok105 (bB h14 fun y27 hv45 h14 => ?_))
   refine CO.cutR (tl 71 [(0, V.s a0), (5, V.i y11), (49, V.b y27)]) [] mix (by
    refine wR 3 100 ?_
    refine wJ 46 hv45 (fun hv45 => ?_) (fun hv45 => ?_)
    ·refine wR 3 100 ?_
     cases hv45
     exact fS [] [0, 5, 49]
    refine wR 3 100 ?_
    cases hv45
    exact fS [] [0, 5, 49]
    ) ?_
   refine cI h14 (fun _ h14 => ?_) (fun _ h14 => ?_)
   ·refine cV 100 ?_
    refine CO.join (fun (⟨a0, y11, y31⟩ : (LU × Int × Int)) => ⟨tl 71 [(0, V.s a0), (5, V.i y11), (9, V.i y31)], []⟩) (fun i => mi_NumEnd_k3 N i = some r) ?_ ?_
    · rintro ⟨a0, y11, y31⟩ h54
      rw [mi_NumEnd_k3] at h54
      refine bB h54 fun r33 hx56 h54 => (cC 2 100 (mi_digitsEnd_ok N a0 y31 hx56) cok189 (cV 100 ?_))
      refine cI h54 (fun _ h54 => ?_) (fun _ h54 => ?_)
      ·refine cV 100 ?_
       cases h54
       exact e1 4 id
      exact sK hk41 y11 h54 [] [5]
    intro hk58
    refine bB h14 fun r35 hx60 h14 => (cC 2 100 (mi_byteAt_ok a0 (IntKind.wrap .i64 (y11 + 1)) hx60) cok105 (bB h14 fun y36 hv62 h14 => ?_))
    refine CO.cutR (tl 71 [(0, V.s a0), (5, V.i y11), (9, V.i (IntKind.wrap .i64 (y11 + 1))), (60, V.b y36)]) [] mix (by
     refine wR 3 100 ?_
     refine wJ 57 hv62 (fun hv62 => ?_) (fun hv62 => ?_)
     ·refine wR 3 100 ?_
      cases hv62
      exact fS [] [0, 5, 9, 60]
     refine wR 3 100 ?_
     cases hv62
     exact fS [] [0, 5, 9, 60]
     ) ?_
    refine cI h14 (fun _ h14 => ?_) (fun _ h14 => ?_)
    ·exact cK 100 hk58 (a0, y11, (IntKind.wrap .i64 ((IntKind.wrap .i64 (y11 + 1)) + 1))) h14 [] [0, 5, 9]
    exact sK hk58 (a0, y11, (IntKind.wrap .i64 (y11 + 1))) h14 [] [0, 5, 9]
   exact sK hk41 y11 h14 [] [5]
 intro hk65
 refine bB h fun r38 hx67 h => (cC 2 100 (mi_byteAt_ok a0 r6 hx67) cok105 ?_)
 refine cI h (fun _ h => ?_) (fun _ h => ?_)
 ·refine bB h fun r40 hx70 h => (cC 3 100 (mi_digitsEnd_ok N a0 (IntKind.wrap .i64 (r6 + 1)) hx70) cok189 (cV 100 ?_))
  exact cK 100 hk65 (a0, r40, (IntKind.wrap .i64 ((IntKind.wrap .i64 (r6 - a1)) + (IntKind.wrap .i64 ((IntKind.wrap .i64 (r40 - r6)) - 1))))) h [] [0, 5, 6]
 exact sK hk65 (a0, r6, (IntKind.wrap .i64 (r6 - a1))) h [] [0, 5, 6]

theorem mi_quotedEnd_ok (N : Nat) (a0 : LU) (a1 : Int) (a2 : Int) {r : Int} (h : mi_quotedEnd N a0 a1 a2 = some r) :
    AC0 190 [V.s a0, V.i a1, V.i a2] [] (V.i r) [] := by
 rw [mi_quotedEnd] at h
 refine AC.enter Tryz.func190 rfl (cV 100 (CO.seq' (bB h fun r4 hx5 h => (cC 2 100 (mi_byteAt_ok a0 a1 hx5) cok105 ?_))))
 refine cI h (fun _ h => ?_) (fun _ h => ?_)
 ·refine cV 100 ?_
  cases h
  exact e1 6 id
 refine CO.skip (CO.seq' (cV 100 (CO.block' (CO.loopJ (fun (⟨a0, a2, y91⟩ : (LU × Int × Int)) => ⟨tl 50 [(0, V.s a0), (2, V.i a2), (7, V.i y91)], []⟩) (fun n i => mi_quotedEnd_l1 N n i = some r) (n0 := N) (i0 := (a0, a2, (IntKind.wrap .i64 (a1 + 1)))) (wS [] [0, 2, 7]) h (fun i h => by simp [mi_quotedEnd_l1] at h) ?_))))
 rintro n1 ⟨a0, a2, y91⟩ h189 ih190
 rw [mi_quotedEnd_l1] at h189
 refine CO.seq' (bB h189 fun y118 hv199 h189 => ?_)
 refine CO.cutR (tl 50 [(0, V.s a0), (2, V.i a2), (7, V.i y91), (24, V.b y118)]) [] mix (by
  refine wR 5 160 ?_
  refine wJ 19 hv199 (fun hv199 => ?_) (fun hv199 => ?_)
  ·refine wR 2 160 (bB hv199 fun b119 hx201 hv199 => (W.ixS Dk hx201 (by kernel_rfl) (wR 2 160 ?_)))
   cases hv199
   exact fS [] [0, 2, 7, 24]
  refine wR 5 160 ?_
  cases hv199
  exact fS [] [0, 2, 7, 24]
  ) ?_
 refine cI h189 (fun _ h189 => ?_) (fun _ h189 => ?_)
 ·refine CO.skip ?_
  refine CO.join (fun (⟨a0, a2, y127⟩ : (LU × Int × Int)) => ⟨tl 50 [(0, V.s a0), (2, V.i a2), (7, V.i y127)], []⟩) (fun i => mi_quotedEnd_k2 N (mi_quotedEnd_l1 N n1) i = some r) ?_ ?_
  · rintro ⟨a0, a2, y127⟩ h214
    rw [mi_quotedEnd_k2] at h214
    exact cK 160 ih190 (a0, a2, (IntKind.wrap .i64 (y127 + 1))) h214 [] [0, 2, 7]
  intro hk215
  refine CO.block' (CO.block' (bB h189 fun b129 hx217 h189 => (CO.sw mix (wR 2 160 (W.ixS Dk hx217 (by kernel_rfl) (wR 4 160 (wF ?_)))))))
  refine cI h189 (fun _ h189 => ?_) (fun _ h189 => ?_)
  ·refine cV 160 ?_
   cases h189
   exact e1 6 id
  refine bB h189 fun y132 hv222 h189 => ?_
  refine CO.cutR (tl 50 [(0, V.s a0), (2, V.i a2), (7, V.i y91), (36, V.b y132)]) [] mix (by
   refine wR 2 160 (bB hv222 fun b133 hx223 hv222 => (W.ixS Dk hx223 (by kernel_rfl) (wR 2 160 ?_)))
   refine wJ 41 hv222 (fun hv222 => ?_) (fun hv222 => ?_)
   ·refine wR 3 160 (bB hv222 fun r134 hx225 hv222 => (W.call0 (mi_byteAt_ok a0 (IntKind.wrap .i64 (y91 + 1)) hx225) cok105 rfl (by kernel_rfl) (wR 3 160 ?_)))
    cases hv222
    exact fS [] [0, 2, 7, 36]
   refine wR 7 160 ?_
   cases hv222
   exact fS [] [0, 2, 7, 36]
   ) ?_
  refine cI h189 (fun _ h189 => ?_) (fun _ h189 => ?_)
  ·exact cK 160 hk215 (a0, a2, (IntKind.wrap .i64 (y91 + 1))) h189 [] [0, 2, 7]
  exact sK hk215 (a0, a2, y91) h189 [] [0, 2, 7]
 refine CO.exit (cV 160 ?_)
 cases h189
 exact e1 6 id

theorem mi_StrEnd_ok (N : Nat) (a0 : LU) (a1 : Int) {r : Int} (h : mi_StrEnd N a0 a1 = some r) :
    AC0 158 [V.s a0, V.i a1] [] (V.i r) [] := by
 rw [mi_StrEnd] at h
 refine AC.enter Tryz.func158 rfl (cV 100 (bB h fun r2 hx2 h => (cC 2 100 (mi_quotedEnd_ok N a0 a1 34 hx2) cok190 ?_)))
 cases h
 exact e1 4 id

theorem mi_EreEnd_ok (N : Nat) (a0 : LU) (a1 : Int) {r : Int} (h : mi_EreEnd N a0 a1 = some r) :
    AC0 160 [V.s a0, V.i a1] [] (V.i r) [] := by
 rw [mi_EreEnd] at h
 refine AC.enter Tryz.func160 rfl (cV 100 (bB h fun r2 hx2 h => (cC 2 100 (mi_quotedEnd_ok N a0 a1 47 hx2) cok190 (CO.seq' (cV 100 ?_)))))
 refine cI h (fun _ h => ?_) (fun _ h => ?_)
 ·refine cV 100 ?_
  cases h
  exact e1 4 id
 refine CO.skip (cV 100 ?_)
 cases h
 exact e1 4 id

theorem mi_IsLetter_ok (a0 : Int) {r : Bool} (h : mi_IsLetter a0 = some r) :
    AC0 161 [V.i a0] [] (V.b r) [] := by
 rw [mi_IsLetter] at h
 refine AC.enter Tryz.func161 rfl (cV 100 (bB h fun y1 hv7 h => ?_))
 refine CO.cutR (tl 21 [(2, V.b y1)]) [] mix (by
  refine wR 3 100 ?_
  refine wJ 5 hv7 (fun hv7 => ?_) (fun hv7 => ?_)
  ·refine wR 4 100 ?_
   refine wJ 9 hv7 (fun hv7 => ?_) (fun hv7 => ?_)
   ·refine wR 12 100 ?_
    cases hv7
    exact fS [] [2]
   refine wR 3 100 ?_
   refine wJ 12 hv7 (fun hv7 => ?_) (fun hv7 => ?_)
   ·refine wR 5 100 ?_
    refine wJ 17 hv7 (fun hv7 => ?_) (fun hv7 => ?_)
    ·refine wR 4 100 ?_
     cases hv7
     exact fS [] [2]
    refine wR 4 100 ?_
    cases hv7
    exact fS [] [2]
   refine wR 9 100 ?_
   cases hv7
   exact fS [] [2]
  refine wR 7 100 ?_
  refine wJ 12 hv7 (fun hv7 => ?_) (fun hv7 => ?_)
  ·refine wR 5 100 ?_
   refine wJ 17 hv7 (fun hv7 => ?_) (fun hv7 => ?_)
   ·refine wR 4 100 ?_
    cases hv7
    exact fS [] [2]
   refine wR 4 100 ?_
   cases hv7
   exact fS [] [2]
  refine wR 9 100 ?_
  cases hv7
  exact fS [] [2]
  ) ?_
 cases h
 exact e1 2 id

theorem mi_IsWordByte_ok (a0 : Int) {r : Bool} (h : mi_IsWordByte a0 = some r) :
    AC0 191 [V.i a0] [] (V.b r) [] := by
 rw [mi_IsWordByte] at h
 refine AC.enter Tryz.func191 rfl (cV 100 (bB h fun y3 hv4 h => ?_))
 refine CO.cutR (tl 9 [(2, V.b y3)]) [] mix (by
  refine wR 1 100 (bB hv4 fun r4 hx5 hv4 => (W.call0 (mi_IsLetter_ok a0 hx5) cok161 rfl (by kernel_rfl) (wR 1 100 ?_)))
  refine wJ 5 hv4 (fun hv4 => ?_) (fun hv4 => ?_)
  ·refine wR 4 100 ?_
   cases hv4
   exact fS [] [2]
  refine wR 1 100 (bB hv4 fun r5 hx7 hv4 => (W.call0 (mi_IsDigit_ok a0 hx7) cok156 rfl (by kernel_rfl) (wR 2 100 ?_)))
  cases hv4
  exact fS [] [2]
  ) ?_
 cases h
 exact e1 2 id

theorem mi_NameShape_ok (N : Nat) (a0 : LU) {r : Bool} (h : mi_NameShape N a0 = some r) :
    AC0 163 [V.s a0] [] (V.b r) [] := by
 rw [mi_NameShape] at h
 refine AC.enter Tryz.func163 rfl (cV 100 (CO.seq' (cV 100 (CO.block' (CO.loopJ (fun (⟨a0, y35⟩ : (LU × Int)) => ⟨tl 25 [(0, V.s a0), (5, V.i (a0.length : Int)), (6, V.i y35)], []⟩) (fun n i => mi_NameShape_l1 N n i = some r) (n0 := N) (i0 := (a0, 0)) (wS [] [0, 5, 6]) h (fun i h => by simp [mi_NameShape_l1] at h) ?_)))))
 rintro n1 ⟨a0, y35⟩ h63 ih64
 rw [mi_NameShape_l1] at h63
 refine cV 160 (CO.seq' ?_)
 refine cI h63 (fun _ h63 => ?_) (fun _ h63 => ?_)
 ·refine CO.skip (CO.seq' (CO.block' (cV 160 (bB h63 fun b51 hx74 h63 => (bB h63 fun r52 hx75 h63 => (CO.sw mix (wR 2 160 (W.ixS Dk hx74 (by kernel_rfl) ?_))))))))
  refine wR 1 160 (W.call0 (mi_IsWordByte_ok (IntKind.wrap .i64 ((b51).toNat : Int)) hx75) cok191 rfl (by kernel_rfl) (wR 1 160 (wF ?_)))
  refine cI h63 (fun _ h63 => ?_) (fun _ h63 => ?_)
  ·refine cV 160 ?_
   cases h63
   exact e1 2 id
  refine CO.skip ?_
  exact cK 160 ih64 (a0, (IntKind.wrap .i64 (y35 + 1))) h63 [] [0, 5, 6]
 refine CO.exit (bB h63 fun y56 hv81 h63 => ?_)
 refine CO.cutR (tl 25 [(2, V.b y56)]) [] mix (by
  refine wR 2 160 (bB hv81 fun r57 hx82 hv81 => (W.call0 (mi_within_ok (a0.length : Int) 1 12 hx82) cok107 rfl (by kernel_rfl) (wR 1 160 ?_)))
  refine wJ 19 hv81 (fun hv81 => ?_) (fun hv81 => ?_)
  ·refine wR 1 160 (bB hv81 fun b58 hx84 hv81 => (W.ixS Dk hx84 (by kernel_rfl) (wR 1 160 (bB hv81 fun r59 hx85 hv81 => (W.call0 (mi_IsLetter_ok (IntKind.wrap .i64 ((b58).toNat : Int)) hx85) cok161 rfl (by kernel_rfl) (wR 2 160 ?_))))))
   cases hv81
   exact fS [] [2]
  refine wR 6 160 ?_
  cases hv81
  exact fS [] [2]
  ) ?_
 cases h63
 exact e1 2 id

theorem m_slices_Index_string_ok (N : Nat) (a0 : LLU) (a1 : LU) {r : Int} (h : m_slices_Index_string N a0 a1 = some r) :
    AC0 200 [sL eNS a0, V.s a1] [] (V.i r) [] := by
 rw [m_slices_Index_string] at h
 refine AC.enter Tryz.func200 rfl (cV 100 (CO.seq' (CO.sw mix (wR 1 100 (W.len Dk eNS a0 [] (by kernel_rfl) (by kernel_rfl) (wR 1 100 (wF (CO.block' ?_))))))))
 refine CO.loopJ (fun (⟨a0, a1, y19⟩ : (LLU × LU × Int)) => ⟨tl 19 [(0, sL eNS a0), (1, V.s a1), (7, V.i (a0.length : Int)), (8, V.i y19)], []⟩) (fun n i => m_slices_Index_string_l1 N n i = some r) (n0 := N) (i0 := (a0, a1, 0)) (wS [] [0, 1, 7, 8]) h (fun i h => by simp [m_slices_Index_string_l1] at h) ?_
 rintro n1 ⟨a0, a1, y19⟩ h43 ih44
 rw [m_slices_Index_string_l1] at h43
 refine cV 160 (CO.seq' ?_)
 refine cI h43 (fun _ h43 => ?_) (fun _ h43 => ?_)
 ·refine CO.skip (CO.seq' (CO.block' (cV 160 (bB h43 fun e28 hx51 h43 => (CO.sw mix (wR 3 160 (W.ixD Dk eNS hx51 1 (by kernel_rfl) (by kernel_rfl) (wR 2 160 ?_))))))))
  refine wF ?_
  refine cI h43 (fun _ h43 => ?_) (fun _ h43 => ?_)
  ·refine cV 160 ?_
   cases h43
   exact e1 4 id
  refine CO.skip ?_
  exact cK 160 ih44 (a0, a1, (IntKind.wrap .i64 (y19 + 1))) h43 [] [0, 1, 7, 8]
 refine CO.exit (cV 160 ?_)
 cases h43
 exact e1 4 id

theorem mi_KeywordOf_ok (N : Nat) (a0 : LU) {r : Int} (h : mi_KeywordOf N a0 = some r) :
    AC Tryz.prog (GS [1]) 192 [V.s a0] [] (V.i r) [] := by
 rw [mi_KeywordOf] at h
 refine AC.enter Tryz.func192 rfl (cV 100 (bB h fun r2 hx2 h => (CO.sw mix (W.cutG Dk V.s tab_keywords (by kernel_rfl) (wR 1 100 (W.call0 (AC.gs (m_slices_Index_string_ok N tab_keywords a0 hx2) (by decide)) cok200 rfl (by kernel_rfl) (wR 1 100 (wF ?_))))))))
 refine CO.seq' (cV 100 ?_)
 refine cI h (fun _ h => ?_) (fun _ h => ?_)
 ·refine cV 100 ?_
  cases h
  exact e1 2 id
 refine CO.skip (cV 100 ?_)
 cases h
 exact e1 2 id

theorem m_slices_Contains_string_ok (N : Nat) (a0 : LLU) (a1 : LU) {r : Bool} (h : m_slices_Contains_string N a0 a1 = some r) :
    AC0 201 [sL eNS a0, V.s a1] [] (V.b r) [] := by
 rw [m_slices_Contains_string] at h
 refine AC.enter Tryz.func201 rfl (cV 100 (bB h fun r2 hx2 h => (cC 2 100 (m_slices_Index_string_ok N a0 a1 hx2) cok200 ?_)))
 cases h
 exact e1 4 id

theorem mi_IsBuiltin_ok (N : Nat) (a0 : LU) {r : Bool} (h : mi_IsBuiltin N a0 = some r) :
    AC Tryz.prog (GS [2]) 193 [V.s a0] [] (V.b r) [] := by
 rw [mi_IsBuiltin] at h
 refine AC.enter Tryz.func193 rfl (cV 100 (bB h fun r2 hx2 h => (CO.sw mix (W.cutG Dk V.s tab_builtins (by kernel_rfl) (wR 1 100 (W.call0 (AC.gs (m_slices_Contains_string_ok N tab_builtins a0 hx2) (by decide)) cok201 rfl (by kernel_rfl) (wR 1 100 (wF ?_))))))))
 cases h
 exact e1 2 id

theorem mi_NameOk_ok (N : Nat) (a0 : LU) {r : Bool} (h : mi_NameOk N a0 = some r) :
    AC Tryz.prog (GS [1, 2]) 196 [V.s a0] [] (V.b r) [] := by
 rw [mi_NameOk] at h
 refine AC.enter Tryz.func196 rfl (cV 100 (bB h fun y4 hv6 h => ?_))
 refine CO.cutR (tl 15 [(2, V.b y4)]) [] mix (by
  refine wR 1 100 (bB hv6 fun r5 hx7 hv6 => (W.call0 (AC.gs (mi_NameShape_ok N a0 hx7) (by decide)) cok163 rfl (by kernel_rfl) (wR 1 100 ?_)))
  refine wJ 5 hv6 (fun hv6 => ?_) (fun hv6 => ?_)
  ·refine wR 1 100 (bB hv6 fun r6 hx9 hv6 => (W.call0 (AC.gs (mi_KeywordOf_ok N a0 hx9) (by decide)) cok192 rfl (by kernel_rfl) (wR 3 100 ?_)))
   refine wJ 10 hv6 (fun hv6 => ?_) (fun hv6 => ?_)
   ·refine wR 1 100 (bB hv6 fun r7 hx11 hv6 => (W.call0 (AC.gs (mi_IsBuiltin_ok N a0 hx11) (by decide)) cok193 rfl (by kernel_rfl) (wR 3 100 ?_)))
    cases hv6
    exact fS [] [2]
   refine wR 5 100 ?_
   cases hv6
   exact fS [] [2]
  refine wR 10 100 ?_
  cases hv6
  exact fS [] [2]
  ) ?_
 cases h
 exact e1 2 id

theorem mi_isKeywordKind_ok (a0 : Int) {r : Bool} (h : mi_isKeywordKind a0 = some r) :
    AC0 204 [V.i a0] [] (V.b r) [] := by
 rw [mi_isKeywordKind] at h
 refine AC.enter Tryz.func204 rfl (cV 100 (bB h fun r2 hx2 h => (cC 1 100 (mi_within_ok a0 10 26 hx2) cok107 ?_)))
 cases h
 exact e1 2 id

theorem mi_isSignKind_ok (a0 : Int) {r : Bool} (h : mi_isSignKind a0 = some r) :
    AC0 205 [V.i a0] [] (V.b r) [] := by
 rw [mi_isSignKind] at h
 refine AC.enter Tryz.func205 rfl (cV 100 (bB h fun r2 hx2 h => (cC 1 100 (mi_within_ok a0 30 68 hx2) cok107 ?_)))
 cases h
 exact e1 2 id

theorem mi_SpellOf_ok (a0 : Int) {r : LU} (h : mi_SpellOf a0 = some r) :
    AC Tryz.prog (GS [0, 1]) 197 [V.i a0] [] (V.s r) [] := by
 rw [mi_SpellOf] at h
 refine AC.enter Tryz.func197 rfl (cV 100 (CO.seq' (CO.block' (cV 100 ?_))))
 refine cI h (fun _ h => ?_) (fun _ h => ?_)
 ·refine cV 100 ?_
  cases h
  exact e1 2 id
 refine bB h fun r10 hx14 h => (cC 1 100 (AC.gs (mi_isKeywordKind_ok a0 hx14) (by decide)) cok204 ?_)
 refine cI h (fun _ h => ?_) (fun _ h => ?_)
 ·refine bB h fun e12 hx17 h => (CO.sw mix (wR 2 100 (W.ixG Dk V.s (l := tab_keywords) hx17 (by kernel_rfl) (wR 2 100 (wF ?_)))))
  cases h
  exact e1 2 id
 refine bB h fun r14 hx19 h => (cC 1 100 (AC.gs (mi_isSignKind_ok a0 hx19) (by decide)) cok205 ?_)
 refine cI h (fun _ h => ?_) (fun _ h => ?_)
 ·refine bB h fun e16 hx22 h => (CO.sw mix (wR 2 100 (W.ixG Dk V.s (l := tab_signs) hx22 (by kernel_rfl) (wR 2 100 (wF ?_)))))
  cases h
  exact e1 2 id
 refine CO.skip (cV 100 ?_)
 cases h
 exact e1 2 id

theorem mi_TokenOk_ok (N : Nat) (a0 : SToken) {r : Bool} (h : mi_TokenOk N a0 = some r) :
    AC Tryz.prog (GS [0, 1, 2]) 166 [.agg [V.i a0.Kind, V.s a0.Text, V.i a0.At]] [] (V.b r) [] := by
 rw [mi_TokenOk] at h
 refine AC.enter Tryz.func166 rfl (cV 100 (CO.seq' (cV 101 ?_)))
 refine cI h (fun _ h => ?_) (fun _ h => ?_)
 ·refine cV 101 ?_
  cases h
  exact e1 2 id
 refine CO.skip (CO.seq' (cV 101 (CO.block' (cV 101 ?_))))
 refine cI h (fun _ h => ?_) (fun _ h => ?_)
 ·refine bB h fun y19 hv34 h => ?_
  refine CO.cutR (tl 64 [(2, V.b y19)]) [] mix (by
   refine wR 2 101 (bB hv34 fun b20 hx35 hv34 => (W.ixS Dk hx35 (by kernel_rfl) (wR 2 101 ?_)))
   refine wJ 14 hv34 (fun hv34 => ?_) (fun hv34 => ?_)
   ·refine wR 2 101 (bB hv34 fun r21 hx37 hv34 => (W.call0 (AC.gs (m_strings_Contains_ok a0.Text hx37) (by decide)) cok195 rfl (by kernel_rfl) (wR 3 101 ?_)))
    cases hv34
    exact fS [] [2]
   refine wR 6 101 ?_
   cases hv34
   exact fS [] [2]
   ) ?_
  cases h
  exact e1 2 id
 refine cV 101 ?_
 refine cI h (fun _ h => ?_) (fun _ h => ?_)
 ·refine bB h fun r23 hx40 h => (cC 2 101 (AC.gs (mi_NumEnd_ok N a0.Text 0 hx40) (by decide)) cok157 ?_)
  cases h
  exact e1 2 id
 refine cV 101 ?_
 refine cI h (fun _ h => ?_) (fun _ h => ?_)
 ·refine bB h fun r25 hx43 h => (cC 2 101 (AC.gs (mi_StrEnd_ok N a0.Text 0 hx43) (by decide)) cok158 ?_)
  cases h
  exact e1 2 id
 refine cV 101 ?_
 refine cI h (fun _ h => ?_) (fun _ h => ?_)
 ·refine bB h fun r27 hx46 h => (cC 2 101 (AC.gs (mi_EreEnd_ok N a0.Text 0 hx46) (by decide)) cok160 ?_)
  cases h
  exact e1 2 id
 refine CO.join (fun (⟨a0, y28⟩ : (SToken × Bool)) => ⟨tl 64 [(1, .loc 100 0), (7, V.i a0.Kind), (47, V.b y28)], [(100, .cells 55 [V.i a0.Kind, V.s a0.Text, V.i a0.At])]⟩) (fun i => mi_TokenOk_k1 N i = some r) ?_ ?_
 · rintro ⟨a0, y28⟩ h48
   rw [mi_TokenOk_k1] at h48
   refine cI h48 (fun _ h48 => ?_) (fun _ h48 => ?_)
   ·refine bB h48 fun r30 hx51 h48 => (cC 2 101 (AC.gs (mi_NameOk_ok N a0.Text hx51) (by decide)) cok196 ?_)
    cases h48
    exact e1 2 id
   refine cV 101 ?_
   refine cI h48 (fun _ h48 => ?_) (fun _ h48 => ?_)
   ·refine bB h48 fun r32 hx54 h48 => (cC 2 101 (AC.gs (mi_IsBuiltin_ok N a0.Text hx54) (by decide)) cok193 ?_)
    cases h48
    exact e1 2 id
   refine CO.skip (bB h48 fun r34 hx56 h48 => (cC 4 101 (AC.gs (mi_SpellOf_ok a0.Kind hx56) (by decide)) cok197 ?_))
   cases h48
   exact e1 2 id
 intro hk57
 refine cV 101 ?_
 refine cI h (fun _ h => ?_) (fun _ h => ?_)
 ·exact sK hk57 (a0, (a0.Kind == 6)) h [(100, 100)] [1, 7, 47]
 exact cK 101 hk57 (a0, (a0.Kind == 7)) h [(100, 100)] [1, 7, 47]

theorem mi_EndsOperand_ok (a0 : Int) {r : Bool} (h : mi_EndsOperand a0 = some r) :
    AC0 159 [V.i a0] [] (V.b r) [] := by
 rw [mi_EndsOperand] at h
 refine AC.enter Tryz.func159 rfl (cV 100 (CO.seq' (cV 100 (CO.block' ?_))))
 refine CO.join (fun (y2 : Bool) => ⟨tl 14 [(4, V.b y2)], []⟩) (fun i => mi_EndsOperand_k1 i = some r) ?_ ?_
 · rintro y2 h28
   rw [mi_EndsOperand_k1] at h28
   refine cI h28 (fun _ h28 => ?_) (fun _ h28 => ?_)
   ·refine cV 100 ?_
    cases h28
    exact e1 2 id
   refine CO.skip (cV 100 ?_)
   cases h28
   exact e1 2 id
 intro hk30
 refine cV 100 ?_
 refine cI h (fun _ h => ?_) (fun _ h => ?_)
 ·exact sK hk30 (a0 == 3) h [] [4]
 refine cV 100 ?_
 refine cI h (fun _ h => ?_) (fun _ h => ?_)
 ·exact sK hk30 (a0 == 4) h [] [4]
 refine cV 100 ?_
 refine cI h (fun _ h => ?_) (fun _ h => ?_)
 ·exact sK hk30 (a0 == 5) h [] [4]
 refine cV 100 ?_
 refine cI h (fun _ h => ?_) (fun _ h => ?_)
 ·exact sK hk30 (a0 == 6) h [] [4]
 refine cV 100 ?_
 refine cI h (fun _ h => ?_) (fun _ h => ?_)
 ·exact sK hk30 (a0 == 8) h [] [4]
 refine cV 100 ?_
 refine cI h (fun _ h => ?_) (fun _ h => ?_)
 ·exact sK hk30 (a0 == 33) h [] [4]
 refine cV 100 ?_
 refine cI h (fun _ h => ?_) (fun _ h => ?_)
 ·exact sK hk30 (a0 == 35) h [] [4]
 refine cV 100 ?_
 refine cI h (fun _ h => ?_) (fun _ h => ?_)
 ·exact sK hk30 (a0 == 51) h [] [4]
 exact cK 100 hk30 (a0 == 52) h [] [4]

theorem mi_TokensOk_ok (N : Nat) (a0 : LT) {r : Bool} (h : mi_TokensOk N a0 = some r) :
    AC Tryz.prog (GS [0, 1, 2]) 108 [sL eTk a0] [] (V.b r) [] := by
 rw [mi_TokensOk] at h
 refine AC.enter Tryz.func108 rfl (cV 100 (CO.seq' (CO.sw mix (wR 1 100 (W.len Dk eTk a0 [] (by kernel_rfl) (by kernel_rfl) (wR 1 100 (wF ?_)))))))
 refine cI h (fun _ h => ?_) (fun _ h => ?_)
 ·refine cV 100 ?_
  cases h
  exact e1 2 id
 refine CO.skip (cV 100 (CO.seq' (CO.sw mix (wR 1 100 (W.len Dk eTk a0 [] (by kernel_rfl) (by kernel_rfl) (wR 1 100 (wF (CO.block' ?_))))))))
 refine CO.loopJ (fun (⟨a0, y397, y398⟩ : (LT × Int × Int)) => ⟨tl 76 [(0, sL eTk a0), (3, V.i y397), (10, sL eTk a0), (11, V.i (a0.length : Int)), (12, V.i y398)], []⟩) (fun n i => mi_TokensOk_l1 N n i = some r) (n0 := N) (i0 := (a0, 0, 0)) (wS [] [0, 3, 10, 11, 12]) h (fun i h => by simp [mi_TokensOk_l1] at h) ?_
 rintro n1 ⟨a0, y397, y398⟩ h1035 ih1036
 rw [mi_TokensOk_l1] at h1035
 refine cV 162 (CO.seq' ?_)
 refine cI h1035 (fun _ h1035 => ?_) (fun _ h1035 => ?_)
 ·refine CO.skip (CO.seq' (CO.block' (bB h1035 fun e549 hx1142 h1035 => (CO.sw mix (wR 1 162 (W.ixD Dk eTk hx1142 3 (by kernel_rfl) (by kernel_rfl) (wR 4 162 (wF ?_))))))))
  refine cV 163 ?_
  refine CO.join (fun (⟨a0, y397, y398, e549, y552⟩ : (LT × Int × Int × SToken × Int)) => ⟨tl 76 [(0, sL eTk a0), (3, V.i y397), (5, .loc 100 0), (6, V.i y552), (10, sL eTk a0), (11, V.i (a0.length : Int)), (12, V.i y398)], [(100, .cells 55 [V.i e549.Kind, V.s e549.Text, V.i e549.At])]⟩) (fun i => mi_TokensOk_k2 N (mi_TokensOk_l1 N n1) i = some r) ?_ ?_
  · rintro ⟨a0, y397, y398, e549, y552⟩ h1146
    rw [mi_TokensOk_k2] at h1146
    refine CO.seq' (CO.block' (bB h1146 fun r575 hx1194 h1146 => (cC 1 163 (mi_TokenOk_ok N e549 hx1194) cok166 ?_)))
    refine cI h1146 (fun _ h1146 => ?_) (fun _ h1146 => ?_)
    ·refine cV 163 ?_
     cases h1146
     exact e1 2 id
    refine bB h1146 fun y576 hv1197 h1146 => ?_
    refine CO.cutR (tl 76 [(0, sL eTk a0), (3, V.i y397), (5, .loc 100 0), (6, V.i y552), (10, sL eTk a0), (11, V.i (a0.length : Int)), (12, V.i y398), (32, V.b y576)]) [(100, .cells 55 [V.i e549.Kind, V.s e549.Text, V.i e549.At])] mix (by
     refine wR 4 163 ?_
     refine wJ 36 hv1197 (fun hv1197 => ?_) (fun hv1197 => ?_)
     ·refine wR 4 163 ?_
      cases hv1197
      exact fS [(100, 100)] [0, 3, 5, 6, 10, 11, 12, 32]
     refine wR 4 163 ?_
     cases hv1197
     exact fS [(100, 100)] [0, 3, 5, 6, 10, 11, 12, 32]
     ) ?_
    refine cI h1146 (fun _ h1146 => ?_) (fun _ h1146 => ?_)
    ·refine cV 163 ?_
     cases h1146
     exact e1 2 id
    refine bB h1146 fun y577 hv1202 h1146 => ?_
    refine CO.cutR (tl 76 [(0, sL eTk a0), (3, V.i y397), (5, .loc 100 0), (10, sL eTk a0), (11, V.i (a0.length : Int)), (12, V.i y398), (40, V.b y577)]) [(100, .cells 55 [V.i e549.Kind, V.s e549.Text, V.i e549.At])] mix (by
     refine wR 4 163 ?_
     refine wJ 44 hv1202 (fun hv1202 => ?_) (fun hv1202 => ?_)
     ·refine wR 4 163 ?_
      refine wJ 48 hv1202 (fun hv1202 => ?_) (fun hv1202 => ?_)
      ·refine wR 4 163 ?_
       cases hv1202
       exact fS [(100, 100)] [0, 3, 5, 10, 11, 12, 40]
      refine wR 4 163 ?_
      cases hv1202
      exact fS [(100, 100)] [0, 3, 5, 10, 11, 12, 40]
     refine wR 8 163 ?_
     cases hv1202
     exact fS [(100, 100)] [0, 3, 5, 10, 11, 12, 40]
     ) ?_
    refine cI h1146 (fun _ h1146 => ?_) (fun _ h1146 => ?_)
    ·refine cV 163 ?_
     cases h1146
     exact e1 2 id
    refine CO.join (fun (⟨a0, y398, e549, y586⟩ : (LT × Int × SToken × Bool)) => ⟨tl 76 [(0, sL eTk a0), (5, .loc 100 0), (10, sL eTk a0), (11, V.i (a0.length : Int)), (12, V.i y398), (52, V.b y586)], [(100, .cells 55 [V.i e549.Kind, V.s e549.Text, V.i e549.At])]⟩) (fun i => mi_TokensOk_k3 N (mi_TokensOk_l1 N n1) i = some r) ?_ ?_
    · rintro ⟨a0, y398, e549, y586⟩ h1221
      rw [mi_TokensOk_k3] at h1221
      refine cI h1221 (fun _ h1221 => ?_) (fun _ h1221 => ?_)
      ·refine cV 163 ?_
       cases h1221
       exact e1 2 id
      refine CO.skip ?_
      refine cE 3 163 (tl 76 [(0, sL eTk a0), (3, V.i e549.Kind), (10, sL eTk a0), (11, V.i (a0.length : Int)), (12, V.i y398)]) [] (fun st hw => ?_)
      refine CO.weak hw ?_
      exact cK 163 ih1036 (a0, e549.Kind, (IntKind.wrap .i64 (y398 + 1))) h1221 [] [0, 3, 10, 11, 12]
    intro hk1223
    refine bB h1146 fun y588 hv1226 h1146 => ?_
    refine CO.cutR (tl 76 [(0, sL eTk a0), (3, V.i y397), (5, .loc 100 0), (10, sL eTk a0), (11, V.i (a0.length : Int)), (12, V.i y398), (52, V.b y588)]) [(100, .cells 55 [V.i e549.Kind, V.s e549.Text, V.i e549.At])] mix (by
     refine wR 4 163 ?_
     refine wJ 56 hv1226 (fun hv1226 => ?_) (fun hv1226 => ?_)
     ·refine wR 1 163 (bB hv1226 fun r589 hx1228 hv1226 => (W.call0 (AC.gs (mi_EndsOperand_ok y397 hx1228) (by decide)) cok159 rfl (by kernel_rfl) (wR 2 163 ?_)))
      cases hv1226
      exact fS [(100, 100)] [0, 3, 5, 10, 11, 12, 52]
     refine wR 4 163 ?_
     cases hv1226
     exact fS [(100, 100)] [0, 3, 5, 10, 11, 12, 52]
     ) ?_
    refine cI h1146 (fun _ h1146 => ?_) (fun _ h1146 => ?_)
    ·exact sK hk1223 (a0, y398, e549, y588) h1146 [(100, 100)] [0, 5, 10, 11, 12, 52]
    refine bB h1146 fun y592 hv1234 h1146 => ?_
    refine CO.endR (tl 76 [(0, sL eTk a0), (5, .loc 100 0), (10, sL eTk a0), (11, V.i (a0.length : Int)), (12, V.i y398), (52, V.b y592)]) [(100, .cells 55 [V.i e549.Kind, V.s e549.Text, V.i e549.At])] mix (by
     refine wR 4 163 ?_
     refine wJ 63 hv1234 (fun hv1234 => ?_) (fun hv1234 => ?_)
     ·refine wR 6 163 (bB hv1234 fun r593 hx1236 hv1234 => (W.call0 (AC.gs (mi_EndsOperand_ok y397 hx1236) (by decide)) cok159 rfl (by kernel_rfl) (wR 3 163 ?_)))
      cases hv1234
      exact fS [(100, 100)] [0, 5, 10, 11, 12, 52]
     refine wR 5 163 ?_
     refine wJ 68 hv1234 (fun hv1234 => ?_) (fun hv1234 => ?_)
     ·refine wR 1 163 (bB hv1234 fun r594 hx1238 hv1234 => (W.call0 (AC.gs (mi_EndsOperand_ok y397 hx1238) (by decide)) cok159 rfl (by kernel_rfl) (wR 3 163 ?_)))
      cases hv1234
      exact fS [(100, 100)] [0, 5, 10, 11, 12, 52]
     refine wR 5 163 ?_
     cases hv1234
     exact fS [(100, 100)] [0, 5, 10, 11, 12, 52]
     ) (fun st hw => ?_)
    exact hk1223 (a0, y398, e549, y592) h1146 _ (hw.trans (wS [(100, 100)] [0, 5, 10, 11, 12, 52]))
  intro hk1239
  refine CO.sw mix (wR 3 163 (W.len Dk eTk a0 [] (by kernel_rfl) (by kernel_rfl) (wR 1 163 (wF ?_))))
  refine cI h1035 (fun _ h1035 => ?_) (fun _ h1035 => ?_)
  ·refine bB h1035 fun e596 hx1242 h1035 => (CO.w mix (wR 3 163 (W.ixD Dk eTk hx1242 3 (by kernel_rfl) (by kernel_rfl) (wR 3 163 ?_))))
   exact wK hk1239 (a0, y397, y398, e549, e596.Kind) h1035 [(162, 100)] [0, 3, 5, 6, 10, 11, 12]
  exact sK hk1239 (a0, y397, y398, e549, 0) h1035 [(162, 100)] [0, 3, 5, 6, 10, 11, 12]
 refine CO.exit (cV 162 ?_)
 cases h1035
 exact e1 2 id

theorem mi_opens_ok (a0 : Int) {r : Bool} (h : mi_opens a0 = some r) :
    AC0 167 [V.i a0] [] (V.b r) [] := by
 rw [mi_opens] at h
 refine AC.enter Tryz.func167 rfl (cV 100 (bB h fun y1 hv3 h => ?_))
 refine CO.cutR (tl 13 [(2, V.b y1)]) [] mix (by
  refine wR 3 100 ?_
  refine wJ 5 hv3 (fun hv3 => ?_) (fun hv3 => ?_)
  ·refine wR 8 100 ?_
   cases hv3
   exact fS [] [2]
  refine wR 4 100 ?_
  refine wJ 9 hv3 (fun hv3 => ?_) (fun hv3 => ?_)
  ·refine wR 4 100 ?_
   cases hv3
   exact fS [] [2]
  refine wR 4 100 ?_
  cases hv3
  exact fS [] [2]
  ) ?_
 cases h
 exact e1 2 id

theorem mi_shuts_ok (a0 : Int) {r : Bool} (h : mi_shuts a0 = some r) :
    AC0 168 [V.i a0] [] (V.b r) [] := by
 rw [mi_shuts] at h
 refine AC.enter Tryz.func168 rfl (cV 100 (bB h fun y1 hv3 h => ?_))
 refine CO.cutR (tl 13 [(2, V.b y1)]) [] mix (by
  refine wR 3 100 ?_
  refine wJ 5 hv3 (fun hv3 => ?_) (fun hv3 => ?_)
  ·refine wR 8 100 ?_
   cases hv3
   exact fS [] [2]
  refine wR 4 100 ?_
  refine wJ 9 hv3 (fun hv3 => ?_) (fun hv3 => ?_)
  ·refine wR 4 100 ?_
   cases hv3
   exact fS [] [2]
  refine wR 4 100 ?_
  cases hv3
  exact fS [] [2]
  ) ?_
 cases h
 exact e1 2 id

theorem mi_NestOf_ok (N : Nat) (a0 : LT) {r : Int} (h : mi_NestOf N a0 = some r) :
    AC0 109 [sL eTk a0] [] (V.i r) [] := by
 rw [mi_NestOf] at h
 refine AC.enter Tryz.func109 rfl (cV 100 (cV 100 (CO.seq' (CO.sw mix (wR 1 100 (W.len Dk eTk a0 [] (by kernel_rfl) (by kernel_rfl) (wR 1 100 (wF ?_))))))))
 refine CO.block' (CO.loopJ (fun (⟨a0, y93, y94⟩ : (LT × Int × Int)) => ⟨tl 30 [(3, V.i y93), (6, sL eTk a0), (7, V.i (a0.length : Int)), (8, V.i y94)], []⟩) (fun n i => mi_NestOf_l1 N n i = some r) (n0 := N) (i0 := (a0, 0, 0)) (wS [] [3, 6, 7, 8]) h (fun i h => by simp [mi_NestOf_l1] at h) ?_)
 rintro n1 ⟨a0, y93, y94⟩ h183 ih184
 rw [mi_NestOf_l1] at h183
 refine cV 162 (CO.seq' ?_)
 refine cI h183 (fun _ h183 => ?_) (fun _ h183 => ?_)
 ·refine CO.skip (CO.seq' (CO.block' (bB h183 fun e131 hx205 h183 => (CO.sw mix (wR 1 162 (W.ixD Dk eTk hx205 3 (by kernel_rfl) (by kernel_rfl) (wR 4 162 (wF ?_))))))))
  refine CO.join (fun (⟨y94, a0, y136⟩ : (Int × LT × Int)) => ⟨tl 30 [(3, V.i y136), (4, V.i y94), (6, sL eTk a0), (7, V.i (a0.length : Int)), (8, V.i y94)], []⟩) (fun i => mi_NestOf_k2 N (mi_NestOf_l1 N n1) i = some r) ?_ ?_
  · rintro ⟨y94, a0, y136⟩ h212
    rw [mi_NestOf_k2] at h212
    refine cV 163 ?_
    refine cI h212 (fun _ h212 => ?_) (fun _ h212 => ?_)
    ·refine cV 163 ?_
     cases h212
     exact e1 2 id
    refine CO.skip ?_
    exact cK 163 ih184 (a0, y136, (IntKind.wrap .i64 (y94 + 1))) h212 [] [3, 6, 7, 8]
  intro hk214
  refine CO.block' (bB h183 fun r138 hx216 h183 => (cC 2 163 (mi_opens_ok e131.Kind hx216) cok167 ?_))
  refine cI h183 (fun _ h183 => ?_) (fun _ h183 => ?_)
  ·exact cK 163 hk214 (y94, a0, (IntKind.wrap .i64 (y93 + 1))) h183 [] [3, 4, 6, 7, 8]
  refine bB h183 fun r140 hx219 h183 => (cC 2 163 (mi_shuts_ok e131.Kind hx219) cok168 ?_)
  refine cI h183 (fun _ h183 => ?_) (fun _ h183 => ?_)
  ·exact cK 163 hk214 (y94, a0, (if 0 > (IntKind.wrap .i64 (y93 - 1)) then 0 else (IntKind.wrap .i64 (y93 - 1)))) h183 [] [3, 4, 6, 7, 8]
  exact sK hk214 (y94, a0, y93) h183 [] [3, 4, 6, 7, 8]
 refine CO.exit (cV 162 ?_)
 cases h183
 exact e1 2 id

theorem mi_placeOf_ok (a0 : LT) (a1 : Int) {r : Int} (h : mi_placeOf a0 a1 = some r) :
    AC0 46 [sL eTk a0, V.i a1] [] (V.i r) [] := by
 rw [mi_placeOf] at h
 refine AC.enter Tryz.func46 rfl (cV 100 (CO.seq' (CO.block' (CO.sw mix (wR 2 100 (W.len Dk eTk a0 [] (by kernel_rfl) (by kernel_rfl) (wR 2 100 (wF ?_))))))))
 refine cI h (fun _ h => ?_) (fun _ h => ?_)
 ·refine bB h fun e4 hx7 h => (CO.sw mix (wR 2 100 (W.ixD Dk eTk hx7 3 (by kernel_rfl) (by kernel_rfl) (wR 3 100 (wF ?_)))))
  cases h
  exact e1 4 id
 refine CO.sw mix (wR 1 100 (W.len Dk eTk a0 [] (by kernel_rfl) (by kernel_rfl) (wR 2 100 (wF ?_))))
 refine cI h (fun _ h => ?_) (fun _ h => ?_)
 ·refine cV 100 ?_
  cases h
  exact e1 4 id
 refine CO.skip (bB h fun e7 hx11 h => (bB h fun e8 hx12 h => (CO.sw mix (wR 2 100 (W.len Dk eTk a0 [] (by kernel_rfl) (by kernel_rfl) (wR 1 100 (W.ixD Dk eTk hx11 3 (by kernel_rfl) (by kernel_rfl) (wR 4 100 ?_))))))))
 refine W.len Dk eTk a0 [] (by kernel_rfl) (by kernel_rfl) (wR 1 100 (W.ixD Dk eTk hx12 3 (by kernel_rfl) (by kernel_rfl) (wR 5 100 (wF ?_))))
 cases h
 exact e1 4 id

theorem mi_checked_ok (N : Nat) (a0 : LT) {r : SFault} (h : mi_checked N a0 = some r) :
    AC Tryz.prog (GS [0, 1, 2]) 69 [sL eTk a0] [] (.agg [V.i r.Kind, V.i r.At]) [] := by
 rw [mi_checked] at h
 refine AC.enter Tryz.func69 rfl (cV 100 (CO.seq' (bB h fun r4 hx5 h => (cC 1 101 (mi_TokensOk_ok N a0 hx5) cok108 ?_))))
 refine cI h (fun _ h => ?_) (fun _ h => ?_)
 ·refine cV 101 (CO.ret ?_)
  cases h
  exact eG [] (.inr rfl) (RetV.one rfl (OneR.cell Dk (r := .agg [V.i 2, V.i 0]) (i := 100) (ety := 40) (cs := [V.i 2, V.i 0]) (by kernel_rfl) (by kernel_rfl) (by kernel_rfl)))
 refine CO.skip (CO.seq' (bB h fun r10 hx13 h => (cC 1 101 (AC.gs (mi_NestOf_ok N a0 hx13) (by decide)) cok109 (cV 101 ?_))))
 refine cI h (fun _ h => ?_) (fun _ h => ?_)
 ·refine bB h fun r12 hx16 h => (cC 2 101 (AC.gs (mi_placeOf_ok a0 r10 hx16) (by decide)) cok46 (CO.ret ?_))
  have h := sI h
  subst h
  exact eG [] (.inr rfl) (RetV.one rfl (OneR.cell Dk (r := .agg [V.i 4, V.i r12]) (i := 100) (ety := 40) (cs := [V.i 4, V.i r12]) (by kernel_rfl) (by kernel_rfl) (by kernel_rfl)))
 refine CO.skip (cV 101 (CO.ret ?_))
 cases h
 exact eG [] (.inr rfl) (RetV.one rfl (OneR.cell Dk (r := .agg [V.i 0, V.i 0]) (i := 100) (ety := 40) (cs := [V.i 0, V.i 0]) (by kernel_rfl) (by kernel_rfl) (by kernel_rfl)))

theorem mp_kind_ok (pa : LT) (pb : Int) (pc : Bool) (p1 : LLU) {r : Int} (h : mp_kind pa pb pc p1 = some r) :
    AC0 111 [.loc 0 0] [(0, cP 98 pa pb pc 1), (1, vN p1)] (V.i r) [(0, cP 98 pa pb pc 1), (1, vN p1)] := by
 rw [mp_kind] at h
 refine AC.enter Tryz.func111 rfl (cV 100 (CO.seq' (CO.sw mix (wR 8 100 (W.len Dk eTk pa [] (by kernel_rfl) (by kernel_rfl) (wR 1 100 (wF ?_)))))))
 refine cI h (fun _ h => ?_) (fun _ h => ?_)
 ·refine cV 100 (CO.ret ?_)
  cases h
  exact eG [(0, 0), (1, 1)] (.inr rfl) (RetV.one rfl (oT (t := 2) (r := V.i 0)))
 refine CO.skip (bB h fun e2 hx4 h => (CO.sw mix (wR 8 100 (W.ixD Dk eTk hx4 3 (by kernel_rfl) (by kernel_rfl) (wR 3 100 (wF (CO.ret ?_)))))))
 have h := sI h
 subst h
 exact eG [(0, 0), (1, 1)] (.inr rfl) (RetV.one rfl (oT (t := 2) (r := V.i e2.Kind)))

theorem mi_BeginsOperand_ok (a0 : Int) {r : Bool} (h : mi_BeginsOperand a0 = some r) :
    AC0 110 [V.i a0] [] (V.b r) [] := by
 rw [mi_BeginsOperand] at h
 refine AC.enter Tryz.func110 rfl (cV 100 (CO.seq' (cV 100 (CO.block' ?_))))
 refine CO.join (fun (y2 : Bool) => ⟨tl 12 [(4, V.b y2)], []⟩) (fun i => mi_BeginsOperand_k1 i = some r) ?_ ?_
 · rintro y2 h22
   rw [mi_BeginsOperand_k1] at h22
   refine cI h22 (fun _ h22 => ?_) (fun _ h22 => ?_)
   ·refine cV 100 ?_
    cases h22
    exact e1 2 id
   refine CO.skip (cV 100 ?_)
   cases h22
   exact e1 2 id
 intro hk24
 refine cV 100 ?_
 refine cI h (fun _ h => ?_) (fun _ h => ?_)
 ·exact sK hk24 (a0 == 3) h [] [4]
 refine cV 100 ?_
 refine cI h (fun _ h => ?_) (fun _ h => ?_)
 ·exact sK hk24 (a0 == 4) h [] [4]
 refine cV 100 ?_
 refine cI h (fun _ h => ?_) (fun _ h => ?_)
 ·exact sK hk24 (a0 == 6) h [] [4]
 refine cV 100 ?_
 refine cI h (fun _ h => ?_) (fun _ h => ?_)
 ·exact sK hk24 (a0 == 7) h [] [4]
 refine cV 100 ?_
 refine cI h (fun _ h => ?_) (fun _ h => ?_)
 ·exact sK hk24 (a0 == 8) h [] [4]
 refine cV 100 ?_
 refine cI h (fun _ h => ?_) (fun _ h => ?_)
 ·exact sK hk24 (a0 == 32) h [] [4]
 exact cK 100 hk24 (a0 == 68) h [] [4]

theorem mp_fail_ok (pa : LT) (pb : Int) (pc : Bool) (p1 : LLU) {r : (SPart × Bool)} (h : mp_fail pa pb pc p1 = some r) :
    AC0 112 [.loc 0 0] [(0, cP 98 pa pb pc 1), (1, vN p1)] (.agg (aP r.1)) [(0, cP 98 pa pb r.2 1), (1, vN p1)] := by
 rw [mp_fail] at h
 refine AC.enter Tryz.func112 rfl (cV 100 (cV 101 (cU 2 101 (tl 7 [(2, .loc 100 0)]) [(100, .cells 103 [V.i 0, V.i 0, V.s [], V.s [], .c (.slice none 0 0), V.b false]), (0, cP 98 pa pb true 1), (1, vN p1)] (CO.lay (tl 7 [(2, .loc 100 0)]) [(100, .cells 103 [V.i 0, V.i 0, V.s [], V.s [], sL eST [], V.b false]), (0, cP 98 pa pb true 1), (1, vN p1)] lO (by kernel_rfl) (by kernel_rfl) (by kernel_rfl) (CO.ret ?_)))))
 cases h
 exact eG [(0, 0), (1, 1)] (.inr rfl) (RetV.one rfl (OneR.cell Dk (r := .agg [V.i 0, V.i 0, V.s [], V.s [], sL eST [], V.b false]) (i := 100) (ety := 103) (cs := [V.i 0, V.i 0, V.s [], V.s [], sL eST [], V.b false]) (by kernel_rfl) (by kernel_rfl) (by kernel_rfl)))

end Go.Proofs.Tryz
