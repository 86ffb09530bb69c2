/-
 The walks that show that the code computes the models, part 3.
-/
import Derived.Test.YtgnkbpkhbcmhlaaGreatDoorHoVW2
namespace Go.Proofs.Tryz
open Go.Av
set_option maxRecDepth 100000
set_option maxHeartbeats 8000000
set_option linter.unusedSimpArgs false
set_option linter.unusedVariables false

theorem ms_OpAt_ok (N : Nat) (a0 : LU) (a1 : Int) {r : (Int × Int)} (h : ms_OpAt N a0 a1 = some r) :
    AC Tryz.prog (GS []) 125 [V.s a0, V.i a1] [] (.tup [V.i r.1, V.i r.2]) [] := by
 rw [ms_OpAt] at h
 refine AC.enter Tryz.func125 rfl (cV 100 (cV 100 (cV 100 (bB h fun r2 hx2 h => (CO.sw mix (wC (ms_l3Signs_ok  hx2) cok122 [] [(100, 100)] [100] (wR 1 101 (wF ?_))))))))
 refine CO.seq' (cV 101 (CO.block' (CO.loopJ (fun (⟨a0, a1, r2, y73, y74, y75⟩ : (LU × Int × LLU × Int × Int × Int)) => ⟨tl 62 [(0, V.s a0), (1, V.i a1), (6, V.i y73), (7, V.i y74), (8, .own 100), (9, V.i y75)], [(100, vN r2)]⟩) (fun n i => ms_OpAt_l1 N n i = some r) (n0 := N) (i0 := (a0, a1, r2, 0, 0, 0)) (wS [(100, 100)] [0, 1, 6, 7, 8, 9]) h (fun i h => by simp [ms_OpAt_l1] at h) ?_)))
 rintro n1 ⟨a0, a1, r2, y73, y74, y75⟩ h185 ih186
 rw [ms_OpAt_l1] at h185
 refine CO.seq' (CO.sw mix (wR 2 161 (wN eNS r2 [100] (wR 1 161 (wF ?_)))))
 refine cI h185 (fun _ h185 => ?_) (fun _ h185 => ?_)
 ·refine CO.skip ?_
  refine CO.join (fun (⟨a0, a1, y75, r2, y102, y103⟩ : (LU × Int × Int × LLU × Int × Int)) => ⟨tl 62 [(0, V.s a0), (1, V.i a1), (6, V.i y102), (7, V.i y103), (8, .own 100), (9, V.i y75)], [(100, vN r2)]⟩) (fun i => ms_OpAt_k2 N (ms_OpAt_l1 N n1) i = some r) ?_ ?_
  · rintro ⟨a0, a1, y75, r2, y102, y103⟩ h205
    rw [ms_OpAt_k2] at h205
    exact cK 161 ih186 (a0, a1, r2, y102, y103, (wr (y75 + 1))) h205 [(100, 100)] [0, 1, 6, 7, 8, 9]
  intro hk206
  refine CO.block' (bB h185 fun e105 hx208 h185 => (CO.sw mix (wR 2 161 (W.ixO Dk eNS hx208 100 1 (by kernel_rfl) (W.ldO Dk eNS hx208 9 100 0 (V.s e105) (by kernel_rfl) (by kernel_rfl) (wR 2 161 (wF (bB h185 fun y108 hv215 h185 => ?_))))))))
  refine CO.cutR (tl 62 [(0, V.s a0), (1, V.i a1), (6, V.i y73), (7, V.i y74), (8, .own 100), (9, V.i y75), (10, V.i (e105.length : Int)), (56, V.b y108)]) [(100, vN r2)] mix (by
   refine wR 3 161 ?_
   refine wJ 25 hv215 (fun hv215 => ?_) (fun hv215 => ?_)
   ·refine wR 6 161 ?_
    refine wJ 31 hv215 (fun hv215 => ?_) (fun hv215 => ?_)
    ·refine wR 8 161 ?_
     refine wJ 39 hv215 (fun hv215 => ?_) (fun hv215 => ?_)
     ·refine wR 5 161 (bB hv215 fun s109 hx219 hv215 => (W.cutS Dk hx219 (by kernel_rfl) (wR 2 161 (bB hv215 fun e110 hx220 hv215 => (W.ixO Dk eNS hx220 100 1 (by kernel_rfl) (W.ldO Dk eNS hx220 9 100 0 (V.s e110) (by kernel_rfl) (by kernel_rfl) (wR 3 161 ?_)))))))
      refine wJ 52 hv215 (fun hv215 => ?_) (fun hv215 => ?_)
      ·refine wR 4 161 ?_
       cases hv215
       exact fS [(100, 100)] [0, 1, 6, 7, 8, 9, 10, 56]
      refine wR 4 161 ?_
      cases hv215
      exact fS [(100, 100)] [0, 1, 6, 7, 8, 9, 10, 56]
     refine wR 17 161 ?_
     cases hv215
     exact fS [(100, 100)] [0, 1, 6, 7, 8, 9, 10, 56]
    refine wR 25 161 ?_
    cases hv215
    exact fS [(100, 100)] [0, 1, 6, 7, 8, 9, 10, 56]
   refine wR 31 161 ?_
   cases hv215
   exact fS [(100, 100)] [0, 1, 6, 7, 8, 9, 10, 56]
   ) ?_
  refine cI h185 (fun _ h185 => ?_) (fun _ h185 => ?_)
  ·refine cV 161 ?_
   exact cK 161 hk206 (a0, a1, y75, r2, (wr (30 + y75)), (e105.length : Int)) h185 [(100, 100)] [0, 1, 6, 7, 8, 9]
  exact sK hk206 (a0, a1, y75, r2, y73, y74) h185 [(100, 100)] [0, 1, 6, 7, 8, 9]
 refine CO.exit (cV 161 (CO.ret ?_))
 have h185 := sI h185
 subst h185
 exact eG [] (.inr rfl) (RetV.two rfl (oT (t := 4) (r := V.i y73)) (oT (t := 5) (r := V.i y74)))

theorem ms_NeedsGap_ok (N : Nat) (a0 : SToken) (a1 : SToken) {r : Bool} (h : ms_NeedsGap N a0 a1 = some r) :
    AC Tryz.prog (GS []) 85 [.agg [V.i a0.Kind, V.s a0.Text, V.i a0.At], .agg [V.i a1.Kind, V.s a1.Text, V.i a1.At]] [] (V.b r) [] := by
 rw [ms_NeedsGap] at h
 refine AC.enter Tryz.func85 rfl (cV 100 (CO.seq' (bB h fun y2 hv15 h => ?_)))
 refine CO.cutR (tl 91 [(2, .loc 100 0), (3, .loc 101 0), (31, V.b y2)]) [(100, .cells 105 [V.i a0.Kind, V.s a0.Text, V.i a0.At]), (101, .cells 105 [V.i a1.Kind, V.s a1.Text, V.i a1.At])] mix (by
  refine wR 4 102 ?_
  refine wJ 12 hv15 (fun hv15 => ?_) (fun hv15 => ?_)
  ·refine wR 19 102 ?_
   cases hv15
   exact fS [(100, 100), (101, 101)] [2, 3, 31]
  refine wR 5 102 ?_
  refine wJ 17 hv15 (fun hv15 => ?_) (fun hv15 => ?_)
  ·refine wR 14 102 ?_
   cases hv15
   exact fS [(100, 100), (101, 101)] [2, 3, 31]
  refine wR 5 102 ?_
  refine wJ 22 hv15 (fun hv15 => ?_) (fun hv15 => ?_)
  ·refine wR 9 102 ?_
   cases hv15
   exact fS [(100, 100), (101, 101)] [2, 3, 31]
  refine wR 5 102 ?_
  refine wJ 27 hv15 (fun hv15 => ?_) (fun hv15 => ?_)
  ·refine wR 4 102 ?_
   cases hv15
   exact fS [(100, 100), (101, 101)] [2, 3, 31]
  refine wR 4 102 ?_
  cases hv15
  exact fS [(100, 100), (101, 101)] [2, 3, 31]
  ) ?_
 refine cI h (fun _ h => ?_) (fun _ h => ?_)
 ·refine cV 102 ?_
  cases h
  exact e1 4 id
 refine CO.skip (bB h fun b4 hx22 h => (CO.sw mix (wR 2 102 (W.ixS Dk hx22 (by kernel_rfl) (wR 2 102 (wF (bB h fun b6 hx24 h => (CO.sw mix ?_))))))))
 refine wR 6 102 (W.ixS Dk hx24 (by kernel_rfl) (wR 2 102 (wF (CO.seq' (CO.block' (bB h fun y18 hv48 h => ?_))))))
 refine CO.cutR (tl 91 [(2, .loc 100 0), (3, .loc 101 0), (5, V.i (wr ((b4).toNat : Int))), (44, V.b y18)]) [(100, .cells 105 [V.i a0.Kind, V.s a0.Text, V.i a0.At]), (101, .cells 105 [V.i a1.Kind, V.s a1.Text, V.i a1.At])] mix (by
  refine wR 1 102 (bB hv48 fun r19 hx49 hv48 => (w0 (ms_IsWordByte_ok (wr ((b6).toNat : Int)) hx49) cok124 (wR 1 102 ?_)))
  refine wJ 47 hv48 (fun hv48 => ?_) (fun hv48 => ?_)
  ·refine wR 1 102 (bB hv48 fun r20 hx51 hv48 => (w0 (ms_IsWordByte_ok (wr ((b4).toNat : Int)) hx51) cok124 (wR 2 102 ?_)))
   cases hv48
   exact fS [(100, 100), (101, 101)] [2, 3, 5, 44]
  refine wR 4 102 ?_
  cases hv48
  exact fS [(100, 100), (101, 101)] [2, 3, 5, 44]
  ) ?_
 refine cI h (fun _ h => ?_) (fun _ h => ?_)
 ·refine cV 102 ?_
  cases h
  exact e1 4 id
 refine bB h fun y22 hv56 h => ?_
 refine CO.cutR (tl 91 [(2, .loc 100 0), (3, .loc 101 0), (51, V.b y22)]) [(100, .cells 105 [V.i a0.Kind, V.s a0.Text, V.i a0.At]), (101, .cells 105 [V.i a1.Kind, V.s a1.Text, V.i a1.At])] mix (by
  refine wR 4 102 ?_
  refine wJ 55 hv56 (fun hv56 => ?_) (fun hv56 => ?_)
  ·refine wR 1 102 (bB hv56 fun r23 hx58 hv56 => (w0 (ms_IsWordByte_ok (wr ((b4).toNat : Int)) hx58) cok124 (wR 1 102 ?_)))
   refine wJ 58 hv56 (fun hv56 => ?_) (fun hv56 => ?_)
   ·refine wR 5 102 ?_
    cases hv56
    exact fS [(100, 100), (101, 101)] [2, 3, 51]
   refine wR 5 102 ?_
   cases hv56
   exact fS [(100, 100), (101, 101)] [2, 3, 51]
  refine wR 8 102 ?_
  cases hv56
  exact fS [(100, 100), (101, 101)] [2, 3, 51]
  ) ?_
 refine cI h (fun _ h => ?_) (fun _ h => ?_)
 ·refine cV 102 ?_
  cases h
  exact e1 4 id
 refine bB h fun y24 hv62 h => ?_
 refine CO.cutR (tl 91 [(2, .loc 100 0), (3, .loc 101 0), (63, V.b y24)]) [(100, .cells 105 [V.i a0.Kind, V.s a0.Text, V.i a0.At]), (101, .cells 105 [V.i a1.Kind, V.s a1.Text, V.i a1.At])] mix (by
  refine wR 4 102 ?_
  refine wJ 67 hv62 (fun hv62 => ?_) (fun hv62 => ?_)
  ·refine wR 5 102 ?_
   cases hv62
   exact fS [(100, 100), (101, 101)] [2, 3, 63]
  refine wR 5 102 ?_
  cases hv62
  exact fS [(100, 100), (101, 101)] [2, 3, 63]
  ) ?_
 refine cI h (fun _ h => ?_) (fun _ h => ?_)
 ·refine cV 102 ?_
  cases h
  exact e1 4 id
 refine CO.skip (bB h fun s27 hx67 h => (bB h fun r28 hx68 h => (CO.sw mix (wR 4 102 (W.cat hx67 (by kernel_rfl) (w0 (ms_OpAt_ok N s27 0 hx68) cok125 (wR 5 102 (wF ?_))))))))
 refine bB h fun y30 hv71 h => ?_
 refine CO.cutR (tl 91 [(4, V.b y30)]) [] mix (by
  refine wR 2 102 (bB hv71 fun r31 hx72 hv71 => (w0 (ms_l1In_ok a0.Kind 30 68 hx72) cok38 (wR 1 102 ?_)))
  refine wJ 84 hv71 (fun hv71 => ?_) (fun hv71 => ?_)
  ·refine wR 7 102 ?_
   cases hv71
   exact fS [] [4]
  refine wR 7 102 ?_
  cases hv71
  exact fS [] [4]
  ) ?_
 cases h
 exact e1 4 id

structure RecOk2 (R : Rec2) : Prop where
 ms_l18Bin : ∀ (a0 : SL10W) (a1 : SNode) (a2 : SPos) (r : LD), R.ms_l18Bin a0 a1 a2 = some r → AC Tryz.prog (GS []) 89 [.agg [.sl false false (a0.l.map (eSN false)), V.b a0.full], .agg [V.i a1.Kind, V.i a1.Op, V.s a1.Text, V.s a1.Other, sL eNI a1.Kids], .agg [V.i a2.Level, V.b a2.Dollar, V.b a2.NoIn, V.b a2.NoGt, V.b a2.NoSign]] [] (.own 100) [(100, .vec false 62 4 (r.map (encSDNode true)))]
 ms_l18Lvalue : ∀ (a0 : SL10W) (a1 : Int) (r : LD), R.ms_l18Lvalue a0 a1 = some r → AC Tryz.prog (GS []) 83 [.agg [.sl false false (a0.l.map (eSN false)), V.b a0.full], V.i a1] [] (.own 100) [(100, .vec false 62 4 (r.map (encSDNode true)))]
 ms_l18List : ∀ (a0 : SL10W) (a1 : List Int) (a2 : SPos) (r : LD), R.ms_l18List a0 a1 a2 = some r → AC Tryz.prog (GS []) 88 [.agg [.sl false false (a0.l.map (eSN false)), V.b a0.full], sL eNI a1, .agg [V.i a2.Level, V.b a2.Dollar, V.b a2.NoIn, V.b a2.NoGt, V.b a2.NoSign]] [] (.own 100) [(100, .vec false 62 4 (r.map (encSDNode true)))]
 ms_l18Named : ∀ (a0 : SL10W) (a1 : SNode) (a2 : LU) (a3 : LU) (r : LD), R.ms_l18Named a0 a1 a2 a3 = some r → AC Tryz.prog (GS []) 81 [.agg [.sl false false (a0.l.map (eSN false)), V.b a0.full], .agg [V.i a1.Kind, V.i a1.Op, V.s a1.Text, V.s a1.Other, sL eNI a1.Kids], V.s a2, V.s a3] [] (.own 100) [(100, .vec false 62 4 (r.map (encSDNode true)))]
 ms_l18Node : ∀ (a0 : SL10W) (a1 : Int) (a2 : SPos) (r : LD), R.ms_l18Node a0 a1 a2 = some r → AC Tryz.prog (GS []) 50 [.agg [.sl false false (a0.l.map (eSN false)), V.b a0.full], V.i a1, .agg [V.i a2.Level, V.b a2.Dollar, V.b a2.NoIn, V.b a2.NoGt, V.b a2.NoSign]] [] (.own 100) [(100, .vec false 62 4 (r.map (encSDNode true)))]
 ms_l18At : ∀ (a0 : SL10W) (a1 : Int) (a2 : SPos) (r : LD), R.ms_l18At a0 a1 a2 = some r → AC Tryz.prog (GS []) 23 [.agg [.sl false false (a0.l.map (eSN false)), V.b a0.full], V.i a1, .agg [V.i a2.Level, V.b a2.Dollar, V.b a2.NoIn, V.b a2.NoGt, V.b a2.NoSign]] [] (.own 100) [(100, .vec false 62 4 (r.map (encSDNode true)))]

theorem ms_l18Bin_F_ok (N : Nat) (R : Rec2) (HR : RecOk2 R) (a0 : SL10W) (a1 : SNode) (a2 : SPos) {r : LD} (h : ms_l18Bin_F N R a0 a1 a2 = some r) :
    AC Tryz.prog (GS []) 89 [.agg [.sl false false (a0.l.map (eSN false)), V.b a0.full], .agg [V.i a1.Kind, V.i a1.Op, V.s a1.Text, V.s a1.Other, sL eNI a1.Kids], .agg [V.i a2.Level, V.b a2.Dollar, V.b a2.NoIn, V.b a2.NoGt, V.b a2.NoSign]] [] (.own 100) [(100, .vec false 62 4 (r.map (encSDNode true)))] := by
 rw [ms_l18Bin_F] at h
 refine AC.enter Tryz.func89 rfl (cV 100 (bB h fun e4 hx4 h => (bB h fun r5 hx5 h => (bB h fun r6 hx6 h => (CO.sw mix (wR 3 103 (wX eNI hx4 1 (wR 3 103 ?_))))))))
 refine w0 (ms_KidPos_ok a1 0 a2 hx5) cok84 (wC (HR.ms_l18At a0 e4 r5 _ hx6) cok23 [] [(100, 103)] [103] (wR 1 104 (wF (bB h fun e10 hx10 h => (bB h fun r11 hx11 h => (bB h fun r12 hx12 h => (CO.sw mix (wR 3 104 ?_))))))))
 refine wX eNI hx10 1 (wR 3 104 (w0 (ms_KidPos_ok a1 1 a2 hx11) cok84 (wC (HR.ms_l18At a0 e10 r11 _ hx12) cok23 [] [(100, 104)] [104] (wR 1 105 (wF (CO.seq' (cV 105 (CO.block' ?_))))))))
 refine cV 105 ?_
 refine cI h (fun _ h => ?_) (fun _ h => ?_)
 ·refine bB h fun r34 hx40 h => (bB h fun r35 hx41 h => (CO.sw mix (wR 1 105 (wC (ms_l15Text_ok [32] hx40) cok52 [] [(100, 105)] [105] (wR 2 106 (W.lend (ms_l15Over_ok N 6 0 [r6, r34, r12] hx41) cok51 [(100, 107)] [107] (LayOk.cons (j := 106) (encL true (encSDNode true)) (encL false (encSDNode false)) ([r6, r34, r12] : List LD) (by kernel_rfl) (share_encL _ (share_encSDNode _)) lO) (.own _) (.cons (DeepR.map (fun _ => (.cons (.c _) (.cons (.c _) (.cons (.c _) (.cons (.sl _ _ (DeepR.map (fun _ => (.cons (.c _) .nil)) _)) .nil))))) _) .nil) (by kernel_rfl) (by kernel_rfl) (wR 1 108 (wF ?_))))))))
  refine CO.ret ?_
  cases h
  exact eG [(107, 100)] (.inr rfl) (RetV.one rfl (oT (t := 6) (r := .own 107)))
 refine CO.join (fun (⟨a1, r6, r12, y36⟩ : (SNode × LD × LD × Bool)) => ⟨tl 63 [(4, .loc 100 0), (7, .own 101), (8, .own 102), (36, V.b y36)], [(100, .cells 49 [V.i a1.Kind, V.i a1.Op, V.s a1.Text, V.s a1.Other, sL eNI a1.Kids]), (101, .vec false 62 4 (r6.map (encSDNode true))), (102, .vec false 62 4 (r12.map (encSDNode true)))]⟩) (fun i => ms_l18Bin_k1 N R i = some r) ?_ ?_
 · rintro ⟨a1, r6, r12, y36⟩ h43
   rw [ms_l18Bin_k1] at h43
   refine cI h43 (fun _ h43 => ?_) (fun _ h43 => ?_)
   ·refine bB h43 fun r44 hx52 h43 => (bB h43 fun s45 hx53 h43 => (bB h43 fun r46 hx54 h43 => (bB h43 fun r47 hx55 h43 => (bB h43 fun r48 hx56 h43 => (bB h43 fun r49 hx57 h43 => (bB h43 fun r50 hx58 h43 => (CO.sw mix (wR 3 105 ?_))))))))
    refine w0 (ms_SpellOf_ok a1.Op hx52) cok82 (W.cat hx53 (by kernel_rfl) (wC (ms_l15Text_ok s45 hx54) cok52 [] [(100, 105)] [105] (wC (ms_l15Line_ok  hx55) cok127 [] [(100, 106)] [106] (wR 2 107 (W.lend (ms_l15Over_ok N 6 0 [r6, r46, r47, r12] hx56) cok51 [(100, 108)] [108] (LayOk.cons (j := 107) (encL true (encSDNode true)) (encL false (encSDNode false)) ([r6, r46, r47, r12] : List LD) (by kernel_rfl) (share_encL _ (share_encSDNode _)) lO) (.own _) (.cons (DeepR.map (fun _ => (.cons (.c _) (.cons (.c _) (.cons (.c _) (.cons (.sl _ _ (DeepR.map (fun _ => (.cons (.c _) .nil)) _)) .nil))))) _) .nil) (by kernel_rfl) (by kernel_rfl) (wR 1 109 (W.lend (ms_l15Over_ok N 4 4 [r48] hx57) cok51 [(100, 110)] [110] (LayOk.cons (j := 109) (encL true (encSDNode true)) (encL false (encSDNode false)) ([r48] : List LD) (by kernel_rfl) (share_encL _ (share_encSDNode _)) lO) (.own _) (.cons (DeepR.map (fun _ => (.cons (.c _) (.cons (.c _) (.cons (.c _) (.cons (.sl _ _ (DeepR.map (fun _ => (.cons (.c _) .nil)) _)) .nil))))) _) .nil) (by kernel_rfl) (by kernel_rfl) (wR 1 111 ?_))))))))
    refine W.lend (ms_l15Over_ok N 5 0 [r49] hx58) cok51 [(100, 112)] [112] (LayOk.cons (j := 111) (encL true (encSDNode true)) (encL false (encSDNode false)) ([r49] : List LD) (by kernel_rfl) (share_encL _ (share_encSDNode _)) lO) (.own _) (.cons (DeepR.map (fun _ => (.cons (.c _) (.cons (.c _) (.cons (.c _) (.cons (.sl _ _ (DeepR.map (fun _ => (.cons (.c _) .nil)) _)) .nil))))) _) .nil) (by kernel_rfl) (by kernel_rfl) (wR 1 113 (wF (CO.ret ?_)))
    cases h43
    exact eG [(112, 100)] (.inr rfl) (RetV.one rfl (oT (t := 6) (r := .own 112)))
   refine CO.skip (bB h43 fun r56 hx64 h43 => (bB h43 fun s57 hx65 h43 => (bB h43 fun s58 hx66 h43 => (bB h43 fun r59 hx67 h43 => (bB h43 fun r60 hx68 h43 => (CO.sw mix (wR 3 105 (w0 (ms_SpellOf_ok a1.Op hx64) cok82 ?_))))))))
   refine W.cat hx65 (by kernel_rfl) (W.cat hx66 (by kernel_rfl) (wC (ms_l15Text_ok s58 hx67) cok52 [] [(100, 105)] [105] (wR 2 106 (W.lend (ms_l15Over_ok N 6 0 [r6, r59, r12] hx68) cok51 [(100, 107)] [107] (LayOk.cons (j := 106) (encL true (encSDNode true)) (encL false (encSDNode false)) ([r6, r59, r12] : List LD) (by kernel_rfl) (share_encL _ (share_encSDNode _)) lO) (.own _) (.cons (DeepR.map (fun _ => (.cons (.c _) (.cons (.c _) (.cons (.c _) (.cons (.sl _ _ (DeepR.map (fun _ => (.cons (.c _) .nil)) _)) .nil))))) _) .nil) (by kernel_rfl) (by kernel_rfl) (wR 1 108 (wF (CO.ret ?_)))))))
   cases h43
   exact eG [(107, 100)] (.inr rfl) (RetV.one rfl (oT (t := 6) (r := .own 107)))
 intro hk69
 refine cV 105 ?_
 refine cI h (fun _ h => ?_) (fun _ h => ?_)
 ·exact sK hk69 (a1, r6, r12, (a1.Op == 45)) h [(101, 100), (103, 101), (104, 102)] [4, 7, 8, 36]
 exact cK 105 hk69 (a1, r6, r12, (a1.Op == 44)) h [(101, 100), (103, 101), (104, 102)] [4, 7, 8, 36]

theorem ms_l18Lvalue_F_ok (N : Nat) (R : Rec2) (HR : RecOk2 R) (a0 : SL10W) (a1 : Int) {r : LD} (h : ms_l18Lvalue_F N R a0 a1 = some r) :
    AC Tryz.prog (GS []) 83 [.agg [.sl false false (a0.l.map (eSN false)), V.b a0.full], V.i a1] [] (.own 100) [(100, .vec false 62 4 (r.map (encSDNode true)))] := by
 rw [ms_l18Lvalue_F] at h
 refine AC.enter Tryz.func83 rfl (cV 100 (bB h fun r2 hx2 h => (CO.sw mix (wR 3 101 (wC (HR.ms_l18Node a0 a1 (⟨14, false, false, false, false⟩ : SPos) _ hx2) cok50 [] [(100, 101)] [101] (wR 1 102 (wF (CO.ret ?_))))))))
 cases h
 exact eG [(101, 100)] (.inr rfl) (RetV.one rfl (oT (t := 4) (r := .own 101)))

theorem ms_l18List_F_ok (N : Nat) (R : Rec2) (HR : RecOk2 R) (a0 : SL10W) (a1 : List Int) (a2 : SPos) {r : LD} (h : ms_l18List_F N R a0 a1 a2 = some r) :
    AC Tryz.prog (GS []) 88 [.agg [.sl false false (a0.l.map (eSN false)), V.b a0.full], sL eNI a1, .agg [V.i a2.Level, V.b a2.Dollar, V.b a2.NoIn, V.b a2.NoGt, V.b a2.NoSign]] [] (.own 100) [(100, .vec false 62 4 (r.map (encSDNode true)))] := by
 rw [ms_l18List_F] at h
 refine AC.enter Tryz.func88 rfl (cV 100 (cV 102 (CO.seq' (cV 103 (CO.block' (CO.loopJ (fun (⟨a1, a0, a2, y105, y106⟩ : ((List Int) × SL10W × SPos × Int × (List LD))) => ⟨tl 39 [(1, sL eNI a1), (3, .loc 100 0), (5, .loc 101 0), (7, .own 102), (8, V.i y105)], [(100, .cells 48 [.sl false false (a0.l.map (eSN false)), V.b a0.full]), (101, .cells 30 [V.i a2.Level, V.b a2.Dollar, V.b a2.NoIn, V.b a2.NoGt, V.b a2.NoSign]), (102, .vec false 26 1 (y106.map (encL true (encSDNode true))))]⟩) (fun n i => ms_l18List_l1 N R n i = some r) (n0 := N) (i0 := (a1, a0, a2, 0, [])) (wS [(100, 100), (101, 101), (102, 102)] [1, 3, 5, 7, 8]) h (fun i h => by simp [ms_l18List_l1] at h) ?_))))))
 rintro n1 ⟨a1, a0, a2, y105, y106⟩ h169 ih170
 rw [ms_l18List_l1] at h169
 refine CO.seq' (CO.sw mix (wR 2 173 (wN eNI a1 [] (wR 1 173 (wF ?_)))))
 refine cI h169 (fun _ h169 => ?_) (fun _ h169 => ?_)
 ·refine CO.skip (CO.seq' (CO.block' ?_))
  refine CO.join (fun (⟨a1, y105, a0, a2, y172⟩ : ((List Int) × Int × SL10W × SPos × (List LD))) => ⟨tl 39 [(1, sL eNI a1), (3, .loc 100 0), (5, .loc 101 0), (7, .own 102), (8, V.i y105)], [(100, .cells 48 [.sl false false (a0.l.map (eSN false)), V.b a0.full]), (101, .cells 30 [V.i a2.Level, V.b a2.Dollar, V.b a2.NoIn, V.b a2.NoGt, V.b a2.NoSign]), (102, .vec false 26 1 (y172.map (encL true (encSDNode true))))]⟩) (fun i => ms_l18List_k2 N R (ms_l18List_l1 N R n1) i = some r) ?_ ?_
  · rintro ⟨a1, y105, a0, a2, y172⟩ h202
    rw [ms_l18List_k2] at h202
    refine bB h202 fun e176 hx206 h202 => (bB h202 fun r177 hx207 h202 => (bB h202 fun x178 hx208 h202 => ?_))
    refine CO.endR (tl 39 [(1, sL eNI a1), (3, .loc 100 0), (5, .loc 101 0), (7, .own 179), (8, V.i y105)]) [(179, .vec false 26 1 (x178.map (encL true (encSDNode true)))), (100, .cells 48 [.sl false false (a0.l.map (eSN false)), V.b a0.full]), (101, .cells 30 [V.i a2.Level, V.b a2.Dollar, V.b a2.NoIn, V.b a2.NoGt, V.b a2.NoSign])] mix (by
     refine wR 4 177 (wX eNI hx206 1 (wR 2 177 (wC (HR.ms_l18At a0 e176 a2 _ hx207) cok23 [] [(100, 177)] [177] (wR 1 178 (W.appO Dk (encL true (encSDNode true)) (a := 102) (c := 178) (el := 26) (sz := 1) 24 hx208 rfl 179 (by kernel_rfl) (wR 1 180 ?_))))))
     exact fI
     ) (fun st hw => ?_)
    refine CO.weak hw ?_
    exact cK 180 ih170 (a1, a0, a2, (wr (y105 + 1)), x178) h202 [(100, 100), (101, 101), (179, 102)] [1, 3, 5, 7, 8]
  intro hk209
  refine cV 173 ?_
  refine cI h169 (fun _ h169 => ?_) (fun _ h169 => ?_)
  ·refine bB h169 fun r182 hx214 h169 => (bB h169 fun r183 hx215 h169 => (bB h169 fun x184 hx216 h169 => (CO.w mix (wR 1 173 (wC (ms_l15Text_ok [44] hx214) cok52 [] [(100, 173)] [173] (wC (ms_l15Line_ok  hx215) cok127 [] [(100, 174)] [174] (wR 1 175 (W.appO Dk (encL true (encSDNode true)) (a := 102) (c := 175) (el := 26) (sz := 1) 24 hx216 rfl 176 (by kernel_rfl) ?_))))))))
   refine wR 1 177 ?_
   exact wK hk209 (a1, y105, a0, a2, x184) h169 [(100, 100), (101, 101), (176, 102)] [1, 3, 5, 7, 8]
  exact sK hk209 (a1, y105, a0, a2, y106) h169 [(100, 100), (101, 101), (102, 102)] [1, 3, 5, 7, 8]
 refine CO.exit (bB h169 fun r188 hx220 h169 => (bB h169 fun r189 hx221 h169 => (bB h169 fun r190 hx222 h169 => (CO.sw mix (wR 1 173 (W.lend (ms_l15Over_ok N 6 0 y106 hx220) cok51 [(100, 173)] [173] (LayOk.cons (j := 102) (encL true (encSDNode true)) (encL false (encSDNode false)) y106 (by kernel_rfl) (share_encL _ (share_encSDNode _)) lO) (.own _) (.cons (DeepR.map (fun _ => (.cons (.c _) (.cons (.c _) (.cons (.c _) (.cons (.sl _ _ (DeepR.map (fun _ => (.cons (.c _) .nil)) _)) .nil))))) _) .nil) (by kernel_rfl) (by kernel_rfl) (wR 1 174 (W.lend (ms_l15Over_ok N 4 4 [r188] hx221) cok51 [(100, 175)] [175] (LayOk.cons (j := 174) (encL true (encSDNode true)) (encL false (encSDNode false)) ([r188] : List LD) (by kernel_rfl) (share_encL _ (share_encSDNode _)) lO) (.own _) (.cons (DeepR.map (fun _ => (.cons (.c _) (.cons (.c _) (.cons (.c _) (.cons (.sl _ _ (DeepR.map (fun _ => (.cons (.c _) .nil)) _)) .nil))))) _) .nil) (by kernel_rfl) (by kernel_rfl) ?_))))))))
 refine wR 1 176 (W.lend (ms_l15Over_ok N 5 0 [r189] hx222) cok51 [(100, 177)] [177] (LayOk.cons (j := 176) (encL true (encSDNode true)) (encL false (encSDNode false)) ([r189] : List LD) (by kernel_rfl) (share_encL _ (share_encSDNode _)) lO) (.own _) (.cons (DeepR.map (fun _ => (.cons (.c _) (.cons (.c _) (.cons (.c _) (.cons (.sl _ _ (DeepR.map (fun _ => (.cons (.c _) .nil)) _)) .nil))))) _) .nil) (by kernel_rfl) (by kernel_rfl) (wR 1 178 (wF (CO.ret ?_))))
 cases h169
 exact eG [(177, 100)] (.inr rfl) (RetV.one rfl (oT (t := 6) (r := .own 177)))

theorem ms_l18Named_F_ok (N : Nat) (R : Rec2) (HR : RecOk2 R) (a0 : SL10W) (a1 : SNode) (a2 : LU) (a3 : LU) {r : LD} (h : ms_l18Named_F N R a0 a1 a2 a3 = some r) :
    AC Tryz.prog (GS []) 81 [.agg [.sl false false (a0.l.map (eSN false)), V.b a0.full], .agg [V.i a1.Kind, V.i a1.Op, V.s a1.Text, V.s a1.Other, sL eNI a1.Kids], V.s a2, V.s a3] [] (.own 100) [(100, .vec false 62 4 (r.map (encSDNode true)))] := by
 rw [ms_l18Named_F] at h
 refine AC.enter Tryz.func81 rfl (cV 100 (bB h fun s7 hx7 h => (bB h fun r8 hx8 h => (bB h fun r9 hx9 h => (bB h fun r10 hx10 h => (bB h fun r11 hx11 h => (bB h fun r12 hx12 h => (CO.sw mix ?_))))))))
 refine wR 3 102 (W.cat hx7 (by kernel_rfl) (wC (ms_l15Text_ok s7 hx8) cok52 [] [(100, 102)] [102] (wR 3 103 (w0 (ms_Top_ok  hx9) cok53 (wC (HR.ms_l18List a0 a1.Kids r9 _ hx10) cok88 [] [(100, 103)] [103] (wR 1 104 (wC (ms_l15Text_ok a3 hx11) cok52 [] [(100, 104)] [104] (wR 1 105 ?_))))))))
 refine W.lend (ms_l15Over_ok N 6 0 [r8, r10, r11] hx12) cok51 [(100, 106)] [106] (LayOk.cons (j := 105) (encL true (encSDNode true)) (encL false (encSDNode false)) ([r8, r10, r11] : List LD) (by kernel_rfl) (share_encL _ (share_encSDNode _)) lO) (.own _) (.cons (DeepR.map (fun _ => (.cons (.c _) (.cons (.c _) (.cons (.c _) (.cons (.sl _ _ (DeepR.map (fun _ => (.cons (.c _) .nil)) _)) .nil))))) _) .nil) (by kernel_rfl) (by kernel_rfl) (wR 1 107 (wF (CO.ret ?_)))
 cases h
 exact eG [(106, 100)] (.inr rfl) (RetV.one rfl (oT (t := 8) (r := .own 106)))

theorem ms_l18Node_F_ok (N : Nat) (R : Rec2) (HR : RecOk2 R) (a0 : SL10W) (a1 : Int) (a2 : SPos) {r : LD} (h : ms_l18Node_F N R a0 a1 a2 = some r) :
    AC Tryz.prog (GS []) 50 [.agg [.sl false false (a0.l.map (eSN false)), V.b a0.full], V.i a1, .agg [V.i a2.Level, V.b a2.Dollar, V.b a2.NoIn, V.b a2.NoGt, V.b a2.NoSign]] [] (.own 100) [(100, .vec false 62 4 (r.map (encSDNode true)))] := by
 rw [ms_l18Node_F] at h
 refine AC.enter Tryz.func50 rfl (cV 100 (bB h fun e2 hx2 h => (CO.sw mix (wR 3 102 (wX (eSN false) hx2 5 (wR 3 102 (wF (bB h fun r4 hx4 h => ?_))))))))
 refine cC 1 103 (ms_l10Leaf_ok e2 hx4) cok80 (CO.seq' (cV 104 ?_))
 refine cI h (fun _ h => ?_) (fun _ h => ?_)
 ·refine bB h fun r8 hx10 h => (CO.sw mix (wR 2 104 (wC (ms_l15Text_ok r4.Text hx10) cok52 [] [(100, 104)] [104] (wR 1 105 (wF (CO.ret ?_))))))
  cases h
  exact eG [(104, 100)] (.inr rfl) (RetV.one rfl (oT (t := 6) (r := .own 104)))
 refine CO.skip (CO.seq' (cV 104 (CO.block' (cV 104 ?_))))
 refine cI h (fun _ h => ?_) (fun _ h => ?_)
 ·refine bB h fun r166 hx186 h => (CO.sw mix (wR 2 104 (wC (HR.ms_l18Named a0 e2 [91] [93] _ hx186) cok81 [] [(100, 104)] [104] (wR 1 105 (wF (CO.ret ?_))))))
  cases h
  exact eG [(104, 100)] (.inr rfl) (RetV.one rfl (oT (t := 6) (r := .own 104)))
 refine CO.join (fun (⟨e2, a0, a2, y167⟩ : (SNode × SL10W × SPos × Bool)) => ⟨tl 208 [(3, .loc 100 0), (5, .loc 101 0), (7, .loc 102 0), (24, V.i e2.Kind), (30, V.b y167)], [(100, .cells 48 [.sl false false (a0.l.map (eSN false)), V.b a0.full]), (101, .cells 30 [V.i a2.Level, V.b a2.Dollar, V.b a2.NoIn, V.b a2.NoGt, V.b a2.NoSign]), (102, .cells 49 [V.i e2.Kind, V.i e2.Op, V.s e2.Text, V.s e2.Other, sL eNI e2.Kids])]⟩) (fun i => ms_l18Node_k1 N R i = some r) ?_ ?_
 · rintro ⟨e2, a0, a2, y167⟩ h188
   rw [ms_l18Node_k1] at h188
   refine cI h188 (fun _ h188 => ?_) (fun _ h188 => ?_)
   ·refine bB h188 fun r169 hx191 h188 => (CO.sw mix (wR 2 104 (wC (HR.ms_l18Named a0 e2 [40] [41] _ hx191) cok81 [] [(100, 104)] [104] (wR 1 105 (wF (CO.ret ?_))))))
    cases h188
    exact eG [(104, 100)] (.inr rfl) (RetV.one rfl (oT (t := 6) (r := .own 104)))
   refine cV 104 ?_
   refine cI h188 (fun _ h188 => ?_) (fun _ h188 => ?_)
   ·refine bB h188 fun r175 hx198 h188 => (bB h188 fun r176 hx199 h188 => (bB h188 fun e177 hx200 h188 => (bB h188 fun r178 hx201 h188 => (bB h188 fun r179 hx202 h188 => (CO.sw mix (wR 2 104 (w0 (ms_SpellOf_ok e2.Op hx198) cok82 (wC (ms_l15Text_ok r175 hx199) cok52 [] [(100, 104)] [104] ?_))))))))
    refine wR 3 105 (wX eNI hx200 1 (wR 1 105 (wC (HR.ms_l18Lvalue a0 e177 _ hx201) cok83 [] [(100, 105)] [105] (wR 1 106 (W.lend (ms_l15Over_ok N 6 0 [r176, r178] hx202) cok51 [(100, 107)] [107] (LayOk.cons (j := 106) (encL true (encSDNode true)) (encL false (encSDNode false)) ([r176, r178] : List LD) (by kernel_rfl) (share_encL _ (share_encSDNode _)) lO) (.own _) (.cons (DeepR.map (fun _ => (.cons (.c _) (.cons (.c _) (.cons (.c _) (.cons (.sl _ _ (DeepR.map (fun _ => (.cons (.c _) .nil)) _)) .nil))))) _) .nil) (by kernel_rfl) (by kernel_rfl) (wR 1 108 (wF (CO.ret ?_))))))))
    cases h188
    exact eG [(107, 100)] (.inr rfl) (RetV.one rfl (oT (t := 6) (r := .own 107)))
   refine cV 104 ?_
   refine cI h188 (fun _ h188 => ?_) (fun _ h188 => ?_)
   ·refine bB h188 fun e185 hx209 h188 => (bB h188 fun r186 hx210 h188 => (bB h188 fun r187 hx211 h188 => (bB h188 fun r188 hx212 h188 => (bB h188 fun r189 hx213 h188 => (CO.sw mix (wR 3 104 (wX eNI hx209 1 (wR 1 104 ?_))))))))
    refine wC (HR.ms_l18Lvalue a0 e185 _ hx210) cok83 [] [(100, 104)] [104] (wR 2 105 (w0 (ms_SpellOf_ok e2.Op hx211) cok82 (wC (ms_l15Text_ok r187 hx212) cok52 [] [(100, 105)] [105] (wR 1 106 (W.lend (ms_l15Over_ok N 6 0 [r186, r188] hx213) cok51 [(100, 107)] [107] (LayOk.cons (j := 106) (encL true (encSDNode true)) (encL false (encSDNode false)) ([r186, r188] : List LD) (by kernel_rfl) (share_encL _ (share_encSDNode _)) lO) (.own _) (.cons (DeepR.map (fun _ => (.cons (.c _) (.cons (.c _) (.cons (.c _) (.cons (.sl _ _ (DeepR.map (fun _ => (.cons (.c _) .nil)) _)) .nil))))) _) .nil) (by kernel_rfl) (by kernel_rfl) (wR 1 108 (wF (CO.ret ?_))))))))
    cases h188
    exact eG [(107, 100)] (.inr rfl) (RetV.one rfl (oT (t := 6) (r := .own 107)))
   refine cV 104 ?_
   refine cI h188 (fun _ h188 => ?_) (fun _ h188 => ?_)
   ·refine bB h188 fun r195 hx220 h188 => (bB h188 fun e196 hx221 h188 => (bB h188 fun r197 hx222 h188 => (bB h188 fun r198 hx223 h188 => (bB h188 fun r199 hx224 h188 => (CO.sw mix (wC (ms_l15Text_ok [36] hx220) cok52 [] [(100, 104)] [104] (wR 3 105 (wX eNI hx221 1 ?_))))))))
    refine wR 3 105 (w0 (ms_KidPos_ok e2 0 a2 hx222) cok84 (wC (HR.ms_l18At a0 e196 r197 _ hx223) cok23 [] [(100, 105)] [105] (wR 1 106 (W.lend (ms_l15Over_ok N 6 0 [r195, r198] hx224) cok51 [(100, 107)] [107] (LayOk.cons (j := 106) (encL true (encSDNode true)) (encL false (encSDNode false)) ([r195, r198] : List LD) (by kernel_rfl) (share_encL _ (share_encSDNode _)) lO) (.own _) (.cons (DeepR.map (fun _ => (.cons (.c _) (.cons (.c _) (.cons (.c _) (.cons (.sl _ _ (DeepR.map (fun _ => (.cons (.c _) .nil)) _)) .nil))))) _) .nil) (by kernel_rfl) (by kernel_rfl) (wR 1 108 (wF (CO.ret ?_)))))))
    cases h188
    exact eG [(107, 100)] (.inr rfl) (RetV.one rfl (oT (t := 6) (r := .own 107)))
   refine cV 104 ?_
   refine cI h188 (fun _ h188 => ?_) (fun _ h188 => ?_)
   ·refine bB h188 fun e210 hx236 h188 => (bB h188 fun r211 hx237 h188 => (bB h188 fun r212 hx238 h188 => (bB h188 fun s213 hx239 h188 => (bB h188 fun s214 hx240 h188 => (bB h188 fun r215 hx241 h188 => (bB h188 fun e216 hx242 h188 => (bB h188 fun r217 hx243 h188 => (bB h188 fun r218 hx244 h188 => ?_))))))))
    refine bB h188 fun r219 hx245 h188 => (CO.sw mix (wR 3 104 (wX eNI hx236 1 (wR 1 104 (wC (HR.ms_l18Lvalue a0 e210 _ hx237) cok83 [] [(100, 104)] [104] (wR 2 105 (w0 (ms_SpellOf_ok e2.Op hx238) cok82 (W.cat hx239 (by kernel_rfl) ?_))))))))
    refine W.cat hx240 (by kernel_rfl) (wC (ms_l15Text_ok s214 hx241) cok52 [] [(100, 105)] [105] (wR 3 106 (wX eNI hx242 1 (wR 3 106 (w0 (ms_KidPos_ok e2 1 a2 hx243) cok84 (wC (HR.ms_l18At a0 e216 r217 _ hx244) cok23 [] [(100, 106)] [106] (wR 1 107 (W.lend (ms_l15Over_ok N 6 0 [r211, r215, r218] hx245) cok51 [(100, 108)] [108] (LayOk.cons (j := 107) (encL true (encSDNode true)) (encL false (encSDNode false)) ([r211, r215, r218] : List LD) (by kernel_rfl) (share_encL _ (share_encSDNode _)) lO) (.own _) (.cons (DeepR.map (fun _ => (.cons (.c _) (.cons (.c _) (.cons (.c _) (.cons (.sl _ _ (DeepR.map (fun _ => (.cons (.c _) .nil)) _)) .nil))))) _) .nil) (by kernel_rfl) (by kernel_rfl) ?_))))))))
    refine wR 1 109 (wF (CO.ret ?_))
    cases h188
    exact eG [(108, 100)] (.inr rfl) (RetV.one rfl (oT (t := 6) (r := .own 108)))
   refine cV 104 ?_
   refine cI h188 (fun _ h188 => ?_) (fun _ h188 => ?_)
   ·refine bB h188 fun r221 hx248 h188 => (cC 2 104 (ms_SpellOf_ok e2.Op hx248) cok82 ?_)
    refine CO.join (fun (⟨a0, a2, e2, y236⟩ : (SL10W × SPos × SNode × LU)) => ⟨tl 208 [(3, .loc 100 0), (5, .loc 101 0), (7, .loc 102 0), (9, V.s y236)], [(100, .cells 48 [.sl false false (a0.l.map (eSN false)), V.b a0.full]), (101, .cells 30 [V.i a2.Level, V.b a2.Dollar, V.b a2.NoIn, V.b a2.NoGt, V.b a2.NoSign]), (102, .cells 49 [V.i e2.Kind, V.i e2.Op, V.s e2.Text, V.s e2.Other, sL eNI e2.Kids])]⟩) (fun i => ms_l18Node_k2 N R i = some r) ?_ ?_
    · rintro ⟨a0, a2, e2, y236⟩ h264
      rw [ms_l18Node_k2] at h264
      refine bB h264 fun r242 hx270 h264 => (bB h264 fun e243 hx271 h264 => (bB h264 fun r244 hx272 h264 => (bB h264 fun r245 hx273 h264 => (bB h264 fun r246 hx274 h264 => (CO.sw mix (wR 1 105 (wC (ms_l15Text_ok y236 hx270) cok52 [] [(100, 105)] [105] (wR 3 106 ?_))))))))
      refine wX eNI hx271 1 (wR 3 106 (w0 (ms_KidPos_ok e2 0 a2 hx272) cok84 (wC (HR.ms_l18At a0 e243 r244 _ hx273) cok23 [] [(100, 106)] [106] (wR 1 107 (W.lend (ms_l15Over_ok N 6 0 [r242, r245] hx274) cok51 [(100, 108)] [108] (LayOk.cons (j := 107) (encL true (encSDNode true)) (encL false (encSDNode false)) ([r242, r245] : List LD) (by kernel_rfl) (share_encL _ (share_encSDNode _)) lO) (.own _) (.cons (DeepR.map (fun _ => (.cons (.c _) (.cons (.c _) (.cons (.c _) (.cons (.sl _ _ (DeepR.map (fun _ => (.cons (.c _) .nil)) _)) .nil))))) _) .nil) (by kernel_rfl) (by kernel_rfl) (wR 1 109 (wF (CO.ret ?_))))))))
      cases h264
      exact eG [(108, 100)] (.inr rfl) (RetV.one rfl (oT (t := 6) (r := .own 108)))
    intro hk275
    refine bB h188 fun r253 hx282 h188 => (bB h188 fun e254 hx283 h188 => (bB h188 fun r255 hx284 h188 => (bB h188 fun r256 hx285 h188 => (bB h188 fun e257 hx286 h188 => (bB h188 fun r258 hx287 h188 => (CO.sw mix (wR 2 104 (w0 (ms_l10Tok_ok e2.Op hx282) cok86 ?_))))))))
    refine wR 3 104 (wX eNI hx283 1 (wR 3 104 (w0 (ms_KidPos_ok e2 0 a2 hx284) cok84 (wC (ms_l10At_ok N a0 e254 r255 hx285) cok87 [] [(100, 104)] [104] (W.ixO Dk eTk hx286 104 3 (by kernel_rfl) (W.ldO Dk eTk hx286 105 104 0 (.agg [V.i e257.Kind, V.s e257.Text, V.i e257.At]) (by kernel_rfl) (by kernel_rfl) (w0 (ms_NeedsGap_ok N r253 e257 hx287) cok85 (wF ?_))))))))
    refine cI h188 (fun _ h188 => ?_) (fun _ h188 => ?_)
    ·refine bB h188 fun s260 hx290 h188 => (CO.w mix (wR 1 105 (W.cat hx290 (by kernel_rfl) (wR 1 105 ?_))))
     exact wK hk275 (a0, a2, e2, s260) h188 [(100, 100), (101, 101), (102, 102)] [3, 5, 7, 9]
    exact sK hk275 (a0, a2, e2, r221) h188 [(100, 100), (101, 101), (102, 102)] [3, 5, 7, 9]
   refine cV 104 ?_
   refine cI h188 (fun _ h188 => ?_) (fun _ h188 => ?_)
   ·refine bB h188 fun e273 hx304 h188 => (bB h188 fun r274 hx305 h188 => (bB h188 fun r275 hx306 h188 => (bB h188 fun r276 hx307 h188 => (bB h188 fun e277 hx308 h188 => (bB h188 fun r278 hx309 h188 => (bB h188 fun r279 hx310 h188 => (bB h188 fun r280 hx311 h188 => (bB h188 fun e281 hx312 h188 => ?_))))))))
    refine bB h188 fun r282 hx313 h188 => (bB h188 fun r283 hx314 h188 => (bB h188 fun r284 hx315 h188 => (CO.sw mix (wR 3 104 (wX eNI hx304 1 (wR 3 104 (w0 (ms_KidPos_ok e2 0 a2 hx305) cok84 (wC (HR.ms_l18At a0 e273 r274 _ hx306) cok23 [] [(100, 104)] [104] ?_))))))))
    refine wC (ms_l15Text_ok [32, 63, 32] hx307) cok52 [] [(100, 105)] [105] (wR 3 106 (wX eNI hx308 1 (wR 3 106 (w0 (ms_KidPos_ok e2 1 a2 hx309) cok84 (wC (HR.ms_l18At a0 e277 r278 _ hx310) cok23 [] [(100, 106)] [106] (wC (ms_l15Text_ok [32, 58, 32] hx311) cok52 [] [(100, 107)] [107] (wR 3 108 (wX eNI hx312 1 ?_))))))))
    refine wR 3 108 (w0 (ms_KidPos_ok e2 2 a2 hx313) cok84 (wC (HR.ms_l18At a0 e281 r282 _ hx314) cok23 [] [(100, 108)] [108] (wR 1 109 (W.lend (ms_l15Over_ok N 6 0 [r275, r276, r279, r280, r283] hx315) cok51 [(100, 110)] [110] (LayOk.cons (j := 109) (encL true (encSDNode true)) (encL false (encSDNode false)) ([r275, r276, r279, r280, r283] : List LD) (by kernel_rfl) (share_encL _ (share_encSDNode _)) lO) (.own _) (.cons (DeepR.map (fun _ => (.cons (.c _) (.cons (.c _) (.cons (.c _) (.cons (.sl _ _ (DeepR.map (fun _ => (.cons (.c _) .nil)) _)) .nil))))) _) .nil) (by kernel_rfl) (by kernel_rfl) (wR 1 111 (wF (CO.ret ?_)))))))
    cases h188
    exact eG [(110, 100)] (.inr rfl) (RetV.one rfl (oT (t := 6) (r := .own 110)))
   refine cV 104 ?_
   refine cI h188 (fun _ h188 => ?_) (fun _ h188 => ?_)
   ·refine CO.seq' (CO.sw mix (wR 2 104 (wN eNI e2.Kids [] (wR 1 104 (wF ?_)))))
    refine cI h188 (fun _ h188 => ?_) (fun _ h188 => ?_)
    ·refine bB h188 fun e303 hx337 h188 => (bB h188 fun r304 hx338 h188 => (bB h188 fun r305 hx339 h188 => (bB h188 fun s306 hx340 h188 => (bB h188 fun r307 hx341 h188 => (bB h188 fun r308 hx342 h188 => (CO.sw mix (wR 3 104 (wX eNI hx337 1 ?_))))))))
     refine wR 3 104 (w0 (ms_KidPos_ok e2 0 a2 hx338) cok84 (wC (HR.ms_l18At a0 e303 r304 _ hx339) cok23 [] [(100, 104)] [104] (wR 2 105 (W.cat hx340 (by kernel_rfl) (wC (ms_l15Text_ok s306 hx341) cok52 [] [(100, 105)] [105] (wR 1 106 (W.lend (ms_l15Over_ok N 6 0 [r305, r307] hx342) cok51 [(100, 107)] [107] (LayOk.cons (j := 106) (encL true (encSDNode true)) (encL false (encSDNode false)) ([r305, r307] : List LD) (by kernel_rfl) (share_encL _ (share_encSDNode _)) lO) (.own _) (.cons (DeepR.map (fun _ => (.cons (.c _) (.cons (.c _) (.cons (.c _) (.cons (.sl _ _ (DeepR.map (fun _ => (.cons (.c _) .nil)) _)) .nil))))) _) .nil) (by kernel_rfl) (by kernel_rfl) (wR 1 108 ?_))))))))
     refine wF (CO.ret ?_)
     cases h188
     exact eG [(107, 100)] (.inr rfl) (RetV.one rfl (oT (t := 6) (r := .own 107)))
    refine CO.skip (bB h188 fun r315 hx349 h188 => (bB h188 fun r316 hx350 h188 => (bB h188 fun r317 hx351 h188 => (bB h188 fun s318 hx352 h188 => (bB h188 fun r319 hx353 h188 => (bB h188 fun r320 hx354 h188 => (CO.sw mix (wC (ms_l15Text_ok [40] hx349) cok52 [] [(100, 104)] [104] ?_))))))))
    refine wR 3 105 (w0 (ms_Top_ok  hx350) cok53 (wC (HR.ms_l18List a0 e2.Kids r316 _ hx351) cok88 [] [(100, 105)] [105] (wR 2 106 (W.cat hx352 (by kernel_rfl) (wC (ms_l15Text_ok s318 hx353) cok52 [] [(100, 106)] [106] (wR 1 107 (W.lend (ms_l15Over_ok N 6 0 [r315, r317, r319] hx354) cok51 [(100, 108)] [108] (LayOk.cons (j := 107) (encL true (encSDNode true)) (encL false (encSDNode false)) ([r315, r317, r319] : List LD) (by kernel_rfl) (share_encL _ (share_encSDNode _)) lO) (.own _) (.cons (DeepR.map (fun _ => (.cons (.c _) (.cons (.c _) (.cons (.c _) (.cons (.sl _ _ (DeepR.map (fun _ => (.cons (.c _) .nil)) _)) .nil))))) _) .nil) (by kernel_rfl) (by kernel_rfl) (wR 1 109 ?_))))))))
    refine wF (CO.ret ?_)
    cases h188
    exact eG [(108, 100)] (.inr rfl) (RetV.one rfl (oT (t := 6) (r := .own 108)))
   refine CO.skip (bB h188 fun r322 hx356 h188 => (CO.sw mix (wR 3 104 (wC (HR.ms_l18Bin a0 e2 a2 _ hx356) cok89 [] [(100, 104)] [104] (wR 1 105 (wF (CO.ret ?_)))))))
   cases h188
   exact eG [(104, 100)] (.inr rfl) (RetV.one rfl (oT (t := 6) (r := .own 104)))
 intro hk357
 refine cV 104 ?_
 refine cI h (fun _ h => ?_) (fun _ h => ?_)
 ·exact sK hk357 (e2, a0, a2, (e2.Kind == 7)) h [(100, 100), (101, 101), (102, 102)] [3, 5, 7, 24, 30]
 exact cK 104 hk357 (e2, a0, a2, (e2.Kind == 8)) h [(100, 100), (101, 101), (102, 102)] [3, 5, 7, 24, 30]

theorem ms_l18At_F_ok (N : Nat) (R : Rec2) (HR : RecOk2 R) (a0 : SL10W) (a1 : Int) (a2 : SPos) {r : LD} (h : ms_l18At_F N R a0 a1 a2 = some r) :
    AC Tryz.prog (GS []) 23 [.agg [.sl false false (a0.l.map (eSN false)), V.b a0.full], V.i a1, .agg [V.i a2.Level, V.b a2.Dollar, V.b a2.NoIn, V.b a2.NoGt, V.b a2.NoSign]] [] (.own 100) [(100, .vec false 62 4 (r.map (encSDNode true)))] := by
 rw [ms_l18At_F] at h
 refine AC.enter Tryz.func23 rfl (cV 100 (CO.seq' (bB h fun e9 hx10 h => (bB h fun r10 hx11 h => (CO.sw mix (wR 3 102 (wX (eSN false) hx10 5 (wR 2 102 ?_))))))))
 refine w0 (ms_Fits_ok e9 a2 hx11) cok49 (wF ?_)
 refine cI h (fun _ h => ?_) (fun _ h => ?_)
 ·refine bB h fun r12 hx14 h => (CO.sw mix (wR 3 102 (wC (HR.ms_l18Node a0 a1 a2 _ hx14) cok50 [] [(100, 102)] [102] (wR 1 103 (wF (CO.ret ?_))))))
  cases h
  exact eG [(102, 100)] (.inr rfl) (RetV.one rfl (oT (t := 6) (r := .own 102)))
 refine CO.skip (bB h fun r18 hx20 h => (bB h fun r19 hx21 h => (bB h fun r20 hx22 h => (bB h fun r21 hx23 h => (bB h fun r22 hx24 h => (CO.sw mix (wC (ms_l15Text_ok [40] hx20) cok52 [] [(100, 102)] [102] (wR 2 103 ?_))))))))
 refine w0 (ms_Top_ok  hx21) cok53 (wC (HR.ms_l18Node a0 a1 r19 _ hx22) cok50 [] [(100, 103)] [103] (wC (ms_l15Text_ok [41] hx23) cok52 [] [(100, 104)] [104] (wR 1 105 (W.lend (ms_l15Over_ok N 6 0 [r18, r20, r21] hx24) cok51 [(100, 106)] [106] (LayOk.cons (j := 105) (encL true (encSDNode true)) (encL false (encSDNode false)) ([r18, r20, r21] : List LD) (by kernel_rfl) (share_encL _ (share_encSDNode _)) lO) (.own _) (.cons (DeepR.map (fun _ => (.cons (.c _) (.cons (.c _) (.cons (.c _) (.cons (.sl _ _ (DeepR.map (fun _ => (.cons (.c _) .nil)) _)) .nil))))) _) .nil) (by kernel_rfl) (by kernel_rfl) (wR 1 107 (wF (CO.ret ?_)))))))
 cases h
 exact eG [(106, 100)] (.inr rfl) (RetV.one rfl (oT (t := 6) (r := .own 106)))

theorem scc2_ok : ∀ N, RecOk2 (scc2 N)
 | 0 => ⟨fun _ _ _ _ h => (by cases h), fun _ _ _ h => (by cases h), fun _ _ _ _ h => (by cases h), fun _ _ _ _ _ h => (by cases h), fun _ _ _ _ h => (by cases h), fun _ _ _ _ h => (by cases h)⟩
 | N + 1 => ⟨fun a0 a1 a2 _ h => ms_l18Bin_F_ok N (scc2 N) (scc2_ok N) a0 a1 a2 h, fun a0 a1 _ h => ms_l18Lvalue_F_ok N (scc2 N) (scc2_ok N) a0 a1 h, fun a0 a1 a2 _ h => ms_l18List_F_ok N (scc2 N) (scc2_ok N) a0 a1 a2 h, fun a0 a1 a2 a3 _ h => ms_l18Named_F_ok N (scc2 N) (scc2_ok N) a0 a1 a2 a3 h, fun a0 a1 a2 _ h => ms_l18Node_F_ok N (scc2 N) (scc2_ok N) a0 a1 a2 h, fun a0 a1 a2 _ h => ms_l18At_F_ok N (scc2 N) (scc2_ok N) a0 a1 a2 h⟩

theorem ms_l18At_ok (N : Nat) (a0 : SL10W) (a1 : Int) (a2 : SPos) {r : LD} (h : ms_l18At N a0 a1 a2 = some r) :
  AC Tryz.prog (GS []) 23 [.agg [.sl false false (a0.l.map (eSN false)), V.b a0.full], V.i a1, .agg [V.i a2.Level, V.b a2.Dollar, V.b a2.NoIn, V.b a2.NoGt, V.b a2.NoSign]] [] (.own 100) [(100, .vec false 62 4 (r.map (encSDNode true)))] :=
 (scc2_ok N).ms_l18At a0 a1 a2 r h

theorem ms_l15Node_ok (N : Nat) (a0 : SDNode) {r : Bool} (h : ms_l15Node N a0 = some r) :
    AC Tryz.prog (GS []) 100 [.agg [V.i a0.Kind, V.i a0.N, V.s a0.Text, sL eNI a0.Kids]] [] (V.b r) [] := by
 rw [ms_l15Node] at h
 refine AC.enter Tryz.func100 rfl (cV 100 (CO.seq' (bB h fun y2 hv15 h => ?_)))
 refine CO.cutR (tl 61 [(1, .loc 100 0), (20, V.b y2)]) [(100, .cells 62 [V.i a0.Kind, V.i a0.N, V.s a0.Text, sL eNI a0.Kids])] mix (by
  refine wR 4 101 ?_
  refine wJ 6 hv15 (fun hv15 => ?_) (fun hv15 => ?_)
  ·refine wR 5 101 ?_
   refine wJ 11 hv15 (fun hv15 => ?_) (fun hv15 => ?_)
   ·refine wR 9 101 ?_
    cases hv15
    exact fS [(100, 100)] [1, 20]
   refine wR 4 101 ?_
   refine wJ 15 hv15 (fun hv15 => ?_) (fun hv15 => ?_)
   ·refine wR 5 101 ?_
    cases hv15
    exact fS [(100, 100)] [1, 20]
   refine wR 5 101 ?_
   cases hv15
   exact fS [(100, 100)] [1, 20]
  refine wR 9 101 ?_
  refine wJ 15 hv15 (fun hv15 => ?_) (fun hv15 => ?_)
  ·refine wR 5 101 ?_
   cases hv15
   exact fS [(100, 100)] [1, 20]
  refine wR 5 101 ?_
  cases hv15
  exact fS [(100, 100)] [1, 20]
  ) ?_
 refine cI h (fun _ h => ?_) (fun _ h => ?_)
 ·refine cV 101 ?_
  cases h
  exact e1 2 id
 refine CO.skip (CO.seq' (cV 101 (CO.block' (cV 101 ?_))))
 refine cI h (fun _ h => ?_) (fun _ h => ?_)
 ·refine bB h fun y11 hv42 h => ?_
  refine CO.cutR (tl 61 [(2, V.b y11)]) [] mix (by
   refine wR 2 101 (bB hv42 fun r12 hx43 hv42 => (w0 (ms_l4Plain_ok N a0.Text hx43) cok136 (wR 1 101 ?_)))
   refine wJ 28 hv42 (fun hv42 => ?_) (fun hv42 => ?_)
   ·refine wR 2 101 (wN eNI a0.Kids [] (wR 3 101 ?_))
    cases hv42
    exact fS [] [2]
   refine wR 6 101 ?_
   cases hv42
   exact fS [] [2]
   ) ?_
  cases h
  exact e1 2 id
 refine CO.join (fun (⟨a0, y13⟩ : (SDNode × Bool)) => ⟨tl 61 [(1, .loc 100 0), (22, V.i a0.Kind), (34, V.b y13)], [(100, .cells 62 [V.i a0.Kind, V.i a0.N, V.s a0.Text, sL eNI a0.Kids])]⟩) (fun i => ms_l15Node_k1 N i = some r) ?_ ?_
 · rintro ⟨a0, y13⟩ h46
   rw [ms_l15Node_k1] at h46
   refine cI h46 (fun _ h46 => ?_) (fun _ h46 => ?_)
   ·refine CO.sw mix (wR 2 101 (wN eNI a0.Kids [] (wR 2 101 (wF ?_))))
    cases h46
    exact e1 2 id
   refine cV 101 ?_
   refine cI h46 (fun _ h46 => ?_) (fun _ h46 => ?_)
   ·refine bB h46 fun y15 hv51 h46 => ?_
    refine CO.cutR (tl 61 [(2, V.b y15)]) [] mix (by
     refine wR 2 101 (bB hv51 fun r16 hx52 hv51 => (w0 (ms_l1In_ok a0.N 0 40 hx52) cok38 (wR 1 101 ?_)))
     refine wJ 46 hv51 (fun hv51 => ?_) (fun hv51 => ?_)
     ·refine wR 2 101 (wN eNI a0.Kids [] (wR 3 101 ?_))
      cases hv51
      exact fS [] [2]
     refine wR 6 101 ?_
     cases hv51
     exact fS [] [2]
     ) ?_
    cases h46
    exact e1 2 id
   refine cV 101 ?_
   refine cI h46 (fun _ h46 => ?_) (fun _ h46 => ?_)
   ·refine CO.sw mix (wR 2 101 (wN eNI a0.Kids [] (wR 2 101 (wF ?_))))
    cases h46
    exact e1 2 id
   refine CO.skip (cV 101 ?_)
   cases h46
   exact e1 2 id
 intro hk55
 refine cV 101 ?_
 refine cI h (fun _ h => ?_) (fun _ h => ?_)
 ·exact sK hk55 (a0, (a0.Kind == 2)) h [(100, 100)] [1, 22, 34]
 exact cK 101 hk55 (a0, (a0.Kind == 3)) h [(100, 100)] [1, 22, 34]

theorem ms_l15Starts_ok (N : Nat) (a0 : LD) {r : ((List Int) × Bool)} (h : ms_l15Starts N a0 = some r) :
    AC Tryz.prog (GS []) 101 [.sl false false (a0.map (encSDNode false))] [] (.tup [.own 100, V.b r.2]) [(100, vX 3 1 eNI r.1)] := by
 rw [ms_l15Starts] at h
 refine AC.enter Tryz.func101 rfl (cV 100 (cV 100 (CO.seq' (cV 101 (CO.block' (CO.loopJ (fun (⟨a0, y917, y918⟩ : (LD × Int × (List Int))) => ⟨tl 53 [(0, .sl false false (a0.map (encSDNode false))), (4, .own 100), (5, V.i y917)], [(100, vX 3 1 eNI y918)]⟩) (fun n i => ms_l15Starts_l1 N n i = some r) (n0 := N) (i0 := (a0, 0, [])) (wS [(100, 100)] [0, 4, 5]) h (fun i h => by simp [ms_l15Starts_l1] at h) ?_))))))
 rintro n1 ⟨a0, y917, y918⟩ h1961 ih1962
 rw [ms_l15Starts_l1] at h1961
 refine CO.seq' (CO.sw mix (wR 2 245 (wN (encSDNode false) a0 [] (wR 1 245 (wF ?_)))))
 refine cI h1961 (fun _ h1961 => ?_) (fun _ h1961 => ?_)
 ·refine CO.skip (CO.seq' (CO.block' (cV 245 (CO.seq' (bB h1961 fun e1474 hx2322 h1961 => (CO.sw mix (wR 2 245 (wX (encSDNode false) hx2322 4 ?_))))))))
  refine wR 2 245 (wN eNI e1474.Kids [] (wR 2 245 (wF (CO.block' (CO.loopJ (fun (⟨a0, y917, y918, y1499, y1500⟩ : (LD × Int × (List Int) × Int × Int)) => ⟨tl 53 [(0, .sl false false (a0.map (encSDNode false))), (4, .own 100), (5, V.i y917), (6, V.i y1499), (7, V.i y1500)], [(100, vX 3 1 eNI y918)]⟩) (fun n i => ms_l15Starts_l2 N (ms_l15Starts_l1 N n1) n i = some r) (n0 := N) (i0 := (a0, y917, y918, y917, (wr ((e1474.Kids.length : Int) - 1)))) (wS [(100, 100)] [0, 4, 5, 6, 7]) h1961 (fun i h => by simp [ms_l15Starts_l2] at h) ?_)))))
  rintro n2 ⟨a0, y917, y918, y1499, y1500⟩ h2399 ih2400
  rw [ms_l15Starts_l2] at h2399
  refine CO.seq' (cV 305 ?_)
  refine cI h2399 (fun _ h2399 => ?_) (fun _ h2399 => ?_)
  ·refine CO.skip (CO.seq' (CO.block' (CO.seq' (bB h2399 fun y1546 hv2432 h2399 => ?_))))
   refine CO.cutR (tl 53 [(0, .sl false false (a0.map (encSDNode false))), (4, .own 100), (5, V.i y917), (6, V.i y1499), (7, V.i y1500), (41, V.b y1546)]) [(100, vX 3 1 eNI y918)] mix (by
    refine wR 2 305 (bB hv2432 fun e1547 hx2433 hv2432 => (wX (encSDNode false) hx2433 4 (wR 3 305 (bB hv2432 fun e1548 hx2434 hv2432 => (wX eNI hx2434 1 (wR 5 305 ?_))))))
    refine wJ 38 hv2432 (fun hv2432 => ?_) (fun hv2432 => ?_)
    ·refine wR 3 305 ?_
     cases hv2432
     exact fS [(100, 100)] [0, 4, 5, 6, 7, 41]
    refine wR 3 305 ?_
    cases hv2432
    exact fS [(100, 100)] [0, 4, 5, 6, 7, 41]
    ) ?_
   refine cI h2399 (fun _ h2399 => ?_) (fun _ h2399 => ?_)
   ·refine cV 305 (CO.ret ?_)
    cases h2399
    exact eG [(305, 100)] (.inr rfl) (RetV.two rfl (oT (t := 2) (r := .own 305)) (oT (t := 3) (r := V.b false)))
   refine CO.skip (bB h2399 fun e1550 hx2438 h2399 => ?_)
   refine CO.endR (tl 53 [(0, .sl false false (a0.map (encSDNode false))), (4, .own 100), (5, V.i y917), (6, V.i e1550), (7, V.i y1500)]) [(100, vX 3 1 eNI y918)] mix (by
    refine wR 3 305 (W.ixO Dk eNI hx2438 100 1 (by kernel_rfl) (W.ldO Dk eNI hx2438 3 100 0 (V.i e1550) (by kernel_rfl) (by kernel_rfl) (wR 1 305 ?_)))
    exact fI
    ) (fun st hw => ?_)
   refine CO.weak hw ?_
   exact cK 305 ih2400 (a0, y917, y918, e1550, (wr (y1500 - 1))) h2399 [(100, 100)] [0, 4, 5, 6, 7]
  refine CO.exit (bB h2399 fun x1552 hx2440 h2399 => ?_)
  refine CO.endR (tl 53 [(0, .sl false false (a0.map (encSDNode false))), (4, .own 306), (5, V.i y917)]) [(306, vX 3 1 eNI x1552)] mix (by
   refine wR 3 305 (W.appO Dk eNI (a := 100) (c := 305) (el := 3) (sz := 1) 8 hx2440 rfl 306 (by kernel_rfl) (wR 1 307 ?_))
   exact fI
   ) (fun st hw => ?_)
  refine CO.weak hw ?_
  exact cK 307 ih1962 (a0, (wr (y917 + 1)), x1552) h2399 [(306, 100)] [0, 4, 5]
 refine CO.exit (cV 245 (CO.ret ?_))
 cases h1961
 exact eG [(100, 100)] (.inr rfl) (RetV.two rfl (oT (t := 2) (r := .own 100)) (oT (t := 3) (r := V.b true)))

theorem ms_DocOk_ok (N : Nat) (a0 : LD) {r : Bool} (h : ms_DocOk N a0 = some r) :
    AC Tryz.prog (GS []) 64 [.sl false false (a0.map (encSDNode false))] [] (V.b r) [] := by
 rw [ms_DocOk] at h
 refine AC.enter Tryz.func64 rfl (cV 100 (CO.seq' (bB h fun r4 hx5 h => (CO.sw mix (wR 1 100 (wN (encSDNode false) a0 [] (w0 (ms_l1In_ok (a0.length : Int) 1 4000 hx5) cok38 (wR 1 100 ?_))))))))
 refine wF ?_
 refine cI h (fun _ h => ?_) (fun _ h => ?_)
 ·refine cV 100 ?_
  cases h
  exact e1 2 id
 refine CO.skip (CO.seq' (cV 100 (CO.block' (CO.loopJ (fun (⟨a0, y39⟩ : (LD × Int)) => ⟨tl 37 [(0, .sl false false (a0.map (encSDNode false))), (3, V.i y39)], []⟩) (fun n i => ms_DocOk_l1 N n i = some r) (n0 := N) (i0 := (a0, 0)) (wS [] [0, 3]) h (fun i h => by simp [ms_DocOk_l1] at h) ?_))))
 rintro n1 ⟨a0, y39⟩ h69 ih70
 rw [ms_DocOk_l1] at h69
 refine CO.seq' (CO.sw mix (wR 2 160 (wN (encSDNode false) a0 [] (wR 1 160 (wF ?_)))))
 refine cI h69 (fun _ h69 => ?_) (fun _ h69 => ?_)
 ·refine CO.skip (CO.seq' (CO.block' (bB h69 fun e55 hx80 h69 => (bB h69 fun r56 hx81 h69 => (CO.sw mix (wR 2 160 (wX (encSDNode false) hx80 4 (wR 1 160 ?_))))))))
  refine w0 (ms_l15Node_ok N e55 hx81) cok100 (wR 1 160 (wF ?_))
  refine cI h69 (fun _ h69 => ?_) (fun _ h69 => ?_)
  ·refine cV 160 ?_
   cases h69
   exact e1 2 id
  refine CO.skip ?_
  exact cK 160 ih70 (a0, (wr (y39 + 1))) h69 [] [0, 3]
 refine CO.exit (bB h69 fun r58 hx84 h69 => (CO.sw mix (wR 1 160 (wC (ms_l15Starts_ok N a0 hx84) cok101 [] [(100, 160)] [160] (wR 5 161 (wF (bB h69 fun y60 hv87 h69 => ?_)))))))
 refine CO.cutR (tl 37 [(2, V.b y60)]) [] mix (by
  refine wR 2 161 ?_
  refine wJ 28 hv87 (fun hv87 => ?_) (fun hv87 => ?_)
  ·refine wR 2 161 (wN (encSDNode false) a0 [] (wR 1 161 (bB hv87 fun e61 hx89 hv87 => (W.ixO Dk eNI hx89 160 1 (by kernel_rfl) (W.ldO Dk eNI hx89 3 160 0 (V.i e61) (by kernel_rfl) (by kernel_rfl) (wR 3 161 ?_))))))
   cases hv87
   exact fS [] [2]
  refine wR 9 161 ?_
  cases hv87
  exact fS [] [2]
  ) ?_
 cases h69
 exact e1 2 id

theorem ms_FlatText_ok (N : Nat) (a0 : LD) {r : (LU × Bool)} (h : ms_FlatText N a0 = some r) :
    AC Tryz.prog (GS []) 35 [.sl false false (a0.map (encSDNode false))] [] (.tup [V.s r.1, V.b r.2]) [] := by
 rw [ms_FlatText] at h
 refine AC.enter Tryz.func35 rfl (cV 100 (CO.seq' (bB h fun r4 hx5 h => (cC 1 100 (ms_DocOk_ok N a0 hx5) cok64 ?_))))
 refine cI h (fun _ h => ?_) (fun _ h => ?_)
 ·refine cV 100 (CO.ret ?_)
  cases h
  exact eG [] (.inr rfl) (RetV.two rfl (oT (t := 2) (r := V.s [])) (oT (t := 3) (r := V.b false)))
 refine CO.skip (cV 100 (CO.seq' (cV 101 (CO.block' (CO.loopJ (fun (⟨a0, y77, y78⟩ : (LD × Int × LU)) => ⟨tl 39 [(0, .sl false false (a0.map (encSDNode false))), (4, .own 100), (5, V.i y77)], [(100, vX 5 1 byteRow y78)]⟩) (fun n i => ms_FlatText_l1 N n i = some r) (n0 := N) (i0 := (a0, 0, [])) (wS [(100, 100)] [0, 4, 5]) h (fun i h => by simp [ms_FlatText_l1] at h) ?_)))))
 rintro n1 ⟨a0, y77, y78⟩ h139 ih140
 rw [ms_FlatText_l1] at h139
 refine CO.seq' (CO.sw mix (wR 2 165 (wN (encSDNode false) a0 [] (wR 1 165 (wF ?_)))))
 refine cI h139 (fun _ h139 => ?_) (fun _ h139 => ?_)
 ·refine CO.skip ?_
  refine CO.join (fun (⟨a0, y77, y106⟩ : (LD × Int × LU)) => ⟨tl 39 [(0, .sl false false (a0.map (encSDNode false))), (4, .own 100), (5, V.i y77)], [(100, vX 5 1 byteRow y106)]⟩) (fun i => ms_FlatText_k2 N (ms_FlatText_l1 N n1) i = some r) ?_ ?_
  · rintro ⟨a0, y77, y106⟩ h154
    rw [ms_FlatText_k2] at h154
    exact cK 167 ih140 (a0, (wr (y77 + 1)), y106) h154 [(100, 100)] [0, 4, 5]
  intro hk155
  refine CO.block' (bB h139 fun e108 hx157 h139 => (CO.sw mix (wR 2 165 (wX (encSDNode false) hx157 4 (wR 2 165 (wF (CO.block' (cV 165 ?_))))))))
  refine cI h139 (fun _ h139 => ?_) (fun _ h139 => ?_)
  ·refine bB h139 fun e111 hx161 h139 => (bB h139 fun x112 hx162 h139 => (CO.w mix (wR 3 165 (wX (encSDNode false) hx161 4 (wR 2 165 (W.appS Dk (a := 100) (el := 5) 1 hx162 rfl 165 (by kernel_rfl) (wR 1 166 ?_)))))))
   exact wK hk155 (a0, y77, x112) h139 [(165, 100)] [0, 4, 5]
  refine cV 165 ?_
  refine cI h139 (fun _ h139 => ?_) (fun _ h139 => ?_)
  ·refine bB h139 fun x114 hx165 h139 => (CO.w mix (wR 2 165 (W.appO Dk byteRow (a := 100) (c := 165) (el := 5) (sz := 1) 1 hx165 rfl 166 (by kernel_rfl) (wR 1 167 ?_))))
   exact wK hk155 (a0, y77, x114) h139 [(166, 100)] [0, 4, 5]
  refine cV 165 ?_
  refine cI h139 (fun _ h139 => ?_) (fun _ h139 => ?_)
  ·refine cV 165 (CO.ret ?_)
   cases h139
   exact eG [] (.inr rfl) (RetV.two rfl (oT (t := 2) (r := V.s [])) (oT (t := 3) (r := V.b false)))
  exact sK hk155 (a0, y77, y78) h139 [(100, 100)] [0, 4, 5]
 refine CO.exit (CO.sw mix (wR 1 165 (W.strO Dk y78 (a := 100) (by kernel_rfl) (wR 2 165 (wF (CO.ret ?_))))))
 have h139 := sI h139
 subst h139
 exact eG [] (.inr rfl) (RetV.two rfl (oT (t := 2) (r := V.s y78)) (oT (t := 3) (r := V.b true)))

theorem ms_l42Head_ok (N : Nat) (a0 : LN) (a1 : Int) {r : LU} (h : ms_l42Head N a0 a1 = some r) :
    AC Tryz.prog (GS []) 39 [.sl false false (a0.map (eSN false)), V.i a1] [] (V.s r) [] := by
 rw [ms_l42Head] at h
 refine AC.enter Tryz.func39 rfl (cV 100 (bB h fun e2 hx2 h => (CO.sw mix (wR 2 100 (wX (eSN false) hx2 5 (wR 3 100 (wF (cV 101 ?_))))))))
 refine CO.seq' (cV 102 (CO.block' (cV 102 ?_)))
 refine cI h (fun _ h => ?_) (fun _ h => ?_)
 ·refine cV 102 ?_
  cases h
  exact e1 4 id
 refine cV 102 ?_
 refine cI h (fun _ h => ?_) (fun _ h => ?_)
 ·refine cV 102 ?_
  cases h
  exact e1 4 id
 refine cV 102 ?_
 refine cI h (fun _ h => ?_) (fun _ h => ?_)
 ·refine bB h fun s380 hx484 h => (bB h fun s381 hx485 h => (CO.sw mix (wR 2 102 (W.cat hx484 (by kernel_rfl) (W.cat hx485 (by kernel_rfl) (wR 1 102 (wF (bB h fun r383 hx487 h => ?_))))))))
  refine CO.sw mix (wR 2 102 (wC (ms_l24Params_ok N a0 a1 hx487) cok71 [] [(100, 102)] [102] (wR 1 103 (wF (CO.seq' (cV 103 (CO.block' (CO.loopJ (fun (⟨r383, y440, y441⟩ : (LLU × LU × Int)) => ⟨tl 93 [(7, V.s y440), (8, .own 100), (9, V.i y441)], [(100, vN r383)]⟩) (fun n i => ms_l42Head_l1 N n i = some r) (n0 := N) (i0 := (r383, s381, 0)) (wS [(102, 100)] [7, 8, 9]) h (fun i h => by simp [ms_l42Head_l1] at h) ?_))))))))
  rintro n1 ⟨r383, y440, y441⟩ h588 ih589
  rw [ms_l42Head_l1] at h588
  refine CO.seq' (CO.sw mix (wR 2 163 (wN eNS r383 [100] (wR 1 163 (wF ?_)))))
  refine cI h588 (fun _ h588 => ?_) (fun _ h588 => ?_)
  ·refine CO.skip (CO.seq' (CO.block' ?_))
   refine CO.join (fun (⟨y441, r383, y473⟩ : (Int × LLU × LU)) => ⟨tl 93 [(7, V.s y473), (8, .own 100), (9, V.i y441)], [(100, vN r383)]⟩) (fun i => ms_l42Head_k2 N (ms_l42Head_l1 N n1) i = some r) ?_ ?_
   · rintro ⟨y441, r383, y473⟩ h607
     rw [ms_l42Head_k2] at h607
     refine bB h607 fun e476 hx610 h607 => (bB h607 fun s477 hx611 h607 => ?_)
     refine CO.endR (tl 93 [(7, V.s s477), (8, .own 100), (9, V.i y441)]) [(100, vN r383)] mix (by
      refine wR 3 163 (W.ixO Dk eNS hx610 100 1 (by kernel_rfl) (W.ldO Dk eNS hx610 9 100 0 (V.s e476) (by kernel_rfl) (by kernel_rfl) (W.cat hx611 (by kernel_rfl) (wR 1 163 ?_))))
      exact fI
      ) (fun st hw => ?_)
     refine CO.weak hw ?_
     exact cK 163 ih589 (r383, s477, (wr (y441 + 1))) h607 [(100, 100)] [7, 8, 9]
   intro hk612
   refine cV 163 ?_
   refine cI h588 (fun _ h588 => ?_) (fun _ h588 => ?_)
   ·refine bB h588 fun s479 hx615 h588 => (CO.w mix (wR 1 163 (W.cat hx615 (by kernel_rfl) (wR 1 163 ?_))))
    exact wK hk612 (y441, r383, s479) h588 [(100, 100)] [7, 8, 9]
   exact sK hk612 (y441, r383, y440) h588 [(100, 100)] [7, 8, 9]
  refine CO.exit (bB h588 fun s481 hx617 h588 => (CO.sw mix (wR 1 163 (W.cat hx617 (by kernel_rfl) (wR 1 163 (wF ?_))))))
  cases h588
  exact e1 4 id
 refine CO.join (fun (⟨a0, e2, y482⟩ : (LN × SNode × Bool)) => ⟨tl 93 [(0, .sl false false (a0.map (eSN false))), (5, .loc 100 0), (6, .loc 101 0), (53, V.b y482)], [(100, .cells 49 [V.i e2.Kind, V.i e2.Op, V.s e2.Text, V.s e2.Other, sL eNI e2.Kids]), (101, .cells 48 [.sl false false (a0.map (eSN false)), V.b false])]⟩) (fun i => ms_l42Head_k3 N i = some r) ?_ ?_
 · rintro ⟨a0, e2, y482⟩ h619
   rw [ms_l42Head_k3] at h619
   refine cI h619 (fun _ h619 => ?_) (fun _ h619 => ?_)
   ·refine cV 102 (CO.seq' (cV 102 (CO.block' (CO.loopJ (fun (⟨a0, e2, y655, y656⟩ : (LN × SNode × LU × Int)) => ⟨tl 93 [(0, .sl false false (a0.map (eSN false))), (5, .loc 100 0), (6, .loc 101 0), (10, V.s y655), (11, V.i y656)], [(100, .cells 49 [V.i e2.Kind, V.i e2.Op, V.s e2.Text, V.s e2.Other, sL eNI e2.Kids]), (101, .cells 48 [.sl false false (a0.map (eSN false)), V.b false])]⟩) (fun n i => ms_l42Head_l4 N n i = some r) (n0 := N) (i0 := (a0, e2, [], 0)) (wS [(100, 100), (101, 101)] [0, 5, 6, 10, 11]) h619 (fun i h => by simp [ms_l42Head_l4] at h) ?_))))
    rintro n4 ⟨a0, e2, y655, y656⟩ h891 ih892
    rw [ms_l42Head_l4] at h891
    refine CO.seq' (CO.sw mix (wR 3 164 (wN eNI e2.Kids [] (wR 1 164 (wF ?_)))))
    refine cI h891 (fun _ h891 => ?_) (fun _ h891 => ?_)
    ·refine CO.skip ?_
     refine CO.join (fun (⟨a0, y656, e2, y729⟩ : (LN × Int × SNode × LU)) => ⟨tl 93 [(0, .sl false false (a0.map (eSN false))), (5, .loc 100 0), (6, .loc 101 0), (10, V.s y729), (11, V.i y656)], [(100, .cells 49 [V.i e2.Kind, V.i e2.Op, V.s e2.Text, V.s e2.Other, sL eNI e2.Kids]), (101, .cells 48 [.sl false false (a0.map (eSN false)), V.b false])]⟩) (fun i => ms_l42Head_k5 N (ms_l42Head_l4 N n4) i = some r) ?_ ?_
     · rintro ⟨a0, y656, e2, y729⟩ h923
       rw [ms_l42Head_k5] at h923
       exact cK 165 ih892 (a0, e2, y729, (wr (y656 + 1))) h923 [(100, 100), (101, 101)] [0, 5, 6, 10, 11]
     intro hk924
     refine CO.block' (CO.seq' (bB h891 fun e736 hx932 h891 => (bB h891 fun e737 hx933 h891 => (CO.sw mix (wR 4 164 (wX eNI hx932 1 (wR 1 164 (wX (eSN false) hx933 5 ?_))))))))
     refine wR 3 164 (wF ?_)
     refine cI h891 (fun _ h891 => ?_) (fun _ h891 => ?_)
     ·refine CO.exit ?_
      exact hk924 (a0, y656, e2, y655) h891 _ (wS [(100, 100), (101, 101)] [0, 5, 6, 10, 11])
     refine CO.skip (bB h891 fun e742 hx939 h891 => (bB h891 fun r743 hx940 h891 => (bB h891 fun r744 hx941 h891 => (bB h891 fun r745 hx942 h891 => (CO.sw mix (wR 4 164 (wX eNI hx939 1 (wR 1 164 ?_))))))))
     refine w0 (ms_Top_ok  hx940) cok53 (wC (ms_l18At_ok N (⟨a0, false⟩ : SL10W) e742 r743 hx941) cok23 [] [(100, 164)] [164] (W.lend (ms_FlatText_ok N r744 hx942) cok35 [] [] (LayOk.cons (j := 164) (encSDNode true) (encSDNode false) r744 (by kernel_rfl) (share_encSDNode _) lO) (.tup _ (.cons (.c _) (.cons (.c _) .nil))) .nil (by kernel_rfl) (by kernel_rfl) (wR 5 165 (wF ?_))))
     refine CO.join (fun (⟨a0, y656, r745, e2, y748⟩ : (LN × Int × (LU × Bool) × SNode × LU)) => ⟨tl 93 [(0, .sl false false (a0.map (eSN false))), (5, .loc 100 0), (6, .loc 101 0), (10, V.s y748), (11, V.i y656), (12, V.s r745.1)], [(100, .cells 49 [V.i e2.Kind, V.i e2.Op, V.s e2.Text, V.s e2.Other, sL eNI e2.Kids]), (101, .cells 48 [.sl false false (a0.map (eSN false)), V.b false])]⟩) (fun i => ms_l42Head_k6 N (ms_l42Head_l4 N n4) i = some r) ?_ ?_
     · rintro ⟨a0, y656, r745, e2, y748⟩ h946
       rw [ms_l42Head_k6] at h946
       refine bB h946 fun s750 hx948 h946 => (CO.w mix (wR 2 165 (W.cat hx948 (by kernel_rfl) (wR 1 165 ?_))))
       exact wK hk924 (a0, y656, e2, s750) h946 [(100, 100), (101, 101)] [0, 5, 6, 10, 11]
     intro hk949
     refine cV 165 ?_
     refine cI h891 (fun _ h891 => ?_) (fun _ h891 => ?_)
     ·refine bB h891 fun s752 hx952 h891 => (CO.w mix (wR 1 165 (W.cat hx952 (by kernel_rfl) (wR 1 165 ?_))))
      exact wK hk949 (a0, y656, r745, e2, s752) h891 [(100, 100), (101, 101)] [0, 5, 6, 10, 11, 12]
     exact sK hk949 (a0, y656, r745, e2, y655) h891 [(100, 100), (101, 101)] [0, 5, 6, 10, 11, 12]
    refine CO.exit (cV 164 ?_)
    cases h891
    exact e1 4 id
   refine CO.skip (cV 102 ?_)
   cases h619
   exact e1 4 id
 intro hk953
 refine cV 102 ?_
 refine cI h (fun _ h => ?_) (fun _ h => ?_)
 ·exact sK hk953 (a0, e2, (e2.Kind == 42)) h [(100, 100), (101, 101)] [0, 5, 6, 53]
 exact cK 102 hk953 (a0, e2, (e2.Kind == 43)) h [(100, 100), (101, 101)] [0, 5, 6, 53]

theorem ms_HeadOf_ok (N : Nat) (a0 : LN) (a1 : Int) {r : LU} (h : ms_HeadOf N a0 a1 = some r) :
    AC Tryz.prog (GS []) 18 [.sl false false (a0.map (eSN false)), V.i a1] [] (V.s r) [] := by
 rw [ms_HeadOf] at h
 refine AC.enter Tryz.func18 rfl (cV 100 (CO.seq' (bB h fun y8 hv12 h => ?_)))
 refine CO.cutR (tl 19 [(0, .sl false false (a0.map (eSN false))), (1, V.i a1), (15, V.b y8)]) [] mix (by
  refine wR 1 100 (bB hv12 fun r9 hx13 hv12 => (w0 (ms_TreeOk_ok N a0 hx13) cok37 (wR 2 100 ?_)))
  refine wJ 8 hv12 (fun hv12 => ?_) (fun hv12 => ?_)
  ·refine wR 7 100 ?_
   cases hv12
   exact fS [] [0, 1, 15]
  refine wR 2 100 (wN (eSN false) a0 [] (wR 1 100 (bB hv12 fun r10 hx15 hv12 => (w0 (ms_l1In_ok a1 0 (wr ((a0.length : Int) - 1)) hx15) cok38 (wR 2 100 ?_)))))
  cases hv12
  exact fS [] [0, 1, 15]
  ) ?_
 refine cI h (fun _ h => ?_) (fun _ h => ?_)
 ·refine cV 100 ?_
  cases h
  exact e1 4 id
 refine CO.skip (bB h fun r12 hx18 h => (cC 2 100 (ms_l42Head_ok N a0 a1 hx18) cok39 ?_))
 cases h
 exact e1 4 id

theorem mi_within_ok (a0 : Int) (a1 : Int) (a2 : Int) {r : Bool} (h : mi_within a0 a1 a2 = some r) :
    AC Tryz.prog (GS []) 41 [V.i a0, V.i a1, V.i a2] [] (V.b r) [] := by
 rw [mi_within] at h
 refine AC.enter Tryz.func41 rfl (cV 100 (bB h fun y1 hv2 h => ?_))
 refine CO.cutR (tl 15 [(6, V.b y1)]) [] mix (by
  refine wR 4 100 ?_
  refine wJ 10 hv2 (fun hv2 => ?_) (fun hv2 => ?_)
  ·refine wR 5 100 ?_
   cases hv2
   exact fS [] [6]
  refine wR 5 100 ?_
  cases hv2
  exact fS [] [6]
  ) ?_
 cases h
 exact e1 6 id

theorem mi_startsOf_ok (N : Nat) (a0 : LN) {r : ((List Int) × Bool)} (h : mi_startsOf N a0 = some r) :
    AC Tryz.prog (GS []) 111 [.sl false false (a0.map (eSN false))] [] (.tup [.own 100, V.b r.2]) [(100, vX 3 1 eNI r.1)] := by
 rw [mi_startsOf] at h
 refine AC.enter Tryz.func111 rfl (cV 100 (CO.seq' (bB h fun r4 hx5 h => (CO.sw mix (wR 1 102 (wN (eSN false) a0 [] (w0 (mi_within_ok (a0.length : Int) 1 400 hx5) cok41 (wR 1 102 ?_))))))))
 refine wF ?_
 refine cI h (fun _ h => ?_) (fun _ h => ?_)
 ·refine cV 102 (CO.weak (Weak.nilCell 100 0 102 3 1 (ety := 41) (cs := [.c (.slice none 0 0)]) (by kernel_rfl) (by kernel_rfl) (by kernel_rfl)) (CO.ret ?_))
  cases h
  exact eG [(102, 100)] (.inr rfl) (RetV.two rfl (OneR.cell Dk (r := .own 102) (i := 100) (ety := 41) (cs := [.own 102]) (by kernel_rfl) (by kernel_rfl) (by kernel_rfl)) (OneR.cell Dk (r := V.b false) (i := 101) (ety := 4) (cs := [V.b false]) (by kernel_rfl) (by kernel_rfl) (by kernel_rfl)))
 refine CO.skip (bB h fun x6 hx8 h => (CO.sw mix (wR 1 102 (wN (eSN false) a0 [] (W.mk Dk eNI 8 hx8 102 3 1 [.int .i64 0] (by kernel_rfl) (by kernel_rfl) (wR 2 103 (wF (CO.seq' ?_))))))))
 refine CO.sw mix (wR 1 104 (wN (eSN false) a0 [] (wR 1 104 (wF (CO.block' (CO.loopJ (fun (⟨a0, y203, y204⟩ : (LN × Int × (List Int))) => ⟨tl 57 [(0, .sl false false (a0.map (eSN false))), (2, .loc 100 0), (3, .loc 101 0), (4, .loc 102 0), (17, .sl false false (a0.map (eSN false))), (18, V.i (a0.length : Int)), (19, V.i y203)], [(100, .cells 41 [.c (.slice none 0 0)]), (101, .cells 4 [V.b false]), (102, .cells 41 [.own 103]), (103, vX 3 1 eNI y204)]⟩) (fun n i => mi_startsOf_l1 N n i = some r) (n0 := N) (i0 := (a0, 0, x6)) (wS [(100, 100), (101, 101), (103, 102), (102, 103)] [0, 2, 3, 4, 17, 18, 19]) h (fun i h => by simp [mi_startsOf_l1] at h) ?_))))))
 rintro n1 ⟨a0, y203, y204⟩ h481 ih482
 rw [mi_startsOf_l1] at h481
 refine cV 272 (CO.seq' ?_)
 refine cI h481 (fun _ h481 => ?_) (fun _ h481 => ?_)
 ·refine CO.skip (CO.seq' (CO.block' (bB h481 fun e322 hx556 h481 => (CO.sw mix (wR 1 272 (wX (eSN false) hx556 5 (wR 4 272 (wF ?_))))))))
  refine cV 273 (CO.seq' (CO.sw mix (wR 2 274 (wC (back144 e322.Kids) cok144 [] [(100, 274)] [274] (wF (CO.block' ?_))))))
  refine CO.rangeB backok172 cok172 V.i e322.Kids [(100, 2), (101, 3), (102, 4), (273, 1), (274, 0), (103, 5)] [0, 2, 3, 4, 5, 7, 17, 18, 19, 28] (tl 57 [(0, .sl false false (a0.map (eSN false))), (2, .loc 2 0), (3, .loc 3 0), (4, .loc 4 0), (5, V.i y203), (7, .loc 1 0), (17, .sl false false (a0.map (eSN false))), (18, V.i (a0.length : Int)), (19, V.i y203), (28, .fn 172 [.loc 0 0])]) (wr (y203 - 1)) (fun (y345 : Int) => [(2, .cells 41 [.c (.slice none 0 0)]), (3, .cells 4 [V.b false]), (4, .cells 41 [.own 5]), (1, .cells 3 [V.i y345]), (0, .cells 41 [sL eNI e322.Kids]), (5, vX 3 1 eNI y204)]) (fun es i => mi_startsOf_r2 N (mi_startsOf_l1 N n1) a0 y203 e322 y204 es i = some r) 0 41 false 29 30 (by kernel_rfl) (by kernel_rfl) (by kernel_rfl) (by kernel_rfl) (by rintro y345; kernel_rfl) h481 ?_ ?_
  ·rintro e339 es340 y345 h609 L
   rw [mi_startsOf_r2] at h609
   refine ⟨tl 57 [(0, .sl false false (a0.map (eSN false))), (2, .loc 2 0), (3, .loc 3 0), (4, .loc 4 0), (5, V.i y203), (7, .loc 1 0), (9, V.i e339), (17, .sl false false (a0.map (eSN false))), (18, V.i (a0.length : Int)), (19, V.i y203), (28, .fn 172 [.loc 0 0])], [(2, .cells 41 [.c (.slice none 0 0)]), (3, .cells 4 [V.b false]), (4, .cells 41 [.own 5]), (1, .cells 3 [V.i y345]), (0, .cells 41 [sL eNI e322.Kids]), (5, vX 3 1 eNI y204)], ?_, ?_⟩
   ·refine cE 1 316 (tl 57 [(0, .sl false false (a0.map (eSN false))), (2, .loc 2 0), (3, .loc 3 0), (4, .loc 4 0), (5, V.i y203), (7, .loc 1 0), (9, V.i e339), (17, .sl false false (a0.map (eSN false))), (18, V.i (a0.length : Int)), (19, V.i y203), (28, .fn 172 [.loc 0 0])]) [(2, .cells 41 [.c (.slice none 0 0)]), (3, .cells 4 [V.b false]), (4, .cells 41 [.own 5]), (1, .cells 3 [V.i y345]), (0, .cells 41 [sL eNI e322.Kids]), (5, vX 3 1 eNI y204)] (fun st hw => ?_)
    exact ⟨rfl, hw⟩
   ·refine CO.block' (CO.seq' (bB h609 fun y352 hv616 h609 => ?_))
    refine CO.cutR (tl 57 [(0, .sl false false (a0.map (eSN false))), (2, .loc 2 0), (3, .loc 3 0), (4, .loc 4 0), (5, V.i y203), (7, .loc 1 0), (9, V.i e339), (17, .sl false false (a0.map (eSN false))), (18, V.i (a0.length : Int)), (19, V.i y203), (28, .fn 172 [.loc 0 0]), (37, V.b y352)]) [(2, .cells 41 [.c (.slice none 0 0)]), (3, .cells 4 [V.b false]), (4, .cells 41 [.own 5]), (1, .cells 3 [V.i y345]), (0, .cells 41 [sL eNI e322.Kids]), (5, vX 3 1 eNI y204)] mix (by
     refine wR 3 316 ?_
     refine wJ 33 hv616 (fun hv616 => ?_) (fun hv616 => ?_)
     ·refine wR 4 316 ?_
      cases hv616
      exact fS [(2, 2), (3, 3), (4, 4), (1, 1), (0, 0), (5, 5)] [0, 2, 3, 4, 5, 7, 9, 17, 18, 19, 28, 37]
     refine wR 4 316 ?_
     cases hv616
     exact fS [(2, 2), (3, 3), (4, 4), (1, 1), (0, 0), (5, 5)] [0, 2, 3, 4, 5, 7, 9, 17, 18, 19, 28, 37]
     ) ?_
    refine cI h609 (fun _ h609 => ?_) (fun _ h609 => ?_)
    ·refine cV 316 (CO.weak (Weak.nilCell 2 0 316 3 1 (ety := 41) (cs := [.c (.slice none 0 0)]) (by kernel_rfl) (by kernel_rfl) (by kernel_rfl)) (CO.ret (Fin.mk' [(316, 316), (3, 101), (2, 100), (4, 102), (1, 273), (0, 274), (5, 103)] [0, 2, 3, 4, 5, 7, 17, 18, 19, 28] (tl 57 [(0, .sl false false (a0.map (eSN false))), (2, .loc 100 0), (3, .loc 101 0), (4, .loc 102 0), (5, V.i y203), (7, .loc 273 0), (17, .sl false false (a0.map (eSN false))), (18, V.i (a0.length : Int)), (19, V.i y203), (28, .fn 172 [.loc 274 0])]) [(316, vX 3 1 eNI []), (101, .cells 4 [V.b false]), (100, .cells 41 [.own 316]), (102, .cells 41 [.own 103]), (273, .cells 3 [V.i y345]), (274, .cells 41 [sL eNI e322.Kids]), (103, vX 3 1 eNI y204)] (by kernel_rfl) (by kernel_rfl) (by kernel_rfl) ?_)))
     cases h609
     exact eG [(316, 100)] (.inr rfl) (RetV.two rfl (OneR.cell Dk (r := .own 316) (i := 100) (ety := 41) (cs := [.own 316]) (by kernel_rfl) (by kernel_rfl) (by kernel_rfl)) (OneR.cell Dk (r := V.b false) (i := 101) (ety := 4) (cs := [V.b false]) (by kernel_rfl) (by kernel_rfl) (by kernel_rfl)))
    refine CO.skip (bB h609 fun e354 hx620 h609 => ?_)
    refine CO.endR (tl 57 [(0, .sl false false (a0.map (eSN false))), (2, .loc 2 0), (3, .loc 3 0), (4, .loc 4 0), (5, V.i y203), (7, .loc 1 0), (17, .sl false false (a0.map (eSN false))), (18, V.i (a0.length : Int)), (19, V.i y203), (28, .fn 172 [.loc 0 0])]) [(1, .cells 3 [V.i (wr (e354 - 1))]), (2, .cells 41 [.c (.slice none 0 0)]), (3, .cells 4 [V.b false]), (4, .cells 41 [.own 5]), (0, .cells 41 [sL eNI e322.Kids]), (5, vX 3 1 eNI y204)] mix (by
     refine wR 2 316 (W.ixO Dk eNI hx620 5 1 (by kernel_rfl) (W.ldO Dk eNI hx620 3 5 0 (V.i e354) (by kernel_rfl) (by kernel_rfl) (wR 2 316 ?_)))
     exact fI
     ) (fun st hw => ?_)
    exact ⟨tl 57 [], _, (hw.trans (wS [(2, 2), (3, 3), (4, 4), (1, 1), (0, 0), (5, 5)] [])), (wr (e354 - 1)), h609, rfl⟩
  ·rintro y345 h610
   rw [mi_startsOf_r2] at h610
   refine Fin.mk' [(2, 100), (3, 101), (4, 102), (1, 273), (0, 274), (5, 103)] [0, 2, 3, 4, 5, 7, 17, 18, 19, 28] (tl 57 [(0, .sl false false (a0.map (eSN false))), (2, .loc 100 0), (3, .loc 101 0), (4, .loc 102 0), (5, V.i y203), (7, .loc 273 0), (17, .sl false false (a0.map (eSN false))), (18, V.i (a0.length : Int)), (19, V.i y203), (28, .fn 172 [.loc 274 0])]) [(100, .cells 41 [.c (.slice none 0 0)]), (101, .cells 4 [V.b false]), (102, .cells 41 [.own 103]), (273, .cells 3 [V.i y345]), (274, .cells 41 [sL eNI e322.Kids]), (103, vX 3 1 eNI y204)] (by kernel_rfl) (by kernel_rfl) (by kernel_rfl) (bB h610 fun e357 hx623 h610 => (bB h610 fun x358 hu624 h610 => ?_))
   refine CO.endR (tl 57 [(0, .sl false false (a0.map (eSN false))), (2, .loc 100 0), (3, .loc 101 0), (4, .loc 102 0), (17, .sl false false (a0.map (eSN false))), (18, V.i (a0.length : Int)), (19, V.i y203)]) [(103, vX 3 1 eNI x358), (100, .cells 41 [.c (.slice none 0 0)]), (101, .cells 4 [V.b false]), (102, .cells 41 [.own 103])] mix (by
    refine wR 4 336 (W.ixO Dk eNI hx623 103 1 (by kernel_rfl) (W.stO Dk eNI (x' := (wr (y345 + 1))) hx623 hu624 (j := 103) (nn := false) (ety := 3) (sz := 1) (b := 0) (ys := [V.i (wr (y345 + 1))]) (C := []) (R := []) (by kernel_rfl) (by kernel_rfl) ?_))
    exact fI
    ) (fun st hw => ?_)
   refine CO.weak hw ?_
   exact cK 336 ih482 (a0, (wr (y203 + 1)), x358) h610 [(100, 100), (101, 101), (102, 102), (103, 103)] [0, 2, 3, 4, 17, 18, 19]
 refine CO.exit (bB h481 fun e360 hx626 h481 => (CO.sw mix (wR 3 272 (wN (eSN false) a0 [] (wR 1 272 (W.ixO Dk eNI hx626 103 1 (by kernel_rfl) (W.ldO Dk eNI hx626 3 103 0 (V.i e360) (by kernel_rfl) (by kernel_rfl) (wR 3 272 ?_))))))))
 refine wF (CO.ret ?_)
 have h481 := sI h481
 subst h481
 exact eG [(103, 100)] (.inr rfl) (RetV.two rfl (OneR.cell Dk (r := .own 103) (i := 100) (ety := 41) (cs := [.own 103]) (by kernel_rfl) (by kernel_rfl) (by kernel_rfl)) (OneR.cell Dk (r := V.b (e360 == 0)) (i := 101) (ety := 4) (cs := [V.b (e360 == 0)]) (by kernel_rfl) (by kernel_rfl) (by kernel_rfl)))

theorem mi_ShapeOk_ok (N : Nat) (a0 : LN) {r : Bool} (h : mi_ShapeOk N a0 = some r) :
    AC Tryz.prog (GS []) 72 [.sl false false (a0.map (eSN false))] [] (V.b r) [] := by
 rw [mi_ShapeOk] at h
 refine AC.enter Tryz.func72 rfl (cV 100 (bB h fun r2 hx2 h => (CO.sw mix (wR 1 100 (wC (mi_startsOf_ok N a0 hx2) cok111 [] [(100, 100)] [100] (wR 5 101 (wF (cV 101 ?_))))))))
 cases h
 exact e1 2 id

theorem mi_IsExpr_ok (a0 : Int) {r : Bool} (h : mi_IsExpr a0 = some r) :
    AC Tryz.prog (GS []) 55 [V.i a0] [] (V.b r) [] := by
 rw [mi_IsExpr] at h
 refine AC.enter Tryz.func55 rfl (cV 100 (bB h fun r2 hx2 h => (cC 1 100 (mi_within_ok a0 1 15 hx2) cok41 ?_)))
 cases h
 exact e1 2 id

theorem mi_IsLetter_ok (a0 : Int) {r : Bool} (h : mi_IsLetter a0 = some r) :
    AC Tryz.prog (GS []) 183 [V.i a0] [] (V.b r) [] := by
 rw [mi_IsLetter] at h
 refine AC.enter Tryz.func183 rfl (cV 100 (bB h fun y1 hv7 h => ?_))
 refine CO.cutR (tl 21 [(2, V.b y1)]) [] mix (by
  refine wR 3 100 ?_
  refine wJ 5 hv7 (fun hv7 => ?_) (fun hv7 => ?_)
  ·refine wR 4 100 ?_
   refine wJ 9 hv7 (fun hv7 => ?_) (fun hv7 => ?_)
   ·refine wR 12 100 ?_
    cases hv7
    exact fS [] [2]
   refine wR 3 100 ?_
   refine wJ 12 hv7 (fun hv7 => ?_) (fun hv7 => ?_)
   ·refine wR 5 100 ?_
    refine wJ 17 hv7 (fun hv7 => ?_) (fun hv7 => ?_)
    ·refine wR 4 100 ?_
     cases hv7
     exact fS [] [2]
    refine wR 4 100 ?_
    cases hv7
    exact fS [] [2]
   refine wR 9 100 ?_
   cases hv7
   exact fS [] [2]
  refine wR 7 100 ?_
  refine wJ 12 hv7 (fun hv7 => ?_) (fun hv7 => ?_)
  ·refine wR 5 100 ?_
   refine wJ 17 hv7 (fun hv7 => ?_) (fun hv7 => ?_)
   ·refine wR 4 100 ?_
    cases hv7
    exact fS [] [2]
   refine wR 4 100 ?_
   cases hv7
   exact fS [] [2]
  refine wR 9 100 ?_
  cases hv7
  exact fS [] [2]
  ) ?_
 cases h
 exact e1 2 id

theorem mi_IsDigit_ok (a0 : Int) {r : Bool} (h : mi_IsDigit a0 = some r) :
    AC Tryz.prog (GS []) 184 [V.i a0] [] (V.b r) [] := by
 rw [mi_IsDigit] at h
 refine AC.enter Tryz.func184 rfl (cV 100 (bB h fun y1 hv2 h => ?_))
 refine CO.cutR (tl 9 [(2, V.b y1)]) [] mix (by
  refine wR 3 100 ?_
  refine wJ 5 hv2 (fun hv2 => ?_) (fun hv2 => ?_)
  ·refine wR 4 100 ?_
   cases hv2
   exact fS [] [2]
  refine wR 4 100 ?_
  cases hv2
  exact fS [] [2]
  ) ?_
 cases h
 exact e1 2 id

theorem mi_IsWordByte_ok (a0 : Int) {r : Bool} (h : mi_IsWordByte a0 = some r) :
    AC Tryz.prog (GS []) 162 [V.i a0] [] (V.b r) [] := by
 rw [mi_IsWordByte] at h
 refine AC.enter Tryz.func162 rfl (cV 100 (bB h fun y3 hv4 h => ?_))
 refine CO.cutR (tl 9 [(2, V.b y3)]) [] mix (by
  refine wR 1 100 (bB hv4 fun r4 hx5 hv4 => (w0 (mi_IsLetter_ok a0 hx5) cok183 (wR 1 100 ?_)))
  refine wJ 5 hv4 (fun hv4 => ?_) (fun hv4 => ?_)
  ·refine wR 4 100 ?_
   cases hv4
   exact fS [] [2]
  refine wR 1 100 (bB hv4 fun r5 hx7 hv4 => (w0 (mi_IsDigit_ok a0 hx7) cok184 (wR 2 100 ?_)))
  cases hv4
  exact fS [] [2]
  ) ?_
 cases h
 exact e1 2 id

theorem mi_NameShape_ok (N : Nat) (a0 : LU) {r : Bool} (h : mi_NameShape N a0 = some r) :
    AC Tryz.prog (GS []) 173 [V.s a0] [] (V.b r) [] := by
 rw [mi_NameShape] at h
 refine AC.enter Tryz.func173 rfl (cV 100 (CO.seq' (cV 100 (CO.block' (CO.loopJ (fun (⟨a0, y35⟩ : (LU × Int)) => ⟨tl 25 [(0, V.s a0), (5, V.i (a0.length : Int)), (6, V.i y35)], []⟩) (fun n i => mi_NameShape_l1 N n i = some r) (n0 := N) (i0 := (a0, 0)) (wS [] [0, 5, 6]) h (fun i h => by simp [mi_NameShape_l1] at h) ?_)))))
 rintro n1 ⟨a0, y35⟩ h63 ih64
 rw [mi_NameShape_l1] at h63
 refine cV 160 (CO.seq' ?_)
 refine cI h63 (fun _ h63 => ?_) (fun _ h63 => ?_)
 ·refine CO.skip (CO.seq' (CO.block' (cV 160 (bB h63 fun b51 hx74 h63 => (bB h63 fun r52 hx75 h63 => (CO.sw mix (wR 2 160 (W.ixS Dk hx74 (by kernel_rfl) ?_))))))))
  refine wR 1 160 (w0 (mi_IsWordByte_ok (wr ((b51).toNat : Int)) hx75) cok162 (wR 1 160 (wF ?_)))
  refine cI h63 (fun _ h63 => ?_) (fun _ h63 => ?_)
  ·refine cV 160 ?_
   cases h63
   exact e1 2 id
  refine CO.skip ?_
  exact cK 160 ih64 (a0, (wr (y35 + 1))) h63 [] [0, 5, 6]
 refine CO.exit (bB h63 fun y56 hv81 h63 => ?_)
 refine CO.cutR (tl 25 [(2, V.b y56)]) [] mix (by
  refine wR 2 160 (bB hv81 fun r57 hx82 hv81 => (w0 (mi_within_ok (a0.length : Int) 1 12 hx82) cok41 (wR 1 160 ?_)))
  refine wJ 19 hv81 (fun hv81 => ?_) (fun hv81 => ?_)
  ·refine wR 1 160 (bB hv81 fun b58 hx84 hv81 => (W.ixS Dk hx84 (by kernel_rfl) (wR 1 160 (bB hv81 fun r59 hx85 hv81 => (w0 (mi_IsLetter_ok (wr ((b58).toNat : Int)) hx85) cok183 (wR 2 160 ?_))))))
   cases hv81
   exact fS [] [2]
  refine wR 6 160 ?_
  cases hv81
  exact fS [] [2]
  ) ?_
 cases h63
 exact e1 2 id

theorem m_slices_Index_string_ok (N : Nat) (a0 : LLU) (a1 : LU) {r : Int} (h : m_slices_Index_string N a0 a1 = some r) :
    AC Tryz.prog (GS []) 178 [sL eNS a0, V.s a1] [] (V.i r) [] := by
 rw [m_slices_Index_string] at h
 refine AC.enter Tryz.func178 rfl (cV 100 (CO.seq' (CO.sw mix (wR 1 100 (wN eNS a0 [] (wR 1 100 (wF (CO.block' ?_))))))))
 refine CO.loopJ (fun (⟨a0, a1, y19⟩ : (LLU × LU × Int)) => ⟨tl 19 [(0, sL eNS a0), (1, V.s a1), (7, V.i (a0.length : Int)), (8, V.i y19)], []⟩) (fun n i => m_slices_Index_string_l1 N n i = some r) (n0 := N) (i0 := (a0, a1, 0)) (wS [] [0, 1, 7, 8]) h (fun i h => by simp [m_slices_Index_string_l1] at h) ?_
 rintro n1 ⟨a0, a1, y19⟩ h43 ih44
 rw [m_slices_Index_string_l1] at h43
 refine cV 160 (CO.seq' ?_)
 refine cI h43 (fun _ h43 => ?_) (fun _ h43 => ?_)
 ·refine CO.skip (CO.seq' (CO.block' (cV 160 (bB h43 fun e28 hx51 h43 => (CO.sw mix (wR 3 160 (wX eNS hx51 1 (wR 2 160 ?_))))))))
  refine wF ?_
  refine cI h43 (fun _ h43 => ?_) (fun _ h43 => ?_)
  ·refine cV 160 ?_
   cases h43
   exact e1 4 id
  refine CO.skip ?_
  exact cK 160 ih44 (a0, a1, (wr (y19 + 1))) h43 [] [0, 1, 7, 8]
 refine CO.exit (cV 160 ?_)
 cases h43
 exact e1 4 id

theorem mi_KeywordOf_ok (N : Nat) (a0 : LU) {r : Int} (h : mi_KeywordOf N a0 = some r) :
    AC Tryz.prog (GS [0]) 174 [V.s a0] [] (V.i r) [] := by
 rw [mi_KeywordOf] at h
 refine AC.enter Tryz.func174 rfl (cV 100 (bB h fun r2 hx2 h => (CO.sw mix (W.cutG Dk V.s tab_keywords (by kernel_rfl) (wR 1 100 (w0 (AC.gs (m_slices_Index_string_ok N tab_keywords a0 hx2) (by decide)) cok178 (wR 1 100 (wF ?_))))))))
 refine CO.seq' (cV 100 ?_)
 refine cI h (fun _ h => ?_) (fun _ h => ?_)
 ·refine cV 100 ?_
  cases h
  exact e1 2 id
 refine CO.skip (cV 100 ?_)
 cases h
 exact e1 2 id

theorem m_slices_Contains_string_ok (N : Nat) (a0 : LLU) (a1 : LU) {r : Bool} (h : m_slices_Contains_string N a0 a1 = some r) :
    AC Tryz.prog (GS []) 150 [sL eNS a0, V.s a1] [] (V.b r) [] := by
 rw [m_slices_Contains_string] at h
 refine AC.enter Tryz.func150 rfl (cV 100 (bB h fun r2 hx2 h => (cC 2 100 (m_slices_Index_string_ok N a0 a1 hx2) cok178 ?_)))
 cases h
 exact e1 4 id

theorem mi_IsBuiltin_ok (N : Nat) (a0 : LU) {r : Bool} (h : mi_IsBuiltin N a0 = some r) :
    AC Tryz.prog (GS [2]) 147 [V.s a0] [] (V.b r) [] := by
 rw [mi_IsBuiltin] at h
 refine AC.enter Tryz.func147 rfl (cV 100 (bB h fun r2 hx2 h => (CO.sw mix (W.cutG Dk V.s tab_builtins (by kernel_rfl) (wR 1 100 (w0 (AC.gs (m_slices_Contains_string_ok N tab_builtins a0 hx2) (by decide)) cok150 (wR 1 100 (wF ?_))))))))
 cases h
 exact e1 2 id

theorem mi_NameOk_ok (N : Nat) (a0 : LU) {r : Bool} (h : mi_NameOk N a0 = some r) :
    AC Tryz.prog (GS [0, 2]) 145 [V.s a0] [] (V.b r) [] := by
 rw [mi_NameOk] at h
 refine AC.enter Tryz.func145 rfl (cV 100 (bB h fun y4 hv6 h => ?_))
 refine CO.cutR (tl 15 [(2, V.b y4)]) [] mix (by
  refine wR 1 100 (bB hv6 fun r5 hx7 hv6 => (w0 (AC.gs (mi_NameShape_ok N a0 hx7) (by decide)) cok173 (wR 1 100 ?_)))
  refine wJ 5 hv6 (fun hv6 => ?_) (fun hv6 => ?_)
  ·refine wR 1 100 (bB hv6 fun r6 hx9 hv6 => (w0 (AC.gs (mi_KeywordOf_ok N a0 hx9) (by decide)) cok174 (wR 3 100 ?_)))
   refine wJ 10 hv6 (fun hv6 => ?_) (fun hv6 => ?_)
   ·refine wR 1 100 (bB hv6 fun r7 hx11 hv6 => (w0 (AC.gs (mi_IsBuiltin_ok N a0 hx11) (by decide)) cok147 (wR 3 100 ?_)))
    cases hv6
    exact fS [] [2]
   refine wR 5 100 ?_
   cases hv6
   exact fS [] [2]
  refine wR 10 100 ?_
  cases hv6
  exact fS [] [2]
  ) ?_
 cases h
 exact e1 2 id

theorem m_stringslite_IndexByte_ok (a0 : LU) (a1 : Int) {r : Int} (h : m_stringslite_IndexByte a0 a1 = some r) :
    AC Tryz.prog (GS []) 194 [V.s a0, .c (.int .u8 a1)] [] (V.i r) [] := by
 rw [m_stringslite_IndexByte] at h
 refine AC.enter Tryz.func194 rfl (cV 100 (CO.sw mix (wR 2 100 (W.ext (vs := [.string ⟨⟨a0⟩⟩, .int .u8 a1]) (ext198 _ _) (by kernel_rfl) (wR 1 100 (wF ?_))))))
 cases h
 exact e1 4 id

theorem m_stringslite_Index_ok (a0 : LU) {r : Int} (h : m_stringslite_Index a0 = some r) :
    AC Tryz.prog (GS []) 186 [V.s a0, V.s [10]] [] (V.i r) [] := by
 rw [m_stringslite_Index] at h
 refine AC.enter Tryz.func186 rfl (cV 100 (cV 100 (CO.seq' (CO.block' (cV 100 ?_)))))
 refine cI h (fun _ h => ?_) (fun _ h => ?_)
 ·refine cV 100 ?_
  cases h
  exact e1 4 id
 refine cV 100 (CO.ifT (c := true) rfl (by kernel_rfl) (bB h fun b7 hx9 h => (bB h fun r8 hx10 h => (CO.sw mix (wR 2 100 (W.ixS Dk hx9 (by kernel_rfl) (w0 (m_stringslite_IndexByte_ok a0 ((b7).toNat : Int) hx10) cok194 (wR 1 100 ?_))))))))
 refine wF ?_
 cases h
 exact e1 4 id

theorem m_strings_Index_ok (a0 : LU) {r : Int} (h : m_strings_Index a0 = some r) :
    AC Tryz.prog (GS []) 164 [V.s a0, V.s [10]] [] (V.i r) [] := by
 rw [m_strings_Index] at h
 refine AC.enter Tryz.func164 rfl (cV 100 (bB h fun r2 hx2 h => (cC 2 100 (m_stringslite_Index_ok a0 hx2) cok186 ?_)))
 cases h
 exact e1 4 id

theorem m_strings_Contains_ok (a0 : LU) {r : Bool} (h : m_strings_Contains a0 = some r) :
    AC Tryz.prog (GS []) 137 [V.s a0, V.s [10]] [] (V.b r) [] := by
 rw [m_strings_Contains] at h
 refine AC.enter Tryz.func137 rfl (cV 100 (bB h fun r2 hx2 h => (cC 2 100 (m_strings_Index_ok a0 hx2) cok164 ?_)))
 cases h
 exact e1 4 id

theorem mi_byteAt_ok (a0 : LU) (a1 : Int) {r : Int} (h : mi_byteAt a0 a1 = some r) :
    AC Tryz.prog (GS []) 191 [V.s a0, V.i a1] [] (V.i r) [] := by
 rw [mi_byteAt] at h
 refine AC.enter Tryz.func191 rfl (cV 100 (CO.seq' (bB h fun r4 hx5 h => (cC 4 100 (mi_within_ok a1 0 (wr ((a0.length : Int) - 1)) hx5) cok41 ?_))))
 refine cI h (fun _ h => ?_) (fun _ h => ?_)
 ·refine cV 100 ?_
  cases h
  exact e1 4 id
 refine CO.skip (bB h fun b6 hx8 h => (CO.sw mix (wR 2 100 (W.ixS Dk hx8 (by kernel_rfl) (wR 2 100 (wF ?_))))))
 cases h
 exact e1 4 id

theorem mi_digitsEnd_ok (N : Nat) (a0 : LU) (a1 : Int) {r : Int} (h : mi_digitsEnd N a0 a1 = some r) :
    AC Tryz.prog (GS []) 190 [V.s a0, V.i a1] [] (V.i r) [] := by
 rw [mi_digitsEnd] at h
 refine AC.enter Tryz.func190 rfl (cV 100 (CO.seq' (CO.block' (CO.loopJ (fun (⟨a0, a1⟩ : (LU × Int)) => ⟨tl 12 [(0, V.s a0), (1, V.i a1)], []⟩) (fun n i => mi_digitsEnd_l1 N n i = some r) (n0 := N) (i0 := (a0, a1)) (wS [] [0, 1]) h (fun i h => by simp [mi_digitsEnd_l1] at h) ?_))))
 rintro n1 ⟨a0, a1⟩ h33 ih34
 rw [mi_digitsEnd_l1] at h33
 refine CO.seq' (bB h33 fun r33 hx42 h33 => (bB h33 fun r34 hx43 h33 => (CO.sw mix (wR 2 140 (w0 (mi_byteAt_ok a0 a1 hx42) cok191 (w0 (mi_IsDigit_ok r33 hx43) cok184 (wF ?_)))))))
 refine cI h33 (fun _ h33 => ?_) (fun _ h33 => ?_)
 ·refine CO.skip (CO.block' ?_)
  exact cK 140 ih34 (a0, (wr (a1 + 1))) h33 [] [0, 1]
 refine CO.exit (cV 140 ?_)
 cases h33
 exact e1 4 id

theorem mi_NumEnd_ok (N : Nat) (a0 : LU) (a1 : Int) {r : Int} (h : mi_NumEnd N a0 a1 = some r) :
    AC Tryz.prog (GS []) 175 [V.s a0, V.i a1] [] (V.i r) [] := by
 rw [mi_NumEnd] at h
 refine AC.enter Tryz.func175 rfl (cV 100 (CO.seq' (bB h fun r4 hx5 h => (cC 4 100 (mi_within_ok a1 0 (wr ((a0.length : Int) - 1)) hx5) cok41 ?_))))
 refine cI h (fun _ h => ?_) (fun _ h => ?_)
 ·refine cV 100 ?_
  cases h
  exact e1 4 id
 refine CO.skip (bB h fun r6 hx8 h => (cC 2 100 (mi_digitsEnd_ok N a0 a1 hx8) cok190 (cV 100 ?_)))
 refine CO.join (fun (⟨a0, y11, y12⟩ : (LU × Int × Int)) => ⟨tl 71 [(0, V.s a0), (5, V.i y11), (6, V.i y12)], []⟩) (fun i => mi_NumEnd_k1 N i = some r) ?_ ?_
 · rintro ⟨a0, y11, y12⟩ h14
   rw [mi_NumEnd_k1] at h14
   refine CO.seq' (cV 100 ?_)
   refine cI h14 (fun _ h14 => ?_) (fun _ h14 => ?_)
   ·refine cV 100 ?_
    cases h14
    exact e1 4 id
   refine CO.skip ?_
   refine CO.join (fun (y11 : Int) => ⟨tl 71 [(5, V.i y11)], []⟩) (fun i => mi_NumEnd_k2 N i = some r) ?_ ?_
   · rintro y11 h40
     rw [mi_NumEnd_k2] at h40
     refine cV 100 ?_
     cases h40
     exact e1 4 id
   intro hk41
   refine bB h14 fun r26 hx43 h14 => (cC 2 100 (mi_byteAt_ok a0 y11 hx43) cok191 (bB h14 fun y27 hv45 h14 => ?_))
   refine CO.cutR (tl 71 [(0, V.s a0), (5, V.i y11), (49, V.b y27)]) [] mix (by
    refine wR 3 100 ?_
    refine wJ 46 hv45 (fun hv45 => ?_) (fun hv45 => ?_)
    ·refine wR 3 100 ?_
     cases hv45
     exact fS [] [0, 5, 49]
    refine wR 3 100 ?_
    cases hv45
    exact fS [] [0, 5, 49]
    ) ?_
   refine cI h14 (fun _ h14 => ?_) (fun _ h14 => ?_)
   ·refine cV 100 ?_
    refine CO.join (fun (⟨a0, y11, y31⟩ : (LU × Int × Int)) => ⟨tl 71 [(0, V.s a0), (5, V.i y11), (9, V.i y31)], []⟩) (fun i => mi_NumEnd_k3 N i = some r) ?_ ?_
    · rintro ⟨a0, y11, y31⟩ h54
      rw [mi_NumEnd_k3] at h54
      refine bB h54 fun r33 hx56 h54 => (cC 2 100 (mi_digitsEnd_ok N a0 y31 hx56) cok190 (cV 100 ?_))
      refine cI h54 (fun _ h54 => ?_) (fun _ h54 => ?_)
      ·refine cV 100 ?_
       cases h54
       exact e1 4 id
      exact sK hk41 y11 h54 [] [5]
    intro hk58
    refine bB h14 fun r35 hx60 h14 => (cC 2 100 (mi_byteAt_ok a0 (wr (y11 + 1)) hx60) cok191 (bB h14 fun y36 hv62 h14 => ?_))
    refine CO.cutR (tl 71 [(0, V.s a0), (5, V.i y11), (9, V.i (wr (y11 + 1))), (60, V.b y36)]) [] mix (by
     refine wR 3 100 ?_
     refine wJ 57 hv62 (fun hv62 => ?_) (fun hv62 => ?_)
     ·refine wR 3 100 ?_
      cases hv62
      exact fS [] [0, 5, 9, 60]
     refine wR 3 100 ?_
     cases hv62
     exact fS [] [0, 5, 9, 60]
     ) ?_
    refine cI h14 (fun _ h14 => ?_) (fun _ h14 => ?_)
    ·exact cK 100 hk58 (a0, y11, (wr ((wr (y11 + 1)) + 1))) h14 [] [0, 5, 9]
    exact sK hk58 (a0, y11, (wr (y11 + 1))) h14 [] [0, 5, 9]
   exact sK hk41 y11 h14 [] [5]
 intro hk65
 refine bB h fun r38 hx67 h => (cC 2 100 (mi_byteAt_ok a0 r6 hx67) cok191 ?_)
 refine cI h (fun _ h => ?_) (fun _ h => ?_)
 ·refine bB h fun r40 hx70 h => (cC 3 100 (mi_digitsEnd_ok N a0 (wr (r6 + 1)) hx70) cok190 (cV 100 ?_))
  exact cK 100 hk65 (a0, r40, (wr ((wr (r6 - a1)) + (wr ((wr (r40 - r6)) - 1))))) h [] [0, 5, 6]
 exact sK hk65 (a0, r6, (wr (r6 - a1))) h [] [0, 5, 6]

end Go.Proofs.Tryz
