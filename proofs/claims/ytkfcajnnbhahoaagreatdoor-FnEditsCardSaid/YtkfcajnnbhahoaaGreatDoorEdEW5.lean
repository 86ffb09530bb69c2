/-
 The walks that show that the code computes the models, part 5.
-/
import Derived.Test.YtkfcajnnbhahoaaGreatDoorEdEW4
namespace Go.Proofs.Tryz
open Go.Av
set_option maxRecDepth 100000
set_option maxHeartbeats 8000000
set_option linter.unusedSimpArgs false
set_option linter.unusedVariables false

theorem mi_edit_v2_ok (N : Nat) (a0 : LN) (a1 : Int) (pa : Int) (p1_0 : LN) {r : (LN × Bool)} (h : mi_edit_v2 N a0 a1 pa p1_0 = some r) :
    AC Tryz.prog (GS [0, 1, 2]) 72 [.sl false false (a0.map (eSN false)), V.i a1, .fn 83 [.loc 0 0, .loc 1 0]] [(0, .cells 3 [V.i pa]), (1, .cells 24 [.sl false false (p1_0.map (eSN false))])] (.tup [.own 100, V.b r.2]) [(0, .cells 3 [V.i pa]), (1, .cells 24 [.sl false false (p1_0.map (eSN false))]), (100, .vec false 37 5 (r.1.map (eSN true)))] := by
 rw [mi_edit_v2] at h
 refine AC.enter Tryz.func72 rfl (cV 100 (CO.seq' (bB h fun y10 hv14 h => ?_)))
 refine CO.cutR (tl 44 [(0, .sl false false (a0.map (eSN false))), (2, .fn 83 [.loc 0 0, .loc 1 0]), (20, V.b y10)]) [(0, .cells 3 [V.i pa]), (1, .cells 24 [.sl false false (p1_0.map (eSN false))])] mix (by
  refine wR 1 100 (bB hv14 fun r11 hx15 hv14 => (w0 (mi_TreeOk_ok N a0 hx15) cok51 (wR 2 100 ?_)))
  refine wJ 13 hv14 (fun hv14 => ?_) (fun hv14 => ?_)
  ·refine wR 7 100 ?_
   cases hv14
   exact fS [(0, 0), (1, 1)] [0, 2, 20]
  refine wR 2 100 (wN (eSN false) a0 [] (wR 1 100 (bB hv14 fun r12 hx17 hv14 => (w0 (AC.gs (mi_within_ok a1 0 (wr ((a0.length : Int) - 1)) hx17) (by decide)) cok70 (wR 2 100 ?_)))))
  cases hv14
  exact fS [(0, 0), (1, 1)] [0, 2, 20]
  ) ?_
 refine cI h (fun _ h => ?_) (fun _ h => ?_)
 ·refine bB h fun r14 hx20 h => (CO.sw mix (wR 1 100 (wC (AC.gs (mi_copyNodes_ok N a0 hx20) (by decide)) cok71 [] [(100, 100)] [100] (wR 2 101 (wF (CO.ret ?_))))))
  cases h
  exact eG [(0, 0), (1, 1), (100, 100)] (.inr rfl) (RetV.two rfl (oT (t := 6) (r := .own 100)) (oT (t := 7) (r := V.b false)))
 refine CO.skip (bB h fun r16 hx22 h => (CO.sw mix (wR 2 100 (wN (eSN false) a0 [] (wR 2 100 (wC (AC.gs (mi_edited_v3_ok N a0 (wr ((a0.length : Int) - 1)) pa p1_0 hx22) (by decide)) cok145 [(0, 0), (1, 1)] [(0, 0), (1, 1), (100, 100)] [100] (wR 1 101 (wF ?_))))))))
 refine CO.seq' ?_
 refine CO.cutR (tl 44 [(0, .sl false false (a0.map (eSN false))), (8, .own 100), (31, V.b ((r16.length : Int) != 1))]) [(100, vX 88 5 eST r16), (0, .cells 3 [V.i pa]), (1, .cells 24 [.sl false false (p1_0.map (eSN false))])] mix (by
  refine wR 1 101 (wN eST r16 [100] (wR 1 101 ?_))
  exact fI
  ) ?_
 refine cI h (fun _ h => ?_) (fun _ h => ?_)
 ·refine bB h fun r20 hx28 h => (CO.sw mix (wR 1 101 (wC (AC.gs (mi_copyNodes_ok N a0 hx28) (by decide)) cok71 [] [(100, 101)] [101] (wR 2 102 (wF (CO.ret ?_))))))
  cases h
  exact eG [(0, 0), (1, 1), (101, 100)] (.inr rfl) (RetV.two rfl (oT (t := 6) (r := .own 101)) (oT (t := 7) (r := V.b false)))
 refine CO.skip (CO.lay (tl 44 [(0, .sl false false (a0.map (eSN false))), (8, sL eST r16), (31, V.b ((r16.length : Int) != 1))]) [(0, .cells 3 [V.i pa]), (1, .cells 24 [.sl false false (p1_0.map (eSN false))])] (LayOk.cons (j := 100) eST eST r16 (by kernel_rfl) (share_encSTree) lO) (by kernel_rfl) (by kernel_rfl) (by kernel_rfl) (bB h fun e25 hx33 h => (bB h fun r26 hx34 h => (CO.sw mix (wR 1 101 (W.ixDr Dk eST hx33 5 (by kernel_rfl) (encSTree_eq e25) (by kernel_rfl) (wR 1 101 (wC (AC.gs (mi_tree__list_ok N e25 hx34) (by decide)) cok92 [] [(100, 101)] [101] ?_))))))))
 refine wR 1 102 (wF (CO.seq' (bB h fun r32 hx41 h => (CO.sw mix (wR 1 102 (W.lend (mi_TreeOk_ok N r26 hx41) cok51 [] [] (LayOk.cons (j := 101) (eSN true) (eSN false) r26 (by kernel_rfl) (sh_eSN _) lO) (.c _) .nil (by kernel_rfl) (by kernel_rfl) (wR 1 102 (wF ?_))))))))
 refine cI h (fun _ h => ?_) (fun _ h => ?_)
 ·refine bB h fun r34 hx44 h => (CO.sw mix (wR 1 102 (wC (AC.gs (mi_copyNodes_ok N a0 hx44) (by decide)) cok71 [] [(100, 102)] [102] (wR 2 103 (wF (CO.ret ?_))))))
  cases h
  exact eG [(0, 0), (1, 1), (102, 100)] (.inr rfl) (RetV.two rfl (oT (t := 6) (r := .own 102)) (oT (t := 7) (r := V.b false)))
 refine CO.skip (cV 102 (CO.ret ?_))
 cases h
 exact eG [(0, 0), (1, 1), (101, 100)] (.inr rfl) (RetV.two rfl (oT (t := 6) (r := .own 101)) (oT (t := 7) (r := V.b true)))

theorem mi_Replace_ok (N : Nat) (a0 : LN) (a1 : Int) (a2 : LN) {r : (LN × Bool)} (h : mi_Replace N a0 a1 a2 = some r) :
    AC Tryz.prog (GS [0, 1, 2]) 22 [.sl false false (a0.map (eSN false)), V.i a1, .sl false false (a2.map (eSN false))] [] (.tup [.own 100, V.b r.2]) [(100, .vec false 37 5 (r.1.map (eSN true)))] := by
 rw [mi_Replace] at h
 refine AC.enter Tryz.func22 rfl (cV 100 (CO.seq' (bB h fun r6 hx7 h => (cC 1 102 (mi_TreeOk_ok N a2 hx7) cok51 ?_))))
 refine cI h (fun _ h => ?_) (fun _ h => ?_)
 ·refine bB h fun r8 hx10 h => (CO.sw mix (wR 1 102 (wC (AC.gs (mi_copyNodes_ok N a0 hx10) (by decide)) cok71 [] [(100, 102)] [102] (wR 2 103 (wF (CO.ret ?_))))))
  cases h
  exact eG [(102, 100)] (.inr rfl) (RetV.two rfl (oT (t := 6) (r := .own 102)) (oT (t := 7) (r := V.b false)))
 refine CO.skip (bB h fun r10 hx12 h => (CO.sw mix (wR 3 102 (wC (mi_edit_v2_ok N a0 a1 a1 a2 hx12) cok72 [(100, 0), (101, 1)] [(0, 100), (1, 101), (100, 102)] [102] (wR 4 103 (wF (CO.ret ?_)))))))
 have h := sI h
 subst h
 exact eG [(102, 100)] (.inr rfl) (RetV.two rfl (oT (t := 6) (r := .own 102)) (oT (t := 7) (r := V.b r10.2)))

structure RecOk10 (R : Rec10) : Prop where
 ms_l31With : ∀ (a0 : LN) (a1 : Int) (a2 : Int) (a3 : LN) (r : LN), R.ms_l31With a0 a1 a2 a3 = some r → AC Tryz.prog (GS []) 84 [.sl false false (a0.map (eSN false)), V.i a1, V.i a2, .sl false false (a3.map (eSN false))] [] (.own 100) [(100, .vec false 37 5 (r.map (eSN true)))]

theorem ms_l31With_F_ok (N : Nat) (R : Rec10) (HR : RecOk10 R) (a0 : LN) (a1 : Int) (a2 : Int) (a3 : LN) {r : LN} (h : ms_l31With_F N R a0 a1 a2 a3 = some r) :
    AC Tryz.prog (GS []) 84 [.sl false false (a0.map (eSN false)), V.i a1, V.i a2, .sl false false (a3.map (eSN false))] [] (.own 100) [(100, .vec false 37 5 (r.map (eSN true)))] := by
 rw [ms_l31With_F] at h
 refine AC.enter Tryz.func84 rfl (cV 100 (CO.seq' (cV 100 ?_)))
 refine cI h (fun _ h => ?_) (fun _ h => ?_)
 ·refine bB h fun r4 hx6 h => (CO.sw mix (wR 1 100 (wC (ms_l6Copy_ok N a3 hx6) cok78 [] [(100, 100)] [100] (wR 1 101 (wF (CO.ret ?_))))))
  cases h
  exact eG [(100, 100)] (.inr rfl) (RetV.one rfl (oT (t := 8) (r := .own 100)))
 refine CO.skip (cV 100 (CO.seq' (cV 101 (CO.block' (CO.loopJ (fun (⟨a0, a1, a2, a3, y93, y94⟩ : (LN × Int × Int × LN × Int × (List LN))) => ⟨tl 53 [(0, .sl false false (a0.map (eSN false))), (1, V.i a1), (2, V.i a2), (3, .sl false false (a3.map (eSN false))), (9, .own 100), (10, V.i y93)], [(100, .vec false 24 1 (y94.map (encL true (eSN true))))]⟩) (fun n i => ms_l31With_l1 N R n i = some r) (n0 := N) (i0 := (a0, a1, a2, a3, 0, [])) (wS [(100, 100)] [0, 1, 2, 3, 9, 10]) h (fun i h => by simp [ms_l31With_l1] at h) ?_)))))
 rintro n1 ⟨a0, a1, a2, a3, y93, y94⟩ h139 ih140
 rw [ms_l31With_l1] at h139
 refine CO.seq' (bB h139 fun e121 hx145 h139 => (CO.sw mix (wR 3 167 (wX (eSN false) hx145 5 (wR 2 167 (wN eNI e121.Kids [] (wR 1 167 (wF ?_))))))))
 refine cI h139 (fun _ h139 => ?_) (fun _ h139 => ?_)
 ·refine CO.skip ?_
  refine CO.join (fun (⟨a0, a1, a2, a3, y93, y130⟩ : (LN × Int × Int × LN × Int × (List LN))) => ⟨tl 53 [(0, .sl false false (a0.map (eSN false))), (1, V.i a1), (2, V.i a2), (3, .sl false false (a3.map (eSN false))), (9, .own 100), (10, V.i y93)], [(100, .vec false 24 1 (y130.map (encL true (eSN true))))]⟩) (fun i => ms_l31With_k2 N R (ms_l31With_l1 N R n1) i = some r) ?_ ?_
  · rintro ⟨a0, a1, a2, a3, y93, y130⟩ h156
    rw [ms_l31With_k2] at h156
    exact cK 170 ih140 (a0, a1, a2, a3, (wr (y93 + 1)), y130) h156 [(100, 100)] [0, 1, 2, 3, 9, 10]
  intro hk157
  refine CO.block' (bB h139 fun e134 hx161 h139 => (bB h139 fun e135 hx162 h139 => (bB h139 fun r136 hx163 h139 => (CO.sw mix (wR 3 167 (wX (eSN false) hx161 5 (wR 3 167 (wX eNI hx162 1 ?_))))))))
  refine wR 3 167 (wC (HR.ms_l31With a0 e135 a2 a3 _ hx163) cok84 [] [(100, 167)] [167] (wR 1 168 (wF (CO.sw mix (wR 1 168 (wN (eSN true) r136 [167] (wR 1 168 (wF ?_))))))))
  refine cI h139 (fun _ h139 => ?_) (fun _ h139 => ?_)
  ·refine bB h139 fun x138 hx166 h139 => (CO.w mix (wR 3 168 (W.appO Dk (encL true (eSN true)) (a := 100) (c := 168) (el := 24) (sz := 1) 24 hx166 rfl 169 (by kernel_rfl) (wR 1 170 ?_))))
   exact wK hk157 (a0, a1, a2, a3, y93, x138) h139 [(169, 100)] [0, 1, 2, 3, 9, 10]
  exact sK hk157 (a0, a1, a2, a3, y93, y94) h139 [(100, 100)] [0, 1, 2, 3, 9, 10]
 refine CO.exit (bB h139 fun e141 hx169 h139 => (bB h139 fun r142 hx170 h139 => (CO.sw mix (wR 2 167 (wX (eSN false) hx169 5 (wR 2 167 (W.lend (ms_l6Make_ok N e141 y94 hx170) cok87 [(100, 167)] [167] (LayOk.cons (j := 100) (encL true (eSN true)) (encL false (eSN false)) y94 (by kernel_rfl) (share_encL _ (sh_eSN _)) lO) (.own _) (.cons (DeepR.map (fun _ => (.cons (.c _) (.cons (.c _) (.cons (.c _) (.cons (.c _) (.cons (.sl _ _ (DeepR.map (fun _ => (.cons (.c _) .nil)) _)) .nil)))))) _) .nil) (by kernel_rfl) (by kernel_rfl) (wR 1 168 ?_))))))))
 refine wF (CO.ret ?_)
 cases h139
 exact eG [(167, 100)] (.inr rfl) (RetV.one rfl (oT (t := 8) (r := .own 167)))

theorem scc10_ok : ∀ N, RecOk10 (scc10 N)
 | 0 => ⟨fun _ _ _ _ _ h => (by cases h)⟩
 | N + 1 => ⟨fun a0 a1 a2 a3 _ h => ms_l31With_F_ok N (scc10 N) (scc10_ok N) a0 a1 a2 a3 h⟩

theorem ms_l31With_ok (N : Nat) (a0 : LN) (a1 : Int) (a2 : Int) (a3 : LN) {r : LN} (h : ms_l31With N a0 a1 a2 a3 = some r) :
  AC Tryz.prog (GS []) 84 [.sl false false (a0.map (eSN false)), V.i a1, V.i a2, .sl false false (a3.map (eSN false))] [] (.own 100) [(100, .vec false 37 5 (r.map (eSN true)))] :=
 (scc10_ok N).ms_l31With a0 a1 a2 a3 r h

theorem ms_Remove_ok (N : Nat) (a0 : LN) (a1 : Int) {r : (LN × Bool)} (h : ms_Remove N a0 a1 = some r) :
    AC Tryz.prog (GS []) 23 [.sl false false (a0.map (eSN false)), V.i a1] [] (.tup [.sl false false (r.1.map (eSN false)), V.b r.2]) [] := by
 rw [ms_Remove] at h
 refine AC.enter Tryz.func23 rfl (cV 100 (CO.seq' (bB h fun y10 hv14 h => ?_)))
 refine CO.cutR (tl 35 [(0, .sl false false (a0.map (eSN false))), (1, V.i a1), (18, V.b y10)]) [] mix (by
  refine wR 1 100 (bB hv14 fun r11 hx15 hv14 => (w0 (ms_TreeOk_ok N a0 hx15) cok13 (wR 2 100 ?_)))
  refine wJ 11 hv14 (fun hv14 => ?_) (fun hv14 => ?_)
  ·refine wR 7 100 ?_
   cases hv14
   exact fS [] [0, 1, 18]
  refine wR 2 100 (wN (eSN false) a0 [] (wR 1 100 (bB hv14 fun r12 hx17 hv14 => (w0 (ms_l1In_ok a1 0 (wr ((a0.length : Int) - 2)) hx17) cok77 (wR 2 100 ?_)))))
  cases hv14
  exact fS [] [0, 1, 18]
  ) ?_
 refine cI h (fun _ h => ?_) (fun _ h => ?_)
 ·refine bB h fun r14 hx20 h => ?_
  refine CO.cutR (tl 35 [(4, .own 100), (5, V.b false)]) [(100, .vec false 37 5 (r14.map (eSN true)))] mix (by
   refine wR 1 100 (wC (ms_l6Copy_ok N a0 hx20) cok78 [] [(100, 100)] [100] (wR 2 101 ?_))
   exact fI
   ) ?_
  refine CO.lay (tl 35 [(4, .sl false false (r14.map (eSN false))), (5, V.b false)]) [] (LayOk.cons (j := 100) (eSN true) (eSN false) r14 (by kernel_rfl) (sh_eSN _) lO) (by kernel_rfl) (by kernel_rfl) (by kernel_rfl) (CO.ret ?_)
  have h := sI h
  subst h
  exact eG [] (.inr rfl) (RetV.two rfl (oT (t := 4) (r := .sl false false (r14.map (eSN false)))) (oT (t := 5) (r := V.b false)))
 refine CO.skip (bB h fun r17 hx23 h => (bB h fun r18 hx24 h => (CO.sw mix (wR 2 100 (wN (eSN false) a0 [] (wR 3 100 (W.lend (ms_l31With_ok N a0 (wr ((a0.length : Int) - 1)) a1 [] hx23) cok84 [(100, 101)] [101] (LayOk.cons (j := 100) (eSN true) (eSN false) ([] : LN) (by kernel_rfl) (sh_eSN _) lO) (.own _) (.cons (DeepR.map (fun _ => (.cons (.c _) (.cons (.c _) (.cons (.c _) (.cons (.c _) (.cons (.sl _ _ (DeepR.map (fun _ => (.cons (.c _) .nil)) _)) .nil)))))) _) .nil) (by kernel_rfl) (by kernel_rfl) (wR 1 102 ?_))))))))
 refine wD (ms_l31Told_ok N r17 a0 hx24) cok79 [] [] [] (LayOk.cons (j := 101) (eSN true) (eSN false) r17 (by kernel_rfl) (sh_eSN _) lO) (wR 5 102 (wF (cV 102 (CO.ret ?_))))
 have h := sI h
 subst h
 exact eG [] (.inr rfl) (RetV.two rfl (oT (t := 4) (r := .sl false false (r18.1.map (eSN false)))) (oT (t := 5) (r := V.b r18.2)))

theorem ml_FnEdits_ok (N : Nat) (a0 : LU) {r : Bool} (h : ml_FnEdits N a0 = some r) :
    AC Tryz.prog (GS [0, 1, 2]) 4 [sL byteRow a0] [] (V.b r) [] := by
 rw [ml_FnEdits] at h
 refine AC.enter Tryz.func4 rfl (cV 100 (CO.seq' (bB h fun r4 hx5 h => (cC 1 100 (AC.gs (ml_big_ok a0 hx5) (by decide)) cok9 ?_))))
 refine cI h (fun _ h => ?_) (fun _ h => ?_)
 ·refine cV 100 ?_
  cases h
  exact e1 2 id
 refine CO.skip (bB h fun r6 hx8 h => (CO.sw mix (wR 1 100 (wC (AC.gs (ms_DrawInsert_ok N a0 hx8) (by decide)) cok17 [] [(100, 100)] [100] (wR 9 101 (wF (bB h fun r8 hx10 h => ?_)))))))
 refine CO.cutR (tl 208 [(3, .sl false false (r6.1.map (eSN false))), (4, V.i r6.2.1), (5, V.i r6.2.2.1), (6, .own 100), (7, .own 101), (8, V.b r8.2)]) [(101, .vec false 37 5 (r8.1.map (eSN true))), (100, .vec false 37 5 (r6.2.2.2.map (eSN true)))] mix (by
  refine wR 4 101 (W.lend (mi_Insert_ok N r6.1 r6.2.1 r6.2.2.1 r6.2.2.2 hx10) cok18 [(100, 101)] [101] (LayOk.cons (j := 100) (eSN true) (eSN false) r6.2.2.2 (by kernel_rfl) (sh_eSN _) lO) (.tup _ (.cons (.own _) (.cons (.c _) .nil))) (.cons (DeepR.map (fun _ => (.cons (.c _) (.cons (.c _) (.cons (.c _) (.cons (.c _) (.cons (.sl _ _ (DeepR.map (fun _ => (.cons (.c _) .nil)) _)) .nil)))))) _) .nil) (by kernel_rfl) (by kernel_rfl) (wR 5 102 ?_))
  exact fI
  ) ?_
 refine CO.lay (tl 208 [(3, .sl false false (r6.1.map (eSN false))), (4, V.i r6.2.1), (5, V.i r6.2.2.1), (6, .sl false false (r6.2.2.2.map (eSN false))), (7, .own 101), (8, V.b r8.2)]) [(101, .vec false 37 5 (r8.1.map (eSN true)))] (LayOk.cons (j := 100) (eSN true) (eSN false) r6.2.2.2 (by kernel_rfl) (sh_eSN _) lO) (by kernel_rfl) (by kernel_rfl) (by kernel_rfl) (bB h fun r11 hx13 h => (cC 4 102 (AC.gs (ms_Insert_ok N r6.1 r6.2.1 r6.2.2.1 r6.2.2.2 hx13) (by decide)) cok19 (CO.seq' (bB h fun y19 hv31 h => ?_))))
 refine CO.cutR (tl 208 [(3, .sl false false (r6.1.map (eSN false))), (4, V.i r6.2.1), (5, V.i r6.2.2.1), (6, .sl false false (r6.2.2.2.map (eSN false))), (7, .own 100), (8, V.b r8.2), (63, V.b y19)]) [(100, .vec false 37 5 (r8.1.map (eSN true)))] mix (by
  refine wR 4 102 ?_
  refine wJ 48 hv31 (fun hv31 => ?_) (fun hv31 => ?_)
  ·refine wR 15 102 ?_
   cases hv31
   exact fS [(101, 100)] [3, 4, 5, 6, 7, 8, 63]
  refine wR 2 102 (bB hv31 fun r20 hx33 hv31 => (W.lend (AC.gs (ms_SameTree_ok N r8.1 r11.1 hx33) (by decide)) cok14 [] [] (LayOk.cons (j := 101) (eSN true) (eSN false) r8.1 (by kernel_rfl) (sh_eSN _) lO) (.c _) .nil (by kernel_rfl) (by kernel_rfl) (wR 3 102 ?_)))
  refine wJ 54 hv31 (fun hv31 => ?_) (fun hv31 => ?_)
  ·refine wR 9 102 ?_
   cases hv31
   exact fS [(101, 100)] [3, 4, 5, 6, 7, 8, 63]
  refine wR 3 102 ?_
  refine wJ 57 hv31 (fun hv31 => ?_) (fun hv31 => ?_)
  ·refine wR 2 102 (bB hv31 fun r21 hx36 hv31 => (W.lend (AC.gs (ms_SameTree_ok N r8.1 r6.1 hx36) (by decide)) cok14 [] [] (LayOk.cons (j := 101) (eSN true) (eSN false) r8.1 (by kernel_rfl) (sh_eSN _) lO) (.c _) .nil (by kernel_rfl) (by kernel_rfl) (wR 3 102 ?_)))
   cases hv31
   exact fS [(101, 100)] [3, 4, 5, 6, 7, 8, 63]
  refine wR 6 102 ?_
  cases hv31
  exact fS [(101, 100)] [3, 4, 5, 6, 7, 8, 63]
  ) ?_
 refine cI h (fun _ h => ?_) (fun _ h => ?_)
 ·refine cV 102 ?_
  cases h
  exact e1 2 id
 refine CO.skip ?_
 refine CO.join (fun (⟨r6, r8⟩ : ((LN × Int × Int × LN) × (LN × Bool))) => ⟨tl 208 [(3, .sl false false (r6.1.map (eSN false))), (4, V.i r6.2.1), (8, V.b r8.2)], []⟩) (fun i => ml_FnEdits_k1 N i = some r) ?_ ?_
 · rintro ⟨r6, r8⟩ h121
   rw [ml_FnEdits_k1] at h121
   refine CO.seq' (bB h121 fun y79 hv133 h121 => ?_)
   refine CO.cutR (tl 208 [(3, .sl false false (r6.1.map (eSN false))), (4, V.i r6.2.1), (8, V.b r8.2), (152, V.b y79)]) [] mix (by
    refine wR 1 104 (bB hv133 fun r80 hx134 hv133 => (w0 (AC.gs (ms_TreeOk_ok N r6.1 hx134) (by decide)) cok13 (wR 2 104 ?_)))
    refine wJ 143 hv133 (fun hv133 => ?_) (fun hv133 => ?_)
    ·refine wR 9 104 ?_
     cases hv133
     exact fS [] [3, 4, 8, 152]
    refine wR 4 104 ?_
    refine wJ 147 hv133 (fun hv133 => ?_) (fun hv133 => ?_)
    ·refine wR 5 104 ?_
     cases hv133
     exact fS [] [3, 4, 8, 152]
    refine wR 2 104 (wN (eSN false) r6.1 [] (wR 2 104 ?_))
    cases hv133
    exact fS [] [3, 4, 8, 152]
    ) ?_
   refine cI h121 (fun _ h121 => ?_) (fun _ h121 => ?_)
   ·refine cV 104 ?_
    cases h121
    exact e1 2 id
   refine CO.skip (bB h121 fun r83 hx140 h121 => (bB h121 fun r84 hx141 h121 => (CO.sw mix (wR 4 104 (wC (AC.gs (ms_Part_ok N r6.1 r6.2.1 hx140) (by decide)) cok20 [] [(100, 104)] [104] (W.lend (mi_Replace_ok N r6.1 r6.2.1 r83 hx141) cok22 [(100, 105)] [105] (LayOk.cons (j := 104) (eSN true) (eSN false) r83 (by kernel_rfl) (sh_eSN _) lO) (.tup _ (.cons (.own _) (.cons (.c _) .nil))) (.cons (DeepR.map (fun _ => (.cons (.c _) (.cons (.c _) (.cons (.c _) (.cons (.c _) (.cons (.sl _ _ (DeepR.map (fun _ => (.cons (.c _) .nil)) _)) .nil)))))) _) .nil) (by kernel_rfl) (by kernel_rfl) (wR 5 106 (wF ?_))))))))
   refine bB h121 fun r86 hx143 h121 => (CO.sw mix (wR 2 106 (wC (mi_Remove_ok N r6.1 r6.2.1 hx143) cok21 [] [(100, 106)] [106] (wR 5 107 (wF (bB h121 fun r88 hx145 h121 => (cC 2 107 (AC.gs (ms_Remove_ok N r6.1 r6.2.1 hx145) (by decide)) cok23 (bB h121 fun y92 hv154 h121 => ?_))))))))
   refine CO.cutR (tl 208 [(2, V.b y92)]) [] mix (by
    refine wR 2 107 ?_
    refine wJ 177 hv154 (fun hv154 => ?_) (fun hv154 => ?_)
    ·refine wR 2 107 (bB hv154 fun r93 hx156 hv154 => (W.lend (AC.gs (ms_SameTree_ok N r84.1 r6.1 hx156) (by decide)) cok14 [] [] (LayOk.cons (j := 105) (eSN true) (eSN false) r84.1 (by kernel_rfl) (sh_eSN _) lO) (.c _) .nil (by kernel_rfl) (by kernel_rfl) (wR 2 107 ?_)))
     refine wJ 182 hv154 (fun hv154 => ?_) (fun hv154 => ?_)
     ·refine wR 5 107 ?_
      refine wJ 187 hv154 (fun hv154 => ?_) (fun hv154 => ?_)
      ·refine wR 2 107 (bB hv154 fun r94 hx159 hv154 => (W.lend (AC.gs (ms_SameTree_ok N r86.1 r88.1 hx159) (by decide)) cok14 [] [] (LayOk.cons (j := 106) (eSN true) (eSN false) r86.1 (by kernel_rfl) (sh_eSN _) lO) (.c _) .nil (by kernel_rfl) (by kernel_rfl) (wR 2 107 ?_)))
       refine wJ 192 hv154 (fun hv154 => ?_) (fun hv154 => ?_)
       ·refine wR 3 107 ?_
        refine wJ 195 hv154 (fun hv154 => ?_) (fun hv154 => ?_)
        ·refine wR 13 107 ?_
         cases hv154
         exact fS [] [2]
        refine wR 1 107 (wN (eSN true) r86.1 [106] (wR 1 107 (wN (eSN false) r6.1 [] (wR 2 107 (bB hv154 fun r95 hx162 hv154 => (wC (AC.gs (ms_Part_ok N r6.1 r6.2.1 hx162) (by decide)) cok20 [] [(100, 107)] [107] (wN (eSN true) r95 [107] (wR 5 108 ?_))))))))
        cases hv154
        exact fS [] [2]
       refine wR 16 107 ?_
       cases hv154
       exact fS [] [2]
      refine wR 21 107 ?_
      cases hv154
      exact fS [] [2]
     refine wR 26 107 ?_
     cases hv154
     exact fS [] [2]
    refine wR 31 107 ?_
    cases hv154
    exact fS [] [2]
    ) ?_
   cases h121
   exact e1 2 id
 intro hk163
 refine cV 102 ?_
 refine cI h (fun _ h => ?_) (fun _ h => ?_)
 ·refine CO.cutR (tl 208 [(3, .sl false false (r6.1.map (eSN false))), (4, V.i r6.2.1), (5, V.i r6.2.2.1), (6, .sl false false (r6.2.2.2.map (eSN false))), (7, .own 100), (8, V.b r8.2), (11, V.i (wr (r6.2.1 + (r6.2.2.2.length : Int))))]) [(100, .vec false 37 5 (r8.1.map (eSN true)))] mix (by
   refine wR 2 102 (wN (eSN false) r6.2.2.2 [] (wR 2 102 ?_))
   exact fI
   ) ?_
  refine CO.seq' (CO.lay (tl 208 [(3, .sl false false (r6.1.map (eSN false))), (4, V.i r6.2.1), (5, V.i r6.2.2.1), (6, .sl false false (r6.2.2.2.map (eSN false))), (7, .sl false false (r8.1.map (eSN false))), (8, V.b r8.2), (11, V.i (wr (r6.2.1 + (r6.2.2.2.length : Int))))]) [] (LayOk.cons (j := 100) (eSN true) (eSN false) r8.1 (by kernel_rfl) (sh_eSN _) lO) (by kernel_rfl) (by kernel_rfl) (by kernel_rfl) (bB h fun y132 hv222 h => ?_))
  refine CO.cutR (tl 208 [(3, .sl false false (r6.1.map (eSN false))), (4, V.i r6.2.1), (5, V.i r6.2.2.1), (7, .sl false false (r8.1.map (eSN false))), (8, V.b r8.2), (11, V.i (wr (r6.2.1 + (r6.2.2.2.length : Int)))), (118, V.b y132)]) [] mix (by
   refine wR 2 102 (wN (eSN false) r8.1 [] (wR 2 102 ?_))
   refine wJ 73 hv222 (fun hv222 => ?_) (fun hv222 => ?_)
   ·refine wR 45 102 ?_
    cases hv222
    exact fS [] [3, 4, 5, 7, 8, 11, 118]
   refine wR 1 102 (bB hv222 fun r133 hx224 hv222 => (w0 (AC.gs (ms_TreeOk_ok N r8.1 hx224) (by decide)) cok13 (wR 3 102 ?_)))
   refine wJ 78 hv222 (fun hv222 => ?_) (fun hv222 => ?_)
   ·refine wR 40 102 ?_
    cases hv222
    exact fS [] [3, 4, 5, 7, 8, 11, 118]
   refine wR 1 102 (wN (eSN false) r8.1 [] (wR 1 102 (wN (eSN false) r6.1 [] (wR 1 102 (wN (eSN false) r6.2.2.2 [] (wR 4 102 ?_))))))
   refine wJ 88 hv222 (fun hv222 => ?_) (fun hv222 => ?_)
   ·refine wR 30 102 ?_
    cases hv222
    exact fS [] [3, 4, 5, 7, 8, 11, 118]
   refine wR 2 102 (bB hv222 fun e134 hx227 hv222 => (wX (eSN false) hx227 5 (wR 2 102 (wN eNI e134.Kids [] (wR 2 102 (bB hv222 fun e135 hx228 hv222 => (wX (eSN false) hx228 5 (wR 2 102 ?_))))))))
   refine wN eNI e135.Kids [] (wR 4 102 ?_)
   refine wJ 104 hv222 (fun hv222 => ?_) (fun hv222 => ?_)
   ·refine wR 14 102 ?_
    cases hv222
    exact fS [] [3, 4, 5, 7, 8, 11, 118]
   refine wR 3 102 (bB hv222 fun e136 hx230 hv222 => (wX (eSN false) hx230 5 (wR 3 102 (bB hv222 fun e137 hx231 hv222 => (wX eNI hx231 1 (wR 1 102 (bB hv222 fun r138 hx232 hv222 => (wC (AC.gs (ms_Part_ok N r8.1 e137 hx232) (by decide)) cok20 [] [(100, 102)] [102] ?_))))))))
   refine wR 1 103 (bB hv222 fun r139 hx233 hv222 => (W.lend (AC.gs (ms_SameTree_ok N r138 r6.2.2.2 hx233) (by decide)) cok14 [] [] (LayOk.cons (j := 102) (eSN true) (eSN false) r138 (by kernel_rfl) (sh_eSN _) lO) (.c _) .nil (by kernel_rfl) (by kernel_rfl) (wR 2 103 ?_)))
   cases hv222
   exact fS [] [3, 4, 5, 7, 8, 11, 118]
   ) ?_
  refine cI h (fun _ h => ?_) (fun _ h => ?_)
  ·refine cV 103 ?_
   cases h
   exact e1 2 id
  refine CO.skip (bB h fun e143 hx238 h => (bB h fun e144 hx239 h => (bB h fun r145 hx240 h => (CO.sw mix (wR 3 103 (wX (eSN false) hx238 5 (wR 3 103 (wX eNI hx239 1 ?_))))))))
  refine wR 1 103 (wC (mi_Remove_ok N r8.1 e144 hx240) cok21 [] [(100, 103)] [103] (wR 5 104 (wF (bB h fun y147 hv243 h => ?_))))
  refine CO.cutR (tl 208 [(3, .sl false false (r6.1.map (eSN false))), (4, V.i r6.2.1), (8, V.b r8.2), (139, V.b y147)]) [] mix (by
   refine wR 3 104 ?_
   refine wJ 134 hv243 (fun hv243 => ?_) (fun hv243 => ?_)
   ·refine wR 5 104 ?_
    cases hv243
    exact fS [] [3, 4, 8, 139]
   refine wR 2 104 (bB hv243 fun r148 hx245 hv243 => (W.lend (AC.gs (ms_SameTree_ok N r145.1 r6.1 hx245) (by decide)) cok14 [] [] (LayOk.cons (j := 103) (eSN true) (eSN false) r145.1 (by kernel_rfl) (sh_eSN _) lO) (.c _) .nil (by kernel_rfl) (by kernel_rfl) (wR 2 104 ?_)))
   cases hv243
   exact fS [] [3, 4, 8, 139]
   ) ?_
  refine cI h (fun _ h => ?_) (fun _ h => ?_)
  ·refine cV 104 ?_
   cases h
   exact e1 2 id
  exact sK hk163 (r6, r8) h [] [3, 4, 8]
 exact sK hk163 (r6, r8) h [] [3, 4, 8]

end Go.Proofs.Tryz
