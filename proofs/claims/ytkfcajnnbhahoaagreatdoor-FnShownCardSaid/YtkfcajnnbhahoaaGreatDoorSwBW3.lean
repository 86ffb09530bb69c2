/-
 The walks that show that the code computes the models, part 3.
-/
import Derived.Test.YtkfcajnnbhahoaaGreatDoorSwBW2
namespace Go.Proofs.Tryz
open Go.Av
set_option maxRecDepth 100000
set_option maxHeartbeats 8000000
set_option linter.unusedSimpArgs false
set_option linter.unusedVariables false

theorem mi_kidOk_ok (a0 : SNode) (a1 : Int) (a2 : Int) {r : Bool} (h : mi_kidOk a0 a1 a2 = some r) :
    AC Tryz.prog (GS []) 125 [.agg [V.i a0.Kind, V.i a0.Op, V.s a0.Text, V.s a0.Other, sL eNI a0.Kids], V.i a1, V.i a2] [] (V.b r) [] := by
 rw [mi_kidOk] at h
 refine AC.enter Tryz.func125 rfl (cV 100 (CO.sw mix (wR 3 101 (wN eNI a0.Kids [] (wR 3 101 (wF (cV 101 ?_)))))))
 refine CO.join (fun (⟨a2, y22⟩ : (Int × Bool)) => ⟨tl 99 [(2, V.i a2), (8, V.b y22)], []⟩) (fun i => mi_kidOk_k1 i = some r) ?_ ?_
 · rintro ⟨a2, y22⟩ h66
   rw [mi_kidOk_k1] at h66
   refine CO.seq' (cV 101 ?_)
   refine cI h66 (fun _ h66 => ?_) (fun _ h66 => ?_)
   ·refine cV 101 ?_
    cases h66
    exact e1 6 id
   refine CO.skip (bB h66 fun r24 hx70 h66 => (cC 1 101 (mi_IsExpr_ok a2 hx70) cok122 ?_))
   cases h66
   exact e1 6 id
 intro hk71
 refine cV 101 (CO.block' ?_)
 refine CO.join (fun (⟨a1, a2, a0, y25⟩ : (Int × Int × SNode × Bool)) => ⟨tl 99 [(1, V.i a1), (2, V.i a2), (3, .loc 100 0), (7, V.b (a1 == (wr ((a0.Kids.length : Int) - 1)))), (8, V.b false), (16, V.i a0.Kind), (17, V.b y25)], [(100, .cells 37 [V.i a0.Kind, V.i a0.Op, V.s a0.Text, V.s a0.Other, sL eNI a0.Kids])]⟩) (fun i => mi_kidOk_k2 i = some r) ?_ ?_
 · rintro ⟨a1, a2, a0, y25⟩ h73
   rw [mi_kidOk_k2] at h73
   refine cI h73 (fun _ h73 => ?_) (fun _ h73 => ?_)
   ·refine bB h73 fun r27 hx76 h73 => (cC 1 101 (mi_IsLvalue_ok a2 hx76) cok187 ?_)
    cases h73
    exact e1 6 id
   refine cV 101 ?_
   refine cI h73 (fun _ h73 => ?_) (fun _ h73 => ?_)
   ·refine bB h73 fun y31 hv85 h73 => ?_
    refine CO.cutR (tl 99 [(6, V.b y31)]) [] mix (by
     refine wR 3 101 ?_
     refine wJ 26 hv85 (fun hv85 => ?_) (fun hv85 => ?_)
     ·refine wR 1 101 (bB hv85 fun r32 hx87 hv85 => (w0 (mi_IsLvalue_ok a2 hx87) cok187 (wR 2 101 ?_)))
      refine wJ 30 hv85 (fun hv85 => ?_) (fun hv85 => ?_)
      ·refine wR 8 101 ?_
       cases hv85
       exact fS [] [6]
      refine wR 3 101 ?_
      refine wJ 33 hv85 (fun hv85 => ?_) (fun hv85 => ?_)
      ·refine wR 1 101 (bB hv85 fun r33 hx90 hv85 => (w0 (mi_IsExpr_ok a2 hx90) cok122 (wR 3 101 ?_)))
       cases hv85
       exact fS [] [6]
      refine wR 5 101 ?_
      cases hv85
      exact fS [] [6]
     refine wR 7 101 ?_
     refine wJ 33 hv85 (fun hv85 => ?_) (fun hv85 => ?_)
     ·refine wR 1 101 (bB hv85 fun r34 hx92 hv85 => (w0 (mi_IsExpr_ok a2 hx92) cok122 (wR 3 101 ?_)))
      cases hv85
      exact fS [] [6]
     refine wR 5 101 ?_
     cases hv85
     exact fS [] [6]
     ) ?_
    cases h73
    exact e1 6 id
   refine CO.join (fun (⟨a1, a2, a0, y35⟩ : (Int × Int × SNode × Bool)) => ⟨tl 99 [(1, V.i a1), (2, V.i a2), (3, .loc 100 0), (7, V.b (a1 == (wr ((a0.Kids.length : Int) - 1)))), (8, V.b false), (16, V.i a0.Kind), (38, V.b y35)], [(100, .cells 37 [V.i a0.Kind, V.i a0.Op, V.s a0.Text, V.s a0.Other, sL eNI a0.Kids])]⟩) (fun i => mi_kidOk_k3 i = some r) ?_ ?_
   · rintro ⟨a1, a2, a0, y35⟩ h94
     rw [mi_kidOk_k3] at h94
     refine cI h94 (fun _ h94 => ?_) (fun _ h94 => ?_)
     ·exact cK 101 hk71 (a2, (decide (a1 > 0))) h94 [] [2, 8]
     refine cV 101 ?_
     refine cI h94 (fun _ h94 => ?_) (fun _ h94 => ?_)
     ·refine CO.seq' (bB h94 fun y37 hv102 h94 => ?_)
      refine CO.cutR (tl 99 [(2, V.i a2), (7, V.b (a1 == (wr ((a0.Kids.length : Int) - 1)))), (50, V.b y37)]) [] mix (by
       refine wR 3 101 ?_
       refine wJ 47 hv102 (fun hv102 => ?_) (fun hv102 => ?_)
       ·refine wR 3 101 ?_
        cases hv102
        exact fS [] [2, 7, 50]
       refine wR 3 101 ?_
       cases hv102
       exact fS [] [2, 7, 50]
       ) ?_
      refine cI h94 (fun _ h94 => ?_) (fun _ h94 => ?_)
      ·refine cV 101 ?_
       cases h94
       exact e1 6 id
      refine CO.skip ?_
      exact cK 101 hk71 (a2, (a1 == (wr ((a0.Kids.length : Int) - 1)))) h94 [] [2, 8]
     refine cV 101 ?_
     refine cI h94 (fun _ h94 => ?_) (fun _ h94 => ?_)
     ·exact cK 101 hk71 (a2, (a1 == 0)) h94 [] [2, 8]
     refine CO.join (fun (⟨a2, a1, a0, y38⟩ : (Int × Int × SNode × Bool)) => ⟨tl 99 [(2, V.i a2), (3, .loc 100 0), (7, V.b (a1 == (wr ((a0.Kids.length : Int) - 1)))), (8, V.b false), (16, V.i a0.Kind), (56, V.b y38)], [(100, .cells 37 [V.i a0.Kind, V.i a0.Op, V.s a0.Text, V.s a0.Other, sL eNI a0.Kids])]⟩) (fun i => mi_kidOk_k4 i = some r) ?_ ?_
     · rintro ⟨a2, a1, a0, y38⟩ h108
       rw [mi_kidOk_k4] at h108
       refine cI h108 (fun _ h108 => ?_) (fun _ h108 => ?_)
       ·exact cK 101 hk71 (a2, true) h108 [] [2, 8]
       refine cV 101 ?_
       refine cI h108 (fun _ h108 => ?_) (fun _ h108 => ?_)
       ·refine bB h108 fun r40 hx112 h108 => (cC 1 101 (mi_IsStmt_ok a2 hx112) cok184 ?_)
        cases h108
        exact e1 6 id
       refine cV 101 ?_
       refine cI h108 (fun _ h108 => ?_) (fun _ h108 => ?_)
       ·refine bB h108 fun y41 hv115 h108 => ?_
        refine CO.endR (tl 99 [(2, V.i a2), (8, V.b y41)]) [] mix (by
         refine wR 2 101 ?_
         refine wJ 67 hv115 (fun hv115 => ?_) (fun hv115 => ?_)
         ·refine wR 5 101 ?_
          cases hv115
          exact fS [] [2, 8]
         refine wR 5 101 ?_
         cases hv115
         exact fS [] [2, 8]
         ) (fun st hw => ?_)
        exact hk71 (a2, y41) h108 _ (hw.trans (wS [] [2, 8]))
       refine cV 101 ?_
       refine cI h108 (fun _ h108 => ?_) (fun _ h108 => ?_)
       ·refine bB h108 fun y42 hv119 h108 => ?_
        refine CO.endR (tl 99 [(2, V.i a2), (8, V.b y42)]) [] mix (by
         refine wR 2 101 ?_
         refine wJ 75 hv119 (fun hv119 => ?_) (fun hv119 => ?_)
         ·refine wR 5 101 ?_
          cases hv119
          exact fS [] [2, 8]
         refine wR 5 101 ?_
         cases hv119
         exact fS [] [2, 8]
         ) (fun st hw => ?_)
        exact hk71 (a2, y42) h108 _ (hw.trans (wS [] [2, 8]))
       refine cV 101 ?_
       refine cI h108 (fun _ h108 => ?_) (fun _ h108 => ?_)
       ·refine CO.seq' (cV 101 ?_)
        refine cI h108 (fun _ h108 => ?_) (fun _ h108 => ?_)
        ·refine cV 101 ?_
         cases h108
         exact e1 6 id
        refine CO.skip ?_
        exact cK 101 hk71 (a2, true) h108 [] [2, 8]
       refine cV 101 ?_
       refine cI h108 (fun _ h108 => ?_) (fun _ h108 => ?_)
       ·refine bB h108 fun y44 hv127 h108 => ?_
        refine CO.cutR (tl 99 [(6, V.b y44)]) [] mix (by
         refine wR 1 101 (bB hv127 fun r45 hx128 hv127 => (w0 (mi_isItem_ok a2 hx128) cok188 (wR 1 101 ?_)))
         refine wJ 90 hv127 (fun hv127 => ?_) (fun hv127 => ?_)
         ·refine wR 4 101 ?_
          cases hv127
          exact fS [] [6]
         refine wR 4 101 ?_
         cases hv127
         exact fS [] [6]
         ) ?_
        cases h108
        exact e1 6 id
       exact sK hk71 (a2, false) h108 [] [2, 8]
     intro hk130
     refine cV 101 ?_
     refine cI h94 (fun _ h94 => ?_) (fun _ h94 => ?_)
     ·exact sK hk130 (a2, a1, a0, (a0.Kind == 32)) h94 [(100, 100)] [2, 3, 7, 8, 16, 56]
     refine cV 101 ?_
     refine cI h94 (fun _ h94 => ?_) (fun _ h94 => ?_)
     ·exact sK hk130 (a2, a1, a0, (a0.Kind == 40)) h94 [(100, 100)] [2, 3, 7, 8, 16, 56]
     exact cK 101 hk130 (a2, a1, a0, (a0.Kind == 41)) h94 [(100, 100)] [2, 3, 7, 8, 16, 56]
   intro hk133
   refine cV 101 ?_
   refine cI h73 (fun _ h73 => ?_) (fun _ h73 => ?_)
   ·exact sK hk133 (a1, a2, a0, (a0.Kind == 28)) h73 [(100, 100)] [1, 2, 3, 7, 8, 16, 38]
   exact cK 101 hk133 (a1, a2, a0, (a0.Kind == 29)) h73 [(100, 100)] [1, 2, 3, 7, 8, 16, 38]
 intro hk135
 refine cV 101 ?_
 refine cI h (fun _ h => ?_) (fun _ h => ?_)
 ·exact sK hk135 (a1, a2, a0, (a0.Kind == 9)) h [(100, 100)] [1, 2, 3, 7, 8, 16, 17]
 exact cK 101 hk135 (a1, a2, a0, (a0.Kind == 10)) h [(100, 100)] [1, 2, 3, 7, 8, 16, 17]

structure RecOk3 (R : Rec3) : Prop where
 mi_treeAt : ∀ (a0 : LN) (a1 : Int) (r : STree), R.mi_treeAt a0 a1 = some r → AC Tryz.prog (GS []) 123 [.sl false false (a0.map (eSN false)), V.i a1] [] (.agg [V.i r.kind, V.i r.op, V.s r.text, V.s r.other, sL eST r.kids]) []

theorem mi_treeAt_F_ok (N : Nat) (R : Rec3) (HR : RecOk3 R) (a0 : LN) (a1 : Int) {r : STree} (h : mi_treeAt_F N R a0 a1 = some r) :
    AC Tryz.prog (GS []) 123 [.sl false false (a0.map (eSN false)), V.i a1] [] (.agg [V.i r.kind, V.i r.op, V.s r.text, V.s r.other, sL eST r.kids]) [] := by
 rw [mi_treeAt_F] at h
 refine AC.enter Tryz.func123 rfl (cV 100 (bB h fun e2 hx2 h => (CO.sw mix (wR 2 101 (wX (eSN false) hx2 5 (wR 3 101 (wF (cV 102 ?_))))))))
 refine CO.seq' (CO.sw mix (wR 2 103 (wN eNI e2.Kids [] (wR 1 103 (wF (CO.block' (CO.loopJ (fun (⟨a0, e2, y63, y64⟩ : (LN × SNode × Int × LS)) => ⟨tl 39 [(0, .sl false false (a0.map (eSN false))), (4, .loc 100 0), (6, .loc 101 0), (23, sL eNI e2.Kids), (24, V.i (e2.Kids.length : Int)), (25, V.i y63)], [(100, .cells 88 [V.i 0, V.i 0, V.s [], V.s [], .c (.slice none 0 0)]), (101, .cells 88 [V.i e2.Kind, V.i e2.Op, V.s e2.Text, V.s e2.Other, .own 102]), (102, vX 88 5 eST y64)]⟩) (fun n i => mi_treeAt_l1 N R n i = some r) (n0 := N) (i0 := (a0, e2, 0, [])) ((Weak.nilCell 102 4 103 88 5 (ety := 88) (cs := [V.i e2.Kind, V.i e2.Op, V.s e2.Text, V.s e2.Other, .c (.slice none 0 0)]) (by kernel_rfl) (by kernel_rfl) (by kernel_rfl)).trans (wS [(100, 100), (102, 101), (103, 102)] [0, 4, 6, 23, 24, 25])) h (fun i h => by simp [mi_treeAt_l1] at h) ?_)))))))
 rintro n1 ⟨a0, e2, y63, y64⟩ h83 ih84
 rw [mi_treeAt_l1] at h83
 refine cV 168 (CO.seq' ?_)
 refine cI h83 (fun _ h83 => ?_) (fun _ h83 => ?_)
 ·refine CO.skip (CO.seq' (CO.block' (bB h83 fun e86 hx94 h83 => (CO.sw mix (wX eNI hx94 1 (wR 2 168 (wF (bB h83 fun r89 hx97 h83 => ?_))))))))
  refine bB h83 fun x90 hx98 h83 => ?_
  refine CO.endR (tl 39 [(0, .sl false false (a0.map (eSN false))), (4, .loc 100 0), (6, .loc 101 0), (23, sL eNI e2.Kids), (24, V.i (e2.Kids.length : Int)), (25, V.i y63)]) [(101, .cells 88 [V.i e2.Kind, V.i e2.Op, V.s e2.Text, V.s e2.Other, .own 169]), (169, vX 88 5 eST x90), (100, .cells 88 [V.i 0, V.i 0, V.s [], V.s [], .c (.slice none 0 0)])] mix (by
   refine wR 4 168 (w0 (HR.mi_treeAt a0 e86 _ hx97) cok123 (W.layop Dk lO (by kernel_rfl) 168 { v := .own 168, R := [], new := [(168, .vec true 88 5 [[V.i r89.kind, V.i r89.op, V.s r89.text, V.s r89.other, sL eST r89.kids]])], N := [168] } (by kernel_rfl) (W.vecEq 168 (nn := true) (e := 88) (k := 5) (rows := [[V.i r89.kind, V.i r89.op, V.s r89.text, V.s r89.other, sL eST r89.kids]]) (rows' := [r89].map eST) (by kernel_rfl) (by simp only [List.map_cons, List.map_nil, encSTree_eq]) (W.appO Dk eST (a := 102) (c := 168) (el := 88) (sz := 5) 72 hx98 rfl 169 (by kernel_rfl) (wR 2 170 ?_)))))
   exact fI
   ) (fun st hw => ?_)
  refine CO.weak hw ?_
  exact cK 170 ih84 (a0, e2, (wr (y63 + 1)), x90) h83 [(100, 100), (101, 101), (169, 102)] [0, 4, 6, 23, 24, 25]
 refine CO.exit (cU 2 168 (tl 39 [(4, .loc 100 0)]) [(100, .cells 88 [V.i e2.Kind, V.i e2.Op, V.s e2.Text, V.s e2.Other, .own 102]), (102, vX 88 5 eST y64)] (CO.lay (tl 39 [(4, .loc 100 0)]) [(100, .cells 88 [V.i e2.Kind, V.i e2.Op, V.s e2.Text, V.s e2.Other, sL eST y64])] (LayOk.cons (j := 102) eST eST y64 (by kernel_rfl) (share_encSTree) lO) (by kernel_rfl) (by kernel_rfl) (by kernel_rfl) (CO.ret ?_)))
 have h83 := sI h83
 subst h83
 exact eG [] (.inr rfl) (RetV.one rfl (OneR.cell Dk (r := .agg [V.i e2.Kind, V.i e2.Op, V.s e2.Text, V.s e2.Other, sL eST y64]) (i := 100) (ety := 88) (cs := [V.i e2.Kind, V.i e2.Op, V.s e2.Text, V.s e2.Other, sL eST y64]) (by kernel_rfl) (by kernel_rfl) (by kernel_rfl)))

theorem scc3_ok : ∀ N, RecOk3 (scc3 N)
 | 0 => ⟨fun _ _ _ h => (by cases h)⟩
 | N + 1 => ⟨fun a0 a1 _ h => mi_treeAt_F_ok N (scc3 N) (scc3_ok N) a0 a1 h⟩

theorem mi_treeAt_ok (N : Nat) (a0 : LN) (a1 : Int) {r : STree} (h : mi_treeAt N a0 a1 = some r) :
  AC Tryz.prog (GS []) 123 [.sl false false (a0.map (eSN false)), V.i a1] [] (.agg [V.i r.kind, V.i r.op, V.s r.text, V.s r.other, sL eST r.kids]) [] :=
 (scc3_ok N).mi_treeAt a0 a1 r h

theorem mi_rootOf_ok (N : Nat) (a0 : LN) {r : STree} (h : mi_rootOf N a0 = some r) :
    AC Tryz.prog (GS []) 76 [.sl false false (a0.map (eSN false))] [] (.agg [V.i r.kind, V.i r.op, V.s r.text, V.s r.other, sL eST r.kids]) [] := by
 rw [mi_rootOf] at h
 refine AC.enter Tryz.func76 rfl (cV 100 (bB h fun r2 hx2 h => (CO.sw mix (wR 2 101 (wN (eSN false) a0 [] (wR 1 101 (w0 (mi_treeAt_ok N a0 (wr ((a0.length : Int) - 1)) hx2) cok123 (wR 1 101 ?_))))))))
 refine wF (CO.ret ?_)
 have h := sI h
 subst h
 exact eG [] (.inr rfl) (RetV.one rfl (OneR.cell Dk (r := .agg [V.i r2.kind, V.i r2.op, V.s r2.text, V.s r2.other, sL eST r2.kids]) (i := 100) (ety := 88) (cs := [V.i r2.kind, V.i r2.op, V.s r2.text, V.s r2.other, sL eST r2.kids]) (by kernel_rfl) (by kernel_rfl) (by kernel_rfl)))

structure RecOk4 (R : Rec4) : Prop where
 mi_tree__depth : ∀ (a0 : STree) (r : Int), R.mi_tree__depth a0 = some r → AC Tryz.prog (GS []) 126 [.agg [V.i a0.kind, V.i a0.op, V.s a0.text, V.s a0.other, sL eST a0.kids]] [] (V.i r) []

theorem mi_tree__depth_F_ok (N : Nat) (R : Rec4) (HR : RecOk4 R) (a0 : STree) {r : Int} (h : mi_tree__depth_F N R a0 = some r) :
    AC Tryz.prog (GS []) 126 [.agg [V.i a0.kind, V.i a0.op, V.s a0.text, V.s a0.other, sL eST a0.kids]] [] (V.i r) [] := by
 rw [mi_tree__depth_F] at h
 refine AC.enter Tryz.func126 rfl (cV 100 (cV 101 (CO.seq' (CO.sw mix (wR 2 101 (wN eST a0.kids [] (wR 1 101 (wF ?_))))))))
 refine CO.block' (CO.loopJ (fun (⟨a0, y37, y38⟩ : (STree × Int × Int)) => ⟨tl 20 [(3, V.i y37), (7, sL eST a0.kids), (8, V.i (a0.kids.length : Int)), (9, V.i y38)], []⟩) (fun n i => mi_tree__depth_l1 N R n i = some r) (n0 := N) (i0 := (a0, 0, 0)) (wS [] [3, 7, 8, 9]) h (fun i h => by simp [mi_tree__depth_l1] at h) ?_)
 rintro n1 ⟨a0, y37, y38⟩ h53 ih54
 rw [mi_tree__depth_l1] at h53
 refine cV 163 (CO.seq' ?_)
 refine cI h53 (fun _ h53 => ?_) (fun _ h53 => ?_)
 ·refine CO.skip (CO.seq' (CO.block' (bB h53 fun e54 hx62 h53 => (CO.sw mix (W.ixDr Dk eST hx62 5 (by kernel_rfl) (encSTree_eq e54) (by kernel_rfl) (wR 3 163 (wF (bB h53 fun r56 hx64 h53 => ?_))))))))
  refine CO.endR (tl 20 [(3, V.i (if r56 > y37 then r56 else y37)), (7, sL eST a0.kids), (8, V.i (a0.kids.length : Int)), (9, V.i y38)]) [] mix (by
   refine wR 2 164 (w0 (HR.mi_tree__depth e54 _ hx64) cok126 (wR 2 164 ?_))
   exact fI
   ) (fun st hw => ?_)
  refine CO.weak hw ?_
  exact cK 164 ih54 (a0, (if r56 > y37 then r56 else y37), (wr (y38 + 1))) h53 [] [3, 7, 8, 9]
 refine CO.exit (cV 163 ?_)
 cases h53
 exact e1 2 id

theorem scc4_ok : ∀ N, RecOk4 (scc4 N)
 | 0 => ⟨fun _ _ h => (by cases h)⟩
 | N + 1 => ⟨fun a0 _ h => mi_tree__depth_F_ok N (scc4 N) (scc4_ok N) a0 h⟩

theorem mi_tree__depth_ok (N : Nat) (a0 : STree) {r : Int} (h : mi_tree__depth N a0 = some r) :
  AC Tryz.prog (GS []) 126 [.agg [V.i a0.kind, V.i a0.op, V.s a0.text, V.s a0.other, sL eST a0.kids]] [] (V.i r) [] :=
 (scc4_ok N).mi_tree__depth a0 r h

theorem mi_TreeOk_ok (N : Nat) (a0 : LN) {r : Bool} (h : mi_TreeOk N a0 = some r) :
    AC Tryz.prog (GS [0, 1, 2]) 51 [.sl false false (a0.map (eSN false))] [] (V.b r) [] := by
 rw [mi_TreeOk] at h
 refine AC.enter Tryz.func51 rfl (cV 100 (CO.seq' (bB h fun r4 hx5 h => (cC 1 100 (AC.gs (mi_ShapeOk_ok N a0 hx5) (by decide)) cok114 ?_))))
 refine cI h (fun _ h => ?_) (fun _ h => ?_)
 ·refine cV 100 ?_
  cases h
  exact e1 2 id
 refine CO.skip (CO.seq' (CO.sw mix (wR 1 100 (wN (eSN false) a0 [] (wR 1 100 (wF (CO.block' (CO.loopJ (fun (⟨a0, y359⟩ : (LN × Int)) => ⟨tl 42 [(0, .sl false false (a0.map (eSN false))), (10, .sl false false (a0.map (eSN false))), (11, V.i (a0.length : Int)), (12, V.i y359)], []⟩) (fun n i => mi_TreeOk_l1 N n i = some r) (n0 := N) (i0 := (a0, 0)) (wS [] [0, 10, 11, 12]) h (fun i h => by simp [mi_TreeOk_l1] at h) ?_))))))))
 rintro n1 ⟨a0, y359⟩ h599 ih600
 rw [mi_TreeOk_l1] at h599
 refine cV 282 (CO.seq' ?_)
 refine cI h599 (fun _ h599 => ?_) (fun _ h599 => ?_)
 ·refine CO.skip (CO.seq' (CO.block' (bB h599 fun e494 hx662 h599 => (CO.sw mix (wX (eSN false) hx662 5 (wR 3 282 (wF (CO.seq' ?_))))))))
  refine bB h599 fun r498 hx667 h599 => (cC 1 283 (mi_FieldsOk_ok N e494 hx667) cok124 ?_)
  refine cI h599 (fun _ h599 => ?_) (fun _ h599 => ?_)
  ·refine cV 283 ?_
   cases h599
   exact e1 2 id
  refine CO.skip (CO.sw mix (wR 2 283 (wN eNI e494.Kids [] (wR 1 283 (wF (CO.block' (CO.loopJ (fun (⟨a0, y359, e494, y511⟩ : (LN × Int × SNode × Int)) => ⟨tl 42 [(0, .sl false false (a0.map (eSN false))), (4, .loc 100 0), (10, .sl false false (a0.map (eSN false))), (11, V.i (a0.length : Int)), (12, V.i y359), (20, sL eNI e494.Kids), (21, V.i (e494.Kids.length : Int)), (22, V.i y511)], [(100, .cells 37 [V.i e494.Kind, V.i e494.Op, V.s e494.Text, V.s e494.Other, sL eNI e494.Kids])]⟩) (fun n i => mi_TreeOk_l2 N (mi_TreeOk_l1 N n1) n i = some r) (n0 := N) (i0 := (a0, y359, e494, 0)) (wS [(282, 100)] [0, 4, 10, 11, 12, 20, 21, 22]) h599 (fun i h => by simp [mi_TreeOk_l2] at h) ?_)))))))
  rintro n2 ⟨a0, y359, e494, y511⟩ h701 ih702
  rw [mi_TreeOk_l2] at h701
  refine cV 343 (CO.seq' ?_)
  refine cI h701 (fun _ h701 => ?_) (fun _ h701 => ?_)
  ·refine CO.skip (CO.seq' (CO.block' (bB h701 fun e532 hx713 h701 => (CO.sw mix (wR 1 343 (wX eNI hx713 1 (wR 3 343 (wF ?_))))))))
   refine bB h701 fun e535 hx716 h701 => (bB h701 fun r536 hx717 h701 => (CO.sw mix (wR 4 343 (wX (eSN false) hx716 5 (wR 2 343 (w0 (AC.gs (mi_kidOk_ok e494 y511 e535.Kind hx717) (by decide)) cok125 (wR 1 343 (wF ?_))))))))
   refine cI h701 (fun _ h701 => ?_) (fun _ h701 => ?_)
   ·refine cV 343 ?_
    cases h701
    exact e1 2 id
   refine CO.skip ?_
   exact cK 343 ih702 (a0, y359, e494, (wr (y511 + 1))) h701 [(100, 100)] [0, 4, 10, 11, 12, 20, 21, 22]
  refine CO.exit ?_
  exact cK 343 ih600 (a0, (wr (y359 + 1))) h701 [] [0, 10, 11, 12]
 refine CO.exit (bB h599 fun r539 hx721 h599 => (bB h599 fun r540 hx722 h599 => (CO.sw mix (wR 1 282 (w0 (AC.gs (mi_rootOf_ok N a0 hx721) (by decide)) cok76 (w0 (AC.gs (mi_tree__depth_ok N r539 hx722) (by decide)) cok126 (wR 2 282 (wF ?_))))))))
 cases h599
 exact e1 2 id

theorem mi_Var_ok (N : Nat) (a0 : Int) {r : LU} (h : mi_Var N a0 = some r) :
    AC Tryz.prog (GS []) 54 [V.i a0] [] (V.s r) [] := by
 rw [mi_Var] at h
 refine AC.enter Tryz.func54 rfl (cV 100 (CO.seq' (bB h fun r4 hx5 h => (cC 1 100 (mi_within_ok a0 0 562949953421311 hx5) cok70 ?_))))
 refine cI h (fun _ h => ?_) (fun _ h => ?_)
 ·refine cV 100 ?_
  cases h
  exact e1 2 id
 refine CO.skip (cV 100 (CO.seq' (CO.block' (CO.loopJ (fun (⟨y17, y18⟩ : (Int × LU)) => ⟨tl 25 [(0, V.i y17), (3, .own 100)], [(100, vX 5 1 byteRow y18)]⟩) (fun n i => mi_Var_l1 N n i = some r) (n0 := N) (i0 := (a0, [])) (wS [(100, 100)] [0, 3]) h (fun i h => by simp [mi_Var_l1] at h) ?_))))
 rintro n1 ⟨y17, y18⟩ h29 ih30
 rw [mi_Var_l1] at h29
 refine CO.seq' (cV 165 ?_)
 refine cI h29 (fun _ h29 => ?_) (fun _ h29 => ?_)
 ·refine CO.skip (CO.block' (bB h29 fun x24 hx34 h29 => (CO.sw mix (wR 5 165 (wR 1 165 (W.vecEq 165 (nn := true) (e := 5) (k := 1) (rows := [[.c (.int .u8 (IntKind.wrap .u8 (bits .or .i64 (bits .and .i64 y17 127) 128)))]]) (rows' := [(bytI (bits .or .i64 (bits .and .i64 y17 127) 128))].map byteRow) (by kernel_rfl) (by first | (simp only [List.map_cons, List.map_nil, ← bytI_row]; done) | (simp only [List.map_cons, List.map_nil, ← bytI_row]; rfl)) (W.appO Dk byteRow (a := 100) (c := 165) (el := 5) (sz := 1) 1 hx34 rfl 166 (by kernel_rfl) (wR 1 167 ?_))))))))
  refine wF ?_
  exact cK 167 ih30 ((Int.fdiv y17 (2 ^ (min 7 64))), x24) h29 [(166, 100)] [0, 3]
 refine CO.exit (bB h29 fun x26 hx36 h29 => (CO.sw mix (wR 3 165 (wR 1 165 (W.vecEq 165 (nn := true) (e := 5) (k := 1) (rows := [[.c (.int .u8 (IntKind.wrap .u8 y17))]]) (rows' := [(bytI y17)].map byteRow) (by kernel_rfl) (by first | (simp only [List.map_cons, List.map_nil, ← bytI_row]; done) | (simp only [List.map_cons, List.map_nil, ← bytI_row]; rfl)) (W.appO Dk byteRow (a := 100) (c := 165) (el := 5) (sz := 1) 1 hx36 rfl 166 (by kernel_rfl) (W.strO Dk x26 (a := 166) (by kernel_rfl) (wR 1 167 ?_))))))))
 refine wF ?_
 cases h29
 exact e1 2 id

theorem mi_ShowTree_ok (N : Nat) (a0 : LN) {r : LU} (h : mi_ShowTree N a0 = some r) :
    AC Tryz.prog (GS [0, 1, 2]) 11 [.sl false false (a0.map (eSN false))] [] (V.s r) [] := by
 rw [mi_ShowTree] at h
 refine AC.enter Tryz.func11 rfl (cV 100 (CO.seq' (bB h fun r4 hx5 h => (cC 1 100 (mi_TreeOk_ok N a0 hx5) cok51 ?_))))
 refine cI h (fun _ h => ?_) (fun _ h => ?_)
 ·refine cV 100 ?_
  cases h
  exact e1 2 id
 refine CO.skip (bB h fun r6 hx8 h => (CO.sw mix (wR 1 100 (wN (eSN false) a0 [] (w0 (AC.gs (mi_Var_ok N (a0.length : Int) hx8) (by decide)) cok54 (wR 1 100 (wF (CO.seq' ?_))))))))
 refine CO.sw mix (wR 1 100 (wN (eSN false) a0 [] (wR 1 100 (wF (CO.block' (CO.loopJ (fun (⟨a0, y219, y220⟩ : (LN × LU × Int)) => ⟨tl 50 [(3, V.s y219), (12, .sl false false (a0.map (eSN false))), (13, V.i (a0.length : Int)), (14, V.i y220)], []⟩) (fun n i => mi_ShowTree_l1 N n i = some r) (n0 := N) (i0 := (a0, r6, 0)) (wS [] [3, 12, 13, 14]) h (fun i h => by simp [mi_ShowTree_l1] at h) ?_))))))
 rintro n1 ⟨a0, y219, y220⟩ h281 ih282
 rw [mi_ShowTree_l1] at h281
 refine cV 162 (CO.seq' ?_)
 refine cI h281 (fun _ h281 => ?_) (fun _ h281 => ?_)
 ·refine CO.skip (CO.seq' (CO.block' (bB h281 fun e302 hx312 h281 => (CO.sw mix (wX (eSN false) hx312 5 (wR 3 162 (wF (bB h281 fun r315 hx325 h281 => ?_))))))))
  refine bB h281 fun r316 hx326 h281 => (bB h281 fun s317 hx327 h281 => (bB h281 fun r318 hx328 h281 => (bB h281 fun s319 hx329 h281 => (bB h281 fun s320 hx330 h281 => (bB h281 fun r321 hx331 h281 => (bB h281 fun s322 hx332 h281 => (bB h281 fun s323 hx333 h281 => (bB h281 fun r324 hx334 h281 => ?_))))))))
  refine bB h281 fun s325 hx335 h281 => (bB h281 fun s326 hx336 h281 => ?_)
  refine CO.endR (tl 50 [(3, V.s s326), (12, .sl false false (a0.map (eSN false))), (13, V.i (a0.length : Int)), (14, V.i y220)]) [] mix (by
   refine wR 3 163 (w0 (AC.gs (mi_Var_ok N e302.Kind hx325) (by decide)) cok54 (wR 2 163 (w0 (AC.gs (mi_Var_ok N e302.Op hx326) (by decide)) cok54 (W.cat hx327 (by kernel_rfl) (wR 3 163 (w0 (AC.gs (mi_Var_ok N (e302.Text.length : Int) hx328) (by decide)) cok54 (W.cat hx329 (by kernel_rfl) (wR 2 163 ?_))))))))
   refine W.cat hx330 (by kernel_rfl) (wR 3 163 (w0 (AC.gs (mi_Var_ok N (e302.Other.length : Int) hx331) (by decide)) cok54 (W.cat hx332 (by kernel_rfl) (wR 2 163 (W.cat hx333 (by kernel_rfl) (wR 2 163 (wN eNI e302.Kids [] (w0 (AC.gs (mi_Var_ok N (e302.Kids.length : Int) hx334) (by decide)) cok54 ?_))))))))
   refine W.cat hx335 (by kernel_rfl) (W.cat hx336 (by kernel_rfl) (wR 1 163 ?_))
   exact fI
   ) (fun st hw => ?_)
  refine CO.weak hw ?_
  exact cK 163 ih282 (a0, s326, (wr (y220 + 1))) h281 [] [3, 12, 13, 14]
 refine CO.exit (cV 162 ?_)
 cases h281
 exact e1 2 id

theorem mi_ReadVar_ok (N : Nat) (a0 : LU) {r : (Int × Int)} (h : mi_ReadVar N a0 = some r) :
    AC Tryz.prog (GS []) 130 [V.s a0] [] (.tup [V.i r.1, V.i r.2]) [] := by
 rw [mi_ReadVar] at h
 refine AC.enter Tryz.func130 rfl (cV 100 (cV 100 ?_))
 refine CO.join (fun (_ : Unit) => ⟨tl 39 [], []⟩) (fun i => mi_ReadVar_k1 N i = some r) ?_ ?_
 · rintro ⟨⟩ h99
   rw [mi_ReadVar_k1] at h99
   refine cV 160 (CO.ret ?_)
   cases h99
   exact eG [] (.inr rfl) (RetV.two rfl (oT (t := 2) (r := V.i 0)) (oT (t := 3) (r := V.i 0)))
 intro hk100
 refine cV 100 (CO.block' (CO.loopJ (fun (⟨a0, y77, y78⟩ : (LU × Int × Int)) => ⟨tl 39 [(0, V.s a0), (4, V.i y77), (8, V.i (if 7 < (a0.length : Int) then 7 else (a0.length : Int))), (9, V.i y78)], []⟩) (fun n i => mi_ReadVar_l2 N n i = some r) (n0 := N) (i0 := (a0, 0, 0)) (wS [] [0, 4, 8, 9]) h (fun i h => by simp [mi_ReadVar_l2] at h) ?_))
 rintro n2 ⟨a0, y77, y78⟩ h157 ih158
 rw [mi_ReadVar_l2] at h157
 refine cV 160 (CO.seq' ?_)
 refine cI h157 (fun _ h157 => ?_) (fun _ h157 => ?_)
 ·refine CO.skip (CO.seq' (CO.block' (cV 160 (bB h157 fun b119 hx182 h157 => (bB h157 fun x120 hx183 h157 => (CO.sw mix (wR 3 160 (W.ixS Dk hx182 (by kernel_rfl) ?_))))))))
  refine wR 5 160 (W.shl (k' := .u64) hx183 (by kernel_rfl) (wR 2 160 (wF (bB h157 fun b122 hx185 h157 => (CO.sw mix (wR 2 160 (W.ixS Dk hx185 (by kernel_rfl) (wR 1 160 ?_))))))))
  refine wF ?_
  refine cI h157 (fun _ h157 => ?_) (fun _ h157 => ?_)
  ·refine CO.seq' (bB h157 fun y127 hv195 h157 => ?_)
   refine CO.cutR (tl 39 [(4, V.i (bits .or .i64 y77 x120)), (5, V.i y78), (34, V.b y127)]) [] mix (by
    refine wR 3 160 ?_
    refine wJ 29 hv195 (fun hv195 => ?_) (fun hv195 => ?_)
    ·refine wR 2 160 (bB hv195 fun b128 hx197 hv195 => (W.ixS Dk hx197 (by kernel_rfl) (wR 2 160 ?_)))
     cases hv195
     exact fS [] [4, 5, 34]
    refine wR 5 160 ?_
    cases hv195
    exact fS [] [4, 5, 34]
    ) ?_
   refine cI h157 (fun _ h157 => ?_) (fun _ h157 => ?_)
   ·refine CO.exit ?_
    exact hk100 () h157 _ (wS [] [])
   refine CO.skip (cV 160 (CO.ret ?_))
   have h157 := sI h157
   subst h157
   exact eG [] (.inr rfl) (RetV.two rfl (oT (t := 2) (r := V.i (bits .or .i64 y77 x120))) (oT (t := 3) (r := V.i (wr (y78 + 1)))))
  refine CO.skip ?_
  exact cK 160 ih158 (a0, (bits .or .i64 y77 x120), (wr (y78 + 1))) h157 [] [0, 4, 8, 9]
 refine CO.exit ?_
 exact hk100 () h157 _ (wS [] [])

theorem mi_byteReader__number_ok (N : Nat) (pa : LU) (pb : Bool) {r : (Int × LU × Bool)} (h : mi_byteReader__number N pa pb = some r) :
    AC Tryz.prog (GS []) 55 [.loc 0 0] [(0, .cells 69 [V.s pa, V.b pb])] (V.i r.1) [(0, .cells 69 [V.s r.2.1, V.b r.2.2])] := by
 rw [mi_byteReader__number] at h
 refine AC.enter Tryz.func55 rfl (cV 100 (bB h fun r2 hx2 h => (cC 4 100 (mi_ReadVar_ok N pa hx2) cok130 (bB h fun y3 hv4 h => ?_))))
 refine CO.cutR (tl 34 [(0, .loc 0 0), (3, V.i r2.1), (4, V.i r2.2)]) [(0, .cells 69 [V.s pa, V.b y3])] mix (by
  refine wR 6 100 ?_
  refine wJ 18 hv4 (fun hv4 => ?_) (fun hv4 => ?_)
  ·refine wR 6 100 ?_
   cases hv4
   exact fS [(0, 0)] [0, 3, 4]
  refine wR 6 100 ?_
  cases hv4
  exact fS [(0, 0)] [0, 3, 4]
  ) ?_
 refine bB h fun s5 hx7 h => (CO.sw mix (wR 6 100 (W.cutS Dk hx7 (by kernel_rfl) (wR 3 100 (wF (cV 100 (CO.ret ?_)))))))
 have h := sI h
 subst h
 exact eG [(0, 0)] (.inr rfl) (RetV.one rfl (oT (t := 2) (r := V.i r2.1)))

theorem mi_byteReader__text_ok (N : Nat) (pa : LU) (pb : Bool) {r : (LU × LU × Bool)} (h : mi_byteReader__text N pa pb = some r) :
    AC Tryz.prog (GS []) 56 [.loc 0 0] [(0, .cells 69 [V.s pa, V.b pb])] (V.s r.1) [(0, .cells 69 [V.s r.2.1, V.b r.2.2])] := by
 rw [mi_byteReader__text] at h
 refine AC.enter Tryz.func56 rfl (cV 100 (bB h fun r2 hx2 h => (CO.sw mix (wR 1 100 (wC (mi_byteReader__number_ok N pa pb hx2) cok55 [(0, 0)] [(0, 0)] [] (wR 1 100 (wF (CO.seq' ?_))))))))
 refine cV 100 ?_
 refine cI h (fun _ h => ?_) (fun _ h => ?_)
 ·refine cV 100 (cV 100 (CO.ret ?_))
  cases h
  exact eG [(0, 0)] (.inr rfl) (RetV.one rfl (oT (t := 2) (r := V.s [])))
 refine CO.skip (bB h fun s4 hx6 h => (CO.sw mix (wR 5 100 (W.cutS Dk hx6 (by kernel_rfl) (wR 1 100 (wF (bB h fun s6 hx8 h => (CO.sw mix ?_))))))))
 refine wR 6 100 (W.cutS Dk hx8 (by kernel_rfl) (wR 3 100 (wF (cV 100 (CO.ret ?_)))))
 have h := sI h
 subst h
 exact eG [(0, 0)] (.inr rfl) (RetV.one rfl (oT (t := 2) (r := V.s s4)))

theorem mi_ReadTree_ok (N : Nat) (a0 : LU) {r : (LN × Bool)} (h : mi_ReadTree N a0 = some r) :
    AC Tryz.prog (GS [0, 1, 2]) 12 [V.s a0] [] (.tup [.own 100, V.b r.2]) [(100, .vec false 37 5 (r.1.map (eSN true)))] := by
 rw [mi_ReadTree] at h
 refine AC.enter Tryz.func12 rfl (cV 100 (cV 100 (bB h fun r2 hx2 h => (CO.sw mix (wR 1 101 (wC (AC.gs (mi_byteReader__number_ok N a0 false hx2) (by decide)) cok55 [(100, 0)] [(0, 100)] [] (wR 1 101 (wF ?_))))))))
 refine CO.seq' (cV 101 ?_)
 refine cI h (fun _ h => ?_) (fun _ h => ?_)
 ·refine cV 101 (CO.weak (Weak.nil 2 101 37 5 (by kernel_rfl) (by kernel_rfl)) (CO.ret ?_))
  cases h
  exact eG [(101, 100)] (.inr rfl) (RetV.two rfl (oT (t := 2) (r := .own 101)) (oT (t := 3) (r := V.b false)))
 refine CO.skip (cV 101 (CO.seq' (cV 103 (CO.block' (CO.loopJ (fun (⟨a0, r2, y189, y190, y191, y192, y193⟩ : (LU × (Int × LU × Bool) × Int × LU × Bool × LN × (List Int))) => ⟨tl 85 [(0, V.s a0), (4, .loc 100 0), (6, .own 101), (7, .own 102), (21, V.i r2.1), (22, V.i y189)], [(100, .cells 69 [V.s y190, V.b y191]), (101, .vec false 37 5 (y192.map (eSN true))), (102, vX 3 1 eNI y193)]⟩) (fun n i => mi_ReadTree_l1 N n i = some r) (n0 := N) (i0 := (a0, r2, 0, r2.2.1, r2.2.2, [], [])) (wS [(100, 100), (101, 101), (102, 102)] [0, 4, 6, 7, 21, 22]) h (fun i h => by simp [mi_ReadTree_l1] at h) ?_)))))
 rintro n1 ⟨a0, r2, y189, y190, y191, y192, y193⟩ h297 ih298
 rw [mi_ReadTree_l1] at h297
 refine cV 179 (CO.seq' ?_)
 refine cI h297 (fun _ h297 => ?_) (fun _ h297 => ?_)
 ·refine CO.skip (CO.seq' (CO.block' (cV 179 (bB h297 fun r267 hx331 h297 => (bB h297 fun r268 hx332 h297 => (CO.sw mix (wR 1 179 (wC (AC.gs (mi_byteReader__number_ok N y190 y191 hx331) (by decide)) cok55 [(100, 0)] [(0, 100)] [] ?_))))))))
  refine wR 1 179 (wC (AC.gs (mi_byteReader__number_ok N r267.2.1 r267.2.2 hx332) (by decide)) cok55 [(100, 0)] [(0, 100)] [] (wR 3 179 (wF (bB h297 fun r271 hx335 h297 => (bB h297 fun r272 hx336 h297 => (CO.sw mix (wR 1 180 (wC (AC.gs (mi_byteReader__text_ok N r268.2.1 r268.2.2 hx335) (by decide)) cok56 [(100, 0)] [(0, 100)] [] ?_))))))))
  refine wR 1 180 (wC (AC.gs (mi_byteReader__text_ok N r271.2.1 r271.2.2 hx336) (by decide)) cok56 [(100, 0)] [(0, 100)] [] (wR 4 180 (wF (bB h297 fun r274 hx338 h297 => (CO.sw mix (wR 1 180 (wC (AC.gs (mi_byteReader__number_ok N r272.2.1 r272.2.2 hx338) (by decide)) cok55 [(100, 0)] [(0, 100)] [] (wR 1 180 ?_))))))))
  refine wF (CO.seq' (bB h297 fun y276 hv344 h297 => ?_))
  refine CO.cutR (tl 85 [(0, V.s a0), (4, .loc 100 0), (6, .own 101), (7, .own 102), (8, V.i y189), (9, .loc 103 0), (10, V.i r274.1), (21, V.i r2.1), (22, V.i y189), (47, V.b y276)]) [(100, .cells 69 [V.s r274.2.1, V.b r274.2.2]), (101, .vec false 37 5 (y192.map (eSN true))), (102, vX 3 1 eNI y193), (103, .cells 37 [V.i r267.1, V.i r268.1, V.s r271.1, V.s r272.1, .c (.slice none 0 0)])] mix (by
   refine wR 5 180 ?_
   refine wJ 42 hv344 (fun hv344 => ?_) (fun hv344 => ?_)
   ·refine wR 5 180 ?_
    cases hv344
    exact fS [(100, 100), (101, 101), (102, 102), (179, 103)] [0, 4, 6, 7, 8, 9, 10, 21, 22, 47]
   refine wR 2 180 (wN eNI y193 [102] (wR 2 180 ?_))
   cases hv344
   exact fS [(100, 100), (101, 101), (102, 102), (179, 103)] [0, 4, 6, 7, 8, 9, 10, 21, 22, 47]
   ) ?_
  refine cI h297 (fun _ h297 => ?_) (fun _ h297 => ?_)
  ·refine cV 180 (CO.weak (Weak.nil 2 180 37 5 (by kernel_rfl) (by kernel_rfl)) (CO.ret ?_))
   cases h297
   exact eG [(180, 100)] (.inr rfl) (RetV.two rfl (oT (t := 2) (r := .own 180)) (oT (t := 3) (r := V.b false)))
  refine CO.skip (CO.sw mix (wR 1 180 (wN eNI y193 [102] (wR 3 180 (wF (bB h297 fun l279 hx349 h297 => (bB h297 fun x280 hx350 h297 => (CO.sw mix ?_))))))))
  refine wR 3 180 (W.viewO Dk eNI hx349 102 1 (by kernel_rfl) (W.appV Dk eNI hx349 8 hx350 rfl flat_encI (a := 180) (c := 102) (el := 3) (sz := 1) 181 (by kernel_rfl) (wR 2 182 (wF (bB h297 fun l283 hx353 h297 => (bB h297 fun x284 hx354 h297 => (CO.sw mix (wR 2 182 ?_))))))))
  refine W.cutO Dk eNI hx353 182 (j := 102) (el := 3) (sz := 1) (by kernel_rfl) (wR 2 183 (W.appO Dk eNI (a := 182) (c := 183) (el := 3) (sz := 1) 8 hx354 rfl 184 (by kernel_rfl) (wR 1 185 (wF (bB h297 fun x286 hx356 h297 => ?_)))))
  refine CO.endR (tl 85 [(0, V.s a0), (4, .loc 100 0), (6, .own 186), (7, .own 184), (21, V.i r2.1), (22, V.i y189)]) [(186, .vec false 37 5 (x286.map (eSN true))), (184, vX 3 1 eNI x284), (100, .cells 69 [V.s r274.2.1, V.b r274.2.2])] mix (by
   refine wR 3 185 (W.appO Dk (eSN true) (a := 101) (c := 185) (el := 37) (sz := 5) 72 hx356 rfl 186 (by kernel_rfl) (wR 1 187 ?_))
   exact fI
   ) (fun st hw => ?_)
  refine CO.weak hw ?_
  exact cK 187 ih298 (a0, r2, (wr (y189 + 1)), r274.2.1, r274.2.2, x286, x284) h297 [(100, 100), (186, 101), (184, 102)] [0, 4, 6, 7, 21, 22]
 refine CO.exit (CO.seq' (bB h297 fun y294 hv371 h297 => ?_))
 refine CO.cutR (tl 85 [(6, .own 100), (83, V.b y294)]) [(100, .vec false 37 5 (y192.map (eSN true)))] mix (by
  refine wR 5 179 ?_
  refine wJ 73 hv371 (fun hv371 => ?_) (fun hv371 => ?_)
  ·refine wR 10 179 ?_
   cases hv371
   exact fS [(101, 100)] [6, 83]
  refine wR 1 179 (bB hv371 fun r295 hx373 hv371 => (W.lend (mi_TreeOk_ok N y192 hx373) cok51 [] [] (LayOk.cons (j := 101) (eSN true) (eSN false) y192 (by kernel_rfl) (sh_eSN _) lO) (.c _) .nil (by kernel_rfl) (by kernel_rfl) (wR 3 179 ?_)))
  refine wJ 78 hv371 (fun hv371 => ?_) (fun hv371 => ?_)
  ·refine wR 5 179 ?_
   cases hv371
   exact fS [(101, 100)] [6, 83]
  refine wR 1 179 (bB hv371 fun r296 hx375 hv371 => (W.lend (mi_ShowTree_ok N y192 hx375) cok11 [] [] (LayOk.cons (j := 101) (eSN true) (eSN false) y192 (by kernel_rfl) (sh_eSN _) lO) (.c _) .nil (by kernel_rfl) (by kernel_rfl) (wR 3 179 ?_)))
  cases hv371
  exact fS [(101, 100)] [6, 83]
  ) ?_
 refine cI h297 (fun _ h297 => ?_) (fun _ h297 => ?_)
 ·refine cV 179 (CO.weak (Weak.nil 2 179 37 5 (by kernel_rfl) (by kernel_rfl)) (CO.ret ?_))
  cases h297
  exact eG [(179, 100)] (.inr rfl) (RetV.two rfl (oT (t := 2) (r := .own 179)) (oT (t := 3) (r := V.b false)))
 refine CO.skip (cV 179 (CO.ret ?_))
 cases h297
 exact eG [(100, 100)] (.inr rfl) (RetV.two rfl (oT (t := 2) (r := .own 100)) (oT (t := 3) (r := V.b true)))

theorem ms_l1In_ok (a0 : Int) (a1 : Int) (a2 : Int) {r : Bool} (h : ms_l1In a0 a1 a2 = some r) :
    AC Tryz.prog (GS []) 77 [V.i a0, V.i a1, V.i a2] [] (V.b r) [] := by
 rw [ms_l1In] at h
 refine AC.enter Tryz.func77 rfl (cV 100 (bB h fun y1 hv2 h => ?_))
 refine CO.cutR (tl 15 [(6, V.b y1)]) [] mix (by
  refine wR 4 100 ?_
  refine wJ 10 hv2 (fun hv2 => ?_) (fun hv2 => ?_)
  ·refine wR 5 100 ?_
   cases hv2
   exact fS [] [6]
  refine wR 5 100 ?_
  cases hv2
  exact fS [] [6]
  ) ?_
 cases h
 exact e1 6 id

theorem ms_l6Starts_ok (N : Nat) (a0 : LN) {r : ((List Int) × Bool)} (h : ms_l6Starts N a0 = some r) :
    AC Tryz.prog (GS []) 131 [.sl false false (a0.map (eSN false))] [] (.tup [.own 100, V.b r.2]) [(100, vX 3 1 eNI r.1)] := by
 rw [ms_l6Starts] at h
 refine AC.enter Tryz.func131 rfl (cV 100 (cV 100 (CO.seq' (cV 101 (CO.block' (CO.loopJ (fun (⟨a0, y917, y918⟩ : (LN × Int × (List Int))) => ⟨tl 53 [(0, .sl false false (a0.map (eSN false))), (4, .own 100), (5, V.i y917)], [(100, vX 3 1 eNI y918)]⟩) (fun n i => ms_l6Starts_l1 N n i = some r) (n0 := N) (i0 := (a0, 0, [])) (wS [(100, 100)] [0, 4, 5]) h (fun i h => by simp [ms_l6Starts_l1] at h) ?_))))))
 rintro n1 ⟨a0, y917, y918⟩ h1961 ih1962
 rw [ms_l6Starts_l1] at h1961
 refine CO.seq' (CO.sw mix (wR 2 245 (wN (eSN false) a0 [] (wR 1 245 (wF ?_)))))
 refine cI h1961 (fun _ h1961 => ?_) (fun _ h1961 => ?_)
 ·refine CO.skip (CO.seq' (CO.block' (cV 245 (CO.seq' (bB h1961 fun e1474 hx2322 h1961 => (CO.sw mix (wR 2 245 (wX (eSN false) hx2322 5 ?_))))))))
  refine wR 2 245 (wN eNI e1474.Kids [] (wR 2 245 (wF (CO.block' (CO.loopJ (fun (⟨a0, y917, y918, y1499, y1500⟩ : (LN × Int × (List Int) × Int × Int)) => ⟨tl 53 [(0, .sl false false (a0.map (eSN false))), (4, .own 100), (5, V.i y917), (6, V.i y1499), (7, V.i y1500)], [(100, vX 3 1 eNI y918)]⟩) (fun n i => ms_l6Starts_l2 N (ms_l6Starts_l1 N n1) n i = some r) (n0 := N) (i0 := (a0, y917, y918, y917, (wr ((e1474.Kids.length : Int) - 1)))) (wS [(100, 100)] [0, 4, 5, 6, 7]) h1961 (fun i h => by simp [ms_l6Starts_l2] at h) ?_)))))
  rintro n2 ⟨a0, y917, y918, y1499, y1500⟩ h2399 ih2400
  rw [ms_l6Starts_l2] at h2399
  refine CO.seq' (cV 305 ?_)
  refine cI h2399 (fun _ h2399 => ?_) (fun _ h2399 => ?_)
  ·refine CO.skip (CO.seq' (CO.block' (CO.seq' (bB h2399 fun y1546 hv2432 h2399 => ?_))))
   refine CO.cutR (tl 53 [(0, .sl false false (a0.map (eSN false))), (4, .own 100), (5, V.i y917), (6, V.i y1499), (7, V.i y1500), (41, V.b y1546)]) [(100, vX 3 1 eNI y918)] mix (by
    refine wR 2 305 (bB hv2432 fun e1547 hx2433 hv2432 => (wX (eSN false) hx2433 5 (wR 3 305 (bB hv2432 fun e1548 hx2434 hv2432 => (wX eNI hx2434 1 (wR 5 305 ?_))))))
    refine wJ 38 hv2432 (fun hv2432 => ?_) (fun hv2432 => ?_)
    ·refine wR 3 305 ?_
     cases hv2432
     exact fS [(100, 100)] [0, 4, 5, 6, 7, 41]
    refine wR 3 305 ?_
    cases hv2432
    exact fS [(100, 100)] [0, 4, 5, 6, 7, 41]
    ) ?_
   refine cI h2399 (fun _ h2399 => ?_) (fun _ h2399 => ?_)
   ·refine cV 305 (CO.ret ?_)
    cases h2399
    exact eG [(305, 100)] (.inr rfl) (RetV.two rfl (oT (t := 2) (r := .own 305)) (oT (t := 3) (r := V.b false)))
   refine CO.skip (bB h2399 fun e1550 hx2438 h2399 => ?_)
   refine CO.endR (tl 53 [(0, .sl false false (a0.map (eSN false))), (4, .own 100), (5, V.i y917), (6, V.i e1550), (7, V.i y1500)]) [(100, vX 3 1 eNI y918)] mix (by
    refine wR 3 305 (W.ixO Dk eNI hx2438 100 1 (by kernel_rfl) (W.ldO Dk eNI hx2438 3 100 0 (V.i e1550) (by kernel_rfl) (by kernel_rfl) (wR 1 305 ?_)))
    exact fI
    ) (fun st hw => ?_)
   refine CO.weak hw ?_
   exact cK 305 ih2400 (a0, y917, y918, e1550, (wr (y1500 - 1))) h2399 [(100, 100)] [0, 4, 5, 6, 7]
  refine CO.exit (bB h2399 fun x1552 hx2440 h2399 => ?_)
  refine CO.endR (tl 53 [(0, .sl false false (a0.map (eSN false))), (4, .own 306), (5, V.i y917)]) [(306, vX 3 1 eNI x1552)] mix (by
   refine wR 3 305 (W.appO Dk eNI (a := 100) (c := 305) (el := 3) (sz := 1) 8 hx2440 rfl 306 (by kernel_rfl) (wR 1 307 ?_))
   exact fI
   ) (fun st hw => ?_)
  refine CO.weak hw ?_
  exact cK 307 ih1962 (a0, (wr (y917 + 1)), x1552) h2399 [(306, 100)] [0, 4, 5]
 refine CO.exit (cV 245 (CO.ret ?_))
 cases h1961
 exact eG [(100, 100)] (.inr rfl) (RetV.two rfl (oT (t := 2) (r := .own 100)) (oT (t := 3) (r := V.b true)))

theorem ms_ShapeOk_ok (N : Nat) (a0 : LN) {r : Bool} (h : ms_ShapeOk N a0 = some r) :
    AC Tryz.prog (GS []) 57 [.sl false false (a0.map (eSN false))] [] (V.b r) [] := by
 rw [ms_ShapeOk] at h
 refine AC.enter Tryz.func57 rfl (cV 100 (CO.seq' (bB h fun r4 hx5 h => (CO.sw mix (wR 1 100 (wN (eSN false) a0 [] (w0 (ms_l1In_ok (a0.length : Int) 1 400 hx5) cok77 (wR 1 100 ?_))))))))
 refine wF ?_
 refine cI h (fun _ h => ?_) (fun _ h => ?_)
 ·refine cV 100 ?_
  cases h
  exact e1 2 id
 refine CO.skip (bB h fun r6 hx8 h => (CO.sw mix (wR 1 100 (wC (ms_l6Starts_ok N a0 hx8) cok131 [] [(100, 100)] [100] (wR 5 101 (wF (bB h fun y8 hv11 h => ?_)))))))
 refine CO.cutR (tl 24 [(2, V.b y8)]) [] mix (by
  refine wR 2 101 ?_
  refine wJ 15 hv11 (fun hv11 => ?_) (fun hv11 => ?_)
  ·refine wR 2 101 (wN (eSN false) a0 [] (wR 1 101 (bB hv11 fun e9 hx13 hv11 => (W.ixO Dk eNI hx13 100 1 (by kernel_rfl) (W.ldO Dk eNI hx13 3 100 0 (V.i e9) (by kernel_rfl) (by kernel_rfl) (wR 3 101 ?_))))))
   cases hv11
   exact fS [] [2]
  refine wR 9 101 ?_
  cases hv11
  exact fS [] [2]
  ) ?_
 cases h
 exact e1 2 id

theorem ms_DepthOf_ok (N : Nat) (a0 : LN) {r : Int} (h : ms_DepthOf N a0 = some r) :
    AC Tryz.prog (GS []) 34 [.sl false false (a0.map (eSN false))] [] (V.i r) [] := by
 rw [ms_DepthOf] at h
 refine AC.enter Tryz.func34 rfl (cV 100 (CO.seq' (bB h fun r4 hx5 h => (cC 1 100 (ms_ShapeOk_ok N a0 hx5) cok57 ?_))))
 refine cI h (fun _ h => ?_) (fun _ h => ?_)
 ·refine cV 100 ?_
  cases h
  exact e1 2 id
 refine CO.skip (cV 100 (CO.seq' (cV 101 (CO.block' (CO.loopJ (fun (⟨a0, y857, y858⟩ : (LN × Int × (List Int))) => ⟨tl 51 [(0, .sl false false (a0.map (eSN false))), (3, .own 100), (4, V.i y857)], [(100, vX 3 1 eNI y858)]⟩) (fun n i => ms_DepthOf_l1 N n i = some r) (n0 := N) (i0 := (a0, 0, [])) (wS [(100, 100)] [0, 3, 4]) h (fun i h => by simp [ms_DepthOf_l1] at h) ?_)))))
 rintro n1 ⟨a0, y857, y858⟩ h1159 ih1160
 rw [ms_DepthOf_l1] at h1159
 refine CO.seq' (CO.sw mix (wR 2 285 (wN (eSN false) a0 [] (wR 1 285 (wF ?_)))))
 refine cI h1159 (fun _ h1159 => ?_) (fun _ h1159 => ?_)
 ·refine CO.skip (CO.seq' (CO.block' (cV 285 (CO.seq' (cV 285 (CO.block' (CO.loopJ (fun (⟨a0, y857, y858, y1247, y1248⟩ : (LN × Int × (List Int) × Int × Int)) => ⟨tl 51 [(0, .sl false false (a0.map (eSN false))), (3, .own 100), (4, V.i y857), (5, V.i y1247), (6, V.i y1248)], [(100, vX 3 1 eNI y858)]⟩) (fun n i => ms_DepthOf_l2 N (ms_DepthOf_l1 N n1) n i = some r) (n0 := N) (i0 := (a0, y857, y858, 1, 0)) (wS [(100, 100)] [0, 3, 4, 5, 6]) h1159 (fun i h => by simp [ms_DepthOf_l2] at h) ?_)))))))
  rintro n2 ⟨a0, y857, y858, y1247, y1248⟩ h1369 ih1370
  rw [ms_DepthOf_l2] at h1369
  refine CO.seq' (bB h1369 fun e1270 hx1375 h1369 => (CO.sw mix (wR 3 345 (wX (eSN false) hx1375 5 (wR 2 345 (wN eNI e1270.Kids [] (wR 1 345 (wF ?_))))))))
  refine cI h1369 (fun _ h1369 => ?_) (fun _ h1369 => ?_)
  ·refine CO.skip (CO.seq' (CO.block' (bB h1369 fun e1280 hx1386 h1369 => (bB h1369 fun e1281 hx1387 h1369 => (bB h1369 fun e1282 hx1388 h1369 => ?_)))))
   refine CO.endR (tl 51 [(0, .sl false false (a0.map (eSN false))), (3, .own 100), (4, V.i y857), (5, V.i (if (wr (1 + e1282)) > y1247 then (wr (1 + e1282)) else y1247)), (6, V.i y1248)]) [(100, vX 3 1 eNI y858)] mix (by
    refine wR 4 345 (wX (eSN false) hx1386 5 (wR 3 345 (wX eNI hx1387 1 (wR 1 345 (W.ixO Dk eNI hx1388 100 1 (by kernel_rfl) (W.ldO Dk eNI hx1388 3 100 0 (V.i e1282) (by kernel_rfl) (by kernel_rfl) (wR 3 345 ?_)))))))
    exact fI
    ) (fun st hw => ?_)
   refine CO.weak hw ?_
   exact cK 345 ih1370 (a0, y857, y858, (if (wr (1 + e1282)) > y1247 then (wr (1 + e1282)) else y1247), (wr (y1248 + 1))) h1369 [(100, 100)] [0, 3, 4, 5, 6]
  refine CO.exit (bB h1369 fun x1284 hx1390 h1369 => ?_)
  refine CO.endR (tl 51 [(0, .sl false false (a0.map (eSN false))), (3, .own 346), (4, V.i y857)]) [(346, vX 3 1 eNI x1284)] mix (by
   refine wR 3 345 (W.appO Dk eNI (a := 100) (c := 345) (el := 3) (sz := 1) 8 hx1390 rfl 346 (by kernel_rfl) (wR 1 347 ?_))
   exact fI
   ) (fun st hw => ?_)
  refine CO.weak hw ?_
  exact cK 347 ih1160 (a0, (wr (y857 + 1)), x1284) h1369 [(346, 100)] [0, 3, 4]
 refine CO.exit (bB h1159 fun e1286 hx1392 h1159 => (CO.sw mix (wR 2 285 (wN (eSN false) a0 [] (wR 1 285 (W.ixO Dk eNI hx1392 100 1 (by kernel_rfl) (W.ldO Dk eNI hx1392 3 100 0 (V.i e1286) (by kernel_rfl) (by kernel_rfl) (wR 1 285 ?_))))))))
 refine wF ?_
 cases h1159
 exact e1 2 id

theorem ms_l7Many_ok (a0 : SNode) {r : (Int × Int)} (h : ms_l7Many a0 = some r) :
    AC Tryz.prog (GS []) 132 [.agg [V.i a0.Kind, V.i a0.Op, V.s a0.Text, V.s a0.Other, sL eNI a0.Kids]] [] (.tup [V.i r.1, V.i r.2]) [] := by
 rw [ms_l7Many] at h
 refine AC.enter Tryz.func132 rfl (cV 100 (CO.seq' (cV 101 (CO.block' ?_))))
 refine CO.join (fun (⟨a0, y7⟩ : (SNode × Bool)) => ⟨tl 75 [(1, .loc 100 0), (6, V.i a0.Kind), (7, V.b y7)], [(100, .cells 37 [V.i a0.Kind, V.i a0.Op, V.s a0.Text, V.s a0.Other, sL eNI a0.Kids])]⟩) (fun i => ms_l7Many_k1 i = some r) ?_ ?_
 · rintro ⟨a0, y7⟩ h59
   rw [ms_l7Many_k1] at h59
   refine cI h59 (fun _ h59 => ?_) (fun _ h59 => ?_)
   ·refine cV 101 (CO.ret ?_)
    cases h59
    exact eG [] (.inr rfl) (RetV.two rfl (oT (t := 2) (r := V.i 1)) (oT (t := 3) (r := V.i 6)))
   refine CO.join (fun (⟨a0, y8⟩ : (SNode × Bool)) => ⟨tl 75 [(1, .loc 100 0), (6, V.i a0.Kind), (10, V.b y8)], [(100, .cells 37 [V.i a0.Kind, V.i a0.Op, V.s a0.Text, V.s a0.Other, sL eNI a0.Kids])]⟩) (fun i => ms_l7Many_k2 i = some r) ?_ ?_
   · rintro ⟨a0, y8⟩ h63
     rw [ms_l7Many_k2] at h63
     refine cI h63 (fun _ h63 => ?_) (fun _ h63 => ?_)
     ·refine cV 101 (CO.ret ?_)
      cases h63
      exact eG [] (.inr rfl) (RetV.two rfl (oT (t := 2) (r := V.i 0)) (oT (t := 3) (r := V.i 6)))
     refine CO.join (fun (⟨a0, y9⟩ : (SNode × Bool)) => ⟨tl 75 [(1, .loc 100 0), (6, V.i a0.Kind), (14, V.b y9)], [(100, .cells 37 [V.i a0.Kind, V.i a0.Op, V.s a0.Text, V.s a0.Other, sL eNI a0.Kids])]⟩) (fun i => ms_l7Many_k3 i = some r) ?_ ?_
     · rintro ⟨a0, y9⟩ h72
       rw [ms_l7Many_k3] at h72
       refine cI h72 (fun _ h72 => ?_) (fun _ h72 => ?_)
       ·refine cV 101 (CO.ret ?_)
        cases h72
        exact eG [] (.inr rfl) (RetV.two rfl (oT (t := 2) (r := V.i 1)) (oT (t := 3) (r := V.i 1)))
       refine CO.join (fun (⟨a0, y10⟩ : (SNode × Bool)) => ⟨tl 75 [(1, .loc 100 0), (6, V.i a0.Kind), (23, V.b y10)], [(100, .cells 37 [V.i a0.Kind, V.i a0.Op, V.s a0.Text, V.s a0.Other, sL eNI a0.Kids])]⟩) (fun i => ms_l7Many_k4 i = some r) ?_ ?_
       · rintro ⟨a0, y10⟩ h77
         rw [ms_l7Many_k4] at h77
         refine cI h77 (fun _ h77 => ?_) (fun _ h77 => ?_)
         ·refine cV 101 (CO.ret ?_)
          cases h77
          exact eG [] (.inr rfl) (RetV.two rfl (oT (t := 2) (r := V.i 2)) (oT (t := 3) (r := V.i 2)))
         refine cV 101 ?_
         refine cI h77 (fun _ h77 => ?_) (fun _ h77 => ?_)
         ·refine cV 101 (CO.ret ?_)
          cases h77
          exact eG [] (.inr rfl) (RetV.two rfl (oT (t := 2) (r := V.i 3)) (oT (t := 3) (r := V.i 3)))
         refine cV 101 ?_
         refine cI h77 (fun _ h77 => ?_) (fun _ h77 => ?_)
         ·refine cV 101 (CO.seq' (cV 101 ?_))
          refine cI h77 (fun _ h77 => ?_) (fun _ h77 => ?_)
          ·refine cV 101 (CO.ret ?_)
           have h77 := sI h77
           subst h77
           exact eG [] (.inr rfl) (RetV.two rfl (oT (t := 2) (r := V.i (wr (a0.Op + 1)))) (oT (t := 3) (r := V.i 7)))
          refine CO.skip (cV 101 (CO.ret ?_))
          have h77 := sI h77
          subst h77
          exact eG [] (.inr rfl) (RetV.two rfl (oT (t := 2) (r := V.i a0.Op)) (oT (t := 3) (r := V.i 6)))
         refine CO.join (fun (⟨a0, y11⟩ : (SNode × Bool)) => ⟨tl 75 [(1, .loc 100 0), (6, V.i a0.Kind), (40, V.b y11)], [(100, .cells 37 [V.i a0.Kind, V.i a0.Op, V.s a0.Text, V.s a0.Other, sL eNI a0.Kids])]⟩) (fun i => ms_l7Many_k5 i = some r) ?_ ?_
         · rintro ⟨a0, y11⟩ h84
           rw [ms_l7Many_k5] at h84
           refine cI h84 (fun _ h84 => ?_) (fun _ h84 => ?_)
           ·refine cV 101 (CO.ret ?_)
            cases h84
            exact eG [] (.inr rfl) (RetV.two rfl (oT (t := 2) (r := V.i 0)) (oT (t := 3) (r := V.i 1)))
           refine cV 101 ?_
           refine cI h84 (fun _ h84 => ?_) (fun _ h84 => ?_)
           ·refine cV 101 (CO.ret ?_)
            cases h84
            exact eG [] (.inr rfl) (RetV.two rfl (oT (t := 2) (r := V.i 2)) (oT (t := 3) (r := V.i 3)))
           refine cV 101 ?_
           refine cI h84 (fun _ h84 => ?_) (fun _ h84 => ?_)
           ·refine cV 101 (CO.ret ?_)
            cases h84
            exact eG [] (.inr rfl) (RetV.two rfl (oT (t := 2) (r := V.i 4)) (oT (t := 3) (r := V.i 4)))
           refine CO.join (fun (⟨a0, y12⟩ : (SNode × Bool)) => ⟨tl 75 [(1, .loc 100 0), (6, V.i a0.Kind), (47, V.b y12)], [(100, .cells 37 [V.i a0.Kind, V.i a0.Op, V.s a0.Text, V.s a0.Other, sL eNI a0.Kids])]⟩) (fun i => ms_l7Many_k6 i = some r) ?_ ?_
           · rintro ⟨a0, y12⟩ h89
             rw [ms_l7Many_k6] at h89
             refine cI h89 (fun _ h89 => ?_) (fun _ h89 => ?_)
             ·refine CO.sw mix (wR 2 101 (wN eNI a0.Kids [] (wR 2 101 (wF (CO.ret ?_)))))
              have h89 := sI h89
              subst h89
              exact eG [] (.inr rfl) (RetV.two rfl (oT (t := 2) (r := V.i 0)) (oT (t := 3) (r := V.i (a0.Kids.length : Int))))
             refine cV 101 ?_
             refine cI h89 (fun _ h89 => ?_) (fun _ h89 => ?_)
             ·refine cV 101 (CO.ret ?_)
              have h89 := sI h89
              subst h89
              exact eG [] (.inr rfl) (RetV.two rfl (oT (t := 2) (r := V.i (wr (1 + (wr (Int.tdiv a0.Op 3)))))) (oT (t := 3) (r := V.i (wr (1 + (wr (Int.tdiv a0.Op 3)))))))
             refine cV 101 ?_
             refine cI h89 (fun _ h89 => ?_) (fun _ h89 => ?_)
             ·refine cV 101 (CO.ret ?_)
              have h89 := sI h89
              subst h89
              exact eG [] (.inr rfl) (RetV.two rfl (oT (t := 2) (r := V.i (wr (2 + (wr (Int.tdiv a0.Op 3)))))) (oT (t := 3) (r := V.i (wr (2 + (wr (Int.tdiv a0.Op 3)))))))
             refine cV 101 ?_
             refine cI h89 (fun _ h89 => ?_) (fun _ h89 => ?_)
             ·refine cV 101 (CO.ret ?_)
              cases h89
              exact eG [] (.inr rfl) (RetV.two rfl (oT (t := 2) (r := V.i 1)) (oT (t := 3) (r := V.i 7)))
             refine CO.skip (cV 101 (CO.ret ?_))
             cases h89
             exact eG [] (.inr rfl) (RetV.two rfl (oT (t := 2) (r := V.i 0)) (oT (t := 3) (r := V.i 0)))
           intro hk94
           refine cV 101 ?_
           refine cI h84 (fun _ h84 => ?_) (fun _ h84 => ?_)
           ·exact sK hk94 (a0, (a0.Kind == 33)) h84 [(100, 100)] [1, 6, 47]
           exact cK 101 hk94 (a0, (a0.Kind == 45)) h84 [(100, 100)] [1, 6, 47]
         intro hk96
         refine cV 101 ?_
         refine cI h77 (fun _ h77 => ?_) (fun _ h77 => ?_)
         ·exact sK hk96 (a0, (a0.Kind == 23)) h77 [(100, 100)] [1, 6, 40]
         exact cK 101 hk96 (a0, (a0.Kind == 24)) h77 [(100, 100)] [1, 6, 40]
       intro hk98
       refine cV 101 ?_
       refine cI h72 (fun _ h72 => ?_) (fun _ h72 => ?_)
       ·exact sK hk98 (a0, (a0.Kind == 12)) h72 [(100, 100)] [1, 6, 23]
       refine cV 101 ?_
       refine cI h72 (fun _ h72 => ?_) (fun _ h72 => ?_)
       ·exact sK hk98 (a0, (a0.Kind == 15)) h72 [(100, 100)] [1, 6, 23]
       refine cV 101 ?_
       refine cI h72 (fun _ h72 => ?_) (fun _ h72 => ?_)
       ·exact sK hk98 (a0, (a0.Kind == 29)) h72 [(100, 100)] [1, 6, 23]
       exact cK 101 hk98 (a0, (a0.Kind == 30)) h72 [(100, 100)] [1, 6, 23]
     intro hk102
     refine cV 101 ?_
     refine cI h63 (fun _ h63 => ?_) (fun _ h63 => ?_)
     ·exact sK hk102 (a0, (a0.Kind == 6)) h63 [(100, 100)] [1, 6, 14]
     refine cV 101 ?_
     refine cI h63 (fun _ h63 => ?_) (fun _ h63 => ?_)
     ·exact sK hk102 (a0, (a0.Kind == 9)) h63 [(100, 100)] [1, 6, 14]
     refine cV 101 ?_
     refine cI h63 (fun _ h63 => ?_) (fun _ h63 => ?_)
     ·exact sK hk102 (a0, (a0.Kind == 10)) h63 [(100, 100)] [1, 6, 14]
     refine cV 101 ?_
     refine cI h63 (fun _ h63 => ?_) (fun _ h63 => ?_)
     ·exact sK hk102 (a0, (a0.Kind == 11)) h63 [(100, 100)] [1, 6, 14]
     refine cV 101 ?_
     refine cI h63 (fun _ h63 => ?_) (fun _ h63 => ?_)
     ·exact sK hk102 (a0, (a0.Kind == 20)) h63 [(100, 100)] [1, 6, 14]
     refine cV 101 ?_
     refine cI h63 (fun _ h63 => ?_) (fun _ h63 => ?_)
     ·exact sK hk102 (a0, (a0.Kind == 32)) h63 [(100, 100)] [1, 6, 14]
     refine cV 101 ?_
     refine cI h63 (fun _ h63 => ?_) (fun _ h63 => ?_)
     ·exact sK hk102 (a0, (a0.Kind == 40)) h63 [(100, 100)] [1, 6, 14]
     exact cK 101 hk102 (a0, (a0.Kind == 41)) h63 [(100, 100)] [1, 6, 14]
   intro hk110
   refine cV 101 ?_
   refine cI h59 (fun _ h59 => ?_) (fun _ h59 => ?_)
   ·exact sK hk110 (a0, (a0.Kind == 7)) h59 [(100, 100)] [1, 6, 10]
   refine cV 101 ?_
   refine cI h59 (fun _ h59 => ?_) (fun _ h59 => ?_)
   ·exact sK hk110 (a0, (a0.Kind == 8)) h59 [(100, 100)] [1, 6, 10]
   exact cK 101 hk110 (a0, (a0.Kind == 27)) h59 [(100, 100)] [1, 6, 10]
 intro hk113
 refine cV 101 ?_
 refine cI h (fun _ h => ?_) (fun _ h => ?_)
 ·exact sK hk113 (a0, (a0.Kind == 5)) h [(100, 100)] [1, 6, 7]
 exact cK 101 hk113 (a0, (a0.Kind == 13)) h [(100, 100)] [1, 6, 7]

theorem ms_l7IsBin_ok (a0 : Int) {r : Bool} (h : ms_l7IsBin a0 = some r) :
    AC Tryz.prog (GS []) 189 [V.i a0] [] (V.b r) [] := by
 rw [ms_l7IsBin] at h
 refine AC.enter Tryz.func189 rfl (cV 100 (CO.seq' (cV 100 (CO.block' ?_))))
 refine CO.join (fun (y2 : Bool) => ⟨tl 22 [(4, V.b y2)], []⟩) (fun i => ms_l7IsBin_k1 i = some r) ?_ ?_
 · rintro y2 h52
   rw [ms_l7IsBin_k1] at h52
   refine cI h52 (fun _ h52 => ?_) (fun _ h52 => ?_)
   ·refine cV 100 ?_
    cases h52
    exact e1 2 id
   refine CO.skip (cV 100 ?_)
   cases h52
   exact e1 2 id
 intro hk54
 refine cV 100 ?_
 refine cI h (fun _ h => ?_) (fun _ h => ?_)
 ·exact sK hk54 (a0 == 60) h [] [4]
 refine cV 100 ?_
 refine cI h (fun _ h => ?_) (fun _ h => ?_)
 ·exact sK hk54 (a0 == 57) h [] [4]
 refine cV 100 ?_
 refine cI h (fun _ h => ?_) (fun _ h => ?_)
 ·exact sK hk54 (a0 == 58) h [] [4]
 refine cV 100 ?_
 refine cI h (fun _ h => ?_) (fun _ h => ?_)
 ·exact sK hk54 (a0 == 59) h [] [4]
 refine cV 100 ?_
 refine cI h (fun _ h => ?_) (fun _ h => ?_)
 ·exact sK hk54 (a0 == 55) h [] [4]
 refine cV 100 ?_
 refine cI h (fun _ h => ?_) (fun _ h => ?_)
 ·exact sK hk54 (a0 == 56) h [] [4]
 refine cV 100 ?_
 refine cI h (fun _ h => ?_) (fun _ h => ?_)
 ·exact sK hk54 (a0 == 99) h [] [4]
 refine cV 100 ?_
 refine cI h (fun _ h => ?_) (fun _ h => ?_)
 ·exact sK hk54 (a0 == 63) h [] [4]
 refine cV 100 ?_
 refine cI h (fun _ h => ?_) (fun _ h => ?_)
 ·exact sK hk54 (a0 == 48) h [] [4]
 refine cV 100 ?_
 refine cI h (fun _ h => ?_) (fun _ h => ?_)
 ·exact sK hk54 (a0 == 47) h [] [4]
 refine cV 100 ?_
 refine cI h (fun _ h => ?_) (fun _ h => ?_)
 ·exact sK hk54 (a0 == 50) h [] [4]
 refine cV 100 ?_
 refine cI h (fun _ h => ?_) (fun _ h => ?_)
 ·exact sK hk54 (a0 == 62) h [] [4]
 refine cV 100 ?_
 refine cI h (fun _ h => ?_) (fun _ h => ?_)
 ·exact sK hk54 (a0 == 49) h [] [4]
 refine cV 100 ?_
 refine cI h (fun _ h => ?_) (fun _ h => ?_)
 ·exact sK hk54 (a0 == 67) h [] [4]
 refine cV 100 ?_
 refine cI h (fun _ h => ?_) (fun _ h => ?_)
 ·exact sK hk54 (a0 == 46) h [] [4]
 refine cV 100 ?_
 refine cI h (fun _ h => ?_) (fun _ h => ?_)
 ·exact sK hk54 (a0 == 45) h [] [4]
 exact cK 100 hk54 (a0 == 44) h [] [4]

theorem ms_l7IsAssign_ok (a0 : Int) {r : Bool} (h : ms_l7IsAssign a0 = some r) :
    AC Tryz.prog (GS []) 190 [V.i a0] [] (V.b r) [] := by
 rw [ms_l7IsAssign] at h
 refine AC.enter Tryz.func190 rfl (cV 100 (bB h fun y2 hv3 h => ?_))
 refine CO.cutR (tl 9 [(2, V.b y2)]) [] mix (by
  refine wR 3 100 ?_
  refine wJ 5 hv3 (fun hv3 => ?_) (fun hv3 => ?_)
  ·refine wR 4 100 ?_
   cases hv3
   exact fS [] [2]
  refine wR 1 100 (bB hv3 fun r3 hx5 hv3 => (w0 (ms_l1In_ok a0 38 43 hx5) cok77 (wR 2 100 ?_)))
  cases hv3
  exact fS [] [2]
  ) ?_
 cases h
 exact e1 2 id

theorem ms_l7Op_ok (a0 : SNode) {r : Bool} (h : ms_l7Op a0 = some r) :
    AC Tryz.prog (GS []) 133 [.agg [V.i a0.Kind, V.i a0.Op, V.s a0.Text, V.s a0.Other, sL eNI a0.Kids]] [] (V.b r) [] := by
 rw [ms_l7Op] at h
 refine AC.enter Tryz.func133 rfl (cV 100 (CO.seq' (cV 101 (CO.block' ?_))))
 refine CO.join (fun (⟨a0, y13⟩ : (SNode × Bool)) => ⟨tl 64 [(1, .loc 100 0), (4, V.i a0.Kind), (5, V.b y13)], [(100, .cells 37 [V.i a0.Kind, V.i a0.Op, V.s a0.Text, V.s a0.Other, sL eNI a0.Kids])]⟩) (fun i => ms_l7Op_k1 i = some r) ?_ ?_
 · rintro ⟨a0, y13⟩ h32
   rw [ms_l7Op_k1] at h32
   refine cI h32 (fun _ h32 => ?_) (fun _ h32 => ?_)
   ·refine bB h32 fun y14 hv35 h32 => ?_
    refine CO.cutR (tl 64 [(2, V.b y14)]) [] mix (by
     refine wR 4 101 ?_
     refine wJ 11 hv35 (fun hv35 => ?_) (fun hv35 => ?_)
     ·refine wR 5 101 ?_
      cases hv35
      exact fS [] [2]
     refine wR 5 101 ?_
     cases hv35
     exact fS [] [2]
     ) ?_
    cases h32
    exact e1 2 id
   refine cV 101 ?_
   refine cI h32 (fun _ h32 => ?_) (fun _ h32 => ?_)
   ·refine bB h32 fun y15 hv40 h32 => ?_
    refine CO.cutR (tl 64 [(2, V.b y15)]) [] mix (by
     refine wR 4 101 ?_
     refine wJ 21 hv40 (fun hv40 => ?_) (fun hv40 => ?_)
     ·refine wR 10 101 ?_
      cases hv40
      exact fS [] [2]
     refine wR 5 101 ?_
     refine wJ 26 hv40 (fun hv40 => ?_) (fun hv40 => ?_)
     ·refine wR 5 101 ?_
      cases hv40
      exact fS [] [2]
     refine wR 5 101 ?_
     cases hv40
     exact fS [] [2]
     ) ?_
    cases h32
    exact e1 2 id
   refine cV 101 ?_
   refine cI h32 (fun _ h32 => ?_) (fun _ h32 => ?_)
   ·refine bB h32 fun r17 hx45 h32 => (cC 2 101 (ms_l7IsBin_ok a0.Op hx45) cok189 ?_)
    cases h32
    exact e1 2 id
   refine cV 101 ?_
   refine cI h32 (fun _ h32 => ?_) (fun _ h32 => ?_)
   ·refine bB h32 fun r19 hx48 h32 => (cC 2 101 (ms_l7IsAssign_ok a0.Op hx48) cok190 ?_)
    cases h32
    exact e1 2 id
   refine cV 101 ?_
   refine cI h32 (fun _ h32 => ?_) (fun _ h32 => ?_)
   ·refine bB h32 fun r21 hx51 h32 => (cC 2 101 (ms_l1In_ok a0.Op 0 1 hx51) cok77 ?_)
    cases h32
    exact e1 2 id
   refine cV 101 ?_
   refine cI h32 (fun _ h32 => ?_) (fun _ h32 => ?_)
   ·refine bB h32 fun r23 hx54 h32 => (cC 2 101 (ms_l1In_ok a0.Op 1 3 hx54) cok77 ?_)
    cases h32
    exact e1 2 id
   refine cV 101 ?_
   refine cI h32 (fun _ h32 => ?_) (fun _ h32 => ?_)
   ·refine bB h32 fun y24 hv57 h32 => ?_
    refine CO.cutR (tl 64 [(2, V.b y24)]) [] mix (by
     refine wR 4 101 ?_
     refine wJ 56 hv57 (fun hv57 => ?_) (fun hv57 => ?_)
     ·refine wR 5 101 ?_
      cases hv57
      exact fS [] [2]
     refine wR 5 101 ?_
     cases hv57
     exact fS [] [2]
     ) ?_
    cases h32
    exact e1 2 id
   refine CO.skip (cV 101 ?_)
   cases h32
   exact e1 2 id
 intro hk59
 refine cV 101 ?_
 refine cI h (fun _ h => ?_) (fun _ h => ?_)
 ·exact sK hk59 (a0, (a0.Kind == 9)) h [(100, 100)] [1, 4, 5]
 exact cK 101 hk59 (a0, (a0.Kind == 10)) h [(100, 100)] [1, 4, 5]

theorem ms_IsLetter_ok (a0 : Int) {r : Bool} (h : ms_IsLetter a0 = some r) :
    AC Tryz.prog (GS []) 258 [V.i a0] [] (V.b r) [] := by
 rw [ms_IsLetter] at h
 refine AC.enter Tryz.func258 rfl (cV 100 (bB h fun y3 hv5 h => ?_))
 refine CO.cutR (tl 13 [(2, V.b y3)]) [] mix (by
  refine wR 1 100 (bB hv5 fun r4 hx6 hv5 => (w0 (ms_l1In_ok a0 97 122 hx6) cok77 (wR 1 100 ?_)))
  refine wJ 5 hv5 (fun hv5 => ?_) (fun hv5 => ?_)
  ·refine wR 8 100 ?_
   cases hv5
   exact fS [] [2]
  refine wR 1 100 (bB hv5 fun r5 hx8 hv5 => (w0 (ms_l1In_ok a0 65 90 hx8) cok77 (wR 2 100 ?_)))
  refine wJ 9 hv5 (fun hv5 => ?_) (fun hv5 => ?_)
  ·refine wR 4 100 ?_
   cases hv5
   exact fS [] [2]
  refine wR 4 100 ?_
  cases hv5
  exact fS [] [2]
  ) ?_
 cases h
 exact e1 2 id

theorem ms_IsDigit_ok (a0 : Int) {r : Bool} (h : ms_IsDigit a0 = some r) :
    AC Tryz.prog (GS []) 287 [V.i a0] [] (V.b r) [] := by
 rw [ms_IsDigit] at h
 refine AC.enter Tryz.func287 rfl (cV 100 (bB h fun r2 hx2 h => (cC 1 100 (ms_l1In_ok a0 48 57 hx2) cok77 ?_)))
 cases h
 exact e1 2 id

theorem ms_IsWordByte_ok (a0 : Int) {r : Bool} (h : ms_IsWordByte a0 = some r) :
    AC Tryz.prog (GS []) 257 [V.i a0] [] (V.b r) [] := by
 rw [ms_IsWordByte] at h
 refine AC.enter Tryz.func257 rfl (cV 100 (bB h fun y3 hv4 h => ?_))
 refine CO.cutR (tl 9 [(2, V.b y3)]) [] mix (by
  refine wR 1 100 (bB hv4 fun r4 hx5 hv4 => (w0 (ms_IsLetter_ok a0 hx5) cok258 (wR 1 100 ?_)))
  refine wJ 5 hv4 (fun hv4 => ?_) (fun hv4 => ?_)
  ·refine wR 4 100 ?_
   cases hv4
   exact fS [] [2]
  refine wR 1 100 (bB hv4 fun r5 hx7 hv4 => (w0 (ms_IsDigit_ok a0 hx7) cok287 (wR 2 100 ?_)))
  cases hv4
  exact fS [] [2]
  ) ?_
 cases h
 exact e1 2 id

theorem ms_NameShape_ok (N : Nat) (a0 : LU) {r : Bool} (h : ms_NameShape N a0 = some r) :
    AC Tryz.prog (GS []) 228 [V.s a0] [] (V.b r) [] := by
 rw [ms_NameShape] at h
 refine AC.enter Tryz.func228 rfl (cV 100 (CO.seq' (cV 100 (CO.block' (CO.loopJ (fun (⟨a0, y35⟩ : (LU × Int)) => ⟨tl 25 [(0, V.s a0), (3, V.i y35)], []⟩) (fun n i => ms_NameShape_l1 N n i = some r) (n0 := N) (i0 := (a0, 0)) (wS [] [0, 3]) h (fun i h => by simp [ms_NameShape_l1] at h) ?_)))))
 rintro n1 ⟨a0, y35⟩ h63 ih64
 rw [ms_NameShape_l1] at h63
 refine CO.seq' (cV 160 ?_)
 refine cI h63 (fun _ h63 => ?_) (fun _ h63 => ?_)
 ·refine CO.skip (CO.seq' (CO.block' (bB h63 fun b51 hx74 h63 => (bB h63 fun r52 hx75 h63 => (CO.sw mix (wR 2 160 (W.ixS Dk hx74 (by kernel_rfl) (wR 1 160 ?_))))))))
  refine w0 (ms_IsWordByte_ok (wr ((b51).toNat : Int)) hx75) cok257 (wR 1 160 (wF ?_))
  refine cI h63 (fun _ h63 => ?_) (fun _ h63 => ?_)
  ·refine cV 160 ?_
   cases h63
   exact e1 2 id
  refine CO.skip ?_
  exact cK 160 ih64 (a0, (wr (y35 + 1))) h63 [] [0, 3]
 refine CO.exit (bB h63 fun y56 hv81 h63 => ?_)
 refine CO.cutR (tl 25 [(2, V.b y56)]) [] mix (by
  refine wR 2 160 (bB hv81 fun r57 hx82 hv81 => (w0 (ms_l1In_ok (a0.length : Int) 1 12 hx82) cok77 (wR 1 160 ?_)))
  refine wJ 19 hv81 (fun hv81 => ?_) (fun hv81 => ?_)
  ·refine wR 1 160 (bB hv81 fun b58 hx84 hv81 => (W.ixS Dk hx84 (by kernel_rfl) (wR 1 160 (bB hv81 fun r59 hx85 hv81 => (w0 (ms_IsLetter_ok (wr ((b58).toNat : Int)) hx85) cok258 (wR 2 160 ?_))))))
   cases hv81
   exact fS [] [2]
  refine wR 6 160 ?_
  cases hv81
  exact fS [] [2]
  ) ?_
 cases h63
 exact e1 2 id

theorem ms_l3Words_ok {r : LLU} (h : ms_l3Words = some r) :
    AC Tryz.prog (GS []) 259 [] [] (.own 100) [(100, vN r)] := by
 rw [ms_l3Words] at h
 refine AC.enter Tryz.func259 rfl (cV 100 (cV 100 (CO.ret ?_)))
 cases h
 exact eG [(100, 100)] (.inr rfl) (RetV.one rfl (oT (t := 0) (r := .own 100)))

theorem ms_l3Find_ok (N : Nat) (a0 : LLU) (a1 : LU) {r : Int} (h : ms_l3Find N a0 a1 = some r) :
    AC Tryz.prog (GS []) 235 [sL eNS a0, V.s a1] [] (V.i r) [] := by
 rw [ms_l3Find] at h
 refine AC.enter Tryz.func235 rfl (cV 100 (CO.seq' (cV 100 (CO.block' (CO.loopJ (fun (⟨a0, a1, y19⟩ : (LLU × LU × Int)) => ⟨tl 19 [(0, sL eNS a0), (1, V.s a1), (5, V.i y19)], []⟩) (fun n i => ms_l3Find_l1 N n i = some r) (n0 := N) (i0 := (a0, a1, 0)) (wS [] [0, 1, 5]) h (fun i h => by simp [ms_l3Find_l1] at h) ?_)))))
 rintro n1 ⟨a0, a1, y19⟩ h43 ih44
 rw [ms_l3Find_l1] at h43
 refine CO.seq' (CO.sw mix (wR 2 160 (wN eNS a0 [] (wR 1 160 (wF ?_)))))
 refine cI h43 (fun _ h43 => ?_) (fun _ h43 => ?_)
 ·refine CO.skip (CO.seq' (CO.block' (bB h43 fun e28 hx51 h43 => (CO.sw mix (wR 2 160 (wX eNS hx51 1 (wR 3 160 (wF ?_))))))))
  refine cI h43 (fun _ h43 => ?_) (fun _ h43 => ?_)
  ·refine cV 160 ?_
   cases h43
   exact e1 4 id
  refine CO.skip ?_
  exact cK 160 ih44 (a0, a1, (wr (y19 + 1))) h43 [] [0, 1, 5]
 refine CO.exit (cV 160 ?_)
 cases h43
 exact e1 4 id

theorem ms_KeywordOf_ok (N : Nat) (a0 : LU) {r : Int} (h : ms_KeywordOf N a0 = some r) :
    AC Tryz.prog (GS []) 229 [V.s a0] [] (V.i r) [] := by
 rw [ms_KeywordOf] at h
 refine AC.enter Tryz.func229 rfl (cV 100 (bB h fun r3 hx3 h => (bB h fun r4 hx4 h => (CO.sw mix (wC (ms_l3Words_ok  hx3) cok259 [] [(100, 100)] [100] (wR 1 101 (W.lend (ms_l3Find_ok N r3 a0 hx4) cok235 [] [] (LayOk.cons (j := 100) eNS eNS r3 (by kernel_rfl) (fun _ => rfl) lO) (.c _) .nil (by kernel_rfl) (by kernel_rfl) (wR 1 101 ?_))))))))
 refine wF (CO.seq' (cV 101 ?_))
 refine cI h (fun _ h => ?_) (fun _ h => ?_)
 ·refine cV 101 ?_
  cases h
  exact e1 2 id
 refine CO.skip (cV 101 ?_)
 cases h
 exact e1 2 id

theorem ms_l3Builtins_ok {r : LLU} (h : ms_l3Builtins = some r) :
    AC Tryz.prog (GS []) 236 [] [] (.own 100) [(100, vN r)] := by
 rw [ms_l3Builtins] at h
 refine AC.enter Tryz.func236 rfl (cV 100 (cV 100 (CO.ret ?_)))
 cases h
 exact eG [(100, 100)] (.inr rfl) (RetV.one rfl (oT (t := 0) (r := .own 100)))

theorem ms_IsBuiltin_ok (N : Nat) (a0 : LU) {r : Bool} (h : ms_IsBuiltin N a0 = some r) :
    AC Tryz.prog (GS []) 193 [V.s a0] [] (V.b r) [] := by
 rw [ms_IsBuiltin] at h
 refine AC.enter Tryz.func193 rfl (cV 100 (bB h fun r3 hx3 h => (bB h fun r4 hx4 h => (CO.sw mix (wC (ms_l3Builtins_ok  hx3) cok236 [] [(100, 100)] [100] (wR 1 101 (W.lend (ms_l3Find_ok N r3 a0 hx4) cok235 [] [] (LayOk.cons (j := 100) eNS eNS r3 (by kernel_rfl) (fun _ => rfl) lO) (.c _) .nil (by kernel_rfl) (by kernel_rfl) (wR 2 101 ?_))))))))
 refine wF ?_
 cases h
 exact e1 2 id

theorem ms_NameOk_ok (N : Nat) (a0 : LU) {r : Bool} (h : ms_NameOk N a0 = some r) :
    AC Tryz.prog (GS []) 191 [V.s a0] [] (V.b r) [] := by
 rw [ms_NameOk] at h
 refine AC.enter Tryz.func191 rfl (cV 100 (bB h fun y4 hv6 h => ?_))
 refine CO.cutR (tl 15 [(2, V.b y4)]) [] mix (by
  refine wR 1 100 (bB hv6 fun r5 hx7 hv6 => (w0 (ms_NameShape_ok N a0 hx7) cok228 (wR 1 100 ?_)))
  refine wJ 5 hv6 (fun hv6 => ?_) (fun hv6 => ?_)
  ·refine wR 1 100 (bB hv6 fun r6 hx9 hv6 => (w0 (ms_KeywordOf_ok N a0 hx9) cok229 (wR 3 100 ?_)))
   refine wJ 10 hv6 (fun hv6 => ?_) (fun hv6 => ?_)
   ·refine wR 1 100 (bB hv6 fun r7 hx11 hv6 => (w0 (ms_IsBuiltin_ok N a0 hx11) cok193 (wR 3 100 ?_)))
    cases hv6
    exact fS [] [2]
   refine wR 5 100 ?_
   cases hv6
   exact fS [] [2]
  refine wR 10 100 ?_
  cases hv6
  exact fS [] [2]
  ) ?_
 cases h
 exact e1 2 id

theorem ms_l4Plain_ok (N : Nat) (a0 : LU) {r : Bool} (h : ms_l4Plain N a0 = some r) :
    AC Tryz.prog (GS []) 230 [V.s a0] [] (V.b r) [] := by
 rw [ms_l4Plain] at h
 refine AC.enter Tryz.func230 rfl (cV 100 (CO.seq' (cV 100 (CO.block' (CO.loopJ (fun (⟨a0, y19⟩ : (LU × Int)) => ⟨tl 14 [(0, V.s a0), (3, V.i y19)], []⟩) (fun n i => ms_l4Plain_l1 N n i = some r) (n0 := N) (i0 := (a0, 0)) (wS [] [0, 3]) h (fun i h => by simp [ms_l4Plain_l1] at h) ?_)))))
 rintro n1 ⟨a0, y19⟩ h43 ih44
 rw [ms_l4Plain_l1] at h43
 refine CO.seq' (cV 160 ?_)
 refine cI h43 (fun _ h43 => ?_) (fun _ h43 => ?_)
 ·refine CO.skip (CO.seq' (CO.block' (bB h43 fun b28 hx51 h43 => (CO.sw mix (wR 2 160 (W.ixS Dk hx51 (by kernel_rfl) (wR 1 160 (wF ?_))))))))
  refine cI h43 (fun _ h43 => ?_) (fun _ h43 => ?_)
  ·refine cV 160 ?_
   cases h43
   exact e1 2 id
  refine CO.skip ?_
  exact cK 160 ih44 (a0, (wr (y19 + 1))) h43 [] [0, 3]
 refine CO.exit (cV 160 ?_)
 cases h43
 exact e1 2 id

theorem ms_l4Byte_ok (a0 : LU) (a1 : Int) {r : Int} (h : ms_l4Byte a0 a1 = some r) :
    AC Tryz.prog (GS []) 261 [V.s a0, V.i a1] [] (V.i r) [] := by
 rw [ms_l4Byte] at h
 refine AC.enter Tryz.func261 rfl (cV 100 (CO.seq' (bB h fun y2 hv6 h => ?_)))
 refine CO.cutR (tl 17 [(0, V.s a0), (1, V.i a1), (12, V.b y2)]) [] mix (by
  refine wR 3 100 ?_
  refine wJ 7 hv6 (fun hv6 => ?_) (fun hv6 => ?_)
  ·refine wR 5 100 ?_
   cases hv6
   exact fS [] [0, 1, 12]
  refine wR 5 100 ?_
  cases hv6
  exact fS [] [0, 1, 12]
  ) ?_
 refine cI h (fun _ h => ?_) (fun _ h => ?_)
 ·refine cV 100 ?_
  cases h
  exact e1 4 id
 refine CO.skip (bB h fun b4 hx10 h => (CO.sw mix (wR 2 100 (W.ixS Dk hx10 (by kernel_rfl) (wR 2 100 (wF ?_))))))
 cases h
 exact e1 4 id

theorem ms_l4Digits_ok (N : Nat) (a0 : LU) (a1 : Int) {r : Int} (h : ms_l4Digits N a0 a1 = some r) :
    AC Tryz.prog (GS []) 260 [V.s a0, V.i a1] [] (V.i r) [] := by
 rw [ms_l4Digits] at h
 refine AC.enter Tryz.func260 rfl (cV 100 (CO.seq' (CO.block' (CO.loopJ (fun (⟨a0, a1⟩ : (LU × Int)) => ⟨tl 12 [(0, V.s a0), (1, V.i a1)], []⟩) (fun n i => ms_l4Digits_l1 N n i = some r) (n0 := N) (i0 := (a0, a1)) (wS [] [0, 1]) h (fun i h => by simp [ms_l4Digits_l1] at h) ?_))))
 rintro n1 ⟨a0, a1⟩ h33 ih34
 rw [ms_l4Digits_l1] at h33
 refine CO.seq' (bB h33 fun r33 hx42 h33 => (bB h33 fun r34 hx43 h33 => (CO.sw mix (wR 2 140 (w0 (ms_l4Byte_ok a0 a1 hx42) cok261 (w0 (ms_IsDigit_ok r33 hx43) cok287 (wF ?_)))))))
 refine cI h33 (fun _ h33 => ?_) (fun _ h33 => ?_)
 ·refine CO.skip (CO.block' ?_)
  exact cK 140 ih34 (a0, (wr (a1 + 1))) h33 [] [0, 1]
 refine CO.exit (cV 140 ?_)
 cases h33
 exact e1 4 id

theorem ms_NumEnd_ok (N : Nat) (a0 : LU) (a1 : Int) {r : Int} (h : ms_NumEnd N a0 a1 = some r) :
    AC Tryz.prog (GS []) 231 [V.s a0, V.i a1] [] (V.i r) [] := by
 rw [ms_NumEnd] at h
 refine AC.enter Tryz.func231 rfl (cV 100 (CO.seq' (cV 100 ?_)))
 refine cI h (fun _ h => ?_) (fun _ h => ?_)
 ·refine cV 100 ?_
  cases h
  exact e1 4 id
 refine CO.skip (bB h fun r2 hx4 h => (cC 2 100 (ms_l4Digits_ok N a0 a1 hx4) cok260 ?_))
 refine CO.join (fun (⟨a0, a1, y9⟩ : (LU × Int × Int)) => ⟨tl 67 [(0, V.s a0), (1, V.i a1), (5, V.i y9)], []⟩) (fun i => ms_NumEnd_k1 N i = some r) ?_ ?_
 · rintro ⟨a0, a1, y9⟩ h18
   rw [ms_NumEnd_k1] at h18
   refine CO.seq' (cV 100 ?_)
   refine cI h18 (fun _ h18 => ?_) (fun _ h18 => ?_)
   ·refine cV 100 ?_
    cases h18
    exact e1 4 id
   refine CO.skip ?_
   refine CO.join (fun (y9 : Int) => ⟨tl 67 [(5, V.i y9)], []⟩) (fun i => ms_NumEnd_k2 N i = some r) ?_ ?_
   · rintro y9 h52
     rw [ms_NumEnd_k2] at h52
     refine cV 100 ?_
     cases h52
     exact e1 4 id
   intro hk53
   refine bB h18 fun y32 hv57 h18 => ?_
   refine CO.cutR (tl 67 [(0, V.s a0), (5, V.i y9), (43, V.b y32)]) [] mix (by
    refine wR 2 100 (bB hv57 fun r33 hx58 hv57 => (w0 (ms_l4Byte_ok a0 y9 hx58) cok261 (wR 2 100 ?_)))
    refine wJ 38 hv57 (fun hv57 => ?_) (fun hv57 => ?_)
    ·refine wR 5 100 ?_
     cases hv57
     exact fS [] [0, 5, 43]
    refine wR 2 100 (bB hv57 fun r34 hx60 hv57 => (w0 (ms_l4Byte_ok a0 y9 hx60) cok261 (wR 2 100 ?_)))
    cases hv57
    exact fS [] [0, 5, 43]
    ) ?_
   refine cI h18 (fun _ h18 => ?_) (fun _ h18 => ?_)
   ·refine cV 100 ?_
    refine CO.join (fun (⟨a0, y9, y40⟩ : (LU × Int × Int)) => ⟨tl 67 [(0, V.s a0), (5, V.i y9), (7, V.i y40)], []⟩) (fun i => ms_NumEnd_k3 N i = some r) ?_ ?_
    · rintro ⟨a0, y9, y40⟩ h70
      rw [ms_NumEnd_k3] at h70
      refine bB h70 fun r42 hx72 h70 => (cC 2 100 (ms_l4Digits_ok N a0 y40 hx72) cok260 ?_)
      refine cI h70 (fun _ h70 => ?_) (fun _ h70 => ?_)
      ·refine bB h70 fun r44 hx75 h70 => (cC 2 100 (ms_l4Digits_ok N a0 y40 hx75) cok260 ?_)
       cases h70
       exact e1 4 id
      exact sK hk53 y9 h70 [] [5]
    intro hk76
    refine bB h18 fun y47 hv80 h18 => ?_
    refine CO.cutR (tl 67 [(0, V.s a0), (5, V.i y9), (7, V.i (wr (y9 + 1))), (55, V.b y47)]) [] mix (by
     refine wR 2 100 (bB hv80 fun r48 hx81 hv80 => (w0 (ms_l4Byte_ok a0 (wr (y9 + 1)) hx81) cok261 (wR 2 100 ?_)))
     refine wJ 50 hv80 (fun hv80 => ?_) (fun hv80 => ?_)
     ·refine wR 5 100 ?_
      cases hv80
      exact fS [] [0, 5, 7, 55]
     refine wR 2 100 (bB hv80 fun r49 hx83 hv80 => (w0 (ms_l4Byte_ok a0 (wr (y9 + 1)) hx83) cok261 (wR 2 100 ?_)))
     cases hv80
     exact fS [] [0, 5, 7, 55]
     ) ?_
    refine cI h18 (fun _ h18 => ?_) (fun _ h18 => ?_)
    ·exact cK 100 hk76 (a0, y9, (wr ((wr (y9 + 1)) + 1))) h18 [] [0, 5, 7]
    exact sK hk76 (a0, y9, (wr (y9 + 1))) h18 [] [0, 5, 7]
   exact sK hk53 y9 h18 [] [5]
 intro hk85
 refine bB h fun r51 hx87 h => (cC 2 100 (ms_l4Byte_ok a0 r2 hx87) cok261 ?_)
 refine cI h (fun _ h => ?_) (fun _ h => ?_)
 ·refine bB h fun r53 hx90 h => (cC 3 100 (ms_l4Digits_ok N a0 (wr (r2 + 1)) hx90) cok260 (CO.seq' (bB h fun y55 hv96 h => ?_)))
  refine CO.cutR (tl 67 [(0, V.s a0), (1, V.i a1), (6, V.i r53), (29, V.b y55)]) [] mix (by
   refine wR 4 100 ?_
   refine wJ 24 hv96 (fun hv96 => ?_) (fun hv96 => ?_)
   ·refine wR 5 100 ?_
    cases hv96
    exact fS [] [0, 1, 6, 29]
   refine wR 5 100 ?_
   cases hv96
   exact fS [] [0, 1, 6, 29]
   ) ?_
  refine cI h (fun _ h => ?_) (fun _ h => ?_)
  ·refine cV 100 ?_
   cases h
   exact e1 4 id
  refine CO.skip ?_
  exact cK 100 hk85 (a0, a1, r53) h [] [0, 1, 5]
 exact sK hk85 (a0, a1, r2) h [] [0, 1, 5]

theorem ms_l4Quoted_ok (N : Nat) (a0 : LU) (a1 : Int) (a2 : Int) {r : Int} (h : ms_l4Quoted N a0 a1 a2 = some r) :
    AC Tryz.prog (GS []) 262 [V.s a0, V.i a1, V.i a2] [] (V.i r) [] := by
 rw [ms_l4Quoted] at h
 refine AC.enter Tryz.func262 rfl (cV 100 (CO.seq' (bB h fun r4 hx5 h => (cC 2 100 (ms_l4Byte_ok a0 a1 hx5) cok261 ?_))))
 refine cI h (fun _ h => ?_) (fun _ h => ?_)
 ·refine cV 100 ?_
  cases h
  exact e1 6 id
 refine CO.skip (CO.seq' (cV 100 (CO.block' (CO.loopJ (fun (⟨a0, a2, y43⟩ : (LU × Int × Int)) => ⟨tl 40 [(0, V.s a0), (2, V.i a2), (7, V.i y43)], []⟩) (fun n i => ms_l4Quoted_l1 N n i = some r) (n0 := N) (i0 := (a0, a2, (wr (a1 + 1)))) (wS [] [0, 2, 7]) h (fun i h => by simp [ms_l4Quoted_l1] at h) ?_))))
 rintro n1 ⟨a0, a2, y43⟩ h109 ih110
 rw [ms_l4Quoted_l1] at h109
 refine CO.seq' (cV 160 ?_)
 refine cI h109 (fun _ h109 => ?_) (fun _ h109 => ?_)
 ·refine CO.skip ?_
  refine CO.join (fun (⟨a0, a2, y58⟩ : (LU × Int × Int)) => ⟨tl 40 [(0, V.s a0), (2, V.i a2), (7, V.i y58)], []⟩) (fun i => ms_l4Quoted_k2 N (ms_l4Quoted_l1 N n1) i = some r) ?_ ?_
  · rintro ⟨a0, a2, y58⟩ h121
    rw [ms_l4Quoted_k2] at h121
    exact cK 160 ih110 (a0, a2, (wr (y58 + 1))) h121 [] [0, 2, 7]
  intro hk122
  refine CO.block' (bB h109 fun b60 hx124 h109 => (CO.sw mix (wR 2 160 (W.ixS Dk hx124 (by kernel_rfl) (wR 1 160 (wF (CO.block' (cV 160 ?_))))))))
  refine cI h109 (fun _ h109 => ?_) (fun _ h109 => ?_)
  ·refine cV 160 ?_
   cases h109
   exact e1 6 id
  refine cV 160 ?_
  refine cI h109 (fun _ h109 => ?_) (fun _ h109 => ?_)
  ·refine cV 160 ?_
   cases h109
   exact e1 6 id
  refine cV 160 ?_
  refine cI h109 (fun _ h109 => ?_) (fun _ h109 => ?_)
  ·refine cV 160 (bB h109 fun r62 hx129 h109 => (cC 2 160 (ms_l4Byte_ok a0 (wr (y43 + 1)) hx129) cok261 ?_))
   refine cI h109 (fun _ h109 => ?_) (fun _ h109 => ?_)
   ·refine cV 160 ?_
    cases h109
    exact e1 6 id
   exact sK hk122 (a0, a2, (wr (y43 + 1))) h109 [] [0, 2, 7]
  exact sK hk122 (a0, a2, y43) h109 [] [0, 2, 7]
 refine CO.exit (cV 160 ?_)
 cases h109
 exact e1 6 id

theorem ms_StrEnd_ok (N : Nat) (a0 : LU) (a1 : Int) {r : Int} (h : ms_StrEnd N a0 a1 = some r) :
    AC Tryz.prog (GS []) 232 [V.s a0, V.i a1] [] (V.i r) [] := by
 rw [ms_StrEnd] at h
 refine AC.enter Tryz.func232 rfl (cV 100 (bB h fun r2 hx2 h => (cC 2 100 (ms_l4Quoted_ok N a0 a1 34 hx2) cok262 ?_)))
 cases h
 exact e1 4 id

theorem ms_EreEnd_ok (N : Nat) (a0 : LU) (a1 : Int) {r : Int} (h : ms_EreEnd N a0 a1 = some r) :
    AC Tryz.prog (GS []) 233 [V.s a0, V.i a1] [] (V.i r) [] := by
 rw [ms_EreEnd] at h
 refine AC.enter Tryz.func233 rfl (cV 100 (bB h fun r2 hx2 h => (cC 2 100 (ms_l4Quoted_ok N a0 a1 47 hx2) cok262 (CO.seq' (cV 100 ?_)))))
 refine cI h (fun _ h => ?_) (fun _ h => ?_)
 ·refine cV 100 ?_
  cases h
  exact e1 4 id
 refine CO.skip (cV 100 ?_)
 cases h
 exact e1 4 id

theorem ms_l3Signs_ok {r : LLU} (h : ms_l3Signs = some r) :
    AC Tryz.prog (GS []) 263 [] [] (.own 100) [(100, vN r)] := by
 rw [ms_l3Signs] at h
 refine AC.enter Tryz.func263 rfl (cV 100 (cV 100 (CO.ret ?_)))
 cases h
 exact eG [(100, 100)] (.inr rfl) (RetV.one rfl (oT (t := 0) (r := .own 100)))

theorem ms_SpellOf_ok (a0 : Int) {r : LU} (h : ms_SpellOf a0 = some r) :
    AC Tryz.prog (GS []) 234 [V.i a0] [] (V.s r) [] := by
 rw [ms_SpellOf] at h
 refine AC.enter Tryz.func234 rfl (cV 100 (CO.seq' (CO.block' (cV 100 ?_))))
 refine cI h (fun _ h => ?_) (fun _ h => ?_)
 ·refine cV 100 ?_
  cases h
  exact e1 2 id
 refine bB h fun r14 hx18 h => (cC 1 100 (ms_l1In_ok a0 10 26 hx18) cok77 ?_)
 refine cI h (fun _ h => ?_) (fun _ h => ?_)
 ·refine bB h fun r17 hx22 h => (bB h fun e18 hx23 h => (CO.sw mix (wC (ms_l3Words_ok  hx22) cok259 [] [(100, 100)] [100] (wR 2 101 (W.ixO Dk eNS hx23 100 1 (by kernel_rfl) (W.ldO Dk eNS hx23 9 100 0 (V.s e18) (by kernel_rfl) (by kernel_rfl) (wR 1 101 (wF ?_))))))))
  cases h
  exact e1 2 id
 refine bB h fun r20 hx25 h => (cC 1 100 (ms_l1In_ok a0 30 68 hx25) cok77 ?_)
 refine cI h (fun _ h => ?_) (fun _ h => ?_)
 ·refine bB h fun r23 hx29 h => (bB h fun e24 hx30 h => (CO.sw mix (wC (ms_l3Signs_ok  hx29) cok263 [] [(100, 100)] [100] (wR 2 101 (W.ixO Dk eNS hx30 100 1 (by kernel_rfl) (W.ldO Dk eNS hx30 9 100 0 (V.s e24) (by kernel_rfl) (by kernel_rfl) (wR 1 101 (wF ?_))))))))
  cases h
  exact e1 2 id
 refine CO.skip (cV 100 ?_)
 cases h
 exact e1 2 id

end Go.Proofs.Tryz
