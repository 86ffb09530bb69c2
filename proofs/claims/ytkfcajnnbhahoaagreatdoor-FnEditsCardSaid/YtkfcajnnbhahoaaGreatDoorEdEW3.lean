/-
 The walks that show that the code computes the models, part 3.
-/
import Derived.Test.YtkfcajnnbhahoaaGreatDoorEdEW2
import Derived.Shelf.Spec.SlicesInsertGrow
import Derived.Laws.CopyRow
namespace Go.Proofs.Tryz
open Go.Av
set_option maxRecDepth 100000
set_option maxHeartbeats 8000000
set_option linter.unusedSimpArgs false
set_option linter.unusedVariables false

open Go.Lib Go.RowKit
theorem mi_kidOk_ok (a0 : SNode) (a1 : Int) (a2 : Int) {r : Bool} (h : mi_kidOk a0 a1 a2 = some r) :
    AC Tryz.prog (GS []) 125 [.agg [V.i a0.Kind, V.i a0.Op, V.s a0.Text, V.s a0.Other, sL eNI a0.Kids], V.i a1, V.i a2] [] (V.b r) [] := by
 rw [mi_kidOk] at h
 refine AC.enter Tryz.func125 rfl (cV 100 (CO.sw mix (wR 3 101 (wN eNI a0.Kids [] (wR 3 101 (wF (cV 101 ?_)))))))
 refine CO.join (fun (⟨a2, y22⟩ : (Int × Bool)) => ⟨tl 99 [(2, V.i a2), (8, V.b y22)], []⟩) (fun i => mi_kidOk_k1 i = some r) ?_ ?_
 · rintro ⟨a2, y22⟩ h66
   rw [mi_kidOk_k1] at h66
   refine CO.seq' (cV 101 ?_)
   refine cI h66 (fun _ h66 => ?_) (fun _ h66 => ?_)
   ·refine cV 101 ?_
    cases h66
    exact e1 6 id
   refine CO.skip (bB h66 fun r24 hx70 h66 => (cC 1 101 (mi_IsExpr_ok a2 hx70) cok122 ?_))
   cases h66
   exact e1 6 id
 intro hk71
 refine cV 101 (CO.block' ?_)
 refine CO.join (fun (⟨a1, a2, a0, y25⟩ : (Int × Int × SNode × Bool)) => ⟨tl 99 [(1, V.i a1), (2, V.i a2), (3, .loc 100 0), (7, V.b (a1 == (wr ((a0.Kids.length : Int) - 1)))), (8, V.b false), (16, V.i a0.Kind), (17, V.b y25)], [(100, .cells 37 [V.i a0.Kind, V.i a0.Op, V.s a0.Text, V.s a0.Other, sL eNI a0.Kids])]⟩) (fun i => mi_kidOk_k2 i = some r) ?_ ?_
 · rintro ⟨a1, a2, a0, y25⟩ h73
   rw [mi_kidOk_k2] at h73
   refine cI h73 (fun _ h73 => ?_) (fun _ h73 => ?_)
   ·refine bB h73 fun r27 hx76 h73 => (cC 1 101 (mi_IsLvalue_ok a2 hx76) cok187 ?_)
    cases h73
    exact e1 6 id
   refine cV 101 ?_
   refine cI h73 (fun _ h73 => ?_) (fun _ h73 => ?_)
   ·refine bB h73 fun y31 hv85 h73 => ?_
    refine CO.cutR (tl 99 [(6, V.b y31)]) [] mix (by
     refine wR 3 101 ?_
     refine wJ 26 hv85 (fun hv85 => ?_) (fun hv85 => ?_)
     ·refine wR 1 101 (bB hv85 fun r32 hx87 hv85 => (w0 (mi_IsLvalue_ok a2 hx87) cok187 (wR 2 101 ?_)))
      refine wJ 30 hv85 (fun hv85 => ?_) (fun hv85 => ?_)
      ·refine wR 8 101 ?_
       cases hv85
       exact fS [] [6]
      refine wR 3 101 ?_
      refine wJ 33 hv85 (fun hv85 => ?_) (fun hv85 => ?_)
      ·refine wR 1 101 (bB hv85 fun r33 hx90 hv85 => (w0 (mi_IsExpr_ok a2 hx90) cok122 (wR 3 101 ?_)))
       cases hv85
       exact fS [] [6]
      refine wR 5 101 ?_
      cases hv85
      exact fS [] [6]
     refine wR 7 101 ?_
     refine wJ 33 hv85 (fun hv85 => ?_) (fun hv85 => ?_)
     ·refine wR 1 101 (bB hv85 fun r34 hx92 hv85 => (w0 (mi_IsExpr_ok a2 hx92) cok122 (wR 3 101 ?_)))
      cases hv85
      exact fS [] [6]
     refine wR 5 101 ?_
     cases hv85
     exact fS [] [6]
     ) ?_
    cases h73
    exact e1 6 id
   refine CO.join (fun (⟨a1, a2, a0, y35⟩ : (Int × Int × SNode × Bool)) => ⟨tl 99 [(1, V.i a1), (2, V.i a2), (3, .loc 100 0), (7, V.b (a1 == (wr ((a0.Kids.length : Int) - 1)))), (8, V.b false), (16, V.i a0.Kind), (38, V.b y35)], [(100, .cells 37 [V.i a0.Kind, V.i a0.Op, V.s a0.Text, V.s a0.Other, sL eNI a0.Kids])]⟩) (fun i => mi_kidOk_k3 i = some r) ?_ ?_
   · rintro ⟨a1, a2, a0, y35⟩ h94
     rw [mi_kidOk_k3] at h94
     refine cI h94 (fun _ h94 => ?_) (fun _ h94 => ?_)
     ·exact cK 101 hk71 (a2, (decide (a1 > 0))) h94 [] [2, 8]
     refine cV 101 ?_
     refine cI h94 (fun _ h94 => ?_) (fun _ h94 => ?_)
     ·refine CO.seq' (bB h94 fun y37 hv102 h94 => ?_)
      refine CO.cutR (tl 99 [(2, V.i a2), (7, V.b (a1 == (wr ((a0.Kids.length : Int) - 1)))), (50, V.b y37)]) [] mix (by
       refine wR 3 101 ?_
       refine wJ 47 hv102 (fun hv102 => ?_) (fun hv102 => ?_)
       ·refine wR 3 101 ?_
        cases hv102
        exact fS [] [2, 7, 50]
       refine wR 3 101 ?_
       cases hv102
       exact fS [] [2, 7, 50]
       ) ?_
      refine cI h94 (fun _ h94 => ?_) (fun _ h94 => ?_)
      ·refine cV 101 ?_
       cases h94
       exact e1 6 id
      refine CO.skip ?_
      exact cK 101 hk71 (a2, (a1 == (wr ((a0.Kids.length : Int) - 1)))) h94 [] [2, 8]
     refine cV 101 ?_
     refine cI h94 (fun _ h94 => ?_) (fun _ h94 => ?_)
     ·exact cK 101 hk71 (a2, (a1 == 0)) h94 [] [2, 8]
     refine CO.join (fun (⟨a2, a1, a0, y38⟩ : (Int × Int × SNode × Bool)) => ⟨tl 99 [(2, V.i a2), (3, .loc 100 0), (7, V.b (a1 == (wr ((a0.Kids.length : Int) - 1)))), (8, V.b false), (16, V.i a0.Kind), (56, V.b y38)], [(100, .cells 37 [V.i a0.Kind, V.i a0.Op, V.s a0.Text, V.s a0.Other, sL eNI a0.Kids])]⟩) (fun i => mi_kidOk_k4 i = some r) ?_ ?_
     · rintro ⟨a2, a1, a0, y38⟩ h108
       rw [mi_kidOk_k4] at h108
       refine cI h108 (fun _ h108 => ?_) (fun _ h108 => ?_)
       ·exact cK 101 hk71 (a2, true) h108 [] [2, 8]
       refine cV 101 ?_
       refine cI h108 (fun _ h108 => ?_) (fun _ h108 => ?_)
       ·refine bB h108 fun r40 hx112 h108 => (cC 1 101 (mi_IsStmt_ok a2 hx112) cok184 ?_)
        cases h108
        exact e1 6 id
       refine cV 101 ?_
       refine cI h108 (fun _ h108 => ?_) (fun _ h108 => ?_)
       ·refine bB h108 fun y41 hv115 h108 => ?_
        refine CO.endR (tl 99 [(2, V.i a2), (8, V.b y41)]) [] mix (by
         refine wR 2 101 ?_
         refine wJ 67 hv115 (fun hv115 => ?_) (fun hv115 => ?_)
         ·refine wR 5 101 ?_
          cases hv115
          exact fS [] [2, 8]
         refine wR 5 101 ?_
         cases hv115
         exact fS [] [2, 8]
         ) (fun st hw => ?_)
        exact hk71 (a2, y41) h108 _ (hw.trans (wS [] [2, 8]))
       refine cV 101 ?_
       refine cI h108 (fun _ h108 => ?_) (fun _ h108 => ?_)
       ·refine bB h108 fun y42 hv119 h108 => ?_
        refine CO.endR (tl 99 [(2, V.i a2), (8, V.b y42)]) [] mix (by
         refine wR 2 101 ?_
         refine wJ 75 hv119 (fun hv119 => ?_) (fun hv119 => ?_)
         ·refine wR 5 101 ?_
          cases hv119
          exact fS [] [2, 8]
         refine wR 5 101 ?_
         cases hv119
         exact fS [] [2, 8]
         ) (fun st hw => ?_)
        exact hk71 (a2, y42) h108 _ (hw.trans (wS [] [2, 8]))
       refine cV 101 ?_
       refine cI h108 (fun _ h108 => ?_) (fun _ h108 => ?_)
       ·refine CO.seq' (cV 101 ?_)
        refine cI h108 (fun _ h108 => ?_) (fun _ h108 => ?_)
        ·refine cV 101 ?_
         cases h108
         exact e1 6 id
        refine CO.skip ?_
        exact cK 101 hk71 (a2, true) h108 [] [2, 8]
       refine cV 101 ?_
       refine cI h108 (fun _ h108 => ?_) (fun _ h108 => ?_)
       ·refine bB h108 fun y44 hv127 h108 => ?_
        refine CO.cutR (tl 99 [(6, V.b y44)]) [] mix (by
         refine wR 1 101 (bB hv127 fun r45 hx128 hv127 => (w0 (mi_isItem_ok a2 hx128) cok188 (wR 1 101 ?_)))
         refine wJ 90 hv127 (fun hv127 => ?_) (fun hv127 => ?_)
         ·refine wR 4 101 ?_
          cases hv127
          exact fS [] [6]
         refine wR 4 101 ?_
         cases hv127
         exact fS [] [6]
         ) ?_
        cases h108
        exact e1 6 id
       exact sK hk71 (a2, false) h108 [] [2, 8]
     intro hk130
     refine cV 101 ?_
     refine cI h94 (fun _ h94 => ?_) (fun _ h94 => ?_)
     ·exact sK hk130 (a2, a1, a0, (a0.Kind == 32)) h94 [(100, 100)] [2, 3, 7, 8, 16, 56]
     refine cV 101 ?_
     refine cI h94 (fun _ h94 => ?_) (fun _ h94 => ?_)
     ·exact sK hk130 (a2, a1, a0, (a0.Kind == 40)) h94 [(100, 100)] [2, 3, 7, 8, 16, 56]
     exact cK 101 hk130 (a2, a1, a0, (a0.Kind == 41)) h94 [(100, 100)] [2, 3, 7, 8, 16, 56]
   intro hk133
   refine cV 101 ?_
   refine cI h73 (fun _ h73 => ?_) (fun _ h73 => ?_)
   ·exact sK hk133 (a1, a2, a0, (a0.Kind == 28)) h73 [(100, 100)] [1, 2, 3, 7, 8, 16, 38]
   exact cK 101 hk133 (a1, a2, a0, (a0.Kind == 29)) h73 [(100, 100)] [1, 2, 3, 7, 8, 16, 38]
 intro hk135
 refine cV 101 ?_
 refine cI h (fun _ h => ?_) (fun _ h => ?_)
 ·exact sK hk135 (a1, a2, a0, (a0.Kind == 9)) h [(100, 100)] [1, 2, 3, 7, 8, 16, 17]
 exact cK 101 hk135 (a1, a2, a0, (a0.Kind == 10)) h [(100, 100)] [1, 2, 3, 7, 8, 16, 17]

structure RecOk3 (R : Rec3) : Prop where
 mi_treeAt : ∀ (a0 : LN) (a1 : Int) (r : STree), R.mi_treeAt a0 a1 = some r → AC Tryz.prog (GS []) 123 [.sl false false (a0.map (eSN false)), V.i a1] [] (.agg [V.i r.kind, V.i r.op, V.s r.text, V.s r.other, sL eST r.kids]) []

theorem mi_treeAt_F_ok (N : Nat) (R : Rec3) (HR : RecOk3 R) (a0 : LN) (a1 : Int) {r : STree} (h : mi_treeAt_F N R a0 a1 = some r) :
    AC Tryz.prog (GS []) 123 [.sl false false (a0.map (eSN false)), V.i a1] [] (.agg [V.i r.kind, V.i r.op, V.s r.text, V.s r.other, sL eST r.kids]) [] := by
 rw [mi_treeAt_F] at h
 refine AC.enter Tryz.func123 rfl (cV 100 (bB h fun e2 hx2 h => (CO.sw mix (wR 2 101 (wX (eSN false) hx2 5 (wR 3 101 (wF (cV 102 ?_))))))))
 refine CO.seq' (CO.sw mix (wR 2 103 (wN eNI e2.Kids [] (wR 1 103 (wF (CO.block' (CO.loopJ (fun (⟨a0, e2, y63, y64⟩ : (LN × SNode × Int × LS)) => ⟨tl 39 [(0, .sl false false (a0.map (eSN false))), (4, .loc 100 0), (6, .loc 101 0), (23, sL eNI e2.Kids), (24, V.i (e2.Kids.length : Int)), (25, V.i y63)], [(100, .cells 88 [V.i 0, V.i 0, V.s [], V.s [], .c (.slice none 0 0)]), (101, .cells 88 [V.i e2.Kind, V.i e2.Op, V.s e2.Text, V.s e2.Other, .own 102]), (102, vX 88 5 eST y64)]⟩) (fun n i => mi_treeAt_l1 N R n i = some r) (n0 := N) (i0 := (a0, e2, 0, [])) ((Weak.nilCell 102 4 103 88 5 (ety := 88) (cs := [V.i e2.Kind, V.i e2.Op, V.s e2.Text, V.s e2.Other, .c (.slice none 0 0)]) (by kernel_rfl) (by kernel_rfl) (by kernel_rfl)).trans (wS [(100, 100), (102, 101), (103, 102)] [0, 4, 6, 23, 24, 25])) h (fun i h => by simp [mi_treeAt_l1] at h) ?_)))))))
 rintro n1 ⟨a0, e2, y63, y64⟩ h83 ih84
 rw [mi_treeAt_l1] at h83
 refine cV 168 (CO.seq' ?_)
 refine cI h83 (fun _ h83 => ?_) (fun _ h83 => ?_)
 ·refine CO.skip (CO.seq' (CO.block' (bB h83 fun e86 hx94 h83 => (CO.sw mix (wX eNI hx94 1 (wR 2 168 (wF (bB h83 fun r89 hx97 h83 => ?_))))))))
  refine bB h83 fun x90 hx98 h83 => ?_
  refine CO.endR (tl 39 [(0, .sl false false (a0.map (eSN false))), (4, .loc 100 0), (6, .loc 101 0), (23, sL eNI e2.Kids), (24, V.i (e2.Kids.length : Int)), (25, V.i y63)]) [(101, .cells 88 [V.i e2.Kind, V.i e2.Op, V.s e2.Text, V.s e2.Other, .own 169]), (169, vX 88 5 eST x90), (100, .cells 88 [V.i 0, V.i 0, V.s [], V.s [], .c (.slice none 0 0)])] mix (by
   refine wR 4 168 (w0 (HR.mi_treeAt a0 e86 _ hx97) cok123 (W.layop Dk lO (by kernel_rfl) 168 { v := .own 168, R := [], new := [(168, .vec true 88 5 [[V.i r89.kind, V.i r89.op, V.s r89.text, V.s r89.other, sL eST r89.kids]])], N := [168] } (by kernel_rfl) (W.vecEq 168 (nn := true) (e := 88) (k := 5) (rows := [[V.i r89.kind, V.i r89.op, V.s r89.text, V.s r89.other, sL eST r89.kids]]) (rows' := [r89].map eST) (by kernel_rfl) (by simp only [List.map_cons, List.map_nil, encSTree_eq]) (W.appO Dk eST (a := 102) (c := 168) (el := 88) (sz := 5) 72 hx98 rfl 169 (by kernel_rfl) (wR 2 170 ?_)))))
   exact fI
   ) (fun st hw => ?_)
  refine CO.weak hw ?_
  exact cK 170 ih84 (a0, e2, (wr (y63 + 1)), x90) h83 [(100, 100), (101, 101), (169, 102)] [0, 4, 6, 23, 24, 25]
 refine CO.exit (cU 2 168 (tl 39 [(4, .loc 100 0)]) [(100, .cells 88 [V.i e2.Kind, V.i e2.Op, V.s e2.Text, V.s e2.Other, .own 102]), (102, vX 88 5 eST y64)] (CO.lay (tl 39 [(4, .loc 100 0)]) [(100, .cells 88 [V.i e2.Kind, V.i e2.Op, V.s e2.Text, V.s e2.Other, sL eST y64])] (LayOk.cons (j := 102) eST eST y64 (by kernel_rfl) (share_encSTree) lO) (by kernel_rfl) (by kernel_rfl) (by kernel_rfl) (CO.ret ?_)))
 have h83 := sI h83
 subst h83
 exact eG [] (.inr rfl) (RetV.one rfl (OneR.cell Dk (r := .agg [V.i e2.Kind, V.i e2.Op, V.s e2.Text, V.s e2.Other, sL eST y64]) (i := 100) (ety := 88) (cs := [V.i e2.Kind, V.i e2.Op, V.s e2.Text, V.s e2.Other, sL eST y64]) (by kernel_rfl) (by kernel_rfl) (by kernel_rfl)))

theorem scc3_ok : ∀ N, RecOk3 (scc3 N)
 | 0 => ⟨fun _ _ _ h => (by cases h)⟩
 | N + 1 => ⟨fun a0 a1 _ h => mi_treeAt_F_ok N (scc3 N) (scc3_ok N) a0 a1 h⟩

theorem mi_treeAt_ok (N : Nat) (a0 : LN) (a1 : Int) {r : STree} (h : mi_treeAt N a0 a1 = some r) :
  AC Tryz.prog (GS []) 123 [.sl false false (a0.map (eSN false)), V.i a1] [] (.agg [V.i r.kind, V.i r.op, V.s r.text, V.s r.other, sL eST r.kids]) [] :=
 (scc3_ok N).mi_treeAt a0 a1 r h

theorem mi_rootOf_ok (N : Nat) (a0 : LN) {r : STree} (h : mi_rootOf N a0 = some r) :
    AC Tryz.prog (GS []) 76 [.sl false false (a0.map (eSN false))] [] (.agg [V.i r.kind, V.i r.op, V.s r.text, V.s r.other, sL eST r.kids]) [] := by
 rw [mi_rootOf] at h
 refine AC.enter Tryz.func76 rfl (cV 100 (bB h fun r2 hx2 h => (CO.sw mix (wR 2 101 (wN (eSN false) a0 [] (wR 1 101 (w0 (mi_treeAt_ok N a0 (wr ((a0.length : Int) - 1)) hx2) cok123 (wR 1 101 ?_))))))))
 refine wF (CO.ret ?_)
 have h := sI h
 subst h
 exact eG [] (.inr rfl) (RetV.one rfl (OneR.cell Dk (r := .agg [V.i r2.kind, V.i r2.op, V.s r2.text, V.s r2.other, sL eST r2.kids]) (i := 100) (ety := 88) (cs := [V.i r2.kind, V.i r2.op, V.s r2.text, V.s r2.other, sL eST r2.kids]) (by kernel_rfl) (by kernel_rfl) (by kernel_rfl)))

structure RecOk4 (R : Rec4) : Prop where
 mi_tree__depth : ∀ (a0 : STree) (r : Int), R.mi_tree__depth a0 = some r → AC Tryz.prog (GS []) 126 [.agg [V.i a0.kind, V.i a0.op, V.s a0.text, V.s a0.other, sL eST a0.kids]] [] (V.i r) []

theorem mi_tree__depth_F_ok (N : Nat) (R : Rec4) (HR : RecOk4 R) (a0 : STree) {r : Int} (h : mi_tree__depth_F N R a0 = some r) :
    AC Tryz.prog (GS []) 126 [.agg [V.i a0.kind, V.i a0.op, V.s a0.text, V.s a0.other, sL eST a0.kids]] [] (V.i r) [] := by
 rw [mi_tree__depth_F] at h
 refine AC.enter Tryz.func126 rfl (cV 100 (cV 101 (CO.seq' (CO.sw mix (wR 2 101 (wN eST a0.kids [] (wR 1 101 (wF ?_))))))))
 refine CO.block' (CO.loopJ (fun (⟨a0, y37, y38⟩ : (STree × Int × Int)) => ⟨tl 20 [(3, V.i y37), (7, sL eST a0.kids), (8, V.i (a0.kids.length : Int)), (9, V.i y38)], []⟩) (fun n i => mi_tree__depth_l1 N R n i = some r) (n0 := N) (i0 := (a0, 0, 0)) (wS [] [3, 7, 8, 9]) h (fun i h => by simp [mi_tree__depth_l1] at h) ?_)
 rintro n1 ⟨a0, y37, y38⟩ h53 ih54
 rw [mi_tree__depth_l1] at h53
 refine cV 163 (CO.seq' ?_)
 refine cI h53 (fun _ h53 => ?_) (fun _ h53 => ?_)
 ·refine CO.skip (CO.seq' (CO.block' (bB h53 fun e54 hx62 h53 => (CO.sw mix (W.ixDr Dk eST hx62 5 (by kernel_rfl) (encSTree_eq e54) (by kernel_rfl) (wR 3 163 (wF (bB h53 fun r56 hx64 h53 => ?_))))))))
  refine CO.endR (tl 20 [(3, V.i (if r56 > y37 then r56 else y37)), (7, sL eST a0.kids), (8, V.i (a0.kids.length : Int)), (9, V.i y38)]) [] mix (by
   refine wR 2 164 (w0 (HR.mi_tree__depth e54 _ hx64) cok126 (wR 2 164 ?_))
   exact fI
   ) (fun st hw => ?_)
  refine CO.weak hw ?_
  exact cK 164 ih54 (a0, (if r56 > y37 then r56 else y37), (wr (y38 + 1))) h53 [] [3, 7, 8, 9]
 refine CO.exit (cV 163 ?_)
 cases h53
 exact e1 2 id

theorem scc4_ok : ∀ N, RecOk4 (scc4 N)
 | 0 => ⟨fun _ _ h => (by cases h)⟩
 | N + 1 => ⟨fun a0 _ h => mi_tree__depth_F_ok N (scc4 N) (scc4_ok N) a0 h⟩

theorem mi_tree__depth_ok (N : Nat) (a0 : STree) {r : Int} (h : mi_tree__depth N a0 = some r) :
  AC Tryz.prog (GS []) 126 [.agg [V.i a0.kind, V.i a0.op, V.s a0.text, V.s a0.other, sL eST a0.kids]] [] (V.i r) [] :=
 (scc4_ok N).mi_tree__depth a0 r h

theorem mi_TreeOk_ok (N : Nat) (a0 : LN) {r : Bool} (h : mi_TreeOk N a0 = some r) :
    AC Tryz.prog (GS [0, 1, 2]) 51 [.sl false false (a0.map (eSN false))] [] (V.b r) [] := by
 rw [mi_TreeOk] at h
 refine AC.enter Tryz.func51 rfl (cV 100 (CO.seq' (bB h fun r4 hx5 h => (cC 1 100 (AC.gs (mi_ShapeOk_ok N a0 hx5) (by decide)) cok114 ?_))))
 refine cI h (fun _ h => ?_) (fun _ h => ?_)
 ·refine cV 100 ?_
  cases h
  exact e1 2 id
 refine CO.skip (CO.seq' (CO.sw mix (wR 1 100 (wN (eSN false) a0 [] (wR 1 100 (wF (CO.block' (CO.loopJ (fun (⟨a0, y359⟩ : (LN × Int)) => ⟨tl 42 [(0, .sl false false (a0.map (eSN false))), (10, .sl false false (a0.map (eSN false))), (11, V.i (a0.length : Int)), (12, V.i y359)], []⟩) (fun n i => mi_TreeOk_l1 N n i = some r) (n0 := N) (i0 := (a0, 0)) (wS [] [0, 10, 11, 12]) h (fun i h => by simp [mi_TreeOk_l1] at h) ?_))))))))
 rintro n1 ⟨a0, y359⟩ h599 ih600
 rw [mi_TreeOk_l1] at h599
 refine cV 282 (CO.seq' ?_)
 refine cI h599 (fun _ h599 => ?_) (fun _ h599 => ?_)
 ·refine CO.skip (CO.seq' (CO.block' (bB h599 fun e494 hx662 h599 => (CO.sw mix (wX (eSN false) hx662 5 (wR 3 282 (wF (CO.seq' ?_))))))))
  refine bB h599 fun r498 hx667 h599 => (cC 1 283 (mi_FieldsOk_ok N e494 hx667) cok124 ?_)
  refine cI h599 (fun _ h599 => ?_) (fun _ h599 => ?_)
  ·refine cV 283 ?_
   cases h599
   exact e1 2 id
  refine CO.skip (CO.sw mix (wR 2 283 (wN eNI e494.Kids [] (wR 1 283 (wF (CO.block' (CO.loopJ (fun (⟨a0, y359, e494, y511⟩ : (LN × Int × SNode × Int)) => ⟨tl 42 [(0, .sl false false (a0.map (eSN false))), (4, .loc 100 0), (10, .sl false false (a0.map (eSN false))), (11, V.i (a0.length : Int)), (12, V.i y359), (20, sL eNI e494.Kids), (21, V.i (e494.Kids.length : Int)), (22, V.i y511)], [(100, .cells 37 [V.i e494.Kind, V.i e494.Op, V.s e494.Text, V.s e494.Other, sL eNI e494.Kids])]⟩) (fun n i => mi_TreeOk_l2 N (mi_TreeOk_l1 N n1) n i = some r) (n0 := N) (i0 := (a0, y359, e494, 0)) (wS [(282, 100)] [0, 4, 10, 11, 12, 20, 21, 22]) h599 (fun i h => by simp [mi_TreeOk_l2] at h) ?_)))))))
  rintro n2 ⟨a0, y359, e494, y511⟩ h701 ih702
  rw [mi_TreeOk_l2] at h701
  refine cV 343 (CO.seq' ?_)
  refine cI h701 (fun _ h701 => ?_) (fun _ h701 => ?_)
  ·refine CO.skip (CO.seq' (CO.block' (bB h701 fun e532 hx713 h701 => (CO.sw mix (wR 1 343 (wX eNI hx713 1 (wR 3 343 (wF ?_))))))))
   refine bB h701 fun e535 hx716 h701 => (bB h701 fun r536 hx717 h701 => (CO.sw mix (wR 4 343 (wX (eSN false) hx716 5 (wR 2 343 (w0 (AC.gs (mi_kidOk_ok e494 y511 e535.Kind hx717) (by decide)) cok125 (wR 1 343 (wF ?_))))))))
   refine cI h701 (fun _ h701 => ?_) (fun _ h701 => ?_)
   ·refine cV 343 ?_
    cases h701
    exact e1 2 id
   refine CO.skip ?_
   exact cK 343 ih702 (a0, y359, e494, (wr (y511 + 1))) h701 [(100, 100)] [0, 4, 10, 11, 12, 20, 21, 22]
  refine CO.exit ?_
  exact cK 343 ih600 (a0, (wr (y359 + 1))) h701 [] [0, 10, 11, 12]
 refine CO.exit (bB h599 fun r539 hx721 h599 => (bB h599 fun r540 hx722 h599 => (CO.sw mix (wR 1 282 (w0 (AC.gs (mi_rootOf_ok N a0 hx721) (by decide)) cok76 (w0 (AC.gs (mi_tree__depth_ok N r539 hx722) (by decide)) cok126 (wR 2 282 (wF ?_))))))))
 cases h599
 exact e1 2 id

theorem m_slices_Clone_int_nil : AC Tryz.prog (GS []) 144 [.c (.slice none 0 0)] [] (.own 100) [(100, vX 3 1 eNI ([] : List Int))] := by
 refine AC.enter Tryz.func144 rfl ?_
 refine CO.cutR (tl 8 [(0, .c (.slice none 0 0))]) [] mix (by
   refine wR 1 100 ?_
   exact W.fin (by decide) (by kernel_rfl) (wS [] [0])
   ) ?_
 refine CO.seq' ?_
 refine CO.cutR (tl 8 [(0, .c (.slice none 0 0)), (4, V.b true)]) [] mix (by
   refine wR 1 100 (W.nilEq Dk true (by kernel_rfl) ?_)
   exact W.fin (by decide) (by kernel_rfl) (wS [] [0, 4])
   ) ?_
 refine CO.ifT (c := true) rfl (by kernel_rfl) ?_
 refine CO.cutR (tl 8 [(2, .c (.slice none 0 0))]) [] mix (by
   refine wR 1 100 ?_
   exact W.fin (by decide) (by kernel_rfl) (wS [] [2])
   ) ?_
 refine CO.weak (Weak.nil 2 101 3 1 (by kernel_rfl) (by kernel_rfl)) (CO.ret ?_)
 exact eG [(101, 100)] (.inr rfl) (RetV.one rfl (oT (t := 2) (r := .own 101)))

theorem m_slices_Clone_int_nn (a0 : List Int) {r : (List Int)} (hx2 : app 8 [] a0 = some r) :
  AC Tryz.prog (GS []) 144 [.sl true false (a0.map eNI)] [] (.own 100) [(100, vX 3 1 eNI r)] := by
 refine AC.enter Tryz.func144 rfl ?_
 refine CO.cutR (tl 8 [(0, .sl true false (a0.map eNI))]) [] mix (by
   refine wR 1 100 ?_
   exact W.fin (by decide) (by kernel_rfl) (wS [] [0])
   ) ?_
 refine CO.seq' ?_
 refine CO.cutR (tl 8 [(0, .sl true false (a0.map eNI)), (4, V.b false)]) [] mix (by
   refine wR 1 100 (W.nilEq Dk false (by kernel_rfl) ?_)
   exact W.fin (by decide) (by kernel_rfl) (wS [] [0, 4])
   ) ?_
 refine CO.ifF (c := false) rfl (by kernel_rfl) (CO.skip (CO.weak (st' := ⟨tl 8 [(0, .sl true false (a0.map eNI)), (4, V.b false)], []⟩) (Weak.refl _) ?_))
 refine CO.cutR (tl 8 [(2, .own 101)]) [(101, vX 3 1 eNI r)] mix (by
   refine wR 2 100 (W.appD Dk eNI (a := 100) (el := 3) 8 hx2 rfl 101 1 (fun _ => by first | rfl | kernel_rfl) (by kernel_rfl) (wR 1 102 ?_))
   exact W.fin (by decide) (by kernel_rfl) (wS [(101, 101)] [2])
   ) ?_
 refine CO.ret ?_
 exact eG [(101, 100)] (.inr rfl) (RetV.one rfl (oT (t := 2) (r := .own 101)))

theorem m_slices_Clone_int_ok (a0 : List Int) {r : (List Int)} (h : m_slices_Clone_int a0 = some r) :
  AC Tryz.prog (GS []) 144 [sL eNI a0] [] (.own 100) [(100, vX 3 1 eNI r)] := by
 rw [m_slices_Clone_int] at h
 obtain ⟨x2, h2, h⟩ := bind_some h
 have h := sI h
 subst h
 refine AC.slCase (fun h0 => ?_) (m_slices_Clone_int_nn a0 h2)
 have ha : a0 = [] := by simpa using h0
 subst ha
 have hr : x2 = [] := by
  rw [app_some (by simp)] at h2
  simpa using h2.symm
 subst hr
 exact m_slices_Clone_int_nil

theorem mi_copyNodes_ok (N : Nat) (a0 : LN) {r : LN} (h : mi_copyNodes N a0 = some r) :
    AC Tryz.prog (GS []) 71 [.sl false false (a0.map (eSN false))] [] (.own 100) [(100, .vec false 37 5 (r.map (eSN true)))] := by
 rw [mi_copyNodes] at h
 refine AC.enter Tryz.func71 rfl (cV 100 (cV 100 (CO.seq' (CO.sw mix (wR 1 101 (wN (eSN false) a0 [] (wR 1 101 (wF ?_))))))))
 refine CO.block' (CO.loopJ (fun (⟨a0, y53, y54⟩ : (LN × Int × LN)) => ⟨tl 23 [(3, .own 100), (7, .sl false false (a0.map (eSN false))), (8, V.i (a0.length : Int)), (9, V.i y53)], [(100, .vec false 37 5 (y54.map (eSN true)))]⟩) (fun n i => mi_copyNodes_l1 N n i = some r) (n0 := N) (i0 := (a0, 0, [])) (wS [(100, 100)] [3, 7, 8, 9]) h (fun i h => by simp [mi_copyNodes_l1] at h) ?_)
 rintro n1 ⟨a0, y53, y54⟩ h73 ih74
 rw [mi_copyNodes_l1] at h73
 refine cV 169 (CO.seq' ?_)
 refine cI h73 (fun _ h73 => ?_) (fun _ h73 => ?_)
 ·refine CO.skip (CO.seq' (CO.block' (bB h73 fun e76 hx84 h73 => (CO.sw mix (wX (eSN false) hx84 5 (wR 3 169 (wF (bB h73 fun r78 hx86 h73 => ?_))))))))
  refine CO.sw mix (wR 2 170 (wC (m_slices_Clone_int_ok e76.Kids hx86) cok144 [] [(100, 170)] [170] (wR 2 171 (wF (bB h73 fun x80 hx88 h73 => ?_)))))
  refine CO.endR (tl 23 [(3, .own 172), (7, .sl false false (a0.map (eSN false))), (8, V.i (a0.length : Int)), (9, V.i y53)]) [(172, .vec false 37 5 (x80.map (eSN true)))] mix (by
   refine wR 3 171 (W.appO Dk (eSN true) (a := 100) (c := 171) (el := 37) (sz := 5) 72 hx88 rfl 172 (by kernel_rfl) (wR 1 173 ?_))
   exact fI
   ) (fun st hw => ?_)
  refine CO.weak hw ?_
  exact cK 173 ih74 (a0, (wr (y53 + 1)), x80) h73 [(172, 100)] [3, 7, 8, 9]
 refine CO.exit (cV 169 (CO.ret ?_))
 cases h73
 exact eG [(100, 100)] (.inr rfl) (RetV.one rfl (oT (t := 2) (r := .own 100)))

theorem m_slices_Clone_tree_nil : AC Tryz.prog (GS []) 75 [.c (.slice none 0 0)] [] (.own 100) [(100, vX 88 5 eST ([] : LS))] := by
 refine AC.enter Tryz.func75 rfl ?_
 refine CO.cutR (tl 8 [(0, .c (.slice none 0 0))]) [] mix (by
   refine wR 1 100 ?_
   exact W.fin (by decide) (by kernel_rfl) (wS [] [0])
   ) ?_
 refine CO.seq' ?_
 refine CO.cutR (tl 8 [(0, .c (.slice none 0 0)), (4, V.b true)]) [] mix (by
   refine wR 1 100 (W.nilEq Dk true (by kernel_rfl) ?_)
   exact W.fin (by decide) (by kernel_rfl) (wS [] [0, 4])
   ) ?_
 refine CO.ifT (c := true) rfl (by kernel_rfl) ?_
 refine CO.cutR (tl 8 [(2, .c (.slice none 0 0))]) [] mix (by
   refine wR 1 100 ?_
   exact W.fin (by decide) (by kernel_rfl) (wS [] [2])
   ) ?_
 refine CO.weak (Weak.nil 2 101 88 5 (by kernel_rfl) (by kernel_rfl)) (CO.ret ?_)
 exact eG [(101, 100)] (.inr rfl) (RetV.one rfl (oT (t := 2) (r := .own 101)))

theorem m_slices_Clone_tree_nn (a0 : LS) {r : LS} (hx2 : app 72 [] a0 = some r) :
  AC Tryz.prog (GS []) 75 [.sl true false (a0.map eST)] [] (.own 100) [(100, vX 88 5 eST r)] := by
 refine AC.enter Tryz.func75 rfl ?_
 refine CO.cutR (tl 8 [(0, .sl true false (a0.map eST))]) [] mix (by
   refine wR 1 100 ?_
   exact W.fin (by decide) (by kernel_rfl) (wS [] [0])
   ) ?_
 refine CO.seq' ?_
 refine CO.cutR (tl 8 [(0, .sl true false (a0.map eST)), (4, V.b false)]) [] mix (by
   refine wR 1 100 (W.nilEq Dk false (by kernel_rfl) ?_)
   exact W.fin (by decide) (by kernel_rfl) (wS [] [0, 4])
   ) ?_
 refine CO.ifF (c := false) rfl (by kernel_rfl) (CO.skip (CO.weak (st' := ⟨tl 8 [(0, .sl true false (a0.map eST)), (4, V.b false)], []⟩) (Weak.refl _) ?_))
 refine CO.cutR (tl 8 [(2, .own 101)]) [(101, vX 88 5 eST r)] mix (by
   refine wR 2 100 (W.appD Dk eST (a := 100) (el := 88) 72 hx2 rfl 101 5 (fun x => by rw [encSTree_eq]; rfl) (by kernel_rfl) (wR 1 102 ?_))
   exact W.fin (by decide) (by kernel_rfl) (wS [(101, 101)] [2])
   ) ?_
 refine CO.ret ?_
 exact eG [(101, 100)] (.inr rfl) (RetV.one rfl (oT (t := 2) (r := .own 101)))

theorem m_slices_Clone_tree_ok (a0 : LS) {r : LS} (h : m_slices_Clone_tree a0 = some r) :
  AC Tryz.prog (GS []) 75 [sL eST a0] [] (.own 100) [(100, vX 88 5 eST r)] := by
 rw [m_slices_Clone_tree] at h
 obtain ⟨x2, h2, h⟩ := bind_some h
 have h := sI h
 subst h
 refine AC.slCase (fun h0 => ?_) (m_slices_Clone_tree_nn a0 h2)
 have ha : a0 = [] := by simpa using h0
 subst ha
 have hr : x2 = [] := by
  rw [app_some (by simp)] at h2
  simpa using h2.symm
 subst hr
 exact m_slices_Clone_tree_nil

theorem m_slices_Insert_tree_copy_k {P : Program} (w : World) (dT sT ty elem : TypeId) (g o dLen dCap : Nat) (a : Addr) (sLen sCap k : Nat) (cur : Array Value) (t : TypeId) (cs : List Value)
  (hu : P.underlying dT = some (.slice elem)) (hs : (P.info? elem).map (·.size) = some k)
  (hg : w.heap[g]? = some (.cells cur t (0, 0))) (hn : cs.length = Nat.min sLen dLen * k)
  (hsrc : ∀ j v, cs[j]? = some v → w.cell? (a.add j) = some v) (hfit : o + cs.length ≤ cur.size) (h1 : ∀ v ∈ cs, v.oneCell' = true) :
  (Builtin.copy_ #[dT, sT] ty #[.slice (some ⟨g, o, none⟩) dLen dCap, .slice (some a) sLen sCap]).run P w =
   .ok (goInt (Nat.min sLen dLen)) (w.setRow g (cur.toList.take o ++ cs ++ cur.toList.drop (o + cs.length)).toArray) := by
 have hl := run_loadCells_list (P := P) w a cs hsrc
 have hst := run_storeCells_at P g o t cs 0 cur w hg (by simpa using hfit) h1
 cases hq : P.info? elem with
 | none => simp [hq] at hs
 | some i =>
  have hi : i.size = k := by simpa [hq] using hs
  simp [Builtin.copy_, run_underlying hu, Builtin.lenOf, Builtin.firstCells, sizeOf, typeInfo, hq, hi, ← hn, hl, hst]

theorem m_slices_Insert_tree_mixIns : Tryz.prog.follows .mixedOrders = true := by kernel_rfl
theorem m_slices_Insert_tree_sizIns : (Tryz.prog.info? 88).map (·.size) = some 5 := by kernel_rfl

theorem m_slices_Insert_tree_ins_shift (g n c i vb m vc : Nat) (cur varr : Array Value) (w : World) (hi : i < n) (hm : 0 < m) (hroom : n + m ≤ c) (hc63 : c ≤ maxLen) (hvb : vb ≠ g)
  (hg : w.heap[g]? = some (.cells cur 88 (0, 0))) (hcs : cur.size = c * 5) (h1 : ∀ v, v ∈ cur.toList.take (n * 5) → v.oneCell' = true)
  (hv : w.heap[vb]? = some (.cells varr 88 (0, 0))) (hvs : varr.size = vc * 5) (hmv : m ≤ vc) (h1v : ∀ v, v ∈ varr.toList.take (m * 5) → v.oneCell' = true) :
  Calls Tryz.prog 74 #[.slice (some ⟨g, 0, none⟩) n c, .int .i64 i, .slice (some ⟨vb, 0, none⟩) m vc] w
   (Ins 88 5 w (some g) n m ((cur.toList.take (n * 5)).take (i * 5) ++ varr.toList.take (m * 5) ++ (cur.toList.take (n * 5)).drop (i * 5))) := by
 have uS := run_underlying Tryz.underlying86
 have hz1 : ¬ ((m : Int) = 0) := by omega
 have hz2 : ¬ ((i : Int) = (n : Int)) := by omega
 have mixed := m_slices_Insert_tree_mixIns
 have hc63' : c ≤ 9223372036854775807 := by simpa only [maxLen] using hc63
 have hw1 : IntKind.i64.wrap ((i : Int) + (m : Int)) = (i : Int) + (m : Int) := by rw [IntKind.wrap_i64]; omega
 have hb1 : (0 : Int) ≤ (i : Int) + (m : Int) := by omega
 have hin : i ≤ n := by omega
 have htn : ((i : Int) + (m : Int)).toNat = i + m := by omega
 have hb2 : ¬ (c = i + m) := by omega
 have hb3 : (i : Int) ≤ (n : Int) + (m : Int) := by omega
 have hb4 : ¬ (c = i) := by omega
 have hov : ∀ lb cb, (callFunc 146 #[.slice (some ⟨vb, 0, none⟩) m vc, .slice (some ⟨g, (i + m) * 5, none⟩) lb cb]).run Tryz.prog w = .ok (.value (.bool false)) w := fun lb cb => by
  rw [run_callFunc_extern Tryz.func146 (by kernel_rfl) (by kernel_rfl) (by kernel_rfl) (e := Extern.SlicesOverlaps.overlaps #[86, 86] #[4]) (by kernel_rfl),
   Lib.run_overlaps_apart w 86 4 88 Tryz.underlying86 5 (fun w => ty88.sizeOf w) ⟨vb, 0, none⟩ ⟨g, (i + m) * 5, none⟩ m vc lb cb hvb 88 88 varr.size cur.size (by simp [World.shape?, hv]) (by simp [World.shape?, hg]) (by omega) (frozen_of_row w vb _ varr 88 hv) (frozen_of_row w vb _ varr 88 hv)]
  rfl
 obtain ⟨mid, hmid⟩ : ∃ mid : List Value, mid = (cur.toList.take (n * 5)).drop (i * 5) := ⟨_, rfl⟩
 have hml : mid.length = (n - i) * 5 := by subst hmid; simp; omega
 obtain ⟨row1, hrow1⟩ : ∃ row1 : Array Value, row1 = (cur.toList.take ((i + m) * 5) ++ mid ++ cur.toList.drop ((i + m) * 5 + mid.length)).toArray := ⟨_, rfl⟩
 have hcp1 : ∀ ty dc sc, (Builtin.copy_ #[86, 86] ty #[.slice (some ⟨g, (i + m) * 5, none⟩) (n + m - (i + m)) dc, .slice (some ⟨g, i * 5, none⟩) (n + m - i) sc]).run Tryz.prog w.drew = .ok (goInt ((n - i : Nat) : Int)) (w.drew.setRow g row1) := fun ty dc sc => by
  have hmin : Nat.min (n + m - i) (n + m - (i + m)) = n - i := by show min _ _ = _; rw [Nat.min_def]; split <;> omega
  have := m_slices_Insert_tree_copy_k w.drew 86 86 ty 88 g ((i + m) * 5) (n + m - (i + m)) dc ⟨g, i * 5, none⟩ (n + m - i) sc 5 cur 88 mid Tryz.underlying86 m_slices_Insert_tree_sizIns hg (by rw [hmin, hml])
   (fun j v hj => by
    rw [Addr.add_lit, cell_of_row w.drew g _ cur 88 (0, 0) hg]
    rw [hmid, List.getElem?_drop, List.getElem?_take] at hj
    split at hj
    ·simpa using hj
    ·cases hj) (by rw [hml, hcs]; omega) (fun v hv => h1 v (by rw [hmid] at hv; exact List.mem_of_mem_drop hv))
  rw [hmin, ← hrow1] at this
  exact this
 have hrl : row1.size = cur.size := by rw [hrow1]; simp [hml]; omega
 obtain ⟨W1, hW1⟩ : ∃ W1, W1 = w.drew.setRow g row1 := ⟨_, rfl⟩
 have hg1 : W1.heap[g]? = some (.cells row1 88 (0, 0)) := by rw [hW1]; exact setRow_heap w.drew g cur _ 88 _ hg
 have hv1 : W1.heap[vb]? = some (.cells varr 88 (0, 0)) := by rw [hW1, setRow_other w.drew g vb _ hvb]; exact hv
 obtain ⟨row2, hrow2⟩ : ∃ row2 : Array Value, row2 = (row1.toList.take (i * 5) ++ varr.toList.take (m * 5) ++ row1.toList.drop (i * 5 + (varr.toList.take (m * 5)).length)).toArray := ⟨_, rfl⟩
 have hvl : (varr.toList.take (m * 5)).length = m * 5 := by simp; omega
 have hcp2 : ∀ (W : World), W.heap = W1.heap → ∀ ty dc, (Builtin.copy_ #[86, 86] ty #[.slice (some ⟨g, i * 5, none⟩) (n + m - i) dc, .slice (some ⟨vb, 0, none⟩) m vc]).run Tryz.prog W = .ok (goInt m) (W.setRow g row2) := fun W hW ty dc => by
  have hmin : Nat.min m (n + m - i) = m := by show min _ _ = _; rw [Nat.min_def]; split <;> omega
  have := m_slices_Insert_tree_copy_k W 86 86 ty 88 g (i * 5) (n + m - i) dc ⟨vb, 0, none⟩ m vc 5 row1 88 (varr.toList.take (m * 5)) Tryz.underlying86 m_slices_Insert_tree_sizIns (by rw [hW]; exact hg1) (by rw [hmin, hvl])
   (fun j v hj => by
    rw [Addr.add_lit, Nat.zero_add, cell_of_row W vb _ varr 88 (0, 0) (by rw [hW]; exact hv1)]
    rw [List.getElem?_take] at hj
    split at hj
    ·simpa using hj
    ·cases hj) (by rw [hvl, hrl, hcs]; omega) h1v
  rw [hmin, ← hrow2] at this
  exact this
 rw [← hW1] at hcp1
 have hfin : Ins 88 5 w (some g) n m ((cur.toList.take (n * 5)).take (i * 5) ++ varr.toList.take (m * 5) ++ (cur.toList.take (n * 5)).drop (i * 5)) (.returned (.slice (some ⟨g, 0, none⟩) (n + m) c)) (W1.setRow g row2) := by
  have hgl : g < w.heap.size := (Array.getElem?_eq_some_iff.1 hg).1
  have hr2 : row2.size = cur.size := by rw [hrow2]; simp [hrl]; omega
  refine ⟨g, c, row2, rfl, ⟨?_, ?_, ?_, ?_, fun k hk hne => ?_⟩, setRow_heap W1 g row1 _ 88 _ hg1, hroom, hc63, by rw [hr2, hcs], ?_, .inl rfl, ?_⟩
  ·rw [hW1]; rfl
  ·rw [hW1]; rfl
  ·rw [hW1]; rfl
  ·rw [hW1]; simp
  ·have hkg : k ≠ g := fun e => hne (by rw [e])
   rw [setRow_other W1 g k _ hkg, hW1, setRow_other w.drew g k _ hkg]; rfl
  ·have e1 : row1.toList.take (i * 5) = (cur.toList.take (n * 5)).take (i * 5) := by
    rw [hrow1]
    simp only []
    rw [List.append_assoc, List.take_append_of_le_length (by simp; omega), List.take_take, List.take_take]
    congr 1; omega
   have e2 : (row1.toList.drop (i * 5 + m * 5)).take ((n - i) * 5) = mid := by
    rw [hrow1]
    simp only []
    rw [show i * 5 + m * 5 = (cur.toList.take ((i + m) * 5)).length by simp; omega, List.append_assoc, List.drop_left, ← hml, List.take_left]
   rw [hrow2]
   simp only []
   have hA : ((cur.toList.take (n * 5)).take (i * 5)).length = i * 5 := by
    rw [List.length_take, List.length_take, Array.length_toList]; omega
   rw [e1, hvl, ← hmid]
   generalize (cur.toList.take (n * 5)).take (i * 5) = A at hA ⊢
   generalize varr.toList.take (m * 5) = B at hvl ⊢
   rw [show (n + m) * 5 = (A ++ B).length + (n - i) * 5 by rw [List.length_append, hA, hvl]; omega, List.take_length_add_append, e2]
  ·rw [hW1]; simpa using hgl
 clear hrow1 hrow2 hmid hW1 hg1 hv1 hvl hml hrl hcs hvs hv h1 h1v
 go_enter Tryz.func74, Tryz.ntmps74
 go_wp2_with (simp only [hov])
 go_region_law_o (refine step_copy_runI rfl _ _ 86 86 rfl _ _ (by simp [Act.eval, Act.put]) (by simp [Act.eval, Act.put]) (hcp1 _ _ _) ?_)
 go_wp2_with (at_builtin; refine wpList_copy_runI _ rfl _ _ 86 86 rfl _ _ rfl rfl (hcp2 _ rfl _ _) ?_)
 go_ret
 exact hfin

theorem m_slices_Insert_tree_ins_end (s : Value) (n vb m vc : Nat) (olds : List Value) (varr : Array Value) (w : World) (hm : 0 < m)
  (hs : (s = .slice none 0 0 ∧ n = 0 ∧ olds = []) ∨ ∃ g c cur, s = .slice (some ⟨g, 0, none⟩) n c ∧ w.heap[g]? = some (.cells cur 88 (0, 0)) ∧ n ≤ c ∧ c ≤ maxLen ∧ cur.size = c * 5 ∧ olds = cur.toList.take (n * 5))
  (hv : w.heap[vb]? = some (.cells varr 88 (0, 0))) (hvs : varr.size = vc * 5) (hmv : m ≤ vc) (h1v : ∀ v, v ∈ varr.toList.take (m * 5) → v.oneCell' = true) (hb : (n + m) * 72 ≤ 140737488355328) :
  Calls Tryz.prog 74 #[s, .int .i64 n, .slice (some ⟨vb, 0, none⟩) m vc] w
   (Ins 88 5 w s.ownBlock n m (olds ++ varr.toList.take (m * 5))) := by
 have uS := run_underlying Tryz.underlying86
 have hz1 : ¬ ((m : Int) = 0) := by omega
 have mixed := m_slices_Insert_tree_mixIns
 have hol : olds.length = n * 5 := by
  rcases hs with ⟨_, rfl, rfl⟩ | ⟨g, c, cur, _, _, hnc, _, hsz, rfl⟩
  ·rfl
  ·simp; omega
 have hvl : (varr.toList.take (m * 5)).length = m * 5 := by simp; omega
 have hsrc : Src Tryz.prog 5 86 (.slice (some ⟨vb, 0, none⟩) m vc) m (varr.toList.take (m * 5)) w := Src.ofSlice w Tryz.underlying86 ⟨vb, 0, none⟩ m vc _ (by rw [hvl])
  (fun j v hj => by
   rw [Addr.add_lit, Nat.zero_add, cell_of_row w vb _ varr 88 (0, 0) hv]
   rw [List.getElem?_take] at hj
   split at hj
   ·simpa using hj
   ·cases hj) h1v
 obtain ⟨inf, z, e1, e2, e3, e4, e5⟩ : ∃ inf z, Tryz.prog.info? 88 = some inf ∧ inf.size = 5 ∧ inf.bytes = 72 ∧ inf.zero = some z ∧ z.cells.size = 5 := ⟨Tryz.t88, _, by kernel_rfl, rfl, rfl, rfl, rfl⟩
 have hv' : (s = .slice none 0 0 ∧ n = 0) ∨ ∃ g cap arr, s = .slice (some ⟨g, 0, none⟩) n cap ∧ w.heap[g]? = some (.cells arr 88 (0, 0)) ∧ n ≤ cap ∧ cap ≤ maxLen ∧ arr.size = cap * inf.size ∧ ∀ p, p < n * inf.size → arr[p]? = olds[p]? := by
  rcases hs with ⟨h1, h2, _⟩ | ⟨g, c, cur, h1, h2, h3, h4, h5, rfl⟩
  ·exact .inl ⟨h1, h2⟩
  ·refine .inr ⟨g, c, cur, h1, h2, h3, h4, by rw [e2]; exact h5, fun p hp => ?_⟩
   rw [e2] at hp
   rw [List.getElem?_take, if_pos hp]
   simp
 obtain ⟨v', w', hrun, hgb, hres⟩ := run_append_vec (ty := 86) w 86 86 88 inf z Tryz.underlying86 e1 e4 (by rw [e5, e2]) s n _ m _ (by rw [e2]; exact hsrc) (fun p => olds[p]?) 88 hv' (by simp only [maxLen]; omega) (by rw [e3]; exact hb)
 obtain ⟨g', cap', arr', e1', he1, _, rfl, h1, h2, h3, h4, h5, h6, h7, h8⟩ := hres.resolve_left (fun h => by omega)
 obtain rfl := he1 rfl
 have hfin : Ins 88 5 w s.ownBlock n m (olds ++ varr.toList.take (m * 5)) (.returned (.slice (some ⟨g', 0, none⟩) (n + m) cap')) w' := by
  rw [e2] at h4 h5 h6
  refine ⟨g', cap', arr', rfl, hgb, h1, h2, h3, h4, ?_, h7, h8⟩
  apply List.ext_getElem?
  intro p
  rw [List.getElem?_take]
  split
  ·by_cases hp : p < n * 5
   ·rw [List.getElem?_append_left (by omega)]
    simpa using h5 p hp
   ·rw [List.getElem?_append_right (by omega), hol]
    have := h6 (p - n * 5) (by omega)
    rw [show n * 5 + (p - n * 5) = p by omega] at this
    simpa using this
  ·rw [List.getElem?_eq_none]
   rw [List.length_append, hol, hvl]; omega
 clear h1 h2 h3 h4 h5 h6 h7 h8 hgb hv' hsrc hvl hol h1v hvs hv e1 e2 e3 e4 e5
 rcases hs with ⟨rfl, rfl, rfl⟩ | ⟨g, c, cur, rfl, hg, hnc, hcm, hsz, rfl⟩
 ·go_enter Tryz.func74, Tryz.ntmps74
  go_wp2_with (at_builtin; refine Lib.wpList_append_run _ rfl _ _ _ _ rfl _ _ rfl rfl _ _ hrun ?_)
  go_ret
  simp only [Nat.zero_add, List.nil_append] at hfin
  exact hfin
 ·clear hg hsz hcm
  go_enter Tryz.func74, Tryz.ntmps74
  go_wp2_with (at_builtin; refine Lib.wpList_append_run _ rfl _ _ _ _ rfl _ _ rfl rfl _ _ hrun ?_)
  all_goals (go_ret; exact hfin)

theorem m_slices_Insert_tree_ins_grow (g n c i vb m vc : Nat) (cur varr : Array Value) (w : World) (hi : i < n) (hm : 0 < m) (hnc : n ≤ c) (hroom : c < n + m) (hc63 : c ≤ maxLen) (hb : (n + m) * 72 ≤ 140737488355328)
  (hg : w.heap[g]? = some (.cells cur 88 (0, 0))) (hcs : cur.size = c * 5) (h1 : ∀ v, v ∈ cur.toList.take (n * 5) → v.oneCell' = true)
  (hv : w.heap[vb]? = some (.cells varr 88 (0, 0))) (hvs : varr.size = vc * 5) (hmv : m ≤ vc) (h1v : ∀ v, v ∈ varr.toList.take (m * 5) → v.oneCell' = true) :
  Calls Tryz.prog 74 #[.slice (some ⟨g, 0, none⟩) n c, .int .i64 i, .slice (some ⟨vb, 0, none⟩) m vc] w
   (Ins 88 5 w (some g) n m ((cur.toList.take (n * 5)).take (i * 5) ++ varr.toList.take (m * 5) ++ (cur.toList.take (n * 5)).drop (i * 5))) := by
 have uS := run_underlying Tryz.underlying86
 have hz1 : ¬ ((m : Int) = 0) := by omega
 have hz2 : ¬ ((i : Int) = (n : Int)) := by omega
 have hz3 : (c : Int) < (n : Int) + (m : Int) := by omega
 have mixed := m_slices_Insert_tree_mixIns
 have hc63' : c ≤ 9223372036854775807 := by simpa only [maxLen] using hc63
 have hgl : g < w.heap.size := (Array.getElem?_eq_some_iff.1 hg).1
 have hvw : vb < w.heap.size := (Array.getElem?_eq_some_iff.1 hv).1
 have hkk : (n : Int) + (m : Int) - (i : Int) = ((n + m - i : Nat) : Int) := by omega
 have hik : i + (n + m - i) = n + m := by omega
 have hvl : (varr.toList.take (m * 5)).length = m * 5 := by simp; omega
 obtain ⟨inf, z, e1, e2, e3, e4, e5⟩ : ∃ inf z, Tryz.prog.info? 88 = some inf ∧ inf.size = 5 ∧ inf.bytes = 72 ∧ inf.zero = some z ∧ z.cells.size = 5 := ⟨Tryz.t88, _, by kernel_rfl, rfl, rfl, rfl, rfl⟩
 obtain ⟨fro, hfro⟩ : ∃ fro : List Value, fro = (cur.toList.take (n * 5)).take (i * 5) := ⟨_, rfl⟩
 have hfl : fro.length = i * 5 := by rw [hfro, List.length_take, List.length_take, Array.length_toList]; omega
 have hold : (Builtin.firstCells inf.size i (.slice (some ⟨g, 0, none⟩) i c)).run Tryz.prog w.drew = .ok fro.toArray w.drew := by
  rw [e2]
  exact run_firstCells_some w.drew 5 i ⟨g, 0, none⟩ i c fro hfl (fun j v hj => by
   rw [Addr.add_lit, Nat.zero_add, cell_of_row w.drew g _ cur 88 (0, 0) hg]
   rw [hfro, List.getElem?_take, List.getElem?_take] at hj
   split at hj
   ·split at hj
    ·simpa using hj
    ·cases hj
   ·cases hj)
 obtain ⟨G, hG⟩ : ∃ G, G = grownCap w (n + m) c 88 := ⟨_, rfl⟩
 obtain ⟨ROW, hROW⟩ : ∃ ROW : Array Value, ROW = fro.toArray ++ Builtin.zeroCells z.cells (n + m - i) ++ Builtin.zeroCells z.cells (G - (n + m)) := ⟨_, rfl⟩
 have hrz : ∀ ty, (Builtin.append_ #[86, 3] ty #[.slice (some ⟨g, 0, none⟩) i c, .int .i64 ((n : Int) + (m : Int) - (i : Int))]).run Tryz.prog w =
   .ok (.slice (some ⟨w.heap.size, 0, none⟩) (n + m) G) (w.drew.alloc (.cells ROW 88)) := fun ty => by
  have h := Lib.run_append_grow_zeros w 86 3 ty 88 inf z .i64 .i64 Tryz.underlying86 Tryz.underlying3 e1 e4 (some ⟨g, 0, none⟩) i c fro hold (n + m - i) (by omega) (by omega) (by omega) (by omega) (by rw [e3]; omega) (by rw [e3, hik]; exact growslice_fits hroom hb)
  rw [hik, ← hG, ← hROW] at h
  rw [hkk]
  exact h
 have hGn : n + m ≤ G := by rw [hG]; exact grownCap_ge w _ _ _
 have hGm : G ≤ maxLen := by rw [hG]; exact grownCap_le_maxLen w (n + m) c 88 (by unfold maxLen; omega)
 have hG63 : G ≤ 9223372036854775807 := by simpa only [maxLen] using hGm
 have hRs : ROW.size = G * 5 := by
  rw [hROW]
  simp only [Array.size_append, List.size_toArray, size_zeroCells, e5, hfl]
  omega
 have hGi : ¬ (G = i) := by omega
 have hGim : ¬ (G = i + m) := by omega
 have hci : ¬ (c = i) := by omega
 have hgN : g ≠ w.heap.size := by omega
 have hvN : vb ≠ w.heap.size := by omega
 obtain ⟨W1, hW1⟩ : ∃ W1, W1 = w.drew.alloc (.cells ROW 88) := ⟨_, rfl⟩
 have hN1 : W1.heap[w.heap.size]? = some (.cells ROW 88 (0, 0)) := by rw [hW1]; exact heap_alloc_new w.drew _
 have hg1 : W1.heap[g]? = some (.cells cur 88 (0, 0)) := by rw [hW1, heap_alloc_old w.drew _ hgl]; exact hg
 have hv1 : W1.heap[vb]? = some (.cells varr 88 (0, 0)) := by rw [hW1, heap_alloc_old w.drew _ hvw]; exact hv
 have hk1 : ∀ k, k < w.heap.size → W1.heap[k]? = w.heap[k]? := fun k hk => by rw [hW1, heap_alloc_old w.drew _ hk]; rfl
 have hs1 : W1.heap.size = w.heap.size + 1 := by rw [hW1]; simp
 have ho1 : W1.os = w.os ∧ W1.tape = w.tape ∧ W1.output = w.output := by rw [hW1]; exact ⟨rfl, rfl, rfl⟩
 obtain ⟨row1, hrow1⟩ : ∃ row1 : Array Value, row1 = (ROW.toList.take (i * 5) ++ varr.toList.take (m * 5) ++ ROW.toList.drop (i * 5 + (varr.toList.take (m * 5)).length)).toArray := ⟨_, rfl⟩
 have hcpA : ∀ (W : World), W.heap = W1.heap → ∀ ty dc, (Builtin.copy_ #[86, 86] ty #[.slice (some ⟨w.heap.size, i * 5, none⟩) (n + m - i) dc, .slice (some ⟨vb, 0, none⟩) m vc]).run Tryz.prog W = .ok (goInt m) (W.setRow w.heap.size row1) := fun W hW ty dc => by
  have hmin : Nat.min m (n + m - i) = m := by show min _ _ = _; rw [Nat.min_def]; split <;> omega
  have := m_slices_Insert_tree_copy_k W 86 86 ty 88 w.heap.size (i * 5) (n + m - i) dc ⟨vb, 0, none⟩ m vc 5 ROW 88 (varr.toList.take (m * 5)) Tryz.underlying86 m_slices_Insert_tree_sizIns (by rw [hW]; exact hN1) (by rw [hmin, hvl])
   (fun j v hj => by
    rw [Addr.add_lit, Nat.zero_add, cell_of_row W vb _ varr 88 (0, 0) (by rw [hW]; exact hv1)]
    rw [List.getElem?_take] at hj
    split at hj
    ·simpa using hj
    ·cases hj) (by rw [hvl, hRs]; omega) h1v
  rw [hmin, ← hrow1] at this
  exact this
 have hrl : row1.size = ROW.size := by rw [hrow1]; simp [hvl]; omega
 obtain ⟨mid, hmid⟩ : ∃ mid : List Value, mid = (cur.toList.take (n * 5)).drop (i * 5) := ⟨_, rfl⟩
 have hml : mid.length = (n - i) * 5 := by subst hmid; simp; omega
 obtain ⟨row2, hrow2⟩ : ∃ row2 : Array Value, row2 = (row1.toList.take ((i + m) * 5) ++ mid ++ row1.toList.drop ((i + m) * 5 + mid.length)).toArray := ⟨_, rfl⟩
 obtain ⟨W2, hW2⟩ : ∃ W2, W2 = W1.setRow w.heap.size row1 := ⟨_, rfl⟩
 have hN2 : W2.heap[w.heap.size]? = some (.cells row1 88 (0, 0)) := by rw [hW2]; exact setRow_heap W1 _ ROW _ 88 _ hN1
 have hg2 : W2.heap[g]? = some (.cells cur 88 (0, 0)) := by rw [hW2, setRow_other W1 _ g _ hgN]; exact hg1
 have hcpB : ∀ (W : World), W.heap = W2.heap → ∀ ty dc sc, (Builtin.copy_ #[86, 86] ty #[.slice (some ⟨w.heap.size, (i + m) * 5, none⟩) (n + m - (i + m)) dc, .slice (some ⟨g, i * 5, none⟩) (n - i) sc]).run Tryz.prog W = .ok (goInt ((n - i : Nat) : Int)) (W.setRow w.heap.size row2) := fun W hW ty dc sc => by
  have hmin : Nat.min (n - i) (n + m - (i + m)) = n - i := by show min _ _ = _; rw [Nat.min_def]; split <;> omega
  have := m_slices_Insert_tree_copy_k W 86 86 ty 88 w.heap.size ((i + m) * 5) (n + m - (i + m)) dc ⟨g, i * 5, none⟩ (n - i) sc 5 row1 88 mid Tryz.underlying86 m_slices_Insert_tree_sizIns (by rw [hW]; exact hN2) (by rw [hmin, hml])
   (fun j v hj => by
    rw [Addr.add_lit, cell_of_row W g _ cur 88 (0, 0) (by rw [hW]; exact hg2)]
    rw [hmid, List.getElem?_drop, List.getElem?_take] at hj
    split at hj
    ·simpa using hj
    ·cases hj) (by rw [hml, hrl, hRs]; omega) (fun v hv => h1 v (by rw [hmid] at hv; exact List.mem_of_mem_drop hv))
  rw [hmin, ← hrow2] at this
  exact this
 have hfin : ∀ W' : World, W'.heap = (W2.setRow w.heap.size row2).heap → W'.os = w.os → W'.tape = w.tape → W'.output = w.output →
   Ins 88 5 w (some g) n m (fro ++ varr.toList.take (m * 5) ++ mid) (.returned (.slice (some ⟨w.heap.size, 0, none⟩) (n + m) G)) W' := by
  intro W' hh h1 h2 h3
  have hr2 : row2.size = ROW.size := by rw [hrow2]; simp [hrl, hml]; omega
  refine ⟨w.heap.size, G, row2, rfl, ⟨h1, h2, h3, ?_, fun k hk hne => ?_⟩, by rw [hh]; exact setRow_heap W2 _ row1 _ 88 _ hN2, hGn, hGm, by rw [hr2, hRs], ?_, .inr (Nat.le_refl _), ?_⟩
  ·rw [hh, hW2]; simp [hs1]
  ·have hkg : k ≠ w.heap.size := by omega
   rw [hh, setRow_other W2 _ k _ hkg, hW2, setRow_other W1 _ k _ hkg]; exact hk1 k hk
  ·have e0 : ROW.toList.take (i * 5) = fro := by
    rw [hROW, ← hfl]
    simp
   have e1 : row1.toList.take ((i + m) * 5) = fro ++ varr.toList.take (m * 5) := by
    rw [hrow1]
    simp only []
    rw [e0, show (i + m) * 5 = (fro ++ varr.toList.take (m * 5)).length by rw [List.length_append, hfl, hvl]; omega, List.take_left]
   rw [hrow2]
   simp only []
   rw [e1, show (n + m) * 5 = (fro ++ varr.toList.take (m * 5) ++ mid).length by rw [List.length_append, List.length_append, hfl, hvl, hml]; omega, List.take_left]
  ·rw [hh, hW2]; simp [hs1]
 rw [← hmid, ← hfro]
 have hb1 : (0 : Int) ≤ (i : Int) + (m : Int) := by omega
 have hw1 : IntKind.i64.wrap ((i : Int) + (m : Int)) = (i : Int) + (m : Int) := by rw [IntKind.wrap_i64]; omega
 have hin : i ≤ n := by omega
 have htn : ((i : Int) + (m : Int)).toNat = i + m := by omega
 have hb3 : (i : Int) ≤ (n : Int) := by omega
 subst hW2
 subst hW1
 have hE : ((w.alloc (.cells ROW 88)).drew).heap = (w.drew.alloc (.cells ROW 88)).heap := rfl
 have hF : ∀ (W : World), W.heap = (w.drew.alloc (.cells ROW 88)).heap → (W.setRow w.heap.size row1).drew.heap = ((w.drew.alloc (.cells ROW 88)).setRow w.heap.size row1).heap := fun W h => by
  show (W.setRow w.heap.size row1).heap = _
  simp only [World.setRow, h]
 clear hkk hik hold hROW hG hRs hrow1 hrow2 hmid hfro hN1 hg1 hv1 hk1 hs1 ho1 hN2 hg2 hrl hml hvl hfl e1 e2 e3 e4 e5 hg hv h1 h1v hcs hvs
 go_enter Tryz.func74, Tryz.ntmps74
 go_wp2_with (first
  | (at_builtin; refine Lib.wpList_append_run _ rfl _ _ _ _ rfl _ _ rfl rfl _ _ (hrz _) ?_)
  | (at_builtin; refine wpList_copy_runI _ rfl _ _ 86 86 rfl _ _ rfl rfl (hcpA _ hE _ _) ?_))
 go_region_law_o (refine step_copy_runI rfl _ _ 86 86 rfl (.slice (some ⟨w.heap.size, (i + m) * 5, none⟩) (n + m - (i + m)) (G - (i + m))) (.slice (some ⟨g, i * 5, none⟩) (n - i) (c - i)) (by simp [Act.eval, Act.put]) (by simp [Act.eval, Act.put]) (hcpB _ (hF _ hE) 3 (G - (i + m)) (c - i)) ?_)
 go_wp2
 go_ret
 exact hfin _ rfl rfl rfl rfl

theorem m_slices_Insert_tree_mem (s : Value) (i n vb m vc : Nat) (olds : List Value) (varr : Array Value) (w : World) (hm : 0 < m) (hi : i ≤ n) (hs : OwnAt 88 5 w s n olds) (h1 : ∀ v, v ∈ olds → v.oneCell' = true)
  (hv : w.heap[vb]? = some (.cells varr 88 (0, 0))) (hvs : varr.size = vc * 5) (hmv : m ≤ vc) (h1v : ∀ v, v ∈ varr.toList.take (m * 5) → v.oneCell' = true) (hne : s.ownBlock ≠ some vb) (hb : (n + m) * 72 ≤ 140737488355328) :
  Calls Tryz.prog 74 #[s, .int .i64 i, .slice (some ⟨vb, 0, none⟩) m vc] w (Ins 88 5 w s.ownBlock n m (olds.take (i * 5) ++ varr.toList.take (m * 5) ++ olds.drop (i * 5))) := by
 by_cases hin : i = n
 ·subst hin
  have ho : olds.length = i * 5 := by
   rcases hs with ⟨_, rfl, rfl⟩ | ⟨g, c, cur, _, _, hnc, _, hsz, rfl⟩
   ·simp
   ·rw [List.length_take, Array.length_toList, hsz]; omega
  rw [List.take_of_length_le (by omega), List.drop_eq_nil_of_le (by omega), List.append_nil]
  exact m_slices_Insert_tree_ins_end s i vb m vc olds varr w hm hs hv hvs hmv h1v hb
 ·rcases hs with ⟨_, rfl, _⟩ | ⟨g, c, cur, rfl, hg, hnc, hcm, hsz, rfl⟩
  ·omega
  ·have hvb : vb ≠ g := fun e => hne (by rw [e]; rfl)
   by_cases hroom : n + m ≤ c
   ·exact m_slices_Insert_tree_ins_shift g n c i vb m vc cur varr w (by omega) hm hroom hcm hvb hg hsz h1 hv hvs hmv h1v
   ·exact m_slices_Insert_tree_ins_grow g n c i vb m vc cur varr w (by omega) hm hnc (by omega) hcm hb hg hsz h1 hv hvs hmv h1v

theorem m_slices_Insert_tree_ok (a1 : Int) (p0 : LS) (p1 : LS) {r : LS} (h : m_slices_Insert_tree a1 p0 p1 = some r) :
  AC Tryz.prog (GS []) 74 [.own 0, V.i a1, .own 1] [(0, vX 88 5 eST p0), (1, vX 88 5 eST p1)] (.own 100) [(100, vX 88 5 eST r)] :=
 AC.insO (bytes := 72) eST h (fun i nn nn1 rows rows1 => AC.insert m_slices_Insert_tree_mem i nn nn1 rows rows1)


theorem mi_Insert_1_ok (N : Nat) (a0 : Int) (a1 : STree) (pa : Int) (p1_0 : Int) (p2_0 : LN) {r : LS} (h : mi_Insert_1 N a0 a1 pa p1_0 p2_0 = some r) :
    AC Tryz.prog (GS []) 73 [V.i a0, .agg [V.i a1.kind, V.i a1.op, V.s a1.text, V.s a1.other, sL eST a1.kids], .loc 0 0, .loc 1 0, .loc 2 0] [(0, .cells 3 [V.i pa]), (1, .cells 3 [V.i p1_0]), (2, .cells 24 [.sl false false (p2_0.map (eSN false))])] (.own 100) [(0, .cells 3 [V.i pa]), (1, .cells 3 [V.i p1_0]), (2, .cells 24 [.sl false false (p2_0.map (eSN false))]), (100, vX 88 5 eST r)] := by
 rw [mi_Insert_1] at h
 refine AC.enter Tryz.func73 rfl (cV 100 ?_)
 refine CO.join (fun (⟨a1, y7⟩ : (STree × LS)) => ⟨tl 22 [(6, .loc 100 0)], [(100, .cells 88 [V.i a1.kind, V.i a1.op, V.s a1.text, V.s a1.other, sL eST y7]), (0, .cells 3 [V.i pa]), (1, .cells 3 [V.i p1_0]), (2, .cells 24 [.sl false false (p2_0.map (eSN false))])]⟩) (fun i => mi_Insert_1_k1 N pa p1_0 p2_0 i = some r) ?_ ?_
 · rintro ⟨a1, y7⟩ h8
   rw [mi_Insert_1_k1] at h8
   refine CO.sw mix (wR 1 104 (W.layop Dk lO (by kernel_rfl) 104 { v := .own 104, R := [], new := [(104, .vec true 88 5 [[V.i a1.kind, V.i a1.op, V.s a1.text, V.s a1.other, sL eST y7]])], N := [104] } (by kernel_rfl) (W.vecEq 104 (nn := true) (e := 88) (k := 5) (rows := [[V.i a1.kind, V.i a1.op, V.s a1.text, V.s a1.other, sL eST y7]]) (rows' := [(⟨a1.kind, a1.op, a1.text, a1.other, y7⟩ : STree)].map eST) (by kernel_rfl) (by simp only [List.map_cons, List.map_nil, encSTree_eq]) (wR 1 105 (wF (CO.ret ?_))))))
   cases h8
   exact eG [(0, 0), (1, 1), (2, 2), (104, 100)] (.inr rfl) (RetV.one rfl (oT (t := 7) (r := .own 104)))
 intro hk9
 refine cV 101 ?_
 refine cI h (fun _ h => ?_) (fun _ h => ?_)
 ·refine bB h fun r11 hx14 h => (bB h fun r12 hx15 h => (bB h fun r13 hx16 h => ?_))
  refine CO.endR (tl 22 [(6, .loc 100 0)]) [(100, .cells 88 [V.i a1.kind, V.i a1.op, V.s a1.text, V.s a1.other, .own 103]), (103, vX 88 5 eST r13), (0, .cells 3 [V.i pa]), (1, .cells 3 [V.i p1_0]), (2, .cells 24 [.sl false false (p2_0.map (eSN false))])] mix (by
   refine wR 2 101 (wC (m_slices_Clone_tree_ok a1.kids hx14) cok75 [] [(100, 101)] [101] (wR 2 102 (w0 (mi_rootOf_ok N p2_0 hx15) cok76 (W.layop Dk lO (by kernel_rfl) 102 { v := .own 102, R := [], new := [(102, .vec true 88 5 [[V.i r12.kind, V.i r12.op, V.s r12.text, V.s r12.other, sL eST r12.kids]])], N := [102] } (by kernel_rfl) (W.vecEq 102 (nn := true) (e := 88) (k := 5) (rows := [[V.i r12.kind, V.i r12.op, V.s r12.text, V.s r12.other, sL eST r12.kids]]) (rows' := [r12].map eST) (by kernel_rfl) (by simp only [List.map_cons, List.map_nil, encSTree_eq]) (wC (m_slices_Insert_tree_ok p1_0 r11 [r12] hx16) cok74 [(101, 0), (102, 1)] [(100, 103)] [103] (wR 2 104 ?_)))))))
   exact fI
   ) (fun st hw => ?_)
  exact hk9 (a1, r13) h _ (hw.trans ((Weak.lay (LayOk.cons (j := 103) eST eST r13 (by kernel_rfl) (share_encSTree) lO) (by kernel_rfl)).trans (wS [(100, 100), (0, 0), (1, 1), (2, 2)] [6])))
 exact sK hk9 (a1, a1.kids) h [(100, 100), (0, 0), (1, 1), (2, 2)] [6]

structure RecOk5 (R : Rec5) : Prop where
 mi_edited : ∀ (a0 : LN) (a1 : Int) (pa : Int) (p1_0 : Int) (p2_0 : LN) (r : LS), R.mi_edited a0 a1 pa p1_0 p2_0 = some r → AC Tryz.prog (GS []) 145 [.sl false false (a0.map (eSN false)), V.i a1, .fn 73 [.loc 0 0, .loc 1 0, .loc 2 0]] [(0, .cells 3 [V.i pa]), (1, .cells 3 [V.i p1_0]), (2, .cells 24 [.sl false false (p2_0.map (eSN false))])] (.own 100) [(0, .cells 3 [V.i pa]), (1, .cells 3 [V.i p1_0]), (2, .cells 24 [.sl false false (p2_0.map (eSN false))]), (100, vX 88 5 eST r)]

theorem mi_edited_F_ok (N : Nat) (R : Rec5) (HR : RecOk5 R) (a0 : LN) (a1 : Int) (pa : Int) (p1_0 : Int) (p2_0 : LN) {r : LS} (h : mi_edited_F N R a0 a1 pa p1_0 p2_0 = some r) :
    AC Tryz.prog (GS []) 145 [.sl false false (a0.map (eSN false)), V.i a1, .fn 73 [.loc 0 0, .loc 1 0, .loc 2 0]] [(0, .cells 3 [V.i pa]), (1, .cells 3 [V.i p1_0]), (2, .cells 24 [.sl false false (p2_0.map (eSN false))])] (.own 100) [(0, .cells 3 [V.i pa]), (1, .cells 3 [V.i p1_0]), (2, .cells 24 [.sl false false (p2_0.map (eSN false))]), (100, vX 88 5 eST r)] := by
 rw [mi_edited_F] at h
 refine AC.enter Tryz.func145 rfl (cV 100 (bB h fun e2 hx2 h => (CO.sw mix (wR 2 100 (wX (eSN false) hx2 5 (wR 3 100 (wF (cV 101 ?_))))))))
 refine CO.seq' (CO.sw mix (wR 2 102 (wN eNI e2.Kids [] (wR 1 102 (wF (CO.block' (CO.loopJ (fun (⟨a0, a1, e2, y63, y64⟩ : (LN × Int × SNode × Int × LS)) => ⟨tl 44 [(0, .sl false false (a0.map (eSN false))), (1, V.i a1), (2, .fn 73 [.loc 0 0, .loc 1 0, .loc 2 0]), (8, .loc 100 0), (25, sL eNI e2.Kids), (26, V.i (e2.Kids.length : Int)), (27, V.i y63)], [(0, .cells 3 [V.i pa]), (1, .cells 3 [V.i p1_0]), (2, .cells 24 [.sl false false (p2_0.map (eSN false))]), (100, .cells 88 [V.i e2.Kind, V.i e2.Op, V.s e2.Text, V.s e2.Other, .own 101]), (101, vX 88 5 eST y64)]⟩) (fun n i => mi_edited_l1 N R pa p1_0 p2_0 n i = some r) (n0 := N) (i0 := (a0, a1, e2, 0, [])) ((Weak.nilCell 101 4 102 88 5 (ety := 88) (cs := [V.i e2.Kind, V.i e2.Op, V.s e2.Text, V.s e2.Other, .c (.slice none 0 0)]) (by kernel_rfl) (by kernel_rfl) (by kernel_rfl)).trans (wS [(0, 0), (1, 1), (2, 2), (101, 100), (102, 101)] [0, 1, 2, 8, 25, 26, 27])) h (fun i h => by simp [mi_edited_l1] at h) ?_)))))))
 rintro n1 ⟨a0, a1, e2, y63, y64⟩ h83 ih84
 rw [mi_edited_l1] at h83
 refine cV 167 (CO.seq' ?_)
 refine cI h83 (fun _ h83 => ?_) (fun _ h83 => ?_)
 ·refine CO.skip (CO.seq' (CO.block' (bB h83 fun e86 hx94 h83 => (CO.sw mix (wX eNI hx94 1 (wR 2 167 (wF (bB h83 fun r89 hx97 h83 => ?_))))))))
  refine bB h83 fun x90 hx98 h83 => ?_
  refine CO.endR (tl 44 [(0, .sl false false (a0.map (eSN false))), (1, V.i a1), (2, .fn 73 [.loc 0 0, .loc 1 0, .loc 2 0]), (8, .loc 100 0), (25, sL eNI e2.Kids), (26, V.i (e2.Kids.length : Int)), (27, V.i y63)]) [(100, .cells 88 [V.i e2.Kind, V.i e2.Op, V.s e2.Text, V.s e2.Other, .own 168]), (168, vX 88 5 eST x90), (0, .cells 3 [V.i pa]), (1, .cells 3 [V.i p1_0]), (2, .cells 24 [.sl false false (p2_0.map (eSN false))])] mix (by
   refine wR 5 167 (wC (HR.mi_edited a0 e86 pa p1_0 p2_0 _ hx97) cok145 [(0, 0), (1, 1), (2, 2)] [(0, 0), (1, 1), (2, 2), (100, 167)] [167] (W.appO Dk eST (a := 101) (c := 167) (el := 88) (sz := 5) 72 hx98 rfl 168 (by kernel_rfl) (wR 2 169 ?_)))
   exact fI
   ) (fun st hw => ?_)
  refine CO.weak hw ?_
  exact cK 169 ih84 (a0, a1, e2, (wr (y63 + 1)), x90) h83 [(0, 0), (1, 1), (2, 2), (100, 100), (168, 101)] [0, 1, 2, 8, 25, 26, 27]
 refine CO.exit (bB h83 fun r92 hx100 h83 => (CO.sw mix (wR 3 167 (wD (mi_Insert_1_ok N a1 (⟨e2.Kind, e2.Op, e2.Text, e2.Other, y64⟩ : STree) pa p1_0 p2_0 hx100) cok73 [(0, 0), (1, 1), (2, 2)] [(0, 0), (1, 1), (2, 2), (100, 167)] [167] (LayOk.cons (j := 101) eST eST y64 (by kernel_rfl) (share_encSTree) lO) (wR 1 168 (wF (CO.ret ?_)))))))
 cases h83
 exact eG [(0, 0), (1, 1), (2, 2), (167, 100)] (.inr rfl) (RetV.one rfl (oT (t := 6) (r := .own 167)))

theorem scc5_ok : ∀ N, RecOk5 (scc5 N)
 | 0 => ⟨fun _ _ _ _ _ _ h => (by cases h)⟩
 | N + 1 => ⟨fun a0 a1 pa p1_0 p2_0 _ h => mi_edited_F_ok N (scc5 N) (scc5_ok N) a0 a1 pa p1_0 p2_0 h⟩

theorem mi_edited_ok (N : Nat) (a0 : LN) (a1 : Int) (pa : Int) (p1_0 : Int) (p2_0 : LN) {r : LS} (h : mi_edited N a0 a1 pa p1_0 p2_0 = some r) :
  AC Tryz.prog (GS []) 145 [.sl false false (a0.map (eSN false)), V.i a1, .fn 73 [.loc 0 0, .loc 1 0, .loc 2 0]] [(0, .cells 3 [V.i pa]), (1, .cells 3 [V.i p1_0]), (2, .cells 24 [.sl false false (p2_0.map (eSN false))])] (.own 100) [(0, .cells 3 [V.i pa]), (1, .cells 3 [V.i p1_0]), (2, .cells 24 [.sl false false (p2_0.map (eSN false))]), (100, vX 88 5 eST r)] :=
 (scc5_ok N).mi_edited a0 a1 pa p1_0 p2_0 r h

structure RecOk6 (R : Rec6) : Prop where
 mi_tree__add : ∀ (a0 : STree) (p0 : LN) (r : LN), R.mi_tree__add a0 p0 = some r → AC Tryz.prog (GS []) 149 [.agg [V.i a0.kind, V.i a0.op, V.s a0.text, V.s a0.other, sL eST a0.kids], .own 0] [(0, .vec false 37 5 (p0.map (eSN true)))] (.own 100) [(100, .vec false 37 5 (r.map (eSN true)))]

theorem mi_tree__add_F_ok (N : Nat) (R : Rec6) (HR : RecOk6 R) (a0 : STree) (p0 : LN) {r : LN} (h : mi_tree__add_F N R a0 p0 = some r) :
    AC Tryz.prog (GS []) 149 [.agg [V.i a0.kind, V.i a0.op, V.s a0.text, V.s a0.other, sL eST a0.kids], .own 0] [(0, .vec false 37 5 (p0.map (eSN true)))] (.own 100) [(100, .vec false 37 5 (r.map (eSN true)))] := by
 rw [mi_tree__add_F] at h
 refine AC.enter Tryz.func149 rfl (cV 100 (cV 101 (CO.seq' (CO.sw mix (wR 2 102 (wN eST a0.kids [] (wR 1 102 (wF ?_))))))))
 refine CO.block' (CO.loopJ (fun (⟨a0, y59, y60, y61⟩ : (STree × Int × LN × (List Int))) => ⟨tl 40 [(1, .own 100), (5, .loc 101 0), (18, sL eST a0.kids), (19, V.i (a0.kids.length : Int)), (20, V.i y59)], [(100, .vec false 37 5 (y60.map (eSN true))), (101, .cells 37 [V.i a0.kind, V.i a0.op, V.s a0.text, V.s a0.other, .own 102]), (102, vX 3 1 eNI y61)]⟩) (fun n i => mi_tree__add_l1 N R n i = some r) (n0 := N) (i0 := (a0, 0, p0, [])) ((Weak.nilCell 101 4 102 3 1 (ety := 37) (cs := [V.i a0.kind, V.i a0.op, V.s a0.text, V.s a0.other, .c (.slice none 0 0)]) (by kernel_rfl) (by kernel_rfl) (by kernel_rfl)).trans (wS [(0, 100), (101, 101), (102, 102)] [1, 5, 18, 19, 20])) h (fun i h => by simp [mi_tree__add_l1] at h) ?_)
 rintro n1 ⟨a0, y59, y60, y61⟩ h77 ih78
 rw [mi_tree__add_l1] at h77
 refine cV 171 (CO.seq' ?_)
 refine cI h77 (fun _ h77 => ?_) (fun _ h77 => ?_)
 ·refine CO.skip (CO.seq' (CO.block' (bB h77 fun e84 hx88 h77 => (CO.sw mix (W.ixDr Dk eST hx88 5 (by kernel_rfl) (encSTree_eq e84) (by kernel_rfl) (wR 3 171 (wF (bB h77 fun r86 hx90 h77 => ?_))))))))
  refine CO.sw mix (wR 2 172 (wC (HR.mi_tree__add e84 y60 _ hx90) cok149 [(100, 0)] [(100, 172)] [172] (wR 1 173 (wF (bB h77 fun x88 hx92 h77 => ?_)))))
  refine CO.endR (tl 40 [(1, .own 172), (5, .loc 101 0), (18, sL eST a0.kids), (19, V.i (a0.kids.length : Int)), (20, V.i y59)]) [(101, .cells 37 [V.i a0.kind, V.i a0.op, V.s a0.text, V.s a0.other, .own 174]), (174, vX 3 1 eNI x88), (172, .vec false 37 5 (r86.map (eSN true)))] mix (by
   refine wR 3 173 (wN (eSN true) r86 [172] (wR 2 173 (W.appO Dk eNI (a := 102) (c := 173) (el := 3) (sz := 1) 8 hx92 rfl 174 (by kernel_rfl) (wR 2 175 ?_))))
   exact fI
   ) (fun st hw => ?_)
  refine CO.weak hw ?_
  exact cK 175 ih78 (a0, (wr (y59 + 1)), r86, x88) h77 [(172, 100), (101, 101), (174, 102)] [1, 5, 18, 19, 20]
 refine CO.exit (bB h77 fun x90 hx94 h77 => (CO.sw mix (wR 3 171 (W.appO Dk (eSN true) (a := 100) (c := 171) (el := 37) (sz := 5) 72 hx94 rfl 172 (by kernel_rfl) (wR 1 173 (wF (CO.ret ?_)))))))
 cases h77
 exact eG [(172, 100)] (.inr rfl) (RetV.one rfl (oT (t := 4) (r := .own 172)))

theorem scc6_ok : ∀ N, RecOk6 (scc6 N)
 | 0 => ⟨fun _ _ _ h => (by cases h)⟩
 | N + 1 => ⟨fun a0 p0 _ h => mi_tree__add_F_ok N (scc6 N) (scc6_ok N) a0 p0 h⟩

theorem mi_tree__add_ok (N : Nat) (a0 : STree) (p0 : LN) {r : LN} (h : mi_tree__add N a0 p0 = some r) :
  AC Tryz.prog (GS []) 149 [.agg [V.i a0.kind, V.i a0.op, V.s a0.text, V.s a0.other, sL eST a0.kids], .own 0] [(0, .vec false 37 5 (p0.map (eSN true)))] (.own 100) [(100, .vec false 37 5 (r.map (eSN true)))] :=
 (scc6_ok N).mi_tree__add a0 p0 r h

theorem mi_tree__list_ok (N : Nat) (a0 : STree) {r : LN} (h : mi_tree__list N a0 = some r) :
    AC Tryz.prog (GS []) 92 [.agg [V.i a0.kind, V.i a0.op, V.s a0.text, V.s a0.other, sL eST a0.kids]] [] (.own 100) [(100, .vec false 37 5 (r.map (eSN true)))] := by
 rw [mi_tree__list] at h
 refine AC.enter Tryz.func92 rfl (cV 100 (bB h fun r2 hx2 h => (CO.sw mix (wR 1 101 (W.callK (AC.nilArg 1 0 37 5 (mi_tree__add_ok N a0 [] hx2) (by kernel_rfl) (by kernel_rfl) (by kernel_rfl) (by kernel_rfl) rfl) cok149 [] [(100, 101)] [1] [101] lO (by kernel_rfl) (by kernel_rfl) (wR 1 102 (wF (CO.ret ?_))))))))
 cases h
 exact eG [(101, 100)] (.inr rfl) (RetV.one rfl (oT (t := 2) (r := .own 101)))

theorem mi_edit_ok (N : Nat) (a0 : LN) (a1 : Int) (pa : Int) (p1_0 : Int) (p2_0 : LN) {r : (LN × Bool)} (h : mi_edit N a0 a1 pa p1_0 p2_0 = some r) :
    AC Tryz.prog (GS [0, 1, 2]) 72 [.sl false false (a0.map (eSN false)), V.i a1, .fn 73 [.loc 0 0, .loc 1 0, .loc 2 0]] [(0, .cells 3 [V.i pa]), (1, .cells 3 [V.i p1_0]), (2, .cells 24 [.sl false false (p2_0.map (eSN false))])] (.tup [.own 100, V.b r.2]) [(0, .cells 3 [V.i pa]), (1, .cells 3 [V.i p1_0]), (2, .cells 24 [.sl false false (p2_0.map (eSN false))]), (100, .vec false 37 5 (r.1.map (eSN true)))] := by
 rw [mi_edit] at h
 refine AC.enter Tryz.func72 rfl (cU 2 100 (tl 44 [(0, .sl false false (a0.map (eSN false))), (1, V.i a1), (2, .fn 73 [.loc 0 0, .loc 1 0, .loc 2 0])]) [(0, .cells 3 [V.i pa]), (1, .cells 3 [V.i p1_0]), (2, .cells 24 [.sl false false (p2_0.map (eSN false))])] (CO.seq' (bB h fun y10 hv14 h => ?_)))
 refine CO.cutR (tl 44 [(0, .sl false false (a0.map (eSN false))), (2, .fn 73 [.loc 0 0, .loc 1 0, .loc 2 0]), (20, V.b y10)]) [(0, .cells 3 [V.i pa]), (1, .cells 3 [V.i p1_0]), (2, .cells 24 [.sl false false (p2_0.map (eSN false))])] mix (by
  refine wR 1 100 (bB hv14 fun r11 hx15 hv14 => (w0 (mi_TreeOk_ok N a0 hx15) cok51 (wR 2 100 ?_)))
  refine bC hv14 (fun hc16 hv14 => ?_) (fun hc16 hv14 => ?_)
  ·refine wI 13 hc16 (wR 7 100 ?_)
   have hv14 := sI hv14
   subst hv14
   exact fS [(0, 0), (1, 1), (2, 2)] [0, 2, 20]
  refine wI 13 hc16 (wR 2 100 (wN (eSN false) a0 [] (wR 1 100 (bB hv14 fun r12 hx17 hv14 => (w0 (AC.gs (mi_within_ok a1 0 (wr ((a0.length : Int) - 1)) hx17) (by decide)) cok70 (wR 2 100 ?_))))))
  have hv14 := sI hv14
  subst hv14
  exact fS [(0, 0), (1, 1), (2, 2)] [0, 2, 20]
  ) ?_
 refine bC h (fun hc18 h => ?_) (fun hc18 h => ?_)
 ·refine iT hc18 (bB h fun r14 hx20 h => ?_)
  refine CO.cutR (tl 44 [(6, .own 100), (7, V.b false)]) [(100, .vec false 37 5 (r14.map (eSN true))), (0, .cells 3 [V.i pa]), (1, .cells 3 [V.i p1_0]), (2, .cells 24 [.sl false false (p2_0.map (eSN false))])] mix (by
   refine wR 1 100 (wC (AC.gs (mi_copyNodes_ok N a0 hx20) (by decide)) cok71 [] [(100, 100)] [100] (wR 2 101 ?_))
   exact fI
   ) ?_
  refine CO.ret ?_
  have h := sI h
  subst h
  exact eG [(0, 0), (1, 1), (2, 2), (100, 100)] (.inr rfl) (RetV.two rfl (oT (t := 6) (r := .own 100)) (oT (t := 7) (r := V.b false)))
 refine iF hc18 (CO.skip (bB h fun r16 hx22 h => ?_))
 refine CO.cutR (tl 44 [(0, .sl false false (a0.map (eSN false))), (8, .own 100)]) [(100, vX 88 5 eST r16), (0, .cells 3 [V.i pa]), (1, .cells 3 [V.i p1_0]), (2, .cells 24 [.sl false false (p2_0.map (eSN false))])] mix (by
  refine wR 2 100 (wN (eSN false) a0 [] (wR 2 100 (wC (AC.gs (mi_edited_ok N a0 (wr ((a0.length : Int) - 1)) pa p1_0 p2_0 hx22) (by decide)) cok145 [(0, 0), (1, 1), (2, 2)] [(0, 0), (1, 1), (2, 2), (100, 100)] [100] (wR 1 101 ?_))))
  exact fI
  ) ?_
 refine CO.seq' ?_
 refine CO.cutR (tl 44 [(0, .sl false false (a0.map (eSN false))), (8, .own 100), (31, V.b ((r16.length : Int) != 1))]) [(100, vX 88 5 eST r16), (0, .cells 3 [V.i pa]), (1, .cells 3 [V.i p1_0]), (2, .cells 24 [.sl false false (p2_0.map (eSN false))])] mix (by
  refine wR 1 101 (wN eST r16 [100] (wR 1 101 ?_))
  exact fI
  ) ?_
 refine bC h (fun hc26 h => ?_) (fun hc26 h => ?_)
 ·refine iT hc26 (bB h fun r20 hx28 h => ?_)
  refine CO.cutR (tl 44 [(6, .own 101), (7, V.b false)]) [(101, .vec false 37 5 (r20.map (eSN true))), (0, .cells 3 [V.i pa]), (1, .cells 3 [V.i p1_0]), (2, .cells 24 [.sl false false (p2_0.map (eSN false))])] mix (by
   refine wR 1 101 (wC (AC.gs (mi_copyNodes_ok N a0 hx28) (by decide)) cok71 [] [(100, 101)] [101] (wR 2 102 ?_))
   exact fI
   ) ?_
  refine CO.ret ?_
  have h := sI h
  subst h
  exact eG [(0, 0), (1, 1), (2, 2), (101, 100)] (.inr rfl) (RetV.two rfl (oT (t := 6) (r := .own 101)) (oT (t := 7) (r := V.b false)))
 refine iF hc26 (CO.skip (CO.lay (tl 44 [(0, .sl false false (a0.map (eSN false))), (8, sL eST r16), (31, V.b ((r16.length : Int) != 1))]) [(0, .cells 3 [V.i pa]), (1, .cells 3 [V.i p1_0]), (2, .cells 24 [.sl false false (p2_0.map (eSN false))])] (LayOk.cons (j := 100) eST eST r16 (by kernel_rfl) (share_encSTree) lO) (by kernel_rfl) (by kernel_rfl) (by kernel_rfl) (bB h fun e25 hx33 h => (bB h fun r26 hx34 h => ?_))))
 refine CO.cutR (tl 44 [(0, .sl false false (a0.map (eSN false))), (9, .own 101)]) [(101, .vec false 37 5 (r26.map (eSN true))), (0, .cells 3 [V.i pa]), (1, .cells 3 [V.i p1_0]), (2, .cells 24 [.sl false false (p2_0.map (eSN false))])] mix (by
  refine wR 1 101 (W.ixDr Dk eST hx33 5 (by kernel_rfl) (encSTree_eq e25) (by kernel_rfl) (wR 1 101 (wC (AC.gs (mi_tree__list_ok N e25 hx34) (by decide)) cok92 [] [(100, 101)] [101] (wR 1 102 ?_))))
  exact fI
  ) ?_
 refine CO.seq' (bB h fun r32 hx41 h => ?_)
 refine CO.cutR (tl 44 [(0, .sl false false (a0.map (eSN false))), (9, .own 101), (40, V.b (!r32))]) [(101, .vec false 37 5 (r26.map (eSN true))), (0, .cells 3 [V.i pa]), (1, .cells 3 [V.i p1_0]), (2, .cells 24 [.sl false false (p2_0.map (eSN false))])] mix (by
  refine wR 1 102 (W.lend (mi_TreeOk_ok N r26 hx41) cok51 [] [] (LayOk.cons (j := 101) (eSN true) (eSN false) r26 (by kernel_rfl) (sh_eSN _) lO) (.c _) .nil (by kernel_rfl) (by kernel_rfl) (wR 1 102 ?_))
  exact fI
  ) ?_
 refine bC h (fun hc42 h => ?_) (fun hc42 h => ?_)
 ·refine iT hc42 (bB h fun r34 hx44 h => ?_)
  refine CO.cutR (tl 44 [(6, .own 102), (7, V.b false)]) [(102, .vec false 37 5 (r34.map (eSN true))), (0, .cells 3 [V.i pa]), (1, .cells 3 [V.i p1_0]), (2, .cells 24 [.sl false false (p2_0.map (eSN false))])] mix (by
   refine wR 1 102 (wC (AC.gs (mi_copyNodes_ok N a0 hx44) (by decide)) cok71 [] [(100, 102)] [102] (wR 2 103 ?_))
   exact fI
   ) ?_
  refine CO.ret ?_
  have h := sI h
  subst h
  exact eG [(0, 0), (1, 1), (2, 2), (102, 100)] (.inr rfl) (RetV.two rfl (oT (t := 6) (r := .own 102)) (oT (t := 7) (r := V.b false)))
 refine iF hc42 (CO.skip (cU 3 102 (tl 44 [(6, .own 101), (7, V.b true)]) [(101, .vec false 37 5 (r26.map (eSN true))), (0, .cells 3 [V.i pa]), (1, .cells 3 [V.i p1_0]), (2, .cells 24 [.sl false false (p2_0.map (eSN false))])] (CO.ret ?_)))
 have h := sI h
 subst h
 exact eG [(0, 0), (1, 1), (2, 2), (101, 100)] (.inr rfl) (RetV.two rfl (oT (t := 6) (r := .own 101)) (oT (t := 7) (r := V.b true)))

theorem mi_Insert_ok (N : Nat) (a0 : LN) (a1 : Int) (a2 : Int) (a3 : LN) {r : (LN × Bool)} (h : mi_Insert N a0 a1 a2 a3 = some r) :
    AC Tryz.prog (GS [0, 1, 2]) 18 [.sl false false (a0.map (eSN false)), V.i a1, V.i a2, .sl false false (a3.map (eSN false))] [] (.tup [.own 100, V.b r.2]) [(100, .vec false 37 5 (r.1.map (eSN true)))] := by
 rw [mi_Insert] at h
 refine AC.enter Tryz.func18 rfl (cV 100 (CO.seq' (bB h fun y16 hv23 h => ?_)))
 refine CO.cutR (tl 40 [(0, .sl false false (a0.map (eSN false))), (5, .loc 100 0), (6, .loc 101 0), (7, .loc 102 0), (31, V.b y16)]) [(100, .cells 3 [V.i a1]), (101, .cells 3 [V.i a2]), (102, .cells 24 [.sl false false (a3.map (eSN false))])] mix (by
  refine wR 1 103 (bB hv23 fun r17 hx24 hv23 => (w0 (mi_TreeOk_ok N a3 hx24) cok51 (wR 2 103 ?_)))
  refine wJ 13 hv23 (fun hv23 => ?_) (fun hv23 => ?_)
  ·refine wR 18 103 ?_
   cases hv23
   exact fS [(100, 100), (101, 101), (102, 102)] [0, 5, 6, 7, 31]
  refine wR 2 103 (wN (eSN false) a0 [] (wR 1 103 (bB hv23 fun r18 hx26 hv23 => (w0 (AC.gs (mi_within_ok a1 0 (wr ((a0.length : Int) - 1)) hx26) (by decide)) cok70 (wR 3 103 ?_)))))
  refine wJ 21 hv23 (fun hv23 => ?_) (fun hv23 => ?_)
  ·refine wR 10 103 ?_
   cases hv23
   exact fS [(100, 100), (101, 101), (102, 102)] [0, 5, 6, 7, 31]
  refine wR 3 103 (bB hv23 fun e19 hx28 hv23 => (wX (eSN false) hx28 5 (wR 2 103 (wN eNI e19.Kids [] (bB hv23 fun r20 hx29 hv23 => (w0 (AC.gs (mi_within_ok a2 0 (e19.Kids.length : Int) hx29) (by decide)) cok70 (wR 2 103 ?_)))))))
  cases hv23
  exact fS [(100, 100), (101, 101), (102, 102)] [0, 5, 6, 7, 31]
  ) ?_
 refine cI h (fun _ h => ?_) (fun _ h => ?_)
 ·refine bB h fun r22 hx32 h => (CO.sw mix (wR 1 103 (wC (AC.gs (mi_copyNodes_ok N a0 hx32) (by decide)) cok71 [] [(100, 103)] [103] (wR 2 104 (wF (CO.ret ?_))))))
  cases h
  exact eG [(103, 100)] (.inr rfl) (RetV.two rfl (oT (t := 8) (r := .own 103)) (oT (t := 9) (r := V.b false)))
 refine CO.skip (bB h fun r24 hx34 h => (CO.sw mix (wR 3 103 (wC (mi_edit_ok N a0 a1 a1 a2 a3 hx34) cok72 [(100, 0), (101, 1), (102, 2)] [(0, 100), (1, 101), (2, 102), (100, 103)] [103] (wR 4 104 (wF (CO.ret ?_)))))))
 have h := sI h
 subst h
 exact eG [(103, 100)] (.inr rfl) (RetV.two rfl (oT (t := 8) (r := .own 103)) (oT (t := 9) (r := V.b r24.2)))

theorem ms_l1In_ok (a0 : Int) (a1 : Int) (a2 : Int) {r : Bool} (h : ms_l1In a0 a1 a2 = some r) :
    AC Tryz.prog (GS []) 77 [V.i a0, V.i a1, V.i a2] [] (V.b r) [] := by
 rw [ms_l1In] at h
 refine AC.enter Tryz.func77 rfl (cV 100 (bB h fun y1 hv2 h => ?_))
 refine CO.cutR (tl 15 [(6, V.b y1)]) [] mix (by
  refine wR 4 100 ?_
  refine wJ 10 hv2 (fun hv2 => ?_) (fun hv2 => ?_)
  ·refine wR 5 100 ?_
   cases hv2
   exact fS [] [6]
  refine wR 5 100 ?_
  cases hv2
  exact fS [] [6]
  ) ?_
 cases h
 exact e1 6 id

theorem ms_l6Starts_ok (N : Nat) (a0 : LN) {r : ((List Int) × Bool)} (h : ms_l6Starts N a0 = some r) :
    AC Tryz.prog (GS []) 131 [.sl false false (a0.map (eSN false))] [] (.tup [.own 100, V.b r.2]) [(100, vX 3 1 eNI r.1)] := by
 rw [ms_l6Starts] at h
 refine AC.enter Tryz.func131 rfl (cV 100 (cV 100 (CO.seq' (cV 101 (CO.block' (CO.loopJ (fun (⟨a0, y917, y918⟩ : (LN × Int × (List Int))) => ⟨tl 53 [(0, .sl false false (a0.map (eSN false))), (4, .own 100), (5, V.i y917)], [(100, vX 3 1 eNI y918)]⟩) (fun n i => ms_l6Starts_l1 N n i = some r) (n0 := N) (i0 := (a0, 0, [])) (wS [(100, 100)] [0, 4, 5]) h (fun i h => by simp [ms_l6Starts_l1] at h) ?_))))))
 rintro n1 ⟨a0, y917, y918⟩ h1961 ih1962
 rw [ms_l6Starts_l1] at h1961
 refine CO.seq' (CO.sw mix (wR 2 245 (wN (eSN false) a0 [] (wR 1 245 (wF ?_)))))
 refine cI h1961 (fun _ h1961 => ?_) (fun _ h1961 => ?_)
 ·refine CO.skip (CO.seq' (CO.block' (cV 245 (CO.seq' (bB h1961 fun e1474 hx2322 h1961 => (CO.sw mix (wR 2 245 (wX (eSN false) hx2322 5 ?_))))))))
  refine wR 2 245 (wN eNI e1474.Kids [] (wR 2 245 (wF (CO.block' (CO.loopJ (fun (⟨a0, y917, y918, y1499, y1500⟩ : (LN × Int × (List Int) × Int × Int)) => ⟨tl 53 [(0, .sl false false (a0.map (eSN false))), (4, .own 100), (5, V.i y917), (6, V.i y1499), (7, V.i y1500)], [(100, vX 3 1 eNI y918)]⟩) (fun n i => ms_l6Starts_l2 N (ms_l6Starts_l1 N n1) n i = some r) (n0 := N) (i0 := (a0, y917, y918, y917, (wr ((e1474.Kids.length : Int) - 1)))) (wS [(100, 100)] [0, 4, 5, 6, 7]) h1961 (fun i h => by simp [ms_l6Starts_l2] at h) ?_)))))
  rintro n2 ⟨a0, y917, y918, y1499, y1500⟩ h2399 ih2400
  rw [ms_l6Starts_l2] at h2399
  refine CO.seq' (cV 305 ?_)
  refine cI h2399 (fun _ h2399 => ?_) (fun _ h2399 => ?_)
  ·refine CO.skip (CO.seq' (CO.block' (CO.seq' (bB h2399 fun y1546 hv2432 h2399 => ?_))))
   refine CO.cutR (tl 53 [(0, .sl false false (a0.map (eSN false))), (4, .own 100), (5, V.i y917), (6, V.i y1499), (7, V.i y1500), (41, V.b y1546)]) [(100, vX 3 1 eNI y918)] mix (by
    refine wR 2 305 (bB hv2432 fun e1547 hx2433 hv2432 => (wX (eSN false) hx2433 5 (wR 3 305 (bB hv2432 fun e1548 hx2434 hv2432 => (wX eNI hx2434 1 (wR 5 305 ?_))))))
    refine wJ 38 hv2432 (fun hv2432 => ?_) (fun hv2432 => ?_)
    ·refine wR 3 305 ?_
     cases hv2432
     exact fS [(100, 100)] [0, 4, 5, 6, 7, 41]
    refine wR 3 305 ?_
    cases hv2432
    exact fS [(100, 100)] [0, 4, 5, 6, 7, 41]
    ) ?_
   refine cI h2399 (fun _ h2399 => ?_) (fun _ h2399 => ?_)
   ·refine cV 305 (CO.ret ?_)
    cases h2399
    exact eG [(305, 100)] (.inr rfl) (RetV.two rfl (oT (t := 2) (r := .own 305)) (oT (t := 3) (r := V.b false)))
   refine CO.skip (bB h2399 fun e1550 hx2438 h2399 => ?_)
   refine CO.endR (tl 53 [(0, .sl false false (a0.map (eSN false))), (4, .own 100), (5, V.i y917), (6, V.i e1550), (7, V.i y1500)]) [(100, vX 3 1 eNI y918)] mix (by
    refine wR 3 305 (W.ixO Dk eNI hx2438 100 1 (by kernel_rfl) (W.ldO Dk eNI hx2438 3 100 0 (V.i e1550) (by kernel_rfl) (by kernel_rfl) (wR 1 305 ?_)))
    exact fI
    ) (fun st hw => ?_)
   refine CO.weak hw ?_
   exact cK 305 ih2400 (a0, y917, y918, e1550, (wr (y1500 - 1))) h2399 [(100, 100)] [0, 4, 5, 6, 7]
  refine CO.exit (bB h2399 fun x1552 hx2440 h2399 => ?_)
  refine CO.endR (tl 53 [(0, .sl false false (a0.map (eSN false))), (4, .own 306), (5, V.i y917)]) [(306, vX 3 1 eNI x1552)] mix (by
   refine wR 3 305 (W.appO Dk eNI (a := 100) (c := 305) (el := 3) (sz := 1) 8 hx2440 rfl 306 (by kernel_rfl) (wR 1 307 ?_))
   exact fI
   ) (fun st hw => ?_)
  refine CO.weak hw ?_
  exact cK 307 ih1962 (a0, (wr (y917 + 1)), x1552) h2399 [(306, 100)] [0, 4, 5]
 refine CO.exit (cV 245 (CO.ret ?_))
 cases h1961
 exact eG [(100, 100)] (.inr rfl) (RetV.two rfl (oT (t := 2) (r := .own 100)) (oT (t := 3) (r := V.b true)))

theorem ms_ShapeOk_ok (N : Nat) (a0 : LN) {r : Bool} (h : ms_ShapeOk N a0 = some r) :
    AC Tryz.prog (GS []) 57 [.sl false false (a0.map (eSN false))] [] (V.b r) [] := by
 rw [ms_ShapeOk] at h
 refine AC.enter Tryz.func57 rfl (cV 100 (CO.seq' (bB h fun r4 hx5 h => (CO.sw mix (wR 1 100 (wN (eSN false) a0 [] (w0 (ms_l1In_ok (a0.length : Int) 1 400 hx5) cok77 (wR 1 100 ?_))))))))
 refine wF ?_
 refine cI h (fun _ h => ?_) (fun _ h => ?_)
 ·refine cV 100 ?_
  cases h
  exact e1 2 id
 refine CO.skip (bB h fun r6 hx8 h => (CO.sw mix (wR 1 100 (wC (ms_l6Starts_ok N a0 hx8) cok131 [] [(100, 100)] [100] (wR 5 101 (wF (bB h fun y8 hv11 h => ?_)))))))
 refine CO.cutR (tl 24 [(2, V.b y8)]) [] mix (by
  refine wR 2 101 ?_
  refine wJ 15 hv11 (fun hv11 => ?_) (fun hv11 => ?_)
  ·refine wR 2 101 (wN (eSN false) a0 [] (wR 1 101 (bB hv11 fun e9 hx13 hv11 => (W.ixO Dk eNI hx13 100 1 (by kernel_rfl) (W.ldO Dk eNI hx13 3 100 0 (V.i e9) (by kernel_rfl) (by kernel_rfl) (wR 3 101 ?_))))))
   cases hv11
   exact fS [] [2]
  refine wR 9 101 ?_
  cases hv11
  exact fS [] [2]
  ) ?_
 cases h
 exact e1 2 id

theorem ms_DepthOf_ok (N : Nat) (a0 : LN) {r : Int} (h : ms_DepthOf N a0 = some r) :
    AC Tryz.prog (GS []) 34 [.sl false false (a0.map (eSN false))] [] (V.i r) [] := by
 rw [ms_DepthOf] at h
 refine AC.enter Tryz.func34 rfl (cV 100 (CO.seq' (bB h fun r4 hx5 h => (cC 1 100 (ms_ShapeOk_ok N a0 hx5) cok57 ?_))))
 refine cI h (fun _ h => ?_) (fun _ h => ?_)
 ·refine cV 100 ?_
  cases h
  exact e1 2 id
 refine CO.skip (cV 100 (CO.seq' (cV 101 (CO.block' (CO.loopJ (fun (⟨a0, y857, y858⟩ : (LN × Int × (List Int))) => ⟨tl 51 [(0, .sl false false (a0.map (eSN false))), (3, .own 100), (4, V.i y857)], [(100, vX 3 1 eNI y858)]⟩) (fun n i => ms_DepthOf_l1 N n i = some r) (n0 := N) (i0 := (a0, 0, [])) (wS [(100, 100)] [0, 3, 4]) h (fun i h => by simp [ms_DepthOf_l1] at h) ?_)))))
 rintro n1 ⟨a0, y857, y858⟩ h1159 ih1160
 rw [ms_DepthOf_l1] at h1159
 refine CO.seq' (CO.sw mix (wR 2 285 (wN (eSN false) a0 [] (wR 1 285 (wF ?_)))))
 refine cI h1159 (fun _ h1159 => ?_) (fun _ h1159 => ?_)
 ·refine CO.skip (CO.seq' (CO.block' (cV 285 (CO.seq' (cV 285 (CO.block' (CO.loopJ (fun (⟨a0, y857, y858, y1247, y1248⟩ : (LN × Int × (List Int) × Int × Int)) => ⟨tl 51 [(0, .sl false false (a0.map (eSN false))), (3, .own 100), (4, V.i y857), (5, V.i y1247), (6, V.i y1248)], [(100, vX 3 1 eNI y858)]⟩) (fun n i => ms_DepthOf_l2 N (ms_DepthOf_l1 N n1) n i = some r) (n0 := N) (i0 := (a0, y857, y858, 1, 0)) (wS [(100, 100)] [0, 3, 4, 5, 6]) h1159 (fun i h => by simp [ms_DepthOf_l2] at h) ?_)))))))
  rintro n2 ⟨a0, y857, y858, y1247, y1248⟩ h1369 ih1370
  rw [ms_DepthOf_l2] at h1369
  refine CO.seq' (bB h1369 fun e1270 hx1375 h1369 => (CO.sw mix (wR 3 345 (wX (eSN false) hx1375 5 (wR 2 345 (wN eNI e1270.Kids [] (wR 1 345 (wF ?_))))))))
  refine cI h1369 (fun _ h1369 => ?_) (fun _ h1369 => ?_)
  ·refine CO.skip (CO.seq' (CO.block' (bB h1369 fun e1280 hx1386 h1369 => (bB h1369 fun e1281 hx1387 h1369 => (bB h1369 fun e1282 hx1388 h1369 => ?_)))))
   refine CO.endR (tl 51 [(0, .sl false false (a0.map (eSN false))), (3, .own 100), (4, V.i y857), (5, V.i (if (wr (1 + e1282)) > y1247 then (wr (1 + e1282)) else y1247)), (6, V.i y1248)]) [(100, vX 3 1 eNI y858)] mix (by
    refine wR 4 345 (wX (eSN false) hx1386 5 (wR 3 345 (wX eNI hx1387 1 (wR 1 345 (W.ixO Dk eNI hx1388 100 1 (by kernel_rfl) (W.ldO Dk eNI hx1388 3 100 0 (V.i e1282) (by kernel_rfl) (by kernel_rfl) (wR 3 345 ?_)))))))
    exact fI
    ) (fun st hw => ?_)
   refine CO.weak hw ?_
   exact cK 345 ih1370 (a0, y857, y858, (if (wr (1 + e1282)) > y1247 then (wr (1 + e1282)) else y1247), (wr (y1248 + 1))) h1369 [(100, 100)] [0, 3, 4, 5, 6]
  refine CO.exit (bB h1369 fun x1284 hx1390 h1369 => ?_)
  refine CO.endR (tl 51 [(0, .sl false false (a0.map (eSN false))), (3, .own 346), (4, V.i y857)]) [(346, vX 3 1 eNI x1284)] mix (by
   refine wR 3 345 (W.appO Dk eNI (a := 100) (c := 345) (el := 3) (sz := 1) 8 hx1390 rfl 346 (by kernel_rfl) (wR 1 347 ?_))
   exact fI
   ) (fun st hw => ?_)
  refine CO.weak hw ?_
  exact cK 347 ih1160 (a0, (wr (y857 + 1)), x1284) h1369 [(346, 100)] [0, 3, 4]
 refine CO.exit (bB h1159 fun e1286 hx1392 h1159 => (CO.sw mix (wR 2 285 (wN (eSN false) a0 [] (wR 1 285 (W.ixO Dk eNI hx1392 100 1 (by kernel_rfl) (W.ldO Dk eNI hx1392 3 100 0 (V.i e1286) (by kernel_rfl) (by kernel_rfl) (wR 1 285 ?_))))))))
 refine wF ?_
 cases h1159
 exact e1 2 id

theorem ms_l7Many_ok (a0 : SNode) {r : (Int × Int)} (h : ms_l7Many a0 = some r) :
    AC Tryz.prog (GS []) 132 [.agg [V.i a0.Kind, V.i a0.Op, V.s a0.Text, V.s a0.Other, sL eNI a0.Kids]] [] (.tup [V.i r.1, V.i r.2]) [] := by
 rw [ms_l7Many] at h
 refine AC.enter Tryz.func132 rfl (cV 100 (CO.seq' (cV 101 (CO.block' ?_))))
 refine CO.join (fun (⟨a0, y7⟩ : (SNode × Bool)) => ⟨tl 75 [(1, .loc 100 0), (6, V.i a0.Kind), (7, V.b y7)], [(100, .cells 37 [V.i a0.Kind, V.i a0.Op, V.s a0.Text, V.s a0.Other, sL eNI a0.Kids])]⟩) (fun i => ms_l7Many_k1 i = some r) ?_ ?_
 · rintro ⟨a0, y7⟩ h59
   rw [ms_l7Many_k1] at h59
   refine cI h59 (fun _ h59 => ?_) (fun _ h59 => ?_)
   ·refine cV 101 (CO.ret ?_)
    cases h59
    exact eG [] (.inr rfl) (RetV.two rfl (oT (t := 2) (r := V.i 1)) (oT (t := 3) (r := V.i 6)))
   refine CO.join (fun (⟨a0, y8⟩ : (SNode × Bool)) => ⟨tl 75 [(1, .loc 100 0), (6, V.i a0.Kind), (10, V.b y8)], [(100, .cells 37 [V.i a0.Kind, V.i a0.Op, V.s a0.Text, V.s a0.Other, sL eNI a0.Kids])]⟩) (fun i => ms_l7Many_k2 i = some r) ?_ ?_
   · rintro ⟨a0, y8⟩ h63
     rw [ms_l7Many_k2] at h63
     refine cI h63 (fun _ h63 => ?_) (fun _ h63 => ?_)
     ·refine cV 101 (CO.ret ?_)
      cases h63
      exact eG [] (.inr rfl) (RetV.two rfl (oT (t := 2) (r := V.i 0)) (oT (t := 3) (r := V.i 6)))
     refine CO.join (fun (⟨a0, y9⟩ : (SNode × Bool)) => ⟨tl 75 [(1, .loc 100 0), (6, V.i a0.Kind), (14, V.b y9)], [(100, .cells 37 [V.i a0.Kind, V.i a0.Op, V.s a0.Text, V.s a0.Other, sL eNI a0.Kids])]⟩) (fun i => ms_l7Many_k3 i = some r) ?_ ?_
     · rintro ⟨a0, y9⟩ h72
       rw [ms_l7Many_k3] at h72
       refine cI h72 (fun _ h72 => ?_) (fun _ h72 => ?_)
       ·refine cV 101 (CO.ret ?_)
        cases h72
        exact eG [] (.inr rfl) (RetV.two rfl (oT (t := 2) (r := V.i 1)) (oT (t := 3) (r := V.i 1)))
       refine CO.join (fun (⟨a0, y10⟩ : (SNode × Bool)) => ⟨tl 75 [(1, .loc 100 0), (6, V.i a0.Kind), (23, V.b y10)], [(100, .cells 37 [V.i a0.Kind, V.i a0.Op, V.s a0.Text, V.s a0.Other, sL eNI a0.Kids])]⟩) (fun i => ms_l7Many_k4 i = some r) ?_ ?_
       · rintro ⟨a0, y10⟩ h77
         rw [ms_l7Many_k4] at h77
         refine cI h77 (fun _ h77 => ?_) (fun _ h77 => ?_)
         ·refine cV 101 (CO.ret ?_)
          cases h77
          exact eG [] (.inr rfl) (RetV.two rfl (oT (t := 2) (r := V.i 2)) (oT (t := 3) (r := V.i 2)))
         refine cV 101 ?_
         refine cI h77 (fun _ h77 => ?_) (fun _ h77 => ?_)
         ·refine cV 101 (CO.ret ?_)
          cases h77
          exact eG [] (.inr rfl) (RetV.two rfl (oT (t := 2) (r := V.i 3)) (oT (t := 3) (r := V.i 3)))
         refine cV 101 ?_
         refine cI h77 (fun _ h77 => ?_) (fun _ h77 => ?_)
         ·refine cV 101 (CO.seq' (cV 101 ?_))
          refine cI h77 (fun _ h77 => ?_) (fun _ h77 => ?_)
          ·refine cV 101 (CO.ret ?_)
           have h77 := sI h77
           subst h77
           exact eG [] (.inr rfl) (RetV.two rfl (oT (t := 2) (r := V.i (wr (a0.Op + 1)))) (oT (t := 3) (r := V.i 7)))
          refine CO.skip (cV 101 (CO.ret ?_))
          have h77 := sI h77
          subst h77
          exact eG [] (.inr rfl) (RetV.two rfl (oT (t := 2) (r := V.i a0.Op)) (oT (t := 3) (r := V.i 6)))
         refine CO.join (fun (⟨a0, y11⟩ : (SNode × Bool)) => ⟨tl 75 [(1, .loc 100 0), (6, V.i a0.Kind), (40, V.b y11)], [(100, .cells 37 [V.i a0.Kind, V.i a0.Op, V.s a0.Text, V.s a0.Other, sL eNI a0.Kids])]⟩) (fun i => ms_l7Many_k5 i = some r) ?_ ?_
         · rintro ⟨a0, y11⟩ h84
           rw [ms_l7Many_k5] at h84
           refine cI h84 (fun _ h84 => ?_) (fun _ h84 => ?_)
           ·refine cV 101 (CO.ret ?_)
            cases h84
            exact eG [] (.inr rfl) (RetV.two rfl (oT (t := 2) (r := V.i 0)) (oT (t := 3) (r := V.i 1)))
           refine cV 101 ?_
           refine cI h84 (fun _ h84 => ?_) (fun _ h84 => ?_)
           ·refine cV 101 (CO.ret ?_)
            cases h84
            exact eG [] (.inr rfl) (RetV.two rfl (oT (t := 2) (r := V.i 2)) (oT (t := 3) (r := V.i 3)))
           refine cV 101 ?_
           refine cI h84 (fun _ h84 => ?_) (fun _ h84 => ?_)
           ·refine cV 101 (CO.ret ?_)
            cases h84
            exact eG [] (.inr rfl) (RetV.two rfl (oT (t := 2) (r := V.i 4)) (oT (t := 3) (r := V.i 4)))
           refine CO.join (fun (⟨a0, y12⟩ : (SNode × Bool)) => ⟨tl 75 [(1, .loc 100 0), (6, V.i a0.Kind), (47, V.b y12)], [(100, .cells 37 [V.i a0.Kind, V.i a0.Op, V.s a0.Text, V.s a0.Other, sL eNI a0.Kids])]⟩) (fun i => ms_l7Many_k6 i = some r) ?_ ?_
           · rintro ⟨a0, y12⟩ h89
             rw [ms_l7Many_k6] at h89
             refine cI h89 (fun _ h89 => ?_) (fun _ h89 => ?_)
             ·refine CO.sw mix (wR 2 101 (wN eNI a0.Kids [] (wR 2 101 (wF (CO.ret ?_)))))
              have h89 := sI h89
              subst h89
              exact eG [] (.inr rfl) (RetV.two rfl (oT (t := 2) (r := V.i 0)) (oT (t := 3) (r := V.i (a0.Kids.length : Int))))
             refine cV 101 ?_
             refine cI h89 (fun _ h89 => ?_) (fun _ h89 => ?_)
             ·refine cV 101 (CO.ret ?_)
              have h89 := sI h89
              subst h89
              exact eG [] (.inr rfl) (RetV.two rfl (oT (t := 2) (r := V.i (wr (1 + (wr (Int.tdiv a0.Op 3)))))) (oT (t := 3) (r := V.i (wr (1 + (wr (Int.tdiv a0.Op 3)))))))
             refine cV 101 ?_
             refine cI h89 (fun _ h89 => ?_) (fun _ h89 => ?_)
             ·refine cV 101 (CO.ret ?_)
              have h89 := sI h89
              subst h89
              exact eG [] (.inr rfl) (RetV.two rfl (oT (t := 2) (r := V.i (wr (2 + (wr (Int.tdiv a0.Op 3)))))) (oT (t := 3) (r := V.i (wr (2 + (wr (Int.tdiv a0.Op 3)))))))
             refine cV 101 ?_
             refine cI h89 (fun _ h89 => ?_) (fun _ h89 => ?_)
             ·refine cV 101 (CO.ret ?_)
              cases h89
              exact eG [] (.inr rfl) (RetV.two rfl (oT (t := 2) (r := V.i 1)) (oT (t := 3) (r := V.i 7)))
             refine CO.skip (cV 101 (CO.ret ?_))
             cases h89
             exact eG [] (.inr rfl) (RetV.two rfl (oT (t := 2) (r := V.i 0)) (oT (t := 3) (r := V.i 0)))
           intro hk94
           refine cV 101 ?_
           refine cI h84 (fun _ h84 => ?_) (fun _ h84 => ?_)
           ·exact sK hk94 (a0, (a0.Kind == 33)) h84 [(100, 100)] [1, 6, 47]
           exact cK 101 hk94 (a0, (a0.Kind == 45)) h84 [(100, 100)] [1, 6, 47]
         intro hk96
         refine cV 101 ?_
         refine cI h77 (fun _ h77 => ?_) (fun _ h77 => ?_)
         ·exact sK hk96 (a0, (a0.Kind == 23)) h77 [(100, 100)] [1, 6, 40]
         exact cK 101 hk96 (a0, (a0.Kind == 24)) h77 [(100, 100)] [1, 6, 40]
       intro hk98
       refine cV 101 ?_
       refine cI h72 (fun _ h72 => ?_) (fun _ h72 => ?_)
       ·exact sK hk98 (a0, (a0.Kind == 12)) h72 [(100, 100)] [1, 6, 23]
       refine cV 101 ?_
       refine cI h72 (fun _ h72 => ?_) (fun _ h72 => ?_)
       ·exact sK hk98 (a0, (a0.Kind == 15)) h72 [(100, 100)] [1, 6, 23]
       refine cV 101 ?_
       refine cI h72 (fun _ h72 => ?_) (fun _ h72 => ?_)
       ·exact sK hk98 (a0, (a0.Kind == 29)) h72 [(100, 100)] [1, 6, 23]
       exact cK 101 hk98 (a0, (a0.Kind == 30)) h72 [(100, 100)] [1, 6, 23]
     intro hk102
     refine cV 101 ?_
     refine cI h63 (fun _ h63 => ?_) (fun _ h63 => ?_)
     ·exact sK hk102 (a0, (a0.Kind == 6)) h63 [(100, 100)] [1, 6, 14]
     refine cV 101 ?_
     refine cI h63 (fun _ h63 => ?_) (fun _ h63 => ?_)
     ·exact sK hk102 (a0, (a0.Kind == 9)) h63 [(100, 100)] [1, 6, 14]
     refine cV 101 ?_
     refine cI h63 (fun _ h63 => ?_) (fun _ h63 => ?_)
     ·exact sK hk102 (a0, (a0.Kind == 10)) h63 [(100, 100)] [1, 6, 14]
     refine cV 101 ?_
     refine cI h63 (fun _ h63 => ?_) (fun _ h63 => ?_)
     ·exact sK hk102 (a0, (a0.Kind == 11)) h63 [(100, 100)] [1, 6, 14]
     refine cV 101 ?_
     refine cI h63 (fun _ h63 => ?_) (fun _ h63 => ?_)
     ·exact sK hk102 (a0, (a0.Kind == 20)) h63 [(100, 100)] [1, 6, 14]
     refine cV 101 ?_
     refine cI h63 (fun _ h63 => ?_) (fun _ h63 => ?_)
     ·exact sK hk102 (a0, (a0.Kind == 32)) h63 [(100, 100)] [1, 6, 14]
     refine cV 101 ?_
     refine cI h63 (fun _ h63 => ?_) (fun _ h63 => ?_)
     ·exact sK hk102 (a0, (a0.Kind == 40)) h63 [(100, 100)] [1, 6, 14]
     exact cK 101 hk102 (a0, (a0.Kind == 41)) h63 [(100, 100)] [1, 6, 14]
   intro hk110
   refine cV 101 ?_
   refine cI h59 (fun _ h59 => ?_) (fun _ h59 => ?_)
   ·exact sK hk110 (a0, (a0.Kind == 7)) h59 [(100, 100)] [1, 6, 10]
   refine cV 101 ?_
   refine cI h59 (fun _ h59 => ?_) (fun _ h59 => ?_)
   ·exact sK hk110 (a0, (a0.Kind == 8)) h59 [(100, 100)] [1, 6, 10]
   exact cK 101 hk110 (a0, (a0.Kind == 27)) h59 [(100, 100)] [1, 6, 10]
 intro hk113
 refine cV 101 ?_
 refine cI h (fun _ h => ?_) (fun _ h => ?_)
 ·exact sK hk113 (a0, (a0.Kind == 5)) h [(100, 100)] [1, 6, 7]
 exact cK 101 hk113 (a0, (a0.Kind == 13)) h [(100, 100)] [1, 6, 7]

theorem ms_l7IsBin_ok (a0 : Int) {r : Bool} (h : ms_l7IsBin a0 = some r) :
    AC Tryz.prog (GS []) 189 [V.i a0] [] (V.b r) [] := by
 rw [ms_l7IsBin] at h
 refine AC.enter Tryz.func189 rfl (cV 100 (CO.seq' (cV 100 (CO.block' ?_))))
 refine CO.join (fun (y2 : Bool) => ⟨tl 22 [(4, V.b y2)], []⟩) (fun i => ms_l7IsBin_k1 i = some r) ?_ ?_
 · rintro y2 h52
   rw [ms_l7IsBin_k1] at h52
   refine cI h52 (fun _ h52 => ?_) (fun _ h52 => ?_)
   ·refine cV 100 ?_
    cases h52
    exact e1 2 id
   refine CO.skip (cV 100 ?_)
   cases h52
   exact e1 2 id
 intro hk54
 refine cV 100 ?_
 refine cI h (fun _ h => ?_) (fun _ h => ?_)
 ·exact sK hk54 (a0 == 60) h [] [4]
 refine cV 100 ?_
 refine cI h (fun _ h => ?_) (fun _ h => ?_)
 ·exact sK hk54 (a0 == 57) h [] [4]
 refine cV 100 ?_
 refine cI h (fun _ h => ?_) (fun _ h => ?_)
 ·exact sK hk54 (a0 == 58) h [] [4]
 refine cV 100 ?_
 refine cI h (fun _ h => ?_) (fun _ h => ?_)
 ·exact sK hk54 (a0 == 59) h [] [4]
 refine cV 100 ?_
 refine cI h (fun _ h => ?_) (fun _ h => ?_)
 ·exact sK hk54 (a0 == 55) h [] [4]
 refine cV 100 ?_
 refine cI h (fun _ h => ?_) (fun _ h => ?_)
 ·exact sK hk54 (a0 == 56) h [] [4]
 refine cV 100 ?_
 refine cI h (fun _ h => ?_) (fun _ h => ?_)
 ·exact sK hk54 (a0 == 99) h [] [4]
 refine cV 100 ?_
 refine cI h (fun _ h => ?_) (fun _ h => ?_)
 ·exact sK hk54 (a0 == 63) h [] [4]
 refine cV 100 ?_
 refine cI h (fun _ h => ?_) (fun _ h => ?_)
 ·exact sK hk54 (a0 == 48) h [] [4]
 refine cV 100 ?_
 refine cI h (fun _ h => ?_) (fun _ h => ?_)
 ·exact sK hk54 (a0 == 47) h [] [4]
 refine cV 100 ?_
 refine cI h (fun _ h => ?_) (fun _ h => ?_)
 ·exact sK hk54 (a0 == 50) h [] [4]
 refine cV 100 ?_
 refine cI h (fun _ h => ?_) (fun _ h => ?_)
 ·exact sK hk54 (a0 == 62) h [] [4]
 refine cV 100 ?_
 refine cI h (fun _ h => ?_) (fun _ h => ?_)
 ·exact sK hk54 (a0 == 49) h [] [4]
 refine cV 100 ?_
 refine cI h (fun _ h => ?_) (fun _ h => ?_)
 ·exact sK hk54 (a0 == 67) h [] [4]
 refine cV 100 ?_
 refine cI h (fun _ h => ?_) (fun _ h => ?_)
 ·exact sK hk54 (a0 == 46) h [] [4]
 refine cV 100 ?_
 refine cI h (fun _ h => ?_) (fun _ h => ?_)
 ·exact sK hk54 (a0 == 45) h [] [4]
 exact cK 100 hk54 (a0 == 44) h [] [4]

theorem ms_l7IsAssign_ok (a0 : Int) {r : Bool} (h : ms_l7IsAssign a0 = some r) :
    AC Tryz.prog (GS []) 190 [V.i a0] [] (V.b r) [] := by
 rw [ms_l7IsAssign] at h
 refine AC.enter Tryz.func190 rfl (cV 100 (bB h fun y2 hv3 h => ?_))
 refine CO.cutR (tl 9 [(2, V.b y2)]) [] mix (by
  refine wR 3 100 ?_
  refine wJ 5 hv3 (fun hv3 => ?_) (fun hv3 => ?_)
  ·refine wR 4 100 ?_
   cases hv3
   exact fS [] [2]
  refine wR 1 100 (bB hv3 fun r3 hx5 hv3 => (w0 (ms_l1In_ok a0 38 43 hx5) cok77 (wR 2 100 ?_)))
  cases hv3
  exact fS [] [2]
  ) ?_
 cases h
 exact e1 2 id

theorem ms_l7Op_ok (a0 : SNode) {r : Bool} (h : ms_l7Op a0 = some r) :
    AC Tryz.prog (GS []) 133 [.agg [V.i a0.Kind, V.i a0.Op, V.s a0.Text, V.s a0.Other, sL eNI a0.Kids]] [] (V.b r) [] := by
 rw [ms_l7Op] at h
 refine AC.enter Tryz.func133 rfl (cV 100 (CO.seq' (cV 101 (CO.block' ?_))))
 refine CO.join (fun (⟨a0, y13⟩ : (SNode × Bool)) => ⟨tl 64 [(1, .loc 100 0), (4, V.i a0.Kind), (5, V.b y13)], [(100, .cells 37 [V.i a0.Kind, V.i a0.Op, V.s a0.Text, V.s a0.Other, sL eNI a0.Kids])]⟩) (fun i => ms_l7Op_k1 i = some r) ?_ ?_
 · rintro ⟨a0, y13⟩ h32
   rw [ms_l7Op_k1] at h32
   refine cI h32 (fun _ h32 => ?_) (fun _ h32 => ?_)
   ·refine bB h32 fun y14 hv35 h32 => ?_
    refine CO.cutR (tl 64 [(2, V.b y14)]) [] mix (by
     refine wR 4 101 ?_
     refine wJ 11 hv35 (fun hv35 => ?_) (fun hv35 => ?_)
     ·refine wR 5 101 ?_
      cases hv35
      exact fS [] [2]
     refine wR 5 101 ?_
     cases hv35
     exact fS [] [2]
     ) ?_
    cases h32
    exact e1 2 id
   refine cV 101 ?_
   refine cI h32 (fun _ h32 => ?_) (fun _ h32 => ?_)
   ·refine bB h32 fun y15 hv40 h32 => ?_
    refine CO.cutR (tl 64 [(2, V.b y15)]) [] mix (by
     refine wR 4 101 ?_
     refine wJ 21 hv40 (fun hv40 => ?_) (fun hv40 => ?_)
     ·refine wR 10 101 ?_
      cases hv40
      exact fS [] [2]
     refine wR 5 101 ?_
     refine wJ 26 hv40 (fun hv40 => ?_) (fun hv40 => ?_)
     ·refine wR 5 101 ?_
      cases hv40
      exact fS [] [2]
     refine wR 5 101 ?_
     cases hv40
     exact fS [] [2]
     ) ?_
    cases h32
    exact e1 2 id
   refine cV 101 ?_
   refine cI h32 (fun _ h32 => ?_) (fun _ h32 => ?_)
   ·refine bB h32 fun r17 hx45 h32 => (cC 2 101 (ms_l7IsBin_ok a0.Op hx45) cok189 ?_)
    cases h32
    exact e1 2 id
   refine cV 101 ?_
   refine cI h32 (fun _ h32 => ?_) (fun _ h32 => ?_)
   ·refine bB h32 fun r19 hx48 h32 => (cC 2 101 (ms_l7IsAssign_ok a0.Op hx48) cok190 ?_)
    cases h32
    exact e1 2 id
   refine cV 101 ?_
   refine cI h32 (fun _ h32 => ?_) (fun _ h32 => ?_)
   ·refine bB h32 fun r21 hx51 h32 => (cC 2 101 (ms_l1In_ok a0.Op 0 1 hx51) cok77 ?_)
    cases h32
    exact e1 2 id
   refine cV 101 ?_
   refine cI h32 (fun _ h32 => ?_) (fun _ h32 => ?_)
   ·refine bB h32 fun r23 hx54 h32 => (cC 2 101 (ms_l1In_ok a0.Op 1 3 hx54) cok77 ?_)
    cases h32
    exact e1 2 id
   refine cV 101 ?_
   refine cI h32 (fun _ h32 => ?_) (fun _ h32 => ?_)
   ·refine bB h32 fun y24 hv57 h32 => ?_
    refine CO.cutR (tl 64 [(2, V.b y24)]) [] mix (by
     refine wR 4 101 ?_
     refine wJ 56 hv57 (fun hv57 => ?_) (fun hv57 => ?_)
     ·refine wR 5 101 ?_
      cases hv57
      exact fS [] [2]
     refine wR 5 101 ?_
     cases hv57
     exact fS [] [2]
     ) ?_
    cases h32
    exact e1 2 id
   refine CO.skip (cV 101 ?_)
   cases h32
   exact e1 2 id
 intro hk59
 refine cV 101 ?_
 refine cI h (fun _ h => ?_) (fun _ h => ?_)
 ·exact sK hk59 (a0, (a0.Kind == 9)) h [(100, 100)] [1, 4, 5]
 exact cK 101 hk59 (a0, (a0.Kind == 10)) h [(100, 100)] [1, 4, 5]

theorem ms_IsLetter_ok (a0 : Int) {r : Bool} (h : ms_IsLetter a0 = some r) :
    AC Tryz.prog (GS []) 258 [V.i a0] [] (V.b r) [] := by
 rw [ms_IsLetter] at h
 refine AC.enter Tryz.func258 rfl (cV 100 (bB h fun y3 hv5 h => ?_))
 refine CO.cutR (tl 13 [(2, V.b y3)]) [] mix (by
  refine wR 1 100 (bB hv5 fun r4 hx6 hv5 => (w0 (ms_l1In_ok a0 97 122 hx6) cok77 (wR 1 100 ?_)))
  refine wJ 5 hv5 (fun hv5 => ?_) (fun hv5 => ?_)
  ·refine wR 8 100 ?_
   cases hv5
   exact fS [] [2]
  refine wR 1 100 (bB hv5 fun r5 hx8 hv5 => (w0 (ms_l1In_ok a0 65 90 hx8) cok77 (wR 2 100 ?_)))
  refine wJ 9 hv5 (fun hv5 => ?_) (fun hv5 => ?_)
  ·refine wR 4 100 ?_
   cases hv5
   exact fS [] [2]
  refine wR 4 100 ?_
  cases hv5
  exact fS [] [2]
  ) ?_
 cases h
 exact e1 2 id

theorem ms_IsDigit_ok (a0 : Int) {r : Bool} (h : ms_IsDigit a0 = some r) :
    AC Tryz.prog (GS []) 287 [V.i a0] [] (V.b r) [] := by
 rw [ms_IsDigit] at h
 refine AC.enter Tryz.func287 rfl (cV 100 (bB h fun r2 hx2 h => (cC 1 100 (ms_l1In_ok a0 48 57 hx2) cok77 ?_)))
 cases h
 exact e1 2 id

theorem ms_IsWordByte_ok (a0 : Int) {r : Bool} (h : ms_IsWordByte a0 = some r) :
    AC Tryz.prog (GS []) 257 [V.i a0] [] (V.b r) [] := by
 rw [ms_IsWordByte] at h
 refine AC.enter Tryz.func257 rfl (cV 100 (bB h fun y3 hv4 h => ?_))
 refine CO.cutR (tl 9 [(2, V.b y3)]) [] mix (by
  refine wR 1 100 (bB hv4 fun r4 hx5 hv4 => (w0 (ms_IsLetter_ok a0 hx5) cok258 (wR 1 100 ?_)))
  refine wJ 5 hv4 (fun hv4 => ?_) (fun hv4 => ?_)
  ·refine wR 4 100 ?_
   cases hv4
   exact fS [] [2]
  refine wR 1 100 (bB hv4 fun r5 hx7 hv4 => (w0 (ms_IsDigit_ok a0 hx7) cok287 (wR 2 100 ?_)))
  cases hv4
  exact fS [] [2]
  ) ?_
 cases h
 exact e1 2 id

theorem ms_NameShape_ok (N : Nat) (a0 : LU) {r : Bool} (h : ms_NameShape N a0 = some r) :
    AC Tryz.prog (GS []) 228 [V.s a0] [] (V.b r) [] := by
 rw [ms_NameShape] at h
 refine AC.enter Tryz.func228 rfl (cV 100 (CO.seq' (cV 100 (CO.block' (CO.loopJ (fun (⟨a0, y35⟩ : (LU × Int)) => ⟨tl 25 [(0, V.s a0), (3, V.i y35)], []⟩) (fun n i => ms_NameShape_l1 N n i = some r) (n0 := N) (i0 := (a0, 0)) (wS [] [0, 3]) h (fun i h => by simp [ms_NameShape_l1] at h) ?_)))))
 rintro n1 ⟨a0, y35⟩ h63 ih64
 rw [ms_NameShape_l1] at h63
 refine CO.seq' (cV 160 ?_)
 refine cI h63 (fun _ h63 => ?_) (fun _ h63 => ?_)
 ·refine CO.skip (CO.seq' (CO.block' (bB h63 fun b51 hx74 h63 => (bB h63 fun r52 hx75 h63 => (CO.sw mix (wR 2 160 (W.ixS Dk hx74 (by kernel_rfl) (wR 1 160 ?_))))))))
  refine w0 (ms_IsWordByte_ok (wr ((b51).toNat : Int)) hx75) cok257 (wR 1 160 (wF ?_))
  refine cI h63 (fun _ h63 => ?_) (fun _ h63 => ?_)
  ·refine cV 160 ?_
   cases h63
   exact e1 2 id
  refine CO.skip ?_
  exact cK 160 ih64 (a0, (wr (y35 + 1))) h63 [] [0, 3]
 refine CO.exit (bB h63 fun y56 hv81 h63 => ?_)
 refine CO.cutR (tl 25 [(2, V.b y56)]) [] mix (by
  refine wR 2 160 (bB hv81 fun r57 hx82 hv81 => (w0 (ms_l1In_ok (a0.length : Int) 1 12 hx82) cok77 (wR 1 160 ?_)))
  refine wJ 19 hv81 (fun hv81 => ?_) (fun hv81 => ?_)
  ·refine wR 1 160 (bB hv81 fun b58 hx84 hv81 => (W.ixS Dk hx84 (by kernel_rfl) (wR 1 160 (bB hv81 fun r59 hx85 hv81 => (w0 (ms_IsLetter_ok (wr ((b58).toNat : Int)) hx85) cok258 (wR 2 160 ?_))))))
   cases hv81
   exact fS [] [2]
  refine wR 6 160 ?_
  cases hv81
  exact fS [] [2]
  ) ?_
 cases h63
 exact e1 2 id

theorem ms_l3Words_ok {r : LLU} (h : ms_l3Words = some r) :
    AC Tryz.prog (GS []) 259 [] [] (.own 100) [(100, vN r)] := by
 rw [ms_l3Words] at h
 refine AC.enter Tryz.func259 rfl (cV 100 (cV 100 (CO.ret ?_)))
 cases h
 exact eG [(100, 100)] (.inr rfl) (RetV.one rfl (oT (t := 0) (r := .own 100)))

theorem ms_l3Find_ok (N : Nat) (a0 : LLU) (a1 : LU) {r : Int} (h : ms_l3Find N a0 a1 = some r) :
    AC Tryz.prog (GS []) 235 [sL eNS a0, V.s a1] [] (V.i r) [] := by
 rw [ms_l3Find] at h
 refine AC.enter Tryz.func235 rfl (cV 100 (CO.seq' (cV 100 (CO.block' (CO.loopJ (fun (⟨a0, a1, y19⟩ : (LLU × LU × Int)) => ⟨tl 19 [(0, sL eNS a0), (1, V.s a1), (5, V.i y19)], []⟩) (fun n i => ms_l3Find_l1 N n i = some r) (n0 := N) (i0 := (a0, a1, 0)) (wS [] [0, 1, 5]) h (fun i h => by simp [ms_l3Find_l1] at h) ?_)))))
 rintro n1 ⟨a0, a1, y19⟩ h43 ih44
 rw [ms_l3Find_l1] at h43
 refine CO.seq' (CO.sw mix (wR 2 160 (wN eNS a0 [] (wR 1 160 (wF ?_)))))
 refine cI h43 (fun _ h43 => ?_) (fun _ h43 => ?_)
 ·refine CO.skip (CO.seq' (CO.block' (bB h43 fun e28 hx51 h43 => (CO.sw mix (wR 2 160 (wX eNS hx51 1 (wR 3 160 (wF ?_))))))))
  refine cI h43 (fun _ h43 => ?_) (fun _ h43 => ?_)
  ·refine cV 160 ?_
   cases h43
   exact e1 4 id
  refine CO.skip ?_
  exact cK 160 ih44 (a0, a1, (wr (y19 + 1))) h43 [] [0, 1, 5]
 refine CO.exit (cV 160 ?_)
 cases h43
 exact e1 4 id

end Go.Proofs.Tryz
