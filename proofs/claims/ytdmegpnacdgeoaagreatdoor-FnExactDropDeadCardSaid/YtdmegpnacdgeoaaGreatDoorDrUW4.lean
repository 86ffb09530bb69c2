/-
  The walks that show that the code computes the models, part 4.
-/
import Derived.Test.YtdmegpnacdgeoaaGreatDoorDrUW3
namespace Go.Proofs.Tryz
open Go.Av
set_option maxRecDepth 100000
set_option maxHeartbeats 8000000
set_option linter.unusedSimpArgs false
set_option linter.unusedVariables false

theorem ml_heldNodeS_ok (N : Nat) (a0 : List SNode) (a1 : Int) {r : Int} (h : ml_heldNodeS N a0 a1 = some r) :
    AC Tryz.prog (GS []) 18 [.sl false false (a0.map (eSN false)), V.i a1] [] (V.i r) [] := by
 rw [ml_heldNodeS] at h
 refine AC.enter Tryz.func18 rfl ?_
 refine cV 100 ?_
 refine CO.seq' ?_
 refine cV 100 ?_
 refine CO.block' ?_
 refine CO.loopJ (fun (⟨a0, y229, y230⟩ : ((List SNode) × Int × Int)) => ⟨tl 60 [(0, .sl false false (a0.map (eSN false))), (1, V.i y229), (5, V.i y230)], []⟩) (fun n i => ml_heldNodeS_l1 N n i = some r) (n0 := N) (i0 := (a0, a1, 0)) (wS [] [0, 1, 5]) h (fun i h => by simp [ml_heldNodeS_l1] at h) ?_
 rintro n1 ⟨a0, y229, y230⟩ h383 ih384
 rw [ml_heldNodeS_l1] at h383
 refine CO.seq' ?_
 refine CO.sw mix ?_
 refine wR 2 160 ?_
 refine W.len Dk (eSN false) a0 [] (by kernel_rfl) (by kernel_rfl) ?_
 refine wR 1 160 ?_
 refine wF ?_
 refine cI h383 (fun _ h383 => ?_) (fun _ h383 => ?_)
 ·refine CO.skip ?_
  refine CO.seq' ?_
  refine CO.block' ?_
  refine CO.seq' ?_
  refine bB h383 fun e320 hx428 h383 => ?_
  refine CO.sw mix ?_
  refine wR 2 160 ?_
  refine W.ixD Dk (eSN false) hx428 5 (by kernel_rfl) (by kernel_rfl) ?_
  refine wR 4 160 ?_
  refine wF ?_
  refine cI h383 (fun _ h383 => ?_) (fun _ h383 => ?_)
  ·refine cV 160 ?_
   cases h383
   exact e1 4 id
  refine CO.skip ?_
  refine cV 160 ?_
  refine CO.seq' ?_
  refine bB h383 fun e324 hx434 h383 => ?_
  refine CO.sw mix ?_
  refine wR 2 160 ?_
  refine W.ixD Dk (eSN false) hx434 5 (by kernel_rfl) (by kernel_rfl) ?_
  refine wR 4 160 ?_
  refine wF ?_
  refine cI h383 (fun _ h383 => ?_) (fun _ h383 => ?_)
  ·refine cV 160 ?_
   cases h383
   exact e1 4 id
  refine CO.skip ?_
  refine cV 160 ?_
  refine CO.seq' ?_
  refine bB h383 fun e331 hx443 h383 => ?_
  refine bB h383 fun r332 hx444 h383 => ?_
  refine CO.sw mix ?_
  refine wR 2 160 ?_
  refine W.ixD Dk (eSN false) hx443 5 (by kernel_rfl) (by kernel_rfl) ?_
  refine wR 3 160 ?_
  refine W.call0 (ml_markText_ok N (IntKind.wrap .i64 ((IntKind.wrap .i64 (y229 + 1)) + 1)) hx444) cok32 rfl (by kernel_rfl) ?_
  refine wR 1 160 ?_
  refine wF ?_
  refine cI h383 (fun _ h383 => ?_) (fun _ h383 => ?_)
  ·refine cV 160 ?_
   cases h383
   exact e1 4 id
  refine CO.skip ?_
  refine cV 160 ?_
  refine CO.seq' ?_
  refine bB h383 fun e339 hx453 h383 => ?_
  refine bB h383 fun r340 hx454 h383 => ?_
  refine CO.sw mix ?_
  refine wR 2 160 ?_
  refine W.ixD Dk (eSN false) hx453 5 (by kernel_rfl) (by kernel_rfl) ?_
  refine wR 3 160 ?_
  refine W.call0 (ml_markText_ok N (IntKind.wrap .i64 ((IntKind.wrap .i64 ((IntKind.wrap .i64 (y229 + 1)) + 1)) + 1)) hx454) cok32 rfl (by kernel_rfl) ?_
  refine wR 1 160 ?_
  refine wF ?_
  refine cI h383 (fun _ h383 => ?_) (fun _ h383 => ?_)
  ·refine cV 160 ?_
   cases h383
   exact e1 4 id
  refine CO.skip ?_
  refine cV 160 ?_
  refine bB h383 fun e343 hx458 h383 => ?_
  refine bB h383 fun r344 hx459 h383 => ?_
  refine CO.sw mix ?_
  refine wR 2 160 ?_
  refine W.ixD Dk (eSN false) hx458 5 (by kernel_rfl) (by kernel_rfl) ?_
  refine wR 3 160 ?_
  refine W.call0 (ml_heldIntS_ok N e343.Kids (IntKind.wrap .i64 ((IntKind.wrap .i64 ((IntKind.wrap .i64 ((IntKind.wrap .i64 (y229 + 1)) + 1)) + 1)) + 1)) hx459) cok23 rfl (by kernel_rfl) ?_
  refine wR 1 160 ?_
  refine wF ?_
  refine cV 160 ?_
  refine cI h383 (fun _ h383 => ?_) (fun _ h383 => ?_)
  ·refine cV 160 ?_
   cases h383
   exact e1 4 id
  refine CO.skip ?_
  exact cK 160 ih384 (a0, r344, (IntKind.wrap .i64 (y230 + 1))) h383 [] [0, 1, 5]
 refine CO.exit ?_
 refine cV 160 ?_
 cases h383
 exact e1 4 id

theorem ml_FnExactDropDead_ok (N : Nat) (a0 : List SNode) {r : Bool} (h : ml_FnExactDropDead N a0 = some r) :
    AC Tryz.prog (GS [0, 1, 2]) 4 [.sl false false (a0.map (eSN false))] [] (V.b r) [] := by
 rw [ml_FnExactDropDead] at h
 refine AC.enter Tryz.func4 rfl ?_
 refine cV 100 ?_
 refine cV 100 ?_
 refine bB h fun r2 hx2 h => ?_
 refine cC 2 100 (AC.gs (ml_szNodeS_ok N a0 1048576 hx2) (by decide)) cok6 ?_
 refine CO.seq' ?_
 refine cV 100 ?_
 refine cI h (fun _ h => ?_) (fun _ h => ?_)
 ·refine cV 100 ?_
  cases h
  exact e1 2 id
 refine CO.skip ?_
 refine bB h fun r5 hx7 h => ?_
 refine bB h fun r6 hx8 h => ?_
 refine CO.sw mix ?_
 refine wR 1 100 ?_
 refine W.call (AC.gs (ml_toNodeS_ok N a0 hx7) (by decide)) cok8 [] [(100, 100)] [100] (show LayOk _ [] from trivial) (by kernel_rfl) (by kernel_rfl) ?_
 refine W.lend (AC.gs (ms_DropDead_ok N r5 hx8) (by decide)) cok16 [(100, 101)] [101] (LayOk.cons (j := 100) (eSN true) (eSN false) r5 (by kernel_rfl) (sh_eSN _) (show LayOk _ [] from trivial)) (.own _) (.cons (DeepR.map (fun _ => (.cons (.c _) (.cons (.c _) (.cons (.c _) (.cons (.c _) (.cons (.sl _ _ (DeepR.map (fun _ => (.cons (.c _) .nil)) _)) .nil)))))) _) .nil) (by kernel_rfl) (by kernel_rfl) ?_
 refine wR 1 102 ?_
 refine wF ?_
 refine bB h fun r8 hx10 h => ?_
 refine CO.sw mix ?_
 refine wR 1 102 ?_
 refine W.call (AC.gs (ml_toNodeS_ok N a0 hx10) (by decide)) cok8 [] [(100, 102)] [102] (show LayOk _ [] from trivial) (by kernel_rfl) (by kernel_rfl) ?_
 refine wR 1 103 ?_
 refine wF ?_
 refine bB h fun r10 hx12 h => ?_
 refine CO.sw mix ?_
 refine wR 1 103 ?_
 refine W.lend (mi_DropDead_ok N r8 hx12) cok17 [(100, 103)] [103] (LayOk.cons (j := 102) (eSN true) (eSN false) r8 (by kernel_rfl) (sh_eSN _) (show LayOk _ [] from trivial)) (.own _) (.cons (DeepR.map (fun _ => (.cons (.c _) (.cons (.c _) (.cons (.c _) (.cons (.c _) (.cons (.sl _ _ (DeepR.map (fun _ => (.cons (.c _) .nil)) _)) .nil)))))) _) .nil) (by kernel_rfl) (by kernel_rfl) ?_
 refine wR 1 104 ?_
 refine wF ?_
 refine CO.seq' ?_
 refine bB h fun r14 hx17 h => ?_
 refine CO.sw mix ?_
 refine wR 2 104 ?_
 refine W.lend (AC.gs (ml_eqNodeS_ok N r10 r6 hx17) (by decide)) cok12 [] [] (LayOk.cons (j := 103) (eSN true) (eSN false) r10 (by kernel_rfl) (sh_eSN _) (LayOk.cons (j := 101) (eSN true) (eSN false) r6 (by kernel_rfl) (sh_eSN _) (show LayOk _ [] from trivial))) (.c _) .nil (by kernel_rfl) (by kernel_rfl) ?_
 refine wR 1 104 ?_
 refine wF ?_
 refine cI h (fun _ h => ?_) (fun _ h => ?_)
 ·refine cV 104 ?_
  cases h
  exact e1 2 id
 refine CO.skip ?_
 refine CO.seq' ?_
 refine bB h fun r21 hx26 h => ?_
 refine bB h fun r22 hx27 h => ?_
 refine CO.sw mix ?_
 refine wR 2 104 ?_
 refine W.call (AC.gs (ml_toNodeS_ok N a0 hx26) (by decide)) cok8 [] [(100, 104)] [104] (show LayOk _ [] from trivial) (by kernel_rfl) (by kernel_rfl) ?_
 refine W.lend (AC.gs (ml_eqNodeS_ok N r8 r21 hx27) (by decide)) cok12 [] [] (LayOk.cons (j := 102) (eSN true) (eSN false) r8 (by kernel_rfl) (sh_eSN _) (LayOk.cons (j := 104) (eSN true) (eSN false) r21 (by kernel_rfl) (sh_eSN _) (show LayOk _ [] from trivial))) (.c _) .nil (by kernel_rfl) (by kernel_rfl) ?_
 refine wR 1 105 ?_
 refine wF ?_
 refine cI h (fun _ h => ?_) (fun _ h => ?_)
 ·refine cV 105 ?_
  cases h
  exact e1 2 id
 refine CO.skip ?_
 refine cV 105 ?_
 refine bB h fun r24 hx30 h => ?_
 refine CO.sw mix ?_
 refine wR 2 105 ?_
 refine W.call (AC.gs (ml_markNodeS_ok 54 N 1 r8 hx30) (by decide)) cok13 [(102, 0)] [(0, 102)] [] (show LayOk _ [] from trivial) (by kernel_rfl) (by kernel_rfl) ?_
 refine wR 1 105 ?_
 refine wF ?_
 refine CO.seq' ?_
 refine bB h fun y29 hv39 h => ?_
 refine CO.cutR (tl 69 [(0, .sl false false (a0.map (eSN false))), (4, .own 100), (6, .own 101), (42, V.b y29)]) [(100, .vec false 54 5 (r6.map (eSN true))), (101, .vec false 54 5 (r10.map (eSN true)))] mix (by
  refine wR 3 105 ?_
  refine wJ 37 hv39 (fun hv39 => ?_) (fun hv39 => ?_)
  ·refine wR 5 105 ?_
   cases hv39
   exact fS [(101, 100), (103, 101)] [0, 4, 6, 42]
  refine wR 2 105 ?_
  refine bB hv39 fun r30 hx41 hv39 => ?_
  refine W.lend (AC.gs (ml_eqNodeS_ok N r10 r6 hx41) (by decide)) cok12 [] [] (LayOk.cons (j := 103) (eSN true) (eSN false) r10 (by kernel_rfl) (sh_eSN _) (LayOk.cons (j := 101) (eSN true) (eSN false) r6 (by kernel_rfl) (sh_eSN _) (show LayOk _ [] from trivial))) (.c _) .nil (by kernel_rfl) (by kernel_rfl) ?_
  refine wR 2 105 ?_
  cases hv39
  exact fS [(101, 100), (103, 101)] [0, 4, 6, 42]
  ) ?_
 refine cI h (fun _ h => ?_) (fun _ h => ?_)
 ·refine cV 105 ?_
  cases h
  exact e1 2 id
 refine CO.skip ?_
 refine cV 105 ?_
 refine bB h fun r32 hx44 h => ?_
 refine CO.sw mix ?_
 refine wR 2 105 ?_
 refine W.call (AC.gs (ml_markNodeS_ok 54 N 1 r10 hx44) (by decide)) cok13 [(101, 0)] [(0, 101)] [] (show LayOk _ [] from trivial) (by kernel_rfl) (by kernel_rfl) ?_
 refine wR 1 105 ?_
 refine wF ?_
 refine cV 105 ?_
 refine bB h fun r34 hx46 h => ?_
 refine CO.sw mix ?_
 refine wR 2 105 ?_
 refine W.lend (AC.gs (ml_heldNodeS_ok N r32.2 1 hx46) (by decide)) cok18 [] [] (LayOk.cons (j := 101) (eSN true) (eSN false) r32.2 (by kernel_rfl) (sh_eSN _) (show LayOk _ [] from trivial)) (.c _) .nil (by kernel_rfl) (by kernel_rfl) ?_
 refine wR 1 105 ?_
 refine wF ?_
 refine CO.seq' ?_
 refine cV 105 ?_
 refine cI h (fun _ h => ?_) (fun _ h => ?_)
 ·refine cV 105 ?_
  cases h
  exact e1 2 id
 refine CO.skip ?_
 refine CO.seq' ?_
 refine cV 105 ?_
 refine cI h (fun _ h => ?_) (fun _ h => ?_)
 ·refine cV 105 ?_
  cases h
  exact e1 2 id
 refine CO.skip ?_
 refine bB h fun r37 hx53 h => ?_
 refine bB h fun r38 hx54 h => ?_
 refine CO.sw mix ?_
 refine wR 1 105 ?_
 refine W.call (AC.gs (ml_toNodeS_ok N a0 hx53) (by decide)) cok8 [] [(100, 105)] [105] (show LayOk _ [] from trivial) (by kernel_rfl) (by kernel_rfl) ?_
 refine W.lend (mi_DropDead_ok N r37 hx54) cok17 [(100, 106)] [106] (LayOk.cons (j := 105) (eSN true) (eSN false) r37 (by kernel_rfl) (sh_eSN _) (show LayOk _ [] from trivial)) (.own _) (.cons (DeepR.map (fun _ => (.cons (.c _) (.cons (.c _) (.cons (.c _) (.cons (.c _) (.cons (.sl _ _ (DeepR.map (fun _ => (.cons (.c _) .nil)) _)) .nil)))))) _) .nil) (by kernel_rfl) (by kernel_rfl) ?_
 refine wR 1 107 ?_
 refine wF ?_
 refine CO.seq' ?_
 refine bB h fun r42 hx59 h => ?_
 refine CO.sw mix ?_
 refine wR 2 107 ?_
 refine W.lend (AC.gs (ml_eqNodeS_ok N r38 r6 hx59) (by decide)) cok12 [] [] (LayOk.cons (j := 106) (eSN true) (eSN false) r38 (by kernel_rfl) (sh_eSN _) (LayOk.cons (j := 100) (eSN true) (eSN false) r6 (by kernel_rfl) (sh_eSN _) (show LayOk _ [] from trivial))) (.c _) .nil (by kernel_rfl) (by kernel_rfl) ?_
 refine wR 1 107 ?_
 refine wF ?_
 refine cI h (fun _ h => ?_) (fun _ h => ?_)
 ·refine cV 107 ?_
  cases h
  exact e1 2 id
 refine CO.skip ?_
 refine cV 107 ?_
 refine bB h fun r44 hx62 h => ?_
 refine CO.sw mix ?_
 refine wR 2 107 ?_
 refine W.lend (AC.gs (ml_heldNodeS_ok N r32.2 1 hx62) (by decide)) cok18 [] [] (LayOk.cons (j := 101) (eSN true) (eSN false) r32.2 (by kernel_rfl) (sh_eSN _) (show LayOk _ [] from trivial)) (.c _) .nil (by kernel_rfl) (by kernel_rfl) ?_
 refine wR 1 107 ?_
 refine wF ?_
 refine CO.seq' ?_
 refine cV 107 ?_
 refine cI h (fun _ h => ?_) (fun _ h => ?_)
 ·refine cV 107 ?_
  cases h
  exact e1 2 id
 refine CO.skip ?_
 refine CO.seq' ?_
 refine cV 107 ?_
 refine cI h (fun _ h => ?_) (fun _ h => ?_)
 ·refine cV 107 ?_
  cases h
  exact e1 2 id
 refine CO.skip ?_
 refine cV 107 ?_
 cases h
 exact e1 2 id

end Go.Proofs.Tryz
