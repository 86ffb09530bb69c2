/-
  The walks that show that the code computes the models, part 4.
-/
import Derived.Test.YtkfpmbinifaakaaGreatDoorRpW3
namespace Go.Proofs.Tryz
open Go.Av
set_option maxRecDepth 100000
set_option maxHeartbeats 8000000
set_option linter.unusedSimpArgs false
set_option linter.unusedVariables false

theorem m_laws_FnExactReplace_ok (N : Nat) (a0 : List SNode) (a1 : Int) (a2 : List SNode) {r : Bool} (h : m_laws_FnExactReplace N a0 a1 a2 = some r) :
    AC Tryz.prog (GS [0, 1, 2]) 6 [.sl false false (a0.map (encSNode false)), V.int a1, .sl false false (a2.map (encSNode false))] [] (V.bool r) [] := by
 rw [m_laws_FnExactReplace] at h
 refine AC.enter Tryz.func6 rfl ?_
 refine cu D_ok mix 1 100 (tl 124 [(0, .sl false false (a0.map (encSNode false))), (1, V.int a1), (2, .sl false false (a2.map (encSNode false)))]) [] (by kernel_rfl) ?_
 refine cu D_ok mix 1 100 (tl 124 [(0, .sl false false (a0.map (encSNode false))), (1, V.int a1), (2, .sl false false (a2.map (encSNode false))), (7, V.int 1048576)]) [] (by kernel_rfl) ?_
 obtain ⟨r2, hx2, h⟩ := bind_some h
 refine CodeOk.cutR (tl 124 [(0, .sl false false (a0.map (encSNode false))), (1, V.int a1), (2, .sl false false (a2.map (encSNode false))), (7, V.int r2)]) [] mix (by
  refine W.run D_ok 2 100 (by kernel_rfl) ?_
  refine W.call0 (AC.gs (m_laws_szNodeS_ok N a0 1048576 hx2) (by decide)) cok17 rfl (by kernel_rfl) ?_
  refine W.run D_ok 1 100 (by kernel_rfl) ?_
  exact W.fi (by kernel_rfl)
  ) ?_
 refine CodeOk.seq' ?_
 refine cu D_ok mix 2 100 (tl 124 [(0, .sl false false (a0.map (encSNode false))), (1, V.int a1), (2, .sl false false (a2.map (encSNode false))), (7, V.int r2), (23, V.bool (decide (r2 < 0)))]) [] (by kernel_rfl) ?_
 rcases cond_some h with ⟨hc4, h⟩ | ⟨hc4, h⟩
 ·refine CodeOk.ifT hc4 (by kernel_rfl) ?_
  refine cu D_ok mix 1 100 (tl 124 [(6, V.bool true)]) [] (by kernel_rfl) ?_
  refine CodeOk.ret ?_
  have h := Option.some.inj h
  subst h
  exact Ends.gen [] (.inr rfl) (RetV.one rfl (OneR.tmp (t := 6) (r := V.bool true) (by kernel_rfl))) (by kernel_rfl) (by kernel_rfl) (by kernel_rfl)
 refine CodeOk.ifF hc4 (by kernel_rfl) ?_
 refine CodeOk.skip ?_
 obtain ⟨r4, hx6, h⟩ := bind_some h
 refine CodeOk.cutR (tl 124 [(0, .sl false false (a0.map (encSNode false))), (1, V.int a1), (2, .sl false false (a2.map (encSNode false))), (7, V.int r4)]) [] mix (by
  refine W.run D_ok 2 100 (by kernel_rfl) ?_
  refine W.call0 (AC.gs (m_laws_szNodeS_ok N a2 r2 hx6) (by decide)) cok17 rfl (by kernel_rfl) ?_
  refine W.run D_ok 1 100 (by kernel_rfl) ?_
  exact W.fi (by kernel_rfl)
  ) ?_
 refine CodeOk.seq' ?_
 refine cu D_ok mix 2 100 (tl 124 [(0, .sl false false (a0.map (encSNode false))), (1, V.int a1), (2, .sl false false (a2.map (encSNode false))), (28, V.bool (decide (r4 < 0)))]) [] (by kernel_rfl) ?_
 rcases cond_some h with ⟨hc8, h⟩ | ⟨hc8, h⟩
 ·refine CodeOk.ifT hc8 (by kernel_rfl) ?_
  refine cu D_ok mix 1 100 (tl 124 [(6, V.bool true)]) [] (by kernel_rfl) ?_
  refine CodeOk.ret ?_
  have h := Option.some.inj h
  subst h
  exact Ends.gen [] (.inr rfl) (RetV.one rfl (OneR.tmp (t := 6) (r := V.bool true) (by kernel_rfl))) (by kernel_rfl) (by kernel_rfl) (by kernel_rfl)
 refine CodeOk.ifF hc8 (by kernel_rfl) ?_
 refine CodeOk.skip ?_
 obtain ⟨r8, hx12, h⟩ := bind_some h
 obtain ⟨r9, hx13, h⟩ := bind_some h
 obtain ⟨r10, hx14, h⟩ := bind_some h
 refine CodeOk.cutR (tl 124 [(0, .sl false false (a0.map (encSNode false))), (1, V.int a1), (2, .sl false false (a2.map (encSNode false))), (8, .sl false false (r10.1.map (encSNode false))), (9, V.bool r10.2)]) [] mix (by
  refine W.run D_ok 1 100 (by kernel_rfl) ?_
  refine W.call (AC.gs (m_laws_toNodeS_ok N a0 hx12) (by decide)) cok19 [] [(100, 100)] [100] (show LayOk _ [] from trivial) (by kernel_rfl) (by kernel_rfl) ?_
  refine W.run D_ok 2 101 (by kernel_rfl) ?_
  refine W.call (AC.gs (m_laws_toNodeS_ok N a2 hx13) (by decide)) cok19 [] [(100, 101)] [101] (show LayOk _ [] from trivial) (by kernel_rfl) (by kernel_rfl) ?_
  refine W.call (AC.gs (m_spec_Replace_ok N r8 a1 r9 hx14) (by decide)) cok23 [] [] [] (LayOk.cons (j := 100) (encSNode true) (encSNode false) r8 (by kernel_rfl) (share_encSNode _) (LayOk.cons (j := 101) (encSNode true) (encSNode false) r9 (by kernel_rfl) (share_encSNode _) (show LayOk _ [] from trivial))) (by kernel_rfl) (by kernel_rfl) ?_
  refine W.run D_ok 5 102 (by kernel_rfl) ?_
  exact W.fi (by kernel_rfl)
  ) ?_
 obtain ⟨r12, hx16, h⟩ := bind_some h
 refine CodeOk.cutR (tl 124 [(0, .sl false false (a0.map (encSNode false))), (1, V.int a1), (2, .sl false false (a2.map (encSNode false))), (8, .sl false false (r10.1.map (encSNode false))), (9, V.bool r10.2), (10, .own 102)]) [(102, .vec false 53 5 (r12.map (encSNode true)))] mix (by
  refine W.run D_ok 1 102 (by kernel_rfl) ?_
  refine W.call (AC.gs (m_laws_toNodeS_ok N a0 hx16) (by decide)) cok19 [] [(100, 102)] [102] (show LayOk _ [] from trivial) (by kernel_rfl) (by kernel_rfl) ?_
  refine W.run D_ok 1 103 (by kernel_rfl) ?_
  exact W.fi (by kernel_rfl)
  ) ?_
 obtain ⟨r14, hx18, h⟩ := bind_some h
 refine CodeOk.cutR (tl 124 [(0, .sl false false (a0.map (encSNode false))), (1, V.int a1), (2, .sl false false (a2.map (encSNode false))), (8, .sl false false (r10.1.map (encSNode false))), (9, V.bool r10.2), (10, .own 102), (11, .own 103)]) [(103, .vec false 53 5 (r14.map (encSNode true))), (102, .vec false 53 5 (r12.map (encSNode true)))] mix (by
  refine W.run D_ok 1 103 (by kernel_rfl) ?_
  refine W.call (AC.gs (m_laws_toNodeS_ok N a2 hx18) (by decide)) cok19 [] [(100, 103)] [103] (show LayOk _ [] from trivial) (by kernel_rfl) (by kernel_rfl) ?_
  refine W.run D_ok 1 104 (by kernel_rfl) ?_
  exact W.fi (by kernel_rfl)
  ) ?_
 obtain ⟨r16, hx20, h⟩ := bind_some h
 refine CodeOk.cutR (tl 124 [(0, .sl false false (a0.map (encSNode false))), (1, V.int a1), (2, .sl false false (a2.map (encSNode false))), (8, .sl false false (r10.1.map (encSNode false))), (9, V.bool r10.2), (10, .own 102), (11, .own 103), (12, .own 104), (13, V.bool r16.2)]) [(104, .vec false 53 5 (r16.1.map (encSNode true))), (103, .vec false 53 5 (r14.map (encSNode true))), (102, .vec false 53 5 (r12.map (encSNode true)))] mix (by
  refine W.run D_ok 3 104 (by kernel_rfl) ?_
  refine W.lend (m_impl_Replace_ok N r12 a1 r14 hx20) cok24 [(100, 104)] [104] (LayOk.cons (j := 102) (encSNode true) (encSNode false) r12 (by kernel_rfl) (share_encSNode _) (LayOk.cons (j := 103) (encSNode true) (encSNode false) r14 (by kernel_rfl) (share_encSNode _) (show LayOk _ [] from trivial))) (.tup _ (.cons (.own _) (.cons (.c _) .nil))) (.cons (DeepR.map (fun _ => (.cons (.c _) (.cons (.c _) (.cons (.c _) (.cons (.c _) (.cons (.sl _ _ (DeepR.map (fun _ => (.cons (.c _) .nil)) _)) .nil)))))) _) .nil) (by kernel_rfl) (by kernel_rfl) ?_
  refine W.run D_ok 5 105 (by kernel_rfl) ?_
  exact W.fi (by kernel_rfl)
  ) ?_
 refine CodeOk.seq' ?_
 obtain ⟨y21, hv29, h⟩ := bind_some h
 refine CodeOk.cutR (tl 124 [(0, .sl false false (a0.map (encSNode false))), (1, V.int a1), (2, .sl false false (a2.map (encSNode false))), (8, .sl false false (r10.1.map (encSNode false))), (9, V.bool r10.2), (10, .own 100), (11, .own 101), (12, .own 102), (13, V.bool r16.2), (57, V.bool y21)]) [(100, .vec false 53 5 (r12.map (encSNode true))), (101, .vec false 53 5 (r14.map (encSNode true))), (102, .vec false 53 5 (r16.1.map (encSNode true)))] mix (by
  refine W.run D_ok 2 105 (by kernel_rfl) ?_
  obtain ⟨r22, hx30, hv29⟩ := bind_some hv29
  refine W.lend (AC.gs (m_laws_eqNodeS_ok N r16.1 r10.1 hx30) (by decide)) cok14 [] [] (LayOk.cons (j := 104) (encSNode true) (encSNode false) r16.1 (by kernel_rfl) (share_encSNode _) (show LayOk _ [] from trivial)) (.c _) .nil (by kernel_rfl) (by kernel_rfl) ?_
  refine W.run D_ok 2 105 (by kernel_rfl) ?_
  rcases cond_some hv29 with ⟨hc31, hv29⟩ | ⟨hc31, hv29⟩
  ·refine W.is 53 hc31 (by kernel_rfl) ?_
   refine W.run D_ok 4 105 (by kernel_rfl) ?_
   have hv29 := Option.some.inj hv29
   subst hv29
   exact W.fs [(102, 100), (103, 101), (104, 102)] [0, 1, 2, 8, 9, 10, 11, 12, 13, 57] (by kernel_rfl)
  refine W.is 53 hc31 (by kernel_rfl) ?_
  refine W.run D_ok 4 105 (by kernel_rfl) ?_
  have hv29 := Option.some.inj hv29
  subst hv29
  exact W.fs [(102, 100), (103, 101), (104, 102)] [0, 1, 2, 8, 9, 10, 11, 12, 13, 57] (by kernel_rfl)
  ) ?_
 rcases cond_some h with ⟨hc32, h⟩ | ⟨hc32, h⟩
 ·refine CodeOk.ifT hc32 (by kernel_rfl) ?_
  refine cu D_ok mix 1 105 (tl 124 [(6, V.bool false)]) [] (by kernel_rfl) ?_
  refine CodeOk.ret ?_
  have h := Option.some.inj h
  subst h
  exact Ends.gen [] (.inr rfl) (RetV.one rfl (OneR.tmp (t := 6) (r := V.bool false) (by kernel_rfl))) (by kernel_rfl) (by kernel_rfl) (by kernel_rfl)
 refine CodeOk.ifF hc32 (by kernel_rfl) ?_
 refine CodeOk.skip ?_
 refine CodeOk.seq' ?_
 obtain ⟨r29, hx40, h⟩ := bind_some h
 obtain ⟨r30, hx41, h⟩ := bind_some h
 refine CodeOk.cutR (tl 124 [(0, .sl false false (a0.map (encSNode false))), (1, V.int a1), (2, .sl false false (a2.map (encSNode false))), (8, .sl false false (r10.1.map (encSNode false))), (9, V.bool r10.2), (10, .own 100), (11, .own 101), (12, .own 102), (13, V.bool r16.2), (62, V.bool (!r30))]) [(100, .vec false 53 5 (r12.map (encSNode true))), (101, .vec false 53 5 (r14.map (encSNode true))), (102, .vec false 53 5 (r16.1.map (encSNode true)))] mix (by
  refine W.run D_ok 2 105 (by kernel_rfl) ?_
  refine W.call (AC.gs (m_laws_toNodeS_ok N a0 hx40) (by decide)) cok19 [] [(100, 105)] [105] (show LayOk _ [] from trivial) (by kernel_rfl) (by kernel_rfl) ?_
  refine W.lend (AC.gs (m_laws_eqNodeS_ok N r12 r29 hx41) (by decide)) cok14 [] [] (LayOk.cons (j := 100) (encSNode true) (encSNode false) r12 (by kernel_rfl) (share_encSNode _) (LayOk.cons (j := 105) (encSNode true) (encSNode false) r29 (by kernel_rfl) (share_encSNode _) (show LayOk _ [] from trivial))) (.c _) .nil (by kernel_rfl) (by kernel_rfl) ?_
  refine W.run D_ok 1 106 (by kernel_rfl) ?_
  exact W.fi (by kernel_rfl)
  ) ?_
 rcases cond_some h with ⟨hc42, h⟩ | ⟨hc42, h⟩
 ·refine CodeOk.ifT hc42 (by kernel_rfl) ?_
  refine cu D_ok mix 1 106 (tl 124 [(6, V.bool false)]) [] (by kernel_rfl) ?_
  refine CodeOk.ret ?_
  have h := Option.some.inj h
  subst h
  exact Ends.gen [] (.inr rfl) (RetV.one rfl (OneR.tmp (t := 6) (r := V.bool false) (by kernel_rfl))) (by kernel_rfl) (by kernel_rfl) (by kernel_rfl)
 refine CodeOk.ifF hc42 (by kernel_rfl) ?_
 refine CodeOk.skip ?_
 refine CodeOk.seq' ?_
 obtain ⟨r37, hx50, h⟩ := bind_some h
 obtain ⟨r38, hx51, h⟩ := bind_some h
 refine CodeOk.cutR (tl 124 [(0, .sl false false (a0.map (encSNode false))), (1, V.int a1), (2, .sl false false (a2.map (encSNode false))), (8, .sl false false (r10.1.map (encSNode false))), (9, V.bool r10.2), (10, .own 100), (11, .own 101), (12, .own 102), (13, V.bool r16.2), (67, V.bool (!r38))]) [(100, .vec false 53 5 (r12.map (encSNode true))), (101, .vec false 53 5 (r14.map (encSNode true))), (102, .vec false 53 5 (r16.1.map (encSNode true)))] mix (by
  refine W.run D_ok 2 106 (by kernel_rfl) ?_
  refine W.call (AC.gs (m_laws_toNodeS_ok N a2 hx50) (by decide)) cok19 [] [(100, 106)] [106] (show LayOk _ [] from trivial) (by kernel_rfl) (by kernel_rfl) ?_
  refine W.lend (AC.gs (m_laws_eqNodeS_ok N r14 r37 hx51) (by decide)) cok14 [] [] (LayOk.cons (j := 101) (encSNode true) (encSNode false) r14 (by kernel_rfl) (share_encSNode _) (LayOk.cons (j := 106) (encSNode true) (encSNode false) r37 (by kernel_rfl) (share_encSNode _) (show LayOk _ [] from trivial))) (.c _) .nil (by kernel_rfl) (by kernel_rfl) ?_
  refine W.run D_ok 1 107 (by kernel_rfl) ?_
  exact W.fi (by kernel_rfl)
  ) ?_
 rcases cond_some h with ⟨hc52, h⟩ | ⟨hc52, h⟩
 ·refine CodeOk.ifT hc52 (by kernel_rfl) ?_
  refine cu D_ok mix 1 107 (tl 124 [(6, V.bool false)]) [] (by kernel_rfl) ?_
  refine CodeOk.ret ?_
  have h := Option.some.inj h
  subst h
  exact Ends.gen [] (.inr rfl) (RetV.one rfl (OneR.tmp (t := 6) (r := V.bool false) (by kernel_rfl))) (by kernel_rfl) (by kernel_rfl) (by kernel_rfl)
 refine CodeOk.ifF hc52 (by kernel_rfl) ?_
 refine CodeOk.skip ?_
 refine cu D_ok mix 1 107 (tl 124 [(0, .sl false false (a0.map (encSNode false))), (1, V.int a1), (2, .sl false false (a2.map (encSNode false))), (8, .sl false false (r10.1.map (encSNode false))), (9, V.bool r10.2), (10, .own 100), (11, .own 101), (12, .own 102), (13, V.bool r16.2), (14, V.int 1)]) [(100, .vec false 53 5 (r12.map (encSNode true))), (101, .vec false 53 5 (r14.map (encSNode true))), (102, .vec false 53 5 (r16.1.map (encSNode true)))] (by kernel_rfl) ?_
 obtain ⟨r40, hx54, h⟩ := bind_some h
 refine CodeOk.cutR (tl 124 [(0, .sl false false (a0.map (encSNode false))), (1, V.int a1), (2, .sl false false (a2.map (encSNode false))), (8, .sl false false (r10.1.map (encSNode false))), (9, V.bool r10.2), (11, .own 101), (12, .own 102), (13, V.bool r16.2), (14, V.int r40.1)]) [(101, .vec false 53 5 (r14.map (encSNode true))), (102, .vec false 53 5 (r16.1.map (encSNode true)))] mix (by
  refine W.run D_ok 2 107 (by kernel_rfl) ?_
  refine W.call (AC.gs (m_laws_markNodeS_ok 53 N 1 r12 hx54) (by decide)) cok15 [(100, 0)] [(0, 100)] [] (show LayOk _ [] from trivial) (by kernel_rfl) (by kernel_rfl) ?_
  refine W.run D_ok 1 107 (by kernel_rfl) ?_
  exact W.fi (by kernel_rfl)
  ) ?_
 obtain ⟨r42, hx56, h⟩ := bind_some h
 refine CodeOk.cutR (tl 124 [(0, .sl false false (a0.map (encSNode false))), (1, V.int a1), (2, .sl false false (a2.map (encSNode false))), (8, .sl false false (r10.1.map (encSNode false))), (9, V.bool r10.2), (12, .own 102), (13, V.bool r16.2), (14, V.int r42.1)]) [(102, .vec false 53 5 (r16.1.map (encSNode true)))] mix (by
  refine W.run D_ok 2 107 (by kernel_rfl) ?_
  refine W.call (AC.gs (m_laws_markNodeS_ok 53 N r40.1 r14 hx56) (by decide)) cok15 [(101, 0)] [(0, 101)] [] (show LayOk _ [] from trivial) (by kernel_rfl) (by kernel_rfl) ?_
  refine W.run D_ok 1 107 (by kernel_rfl) ?_
  exact W.fi (by kernel_rfl)
  ) ?_
 refine CodeOk.seq' ?_
 obtain ⟨y47, hv68, h⟩ := bind_some h
 refine CodeOk.cutR (tl 124 [(0, .sl false false (a0.map (encSNode false))), (1, V.int a1), (2, .sl false false (a2.map (encSNode false))), (8, .sl false false (r10.1.map (encSNode false))), (9, V.bool r10.2), (12, .own 100), (86, V.bool y47)]) [(100, .vec false 53 5 (r16.1.map (encSNode true)))] mix (by
  refine W.run D_ok 3 107 (by kernel_rfl) ?_
  rcases cond_some hv68 with ⟨hc69, hv68⟩ | ⟨hc69, hv68⟩
  ·refine W.is 76 hc69 (by kernel_rfl) ?_
   refine W.run D_ok 10 107 (by kernel_rfl) ?_
   have hv68 := Option.some.inj hv68
   subst hv68
   exact W.fs [(102, 100)] [0, 1, 2, 8, 9, 12, 86] (by kernel_rfl)
  refine W.is 76 hc69 (by kernel_rfl) ?_
  refine W.run D_ok 2 107 (by kernel_rfl) ?_
  obtain ⟨r48, hx70, hv68⟩ := bind_some hv68
  refine W.lend (AC.gs (m_laws_eqNodeS_ok N r16.1 r10.1 hx70) (by decide)) cok14 [] [] (LayOk.cons (j := 102) (encSNode true) (encSNode false) r16.1 (by kernel_rfl) (share_encSNode _) (show LayOk _ [] from trivial)) (.c _) .nil (by kernel_rfl) (by kernel_rfl) ?_
  refine W.run D_ok 3 107 (by kernel_rfl) ?_
  rcases cond_some hv68 with ⟨hc71, hv68⟩ | ⟨hc71, hv68⟩
  ·refine W.is 82 hc71 (by kernel_rfl) ?_
   refine W.run D_ok 4 107 (by kernel_rfl) ?_
   have hv68 := Option.some.inj hv68
   subst hv68
   exact W.fs [(102, 100)] [0, 1, 2, 8, 9, 12, 86] (by kernel_rfl)
  refine W.is 82 hc71 (by kernel_rfl) ?_
  refine W.run D_ok 4 107 (by kernel_rfl) ?_
  have hv68 := Option.some.inj hv68
  subst hv68
  exact W.fs [(102, 100)] [0, 1, 2, 8, 9, 12, 86] (by kernel_rfl)
  ) ?_
 rcases cond_some h with ⟨hc72, h⟩ | ⟨hc72, h⟩
 ·refine CodeOk.ifT hc72 (by kernel_rfl) ?_
  refine cu D_ok mix 1 107 (tl 124 [(6, V.bool false)]) [] (by kernel_rfl) ?_
  refine CodeOk.ret ?_
  have h := Option.some.inj h
  subst h
  exact Ends.gen [] (.inr rfl) (RetV.one rfl (OneR.tmp (t := 6) (r := V.bool false) (by kernel_rfl))) (by kernel_rfl) (by kernel_rfl) (by kernel_rfl)
 refine CodeOk.ifF hc72 (by kernel_rfl) ?_
 refine CodeOk.skip ?_
 refine cu D_ok mix 1 107 (tl 124 [(0, .sl false false (a0.map (encSNode false))), (1, V.int a1), (2, .sl false false (a2.map (encSNode false))), (8, .sl false false (r10.1.map (encSNode false))), (9, V.bool r10.2), (12, .own 100), (15, V.int 1)]) [(100, .vec false 53 5 (r16.1.map (encSNode true)))] (by kernel_rfl) ?_
 obtain ⟨r50, hx74, h⟩ := bind_some h
 refine CodeOk.cutR (tl 124 [(0, .sl false false (a0.map (encSNode false))), (1, V.int a1), (2, .sl false false (a2.map (encSNode false))), (8, .sl false false (r10.1.map (encSNode false))), (9, V.bool r10.2), (12, .own 100), (15, V.int r50.1)]) [(100, .vec false 53 5 (r50.2.map (encSNode true)))] mix (by
  refine W.run D_ok 2 107 (by kernel_rfl) ?_
  refine W.call (AC.gs (m_laws_markNodeS_ok 53 N 1 r16.1 hx74) (by decide)) cok15 [(100, 0)] [(0, 100)] [] (show LayOk _ [] from trivial) (by kernel_rfl) (by kernel_rfl) ?_
  refine W.run D_ok 1 107 (by kernel_rfl) ?_
  exact W.fi (by kernel_rfl)
  ) ?_
 refine cu D_ok mix 1 107 (tl 124 [(0, .sl false false (a0.map (encSNode false))), (1, V.int a1), (2, .sl false false (a2.map (encSNode false))), (8, .sl false false (r10.1.map (encSNode false))), (9, V.bool r10.2), (12, .own 100), (15, V.int r50.1), (16, V.int 1)]) [(100, .vec false 53 5 (r50.2.map (encSNode true)))] (by kernel_rfl) ?_
 obtain ⟨r52, hx76, h⟩ := bind_some h
 refine CodeOk.cutR (tl 124 [(0, .sl false false (a0.map (encSNode false))), (1, V.int a1), (2, .sl false false (a2.map (encSNode false))), (8, .sl false false (r10.1.map (encSNode false))), (9, V.bool r10.2), (12, .own 100), (15, V.int r50.1), (16, V.int r52)]) [(100, .vec false 53 5 (r50.2.map (encSNode true)))] mix (by
  refine W.run D_ok 2 107 (by kernel_rfl) ?_
  refine W.lend (AC.gs (m_laws_heldNodeS_ok N r50.2 1 hx76) (by decide)) cok16 [] [] (LayOk.cons (j := 100) (encSNode true) (encSNode false) r50.2 (by kernel_rfl) (share_encSNode _) (show LayOk _ [] from trivial)) (.c _) .nil (by kernel_rfl) (by kernel_rfl) ?_
  refine W.run D_ok 1 107 (by kernel_rfl) ?_
  exact W.fi (by kernel_rfl)
  ) ?_
 refine CodeOk.seq' ?_
 refine cu D_ok mix 2 107 (tl 124 [(0, .sl false false (a0.map (encSNode false))), (1, V.int a1), (2, .sl false false (a2.map (encSNode false))), (8, .sl false false (r10.1.map (encSNode false))), (9, V.bool r10.2), (12, .own 100), (15, V.int r50.1), (16, V.int r52), (94, V.bool (decide (r52 < 0)))]) [(100, .vec false 53 5 (r50.2.map (encSNode true)))] (by kernel_rfl) ?_
 rcases cond_some h with ⟨hc78, h⟩ | ⟨hc78, h⟩
 ·refine CodeOk.ifT hc78 (by kernel_rfl) ?_
  refine cu D_ok mix 1 107 (tl 124 [(6, V.bool false)]) [] (by kernel_rfl) ?_
  refine CodeOk.ret ?_
  have h := Option.some.inj h
  subst h
  exact Ends.gen [] (.inr rfl) (RetV.one rfl (OneR.tmp (t := 6) (r := V.bool false) (by kernel_rfl))) (by kernel_rfl) (by kernel_rfl) (by kernel_rfl)
 refine CodeOk.ifF hc78 (by kernel_rfl) ?_
 refine CodeOk.skip ?_
 refine CodeOk.seq' ?_
 refine cu D_ok mix 3 107 (tl 124 [(0, .sl false false (a0.map (encSNode false))), (1, V.int a1), (2, .sl false false (a2.map (encSNode false))), (8, .sl false false (r10.1.map (encSNode false))), (9, V.bool r10.2), (12, .own 100), (15, V.int r50.1), (97, V.bool (r52 != r50.1))]) [(100, .vec false 53 5 (r50.2.map (encSNode true)))] (by kernel_rfl) ?_
 rcases cond_some h with ⟨hc80, h⟩ | ⟨hc80, h⟩
 ·refine CodeOk.ifT hc80 (by kernel_rfl) ?_
  refine cu D_ok mix 1 107 (tl 124 [(6, V.bool false)]) [] (by kernel_rfl) ?_
  refine CodeOk.ret ?_
  have h := Option.some.inj h
  subst h
  exact Ends.gen [] (.inr rfl) (RetV.one rfl (OneR.tmp (t := 6) (r := V.bool false) (by kernel_rfl))) (by kernel_rfl) (by kernel_rfl) (by kernel_rfl)
 refine CodeOk.ifF hc80 (by kernel_rfl) ?_
 refine CodeOk.skip ?_
 obtain ⟨r56, hx84, h⟩ := bind_some h
 obtain ⟨r57, hx85, h⟩ := bind_some h
 obtain ⟨r58, hx86, h⟩ := bind_some h
 refine CodeOk.cutR (tl 124 [(8, .sl false false (r10.1.map (encSNode false))), (9, V.bool r10.2), (12, .own 100), (15, V.int r50.1), (17, .own 109), (18, V.bool r58.2)]) [(109, .vec false 53 5 (r58.1.map (encSNode true))), (100, .vec false 53 5 (r50.2.map (encSNode true)))] mix (by
  refine W.run D_ok 1 107 (by kernel_rfl) ?_
  refine W.call (AC.gs (m_laws_toNodeS_ok N a0 hx84) (by decide)) cok19 [] [(100, 107)] [107] (show LayOk _ [] from trivial) (by kernel_rfl) (by kernel_rfl) ?_
  refine W.run D_ok 2 108 (by kernel_rfl) ?_
  refine W.call (AC.gs (m_laws_toNodeS_ok N a2 hx85) (by decide)) cok19 [] [(100, 108)] [108] (show LayOk _ [] from trivial) (by kernel_rfl) (by kernel_rfl) ?_
  refine W.lend (m_impl_Replace_ok N r56 a1 r57 hx86) cok24 [(100, 109)] [109] (LayOk.cons (j := 107) (encSNode true) (encSNode false) r56 (by kernel_rfl) (share_encSNode _) (LayOk.cons (j := 108) (encSNode true) (encSNode false) r57 (by kernel_rfl) (share_encSNode _) (show LayOk _ [] from trivial))) (.tup _ (.cons (.own _) (.cons (.c _) .nil))) (.cons (DeepR.map (fun _ => (.cons (.c _) (.cons (.c _) (.cons (.c _) (.cons (.c _) (.cons (.sl _ _ (DeepR.map (fun _ => (.cons (.c _) .nil)) _)) .nil)))))) _) .nil) (by kernel_rfl) (by kernel_rfl) ?_
  refine W.run D_ok 5 110 (by kernel_rfl) ?_
  exact W.fi (by kernel_rfl)
  ) ?_
 refine CodeOk.seq' ?_
 obtain ⟨y63, hv95, h⟩ := bind_some h
 refine CodeOk.cutR (tl 124 [(12, .own 100), (15, V.int r50.1), (115, V.bool y63)]) [(100, .vec false 53 5 (r50.2.map (encSNode true)))] mix (by
  refine W.run D_ok 2 110 (by kernel_rfl) ?_
  obtain ⟨r64, hx96, hv95⟩ := bind_some hv95
  refine W.lend (AC.gs (m_laws_eqNodeS_ok N r58.1 r10.1 hx96) (by decide)) cok14 [] [] (LayOk.cons (j := 109) (encSNode true) (encSNode false) r58.1 (by kernel_rfl) (share_encSNode _) (show LayOk _ [] from trivial)) (.c _) .nil (by kernel_rfl) (by kernel_rfl) ?_
  refine W.run D_ok 2 110 (by kernel_rfl) ?_
  rcases cond_some hv95 with ⟨hc97, hv95⟩ | ⟨hc97, hv95⟩
  ·refine W.is 111 hc97 (by kernel_rfl) ?_
   refine W.run D_ok 4 110 (by kernel_rfl) ?_
   have hv95 := Option.some.inj hv95
   subst hv95
   exact W.fs [(100, 100)] [12, 15, 115] (by kernel_rfl)
  refine W.is 111 hc97 (by kernel_rfl) ?_
  refine W.run D_ok 4 110 (by kernel_rfl) ?_
  have hv95 := Option.some.inj hv95
  subst hv95
  exact W.fs [(100, 100)] [12, 15, 115] (by kernel_rfl)
  ) ?_
 rcases cond_some h with ⟨hc98, h⟩ | ⟨hc98, h⟩
 ·refine CodeOk.ifT hc98 (by kernel_rfl) ?_
  refine cu D_ok mix 1 110 (tl 124 [(6, V.bool false)]) [] (by kernel_rfl) ?_
  refine CodeOk.ret ?_
  have h := Option.some.inj h
  subst h
  exact Ends.gen [] (.inr rfl) (RetV.one rfl (OneR.tmp (t := 6) (r := V.bool false) (by kernel_rfl))) (by kernel_rfl) (by kernel_rfl) (by kernel_rfl)
 refine CodeOk.ifF hc98 (by kernel_rfl) ?_
 refine CodeOk.skip ?_
 refine cu D_ok mix 1 110 (tl 124 [(12, .own 100), (15, V.int r50.1), (16, V.int 1)]) [(100, .vec false 53 5 (r50.2.map (encSNode true)))] (by kernel_rfl) ?_
 obtain ⟨r66, hx100, h⟩ := bind_some h
 refine CodeOk.cutR (tl 124 [(15, V.int r50.1), (16, V.int r66)]) [] mix (by
  refine W.run D_ok 2 110 (by kernel_rfl) ?_
  refine W.lend (AC.gs (m_laws_heldNodeS_ok N r50.2 1 hx100) (by decide)) cok16 [] [] (LayOk.cons (j := 100) (encSNode true) (encSNode false) r50.2 (by kernel_rfl) (share_encSNode _) (show LayOk _ [] from trivial)) (.c _) .nil (by kernel_rfl) (by kernel_rfl) ?_
  refine W.run D_ok 1 110 (by kernel_rfl) ?_
  exact W.fi (by kernel_rfl)
  ) ?_
 refine CodeOk.seq' ?_
 refine cu D_ok mix 2 110 (tl 124 [(15, V.int r50.1), (16, V.int r66), (120, V.bool (decide (r66 < 0)))]) [] (by kernel_rfl) ?_
 rcases cond_some h with ⟨hc102, h⟩ | ⟨hc102, h⟩
 ·refine CodeOk.ifT hc102 (by kernel_rfl) ?_
  refine cu D_ok mix 1 110 (tl 124 [(6, V.bool false)]) [] (by kernel_rfl) ?_
  refine CodeOk.ret ?_
  have h := Option.some.inj h
  subst h
  exact Ends.gen [] (.inr rfl) (RetV.one rfl (OneR.tmp (t := 6) (r := V.bool false) (by kernel_rfl))) (by kernel_rfl) (by kernel_rfl) (by kernel_rfl)
 refine CodeOk.ifF hc102 (by kernel_rfl) ?_
 refine CodeOk.skip ?_
 refine CodeOk.seq' ?_
 refine cu D_ok mix 3 110 (tl 124 [(123, V.bool (r66 != r50.1))]) [] (by kernel_rfl) ?_
 rcases cond_some h with ⟨hc104, h⟩ | ⟨hc104, h⟩
 ·refine CodeOk.ifT hc104 (by kernel_rfl) ?_
  refine cu D_ok mix 1 110 (tl 124 [(6, V.bool false)]) [] (by kernel_rfl) ?_
  refine CodeOk.ret ?_
  have h := Option.some.inj h
  subst h
  exact Ends.gen [] (.inr rfl) (RetV.one rfl (OneR.tmp (t := 6) (r := V.bool false) (by kernel_rfl))) (by kernel_rfl) (by kernel_rfl) (by kernel_rfl)
 refine CodeOk.ifF hc104 (by kernel_rfl) ?_
 refine CodeOk.skip ?_
 refine cu D_ok mix 1 110 (tl 124 [(6, V.bool true)]) [] (by kernel_rfl) ?_
 refine CodeOk.ret ?_
 have h := Option.some.inj h
 subst h
 exact Ends.gen [] (.inr rfl) (RetV.one rfl (OneR.tmp (t := 6) (r := V.bool true) (by kernel_rfl))) (by kernel_rfl) (by kernel_rfl) (by kernel_rfl)

end Go.Proofs.Tryz
