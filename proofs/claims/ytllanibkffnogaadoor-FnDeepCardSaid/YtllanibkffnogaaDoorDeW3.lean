/-
  The walks that show that the code computes the models, part 3.
-/
import Derived.Test.YtllanibkffnogaaDoorDeW2
namespace Go.Proofs.Tryd
open Go.Av
set_option maxRecDepth 100000
set_option maxHeartbeats 8000000
set_option linter.unusedSimpArgs false
set_option linter.unusedVariables false

theorem m_impl_parser__level_ok (N : Nat) (a1 : SPos) (p0_0 : List SToken) (p0_1 : Int) (p0_2 : Bool) (p1 : List (List UInt8)) {r : (SPart × Int × Bool × (List (List UInt8)))} (h : m_impl_parser__level N a1 p0_0 p0_1 p0_2 p1 = some r) :
    AC Tryd.prog (GS []) 72 [.loc 0 0, .agg [V.int a1.Level, V.bool a1.Dollar, V.bool a1.NoIn, V.bool a1.NoGt, V.bool a1.NoSign]] [(0, .cells 108 [.sl false false (p0_0.map encSToken), V.int p0_1, V.bool p0_2, .own 1]), (1, .vec false 9 1 (p1.map encS))] (.agg [V.int r.1.tree.kind, V.int r.1.tree.op, V.str r.1.tree.text, V.str r.1.tree.other, .sl false false (r.1.tree.kids.map encSTree), V.bool r.1.target]) [(0, .cells 108 [.sl false false (p0_0.map encSToken), V.int r.2.1, V.bool r.2.2.1, .own 100]), (100, .vec false 9 1 (r.2.2.2.map encS))] := by
 rw [m_impl_parser__level] at h
 refine AC.enter Tryd.func72 rfl ?_
 refine cu D_ok mix 2 100 (tl 102 [(0, .loc 0 0), (3, .loc 100 0), (4, .loc 101 0)]) [(101, .cells 113 [V.int 0, V.int 0, V.str [], V.str [], .c (.slice none 0 0), V.bool false]), (100, .cells 84 [V.int a1.Level, V.bool a1.Dollar, V.bool a1.NoIn, V.bool a1.NoGt, V.bool a1.NoSign]), (0, .cells 108 [.sl false false (p0_0.map encSToken), V.int p0_1, V.bool p0_2, .own 1]), (1, .vec false 9 1 (p1.map encS))] (by kernel_rfl) ?_
 refine cu D_ok mix 7 102 (tl 102 [(0, .loc 0 0), (3, .loc 100 0), (4, .loc 101 0), (5, .loc 102 0)]) [(102, .cells 138 [V.bool a1.NoIn, V.bool a1.NoGt]), (101, .cells 113 [V.int 0, V.int 0, V.str [], V.str [], .c (.slice none 0 0), V.bool false]), (100, .cells 84 [V.int a1.Level, V.bool a1.Dollar, V.bool a1.NoIn, V.bool a1.NoGt, V.bool a1.NoSign]), (0, .cells 108 [.sl false false (p0_0.map encSToken), V.int p0_1, V.bool p0_2, .own 1]), (1, .vec false 9 1 (p1.map encS))] (by kernel_rfl) ?_
 refine CodeOk.seq' ?_
 (revert h; refine bind_rev fun y10 hv14 h => ?_)
 refine CodeOk.cutR (tl 102 [(0, .loc 0 0), (3, .loc 100 0), (4, .loc 101 0), (5, .loc 102 0), (18, V.bool y10)]) [(0, .cells 108 [.sl false false (p0_0.map encSToken), V.int p0_1, V.bool p0_2, .own 1]), (100, .cells 84 [V.int a1.Level, V.bool a1.Dollar, V.bool a1.NoIn, V.bool a1.NoGt, V.bool a1.NoSign]), (101, .cells 113 [V.int 0, V.int 0, V.str [], V.str [], .c (.slice none 0 0), V.bool false]), (102, .cells 138 [V.bool a1.NoIn, V.bool a1.NoGt]), (1, .vec false 9 1 (p1.map encS))] mix (by
  refine W.run D_ok 3 103 (by kernel_rfl) ?_
  (revert hv14; refine cond_rev (fun hc15 hv14 => ?_) (fun hc15 hv14 => ?_))
  ·refine W.is 13 hc15 (by kernel_rfl) ?_
   refine W.run D_ok 1 103 (by kernel_rfl) ?_
   (revert hv14; refine bind_rev fun r11 hx16 hv14 => ?_)
   refine W.call (m_impl_parser__kind_ok p0_0 p0_1 p0_2 p1 hx16) cok97 [(0, 0), (1, 1)] [(0, 0), (1, 1)] [] (show LayOk _ [] from trivial) (by kernel_rfl) (by kernel_rfl) ?_
   (revert hv14; refine bind_rev fun r12 hx17 hv14 => ?_)
   refine W.call0 (m_impl_BeginsOperand_ok r11 hx17) cok96 rfl (by kernel_rfl) ?_
   refine W.run D_ok 2 103 (by kernel_rfl) ?_
   have hv14 := Option.some.inj hv14
   subst hv14
   exact W.fs [(0, 0), (100, 100), (101, 101), (102, 102), (1, 1)] [0, 3, 4, 5, 18] (by kernel_rfl)
  refine W.is 13 hc15 (by kernel_rfl) ?_
  refine W.run D_ok 5 103 (by kernel_rfl) ?_
  have hv14 := Option.some.inj hv14
  subst hv14
  exact W.fs [(0, 0), (100, 100), (101, 101), (102, 102), (1, 1)] [0, 3, 4, 5, 18] (by kernel_rfl)
  ) ?_
 (revert h; refine cond_rev (fun hc18 h => ?_) (fun hc18 h => ?_))
 ·refine CodeOk.ifT hc18 (by kernel_rfl) ?_
  (revert h; refine bind_rev fun r14 hx20 h => ?_)
  refine CodeOk.cutR (tl 102 [(4, .loc 101 0)]) [(101, .cells 113 [V.int r14.1.tree.kind, V.int r14.1.tree.op, V.str r14.1.tree.text, V.str r14.1.tree.other, .sl false false (r14.1.tree.kids.map encSTree), V.bool r14.1.target]), (0, .cells 108 [.sl false false (p0_0.map encSToken), V.int p0_1, V.bool r14.2, .own 1]), (1, .vec false 9 1 (p1.map encS))] mix (by
   refine W.run D_ok 1 103 (by kernel_rfl) ?_
   refine W.call (m_impl_parser__fail_ok p0_0 p0_1 p0_2 p1 hx20) cok98 [(0, 0), (1, 1)] [(0, 0), (1, 1)] [] (show LayOk _ [] from trivial) (by kernel_rfl) (by kernel_rfl) ?_
   refine W.run D_ok 1 103 (by kernel_rfl) ?_
   exact W.fi (by kernel_rfl)
   ) ?_
  refine CodeOk.ret ?_
  have h := Option.some.inj h
  subst h
  exact Ends.gen [(0, 0), (1, 100)] (.inr rfl) (RetV.one rfl (OneR.cell D_ok (r := .agg [V.int r14.1.tree.kind, V.int r14.1.tree.op, V.str r14.1.tree.text, V.str r14.1.tree.other, .sl false false (r14.1.tree.kids.map encSTree), V.bool r14.1.target]) (i := 101) (ety := 113) (cs := [V.int r14.1.tree.kind, V.int r14.1.tree.op, V.str r14.1.tree.text, V.str r14.1.tree.other, .sl false false (r14.1.tree.kids.map encSTree), V.bool r14.1.target]) (by kernel_rfl) (by kernel_rfl) (by kernel_rfl))) (by kernel_rfl) (by kernel_rfl) (by kernel_rfl)
 refine CodeOk.ifF hc18 (by kernel_rfl) ?_
 refine CodeOk.skip ?_
 refine CodeOk.seq' ?_
 refine cu D_ok mix 2 103 (tl 102 [(0, .loc 0 0), (3, .loc 100 0), (4, .loc 101 0), (5, .loc 102 0), (22, V.int a1.Level)]) [(0, .cells 108 [.sl false false (p0_0.map encSToken), V.int p0_1, V.bool p0_2, .own 1]), (100, .cells 84 [V.int a1.Level, V.bool a1.Dollar, V.bool a1.NoIn, V.bool a1.NoGt, V.bool a1.NoSign]), (101, .cells 113 [V.int 0, V.int 0, V.str [], V.str [], .c (.slice none 0 0), V.bool false]), (102, .cells 138 [V.bool a1.NoIn, V.bool a1.NoGt]), (1, .vec false 9 1 (p1.map encS))] (by kernel_rfl) ?_
 refine CodeOk.block' ?_
 refine cu D_ok mix 2 103 (tl 102 [(0, .loc 0 0), (3, .loc 100 0), (4, .loc 101 0), (5, .loc 102 0), (22, V.int a1.Level), (23, V.bool (a1.Level == 1))]) [(0, .cells 108 [.sl false false (p0_0.map encSToken), V.int p0_1, V.bool p0_2, .own 1]), (100, .cells 84 [V.int a1.Level, V.bool a1.Dollar, V.bool a1.NoIn, V.bool a1.NoGt, V.bool a1.NoSign]), (101, .cells 113 [V.int 0, V.int 0, V.str [], V.str [], .c (.slice none 0 0), V.bool false]), (102, .cells 138 [V.bool a1.NoIn, V.bool a1.NoGt]), (1, .vec false 9 1 (p1.map encS))] (by kernel_rfl) ?_
 (revert h; refine cond_rev (fun hc83 h => ?_) (fun hc83 h => ?_))
 ·refine CodeOk.ifT hc83 (by kernel_rfl) ?_
  (revert h; refine bind_rev fun r58 hx85 h => ?_)
  refine CodeOk.cutR (tl 102 [(4, .loc 101 0)]) [(101, .cells 113 [V.int r58.1.tree.kind, V.int r58.1.tree.op, V.str r58.1.tree.text, V.str r58.1.tree.other, .sl false false (r58.1.tree.kids.map encSTree), V.bool r58.1.target]), (103, .vec false 9 1 (r58.2.2.2.map encS)), (0, .cells 108 [.sl false false (p0_0.map encSToken), V.int r58.2.1, V.bool r58.2.2.1, .own 103])] mix (by
   refine W.run D_ok 2 103 (by kernel_rfl) ?_
   refine W.call (m_impl_parser__assign_ok N (⟨a1.NoIn, a1.NoGt⟩ : SRules) p0_0 p0_1 p0_2 p1 hx85) cok99 [(0, 0), (1, 1)] [(0, 0), (100, 103)] [103] (show LayOk _ [] from trivial) (by kernel_rfl) (by kernel_rfl) ?_
   refine W.run D_ok 1 104 (by kernel_rfl) ?_
   exact W.fi (by kernel_rfl)
   ) ?_
  refine CodeOk.ret ?_
  have h := Option.some.inj h
  subst h
  exact Ends.gen [(0, 0), (103, 100)] (.inr rfl) (RetV.one rfl (OneR.cell D_ok (r := .agg [V.int r58.1.tree.kind, V.int r58.1.tree.op, V.str r58.1.tree.text, V.str r58.1.tree.other, .sl false false (r58.1.tree.kids.map encSTree), V.bool r58.1.target]) (i := 101) (ety := 113) (cs := [V.int r58.1.tree.kind, V.int r58.1.tree.op, V.str r58.1.tree.text, V.str r58.1.tree.other, .sl false false (r58.1.tree.kids.map encSTree), V.bool r58.1.target]) (by kernel_rfl) (by kernel_rfl) (by kernel_rfl))) (by kernel_rfl) (by kernel_rfl) (by kernel_rfl)
 refine CodeOk.ifF hc83 (by kernel_rfl) ?_
 refine cu D_ok mix 2 103 (tl 102 [(0, .loc 0 0), (3, .loc 100 0), (4, .loc 101 0), (5, .loc 102 0), (22, V.int a1.Level), (28, V.bool (a1.Level == 2))]) [(0, .cells 108 [.sl false false (p0_0.map encSToken), V.int p0_1, V.bool p0_2, .own 1]), (100, .cells 84 [V.int a1.Level, V.bool a1.Dollar, V.bool a1.NoIn, V.bool a1.NoGt, V.bool a1.NoSign]), (101, .cells 113 [V.int 0, V.int 0, V.str [], V.str [], .c (.slice none 0 0), V.bool false]), (102, .cells 138 [V.bool a1.NoIn, V.bool a1.NoGt]), (1, .vec false 9 1 (p1.map encS))] (by kernel_rfl) ?_
 (revert h; refine cond_rev (fun hc86 h => ?_) (fun hc86 h => ?_))
 ·refine CodeOk.ifT hc86 (by kernel_rfl) ?_
  (revert h; refine bind_rev fun r60 hx88 h => ?_)
  refine CodeOk.cutR (tl 102 [(4, .loc 101 0)]) [(101, .cells 113 [V.int r60.1.tree.kind, V.int r60.1.tree.op, V.str r60.1.tree.text, V.str r60.1.tree.other, .sl false false (r60.1.tree.kids.map encSTree), V.bool r60.1.target]), (103, .vec false 9 1 (r60.2.2.2.map encS)), (0, .cells 108 [.sl false false (p0_0.map encSToken), V.int r60.2.1, V.bool r60.2.2.1, .own 103])] mix (by
   refine W.run D_ok 2 103 (by kernel_rfl) ?_
   refine W.call (m_impl_parser__cond_ok N (⟨a1.NoIn, a1.NoGt⟩ : SRules) p0_0 p0_1 p0_2 p1 hx88) cok100 [(0, 0), (1, 1)] [(0, 0), (100, 103)] [103] (show LayOk _ [] from trivial) (by kernel_rfl) (by kernel_rfl) ?_
   refine W.run D_ok 1 104 (by kernel_rfl) ?_
   exact W.fi (by kernel_rfl)
   ) ?_
  refine CodeOk.ret ?_
  have h := Option.some.inj h
  subst h
  exact Ends.gen [(0, 0), (103, 100)] (.inr rfl) (RetV.one rfl (OneR.cell D_ok (r := .agg [V.int r60.1.tree.kind, V.int r60.1.tree.op, V.str r60.1.tree.text, V.str r60.1.tree.other, .sl false false (r60.1.tree.kids.map encSTree), V.bool r60.1.target]) (i := 101) (ety := 113) (cs := [V.int r60.1.tree.kind, V.int r60.1.tree.op, V.str r60.1.tree.text, V.str r60.1.tree.other, .sl false false (r60.1.tree.kids.map encSTree), V.bool r60.1.target]) (by kernel_rfl) (by kernel_rfl) (by kernel_rfl))) (by kernel_rfl) (by kernel_rfl) (by kernel_rfl)
 refine CodeOk.ifF hc86 (by kernel_rfl) ?_
 refine cu D_ok mix 2 103 (tl 102 [(0, .loc 0 0), (3, .loc 100 0), (4, .loc 101 0), (5, .loc 102 0), (22, V.int a1.Level), (33, V.bool (a1.Level == 3))]) [(0, .cells 108 [.sl false false (p0_0.map encSToken), V.int p0_1, V.bool p0_2, .own 1]), (100, .cells 84 [V.int a1.Level, V.bool a1.Dollar, V.bool a1.NoIn, V.bool a1.NoGt, V.bool a1.NoSign]), (101, .cells 113 [V.int 0, V.int 0, V.str [], V.str [], .c (.slice none 0 0), V.bool false]), (102, .cells 138 [V.bool a1.NoIn, V.bool a1.NoGt]), (1, .vec false 9 1 (p1.map encS))] (by kernel_rfl) ?_
 (revert h; refine cond_rev (fun hc89 h => ?_) (fun hc89 h => ?_))
 ·refine CodeOk.ifT hc89 (by kernel_rfl) ?_
  (revert h; refine bind_rev fun r62 hx91 h => ?_)
  refine CodeOk.cutR (tl 102 [(4, .loc 101 0)]) [(101, .cells 113 [V.int r62.1.tree.kind, V.int r62.1.tree.op, V.str r62.1.tree.text, V.str r62.1.tree.other, .sl false false (r62.1.tree.kids.map encSTree), V.bool r62.1.target]), (103, .vec false 9 1 (r62.2.2.2.map encS)), (0, .cells 108 [.sl false false (p0_0.map encSToken), V.int r62.2.1, V.bool r62.2.2.1, .own 103])] mix (by
   refine W.run D_ok 2 103 (by kernel_rfl) ?_
   refine W.call (m_impl_parser__or_ok N (⟨a1.NoIn, a1.NoGt⟩ : SRules) p0_0 p0_1 p0_2 p1 hx91) cok101 [(0, 0), (1, 1)] [(0, 0), (100, 103)] [103] (show LayOk _ [] from trivial) (by kernel_rfl) (by kernel_rfl) ?_
   refine W.run D_ok 1 104 (by kernel_rfl) ?_
   exact W.fi (by kernel_rfl)
   ) ?_
  refine CodeOk.ret ?_
  have h := Option.some.inj h
  subst h
  exact Ends.gen [(0, 0), (103, 100)] (.inr rfl) (RetV.one rfl (OneR.cell D_ok (r := .agg [V.int r62.1.tree.kind, V.int r62.1.tree.op, V.str r62.1.tree.text, V.str r62.1.tree.other, .sl false false (r62.1.tree.kids.map encSTree), V.bool r62.1.target]) (i := 101) (ety := 113) (cs := [V.int r62.1.tree.kind, V.int r62.1.tree.op, V.str r62.1.tree.text, V.str r62.1.tree.other, .sl false false (r62.1.tree.kids.map encSTree), V.bool r62.1.target]) (by kernel_rfl) (by kernel_rfl) (by kernel_rfl))) (by kernel_rfl) (by kernel_rfl) (by kernel_rfl)
 refine CodeOk.ifF hc89 (by kernel_rfl) ?_
 refine cu D_ok mix 2 103 (tl 102 [(0, .loc 0 0), (3, .loc 100 0), (4, .loc 101 0), (5, .loc 102 0), (22, V.int a1.Level), (38, V.bool (a1.Level == 4))]) [(0, .cells 108 [.sl false false (p0_0.map encSToken), V.int p0_1, V.bool p0_2, .own 1]), (100, .cells 84 [V.int a1.Level, V.bool a1.Dollar, V.bool a1.NoIn, V.bool a1.NoGt, V.bool a1.NoSign]), (101, .cells 113 [V.int 0, V.int 0, V.str [], V.str [], .c (.slice none 0 0), V.bool false]), (102, .cells 138 [V.bool a1.NoIn, V.bool a1.NoGt]), (1, .vec false 9 1 (p1.map encS))] (by kernel_rfl) ?_
 (revert h; refine cond_rev (fun hc92 h => ?_) (fun hc92 h => ?_))
 ·refine CodeOk.ifT hc92 (by kernel_rfl) ?_
  (revert h; refine bind_rev fun r64 hx94 h => ?_)
  refine CodeOk.cutR (tl 102 [(4, .loc 101 0)]) [(101, .cells 113 [V.int r64.1.tree.kind, V.int r64.1.tree.op, V.str r64.1.tree.text, V.str r64.1.tree.other, .sl false false (r64.1.tree.kids.map encSTree), V.bool r64.1.target]), (103, .vec false 9 1 (r64.2.2.2.map encS)), (0, .cells 108 [.sl false false (p0_0.map encSToken), V.int r64.2.1, V.bool r64.2.2.1, .own 103])] mix (by
   refine W.run D_ok 2 103 (by kernel_rfl) ?_
   refine W.call (m_impl_parser__and_ok N (⟨a1.NoIn, a1.NoGt⟩ : SRules) p0_0 p0_1 p0_2 p1 hx94) cok102 [(0, 0), (1, 1)] [(0, 0), (100, 103)] [103] (show LayOk _ [] from trivial) (by kernel_rfl) (by kernel_rfl) ?_
   refine W.run D_ok 1 104 (by kernel_rfl) ?_
   exact W.fi (by kernel_rfl)
   ) ?_
  refine CodeOk.ret ?_
  have h := Option.some.inj h
  subst h
  exact Ends.gen [(0, 0), (103, 100)] (.inr rfl) (RetV.one rfl (OneR.cell D_ok (r := .agg [V.int r64.1.tree.kind, V.int r64.1.tree.op, V.str r64.1.tree.text, V.str r64.1.tree.other, .sl false false (r64.1.tree.kids.map encSTree), V.bool r64.1.target]) (i := 101) (ety := 113) (cs := [V.int r64.1.tree.kind, V.int r64.1.tree.op, V.str r64.1.tree.text, V.str r64.1.tree.other, .sl false false (r64.1.tree.kids.map encSTree), V.bool r64.1.target]) (by kernel_rfl) (by kernel_rfl) (by kernel_rfl))) (by kernel_rfl) (by kernel_rfl) (by kernel_rfl)
 refine CodeOk.ifF hc92 (by kernel_rfl) ?_
 refine cu D_ok mix 2 103 (tl 102 [(0, .loc 0 0), (3, .loc 100 0), (4, .loc 101 0), (5, .loc 102 0), (22, V.int a1.Level), (43, V.bool (a1.Level == 5))]) [(0, .cells 108 [.sl false false (p0_0.map encSToken), V.int p0_1, V.bool p0_2, .own 1]), (100, .cells 84 [V.int a1.Level, V.bool a1.Dollar, V.bool a1.NoIn, V.bool a1.NoGt, V.bool a1.NoSign]), (101, .cells 113 [V.int 0, V.int 0, V.str [], V.str [], .c (.slice none 0 0), V.bool false]), (102, .cells 138 [V.bool a1.NoIn, V.bool a1.NoGt]), (1, .vec false 9 1 (p1.map encS))] (by kernel_rfl) ?_
 (revert h; refine cond_rev (fun hc95 h => ?_) (fun hc95 h => ?_))
 ·refine CodeOk.ifT hc95 (by kernel_rfl) ?_
  (revert h; refine bind_rev fun r66 hx97 h => ?_)
  refine CodeOk.cutR (tl 102 [(4, .loc 101 0)]) [(101, .cells 113 [V.int r66.1.tree.kind, V.int r66.1.tree.op, V.str r66.1.tree.text, V.str r66.1.tree.other, .sl false false (r66.1.tree.kids.map encSTree), V.bool r66.1.target]), (103, .vec false 9 1 (r66.2.2.2.map encS)), (0, .cells 108 [.sl false false (p0_0.map encSToken), V.int r66.2.1, V.bool r66.2.2.1, .own 103])] mix (by
   refine W.run D_ok 2 103 (by kernel_rfl) ?_
   refine W.call (m_impl_parser__in_ok N (⟨a1.NoIn, a1.NoGt⟩ : SRules) p0_0 p0_1 p0_2 p1 hx97) cok103 [(0, 0), (1, 1)] [(0, 0), (100, 103)] [103] (show LayOk _ [] from trivial) (by kernel_rfl) (by kernel_rfl) ?_
   refine W.run D_ok 1 104 (by kernel_rfl) ?_
   exact W.fi (by kernel_rfl)
   ) ?_
  refine CodeOk.ret ?_
  have h := Option.some.inj h
  subst h
  exact Ends.gen [(0, 0), (103, 100)] (.inr rfl) (RetV.one rfl (OneR.cell D_ok (r := .agg [V.int r66.1.tree.kind, V.int r66.1.tree.op, V.str r66.1.tree.text, V.str r66.1.tree.other, .sl false false (r66.1.tree.kids.map encSTree), V.bool r66.1.target]) (i := 101) (ety := 113) (cs := [V.int r66.1.tree.kind, V.int r66.1.tree.op, V.str r66.1.tree.text, V.str r66.1.tree.other, .sl false false (r66.1.tree.kids.map encSTree), V.bool r66.1.target]) (by kernel_rfl) (by kernel_rfl) (by kernel_rfl))) (by kernel_rfl) (by kernel_rfl) (by kernel_rfl)
 refine CodeOk.ifF hc95 (by kernel_rfl) ?_
 refine cu D_ok mix 2 103 (tl 102 [(0, .loc 0 0), (3, .loc 100 0), (4, .loc 101 0), (5, .loc 102 0), (22, V.int a1.Level), (48, V.bool (a1.Level == 6))]) [(0, .cells 108 [.sl false false (p0_0.map encSToken), V.int p0_1, V.bool p0_2, .own 1]), (100, .cells 84 [V.int a1.Level, V.bool a1.Dollar, V.bool a1.NoIn, V.bool a1.NoGt, V.bool a1.NoSign]), (101, .cells 113 [V.int 0, V.int 0, V.str [], V.str [], .c (.slice none 0 0), V.bool false]), (102, .cells 138 [V.bool a1.NoIn, V.bool a1.NoGt]), (1, .vec false 9 1 (p1.map encS))] (by kernel_rfl) ?_
 (revert h; refine cond_rev (fun hc98 h => ?_) (fun hc98 h => ?_))
 ·refine CodeOk.ifT hc98 (by kernel_rfl) ?_
  (revert h; refine bind_rev fun r68 hx100 h => ?_)
  refine CodeOk.cutR (tl 102 [(4, .loc 101 0)]) [(101, .cells 113 [V.int r68.1.tree.kind, V.int r68.1.tree.op, V.str r68.1.tree.text, V.str r68.1.tree.other, .sl false false (r68.1.tree.kids.map encSTree), V.bool r68.1.target]), (103, .vec false 9 1 (r68.2.2.2.map encS)), (0, .cells 108 [.sl false false (p0_0.map encSToken), V.int r68.2.1, V.bool r68.2.2.1, .own 103])] mix (by
   refine W.run D_ok 2 103 (by kernel_rfl) ?_
   refine W.call (m_impl_parser__match_ok N (⟨a1.NoIn, a1.NoGt⟩ : SRules) p0_0 p0_1 p0_2 p1 hx100) cok104 [(0, 0), (1, 1)] [(0, 0), (100, 103)] [103] (show LayOk _ [] from trivial) (by kernel_rfl) (by kernel_rfl) ?_
   refine W.run D_ok 1 104 (by kernel_rfl) ?_
   exact W.fi (by kernel_rfl)
   ) ?_
  refine CodeOk.ret ?_
  have h := Option.some.inj h
  subst h
  exact Ends.gen [(0, 0), (103, 100)] (.inr rfl) (RetV.one rfl (OneR.cell D_ok (r := .agg [V.int r68.1.tree.kind, V.int r68.1.tree.op, V.str r68.1.tree.text, V.str r68.1.tree.other, .sl false false (r68.1.tree.kids.map encSTree), V.bool r68.1.target]) (i := 101) (ety := 113) (cs := [V.int r68.1.tree.kind, V.int r68.1.tree.op, V.str r68.1.tree.text, V.str r68.1.tree.other, .sl false false (r68.1.tree.kids.map encSTree), V.bool r68.1.target]) (by kernel_rfl) (by kernel_rfl) (by kernel_rfl))) (by kernel_rfl) (by kernel_rfl) (by kernel_rfl)
 refine CodeOk.ifF hc98 (by kernel_rfl) ?_
 refine cu D_ok mix 2 103 (tl 102 [(0, .loc 0 0), (3, .loc 100 0), (4, .loc 101 0), (5, .loc 102 0), (22, V.int a1.Level), (53, V.bool (a1.Level == 7))]) [(0, .cells 108 [.sl false false (p0_0.map encSToken), V.int p0_1, V.bool p0_2, .own 1]), (100, .cells 84 [V.int a1.Level, V.bool a1.Dollar, V.bool a1.NoIn, V.bool a1.NoGt, V.bool a1.NoSign]), (101, .cells 113 [V.int 0, V.int 0, V.str [], V.str [], .c (.slice none 0 0), V.bool false]), (102, .cells 138 [V.bool a1.NoIn, V.bool a1.NoGt]), (1, .vec false 9 1 (p1.map encS))] (by kernel_rfl) ?_
 (revert h; refine cond_rev (fun hc101 h => ?_) (fun hc101 h => ?_))
 ·refine CodeOk.ifT hc101 (by kernel_rfl) ?_
  (revert h; refine bind_rev fun r70 hx103 h => ?_)
  refine CodeOk.cutR (tl 102 [(4, .loc 101 0)]) [(101, .cells 113 [V.int r70.1.tree.kind, V.int r70.1.tree.op, V.str r70.1.tree.text, V.str r70.1.tree.other, .sl false false (r70.1.tree.kids.map encSTree), V.bool r70.1.target]), (103, .vec false 9 1 (r70.2.2.2.map encS)), (0, .cells 108 [.sl false false (p0_0.map encSToken), V.int r70.2.1, V.bool r70.2.2.1, .own 103])] mix (by
   refine W.run D_ok 2 103 (by kernel_rfl) ?_
   refine W.call (m_impl_parser__compare_ok N (⟨a1.NoIn, a1.NoGt⟩ : SRules) p0_0 p0_1 p0_2 p1 hx103) cok105 [(0, 0), (1, 1)] [(0, 0), (100, 103)] [103] (show LayOk _ [] from trivial) (by kernel_rfl) (by kernel_rfl) ?_
   refine W.run D_ok 1 104 (by kernel_rfl) ?_
   exact W.fi (by kernel_rfl)
   ) ?_
  refine CodeOk.ret ?_
  have h := Option.some.inj h
  subst h
  exact Ends.gen [(0, 0), (103, 100)] (.inr rfl) (RetV.one rfl (OneR.cell D_ok (r := .agg [V.int r70.1.tree.kind, V.int r70.1.tree.op, V.str r70.1.tree.text, V.str r70.1.tree.other, .sl false false (r70.1.tree.kids.map encSTree), V.bool r70.1.target]) (i := 101) (ety := 113) (cs := [V.int r70.1.tree.kind, V.int r70.1.tree.op, V.str r70.1.tree.text, V.str r70.1.tree.other, .sl false false (r70.1.tree.kids.map encSTree), V.bool r70.1.target]) (by kernel_rfl) (by kernel_rfl) (by kernel_rfl))) (by kernel_rfl) (by kernel_rfl) (by kernel_rfl)
 refine CodeOk.ifF hc101 (by kernel_rfl) ?_
 refine cu D_ok mix 2 103 (tl 102 [(0, .loc 0 0), (3, .loc 100 0), (4, .loc 101 0), (5, .loc 102 0), (22, V.int a1.Level), (58, V.bool (a1.Level == 8))]) [(0, .cells 108 [.sl false false (p0_0.map encSToken), V.int p0_1, V.bool p0_2, .own 1]), (100, .cells 84 [V.int a1.Level, V.bool a1.Dollar, V.bool a1.NoIn, V.bool a1.NoGt, V.bool a1.NoSign]), (101, .cells 113 [V.int 0, V.int 0, V.str [], V.str [], .c (.slice none 0 0), V.bool false]), (102, .cells 138 [V.bool a1.NoIn, V.bool a1.NoGt]), (1, .vec false 9 1 (p1.map encS))] (by kernel_rfl) ?_
 (revert h; refine cond_rev (fun hc104 h => ?_) (fun hc104 h => ?_))
 ·refine CodeOk.ifT hc104 (by kernel_rfl) ?_
  (revert h; refine bind_rev fun r72 hx106 h => ?_)
  refine CodeOk.cutR (tl 102 [(4, .loc 101 0)]) [(101, .cells 113 [V.int r72.1.tree.kind, V.int r72.1.tree.op, V.str r72.1.tree.text, V.str r72.1.tree.other, .sl false false (r72.1.tree.kids.map encSTree), V.bool r72.1.target]), (103, .vec false 9 1 (r72.2.2.2.map encS)), (0, .cells 108 [.sl false false (p0_0.map encSToken), V.int r72.2.1, V.bool r72.2.2.1, .own 103])] mix (by
   refine W.run D_ok 2 103 (by kernel_rfl) ?_
   refine W.call (m_impl_parser__cat_ok N (⟨a1.NoIn, a1.NoGt⟩ : SRules) p0_0 p0_1 p0_2 p1 hx106) cok106 [(0, 0), (1, 1)] [(0, 0), (100, 103)] [103] (show LayOk _ [] from trivial) (by kernel_rfl) (by kernel_rfl) ?_
   refine W.run D_ok 1 104 (by kernel_rfl) ?_
   exact W.fi (by kernel_rfl)
   ) ?_
  refine CodeOk.ret ?_
  have h := Option.some.inj h
  subst h
  exact Ends.gen [(0, 0), (103, 100)] (.inr rfl) (RetV.one rfl (OneR.cell D_ok (r := .agg [V.int r72.1.tree.kind, V.int r72.1.tree.op, V.str r72.1.tree.text, V.str r72.1.tree.other, .sl false false (r72.1.tree.kids.map encSTree), V.bool r72.1.target]) (i := 101) (ety := 113) (cs := [V.int r72.1.tree.kind, V.int r72.1.tree.op, V.str r72.1.tree.text, V.str r72.1.tree.other, .sl false false (r72.1.tree.kids.map encSTree), V.bool r72.1.target]) (by kernel_rfl) (by kernel_rfl) (by kernel_rfl))) (by kernel_rfl) (by kernel_rfl) (by kernel_rfl)
 refine CodeOk.ifF hc104 (by kernel_rfl) ?_
 refine cu D_ok mix 2 103 (tl 102 [(0, .loc 0 0), (3, .loc 100 0), (4, .loc 101 0), (5, .loc 102 0), (22, V.int a1.Level), (63, V.bool (a1.Level == 9))]) [(0, .cells 108 [.sl false false (p0_0.map encSToken), V.int p0_1, V.bool p0_2, .own 1]), (100, .cells 84 [V.int a1.Level, V.bool a1.Dollar, V.bool a1.NoIn, V.bool a1.NoGt, V.bool a1.NoSign]), (101, .cells 113 [V.int 0, V.int 0, V.str [], V.str [], .c (.slice none 0 0), V.bool false]), (102, .cells 138 [V.bool a1.NoIn, V.bool a1.NoGt]), (1, .vec false 9 1 (p1.map encS))] (by kernel_rfl) ?_
 (revert h; refine cond_rev (fun hc107 h => ?_) (fun hc107 h => ?_))
 ·refine CodeOk.ifT hc107 (by kernel_rfl) ?_
  (revert h; refine bind_rev fun r74 hx109 h => ?_)
  refine CodeOk.cutR (tl 102 [(4, .loc 101 0)]) [(101, .cells 113 [V.int r74.1.tree.kind, V.int r74.1.tree.op, V.str r74.1.tree.text, V.str r74.1.tree.other, .sl false false (r74.1.tree.kids.map encSTree), V.bool r74.1.target]), (103, .vec false 9 1 (r74.2.2.2.map encS)), (0, .cells 108 [.sl false false (p0_0.map encSToken), V.int r74.2.1, V.bool r74.2.2.1, .own 103])] mix (by
   refine W.run D_ok 2 103 (by kernel_rfl) ?_
   refine W.call (m_impl_parser__add_ok N (⟨a1.NoIn, a1.NoGt⟩ : SRules) p0_0 p0_1 p0_2 p1 hx109) cok107 [(0, 0), (1, 1)] [(0, 0), (100, 103)] [103] (show LayOk _ [] from trivial) (by kernel_rfl) (by kernel_rfl) ?_
   refine W.run D_ok 1 104 (by kernel_rfl) ?_
   exact W.fi (by kernel_rfl)
   ) ?_
  refine CodeOk.ret ?_
  have h := Option.some.inj h
  subst h
  exact Ends.gen [(0, 0), (103, 100)] (.inr rfl) (RetV.one rfl (OneR.cell D_ok (r := .agg [V.int r74.1.tree.kind, V.int r74.1.tree.op, V.str r74.1.tree.text, V.str r74.1.tree.other, .sl false false (r74.1.tree.kids.map encSTree), V.bool r74.1.target]) (i := 101) (ety := 113) (cs := [V.int r74.1.tree.kind, V.int r74.1.tree.op, V.str r74.1.tree.text, V.str r74.1.tree.other, .sl false false (r74.1.tree.kids.map encSTree), V.bool r74.1.target]) (by kernel_rfl) (by kernel_rfl) (by kernel_rfl))) (by kernel_rfl) (by kernel_rfl) (by kernel_rfl)
 refine CodeOk.ifF hc107 (by kernel_rfl) ?_
 refine cu D_ok mix 2 103 (tl 102 [(0, .loc 0 0), (3, .loc 100 0), (4, .loc 101 0), (5, .loc 102 0), (22, V.int a1.Level), (68, V.bool (a1.Level == 10))]) [(0, .cells 108 [.sl false false (p0_0.map encSToken), V.int p0_1, V.bool p0_2, .own 1]), (100, .cells 84 [V.int a1.Level, V.bool a1.Dollar, V.bool a1.NoIn, V.bool a1.NoGt, V.bool a1.NoSign]), (101, .cells 113 [V.int 0, V.int 0, V.str [], V.str [], .c (.slice none 0 0), V.bool false]), (102, .cells 138 [V.bool a1.NoIn, V.bool a1.NoGt]), (1, .vec false 9 1 (p1.map encS))] (by kernel_rfl) ?_
 (revert h; refine cond_rev (fun hc110 h => ?_) (fun hc110 h => ?_))
 ·refine CodeOk.ifT hc110 (by kernel_rfl) ?_
  (revert h; refine bind_rev fun r76 hx112 h => ?_)
  refine CodeOk.cutR (tl 102 [(4, .loc 101 0)]) [(101, .cells 113 [V.int r76.1.tree.kind, V.int r76.1.tree.op, V.str r76.1.tree.text, V.str r76.1.tree.other, .sl false false (r76.1.tree.kids.map encSTree), V.bool r76.1.target]), (103, .vec false 9 1 (r76.2.2.2.map encS)), (0, .cells 108 [.sl false false (p0_0.map encSToken), V.int r76.2.1, V.bool r76.2.2.1, .own 103])] mix (by
   refine W.run D_ok 2 103 (by kernel_rfl) ?_
   refine W.call (m_impl_parser__mul_ok N (⟨a1.NoIn, a1.NoGt⟩ : SRules) p0_0 p0_1 p0_2 p1 hx112) cok108 [(0, 0), (1, 1)] [(0, 0), (100, 103)] [103] (show LayOk _ [] from trivial) (by kernel_rfl) (by kernel_rfl) ?_
   refine W.run D_ok 1 104 (by kernel_rfl) ?_
   exact W.fi (by kernel_rfl)
   ) ?_
  refine CodeOk.ret ?_
  have h := Option.some.inj h
  subst h
  exact Ends.gen [(0, 0), (103, 100)] (.inr rfl) (RetV.one rfl (OneR.cell D_ok (r := .agg [V.int r76.1.tree.kind, V.int r76.1.tree.op, V.str r76.1.tree.text, V.str r76.1.tree.other, .sl false false (r76.1.tree.kids.map encSTree), V.bool r76.1.target]) (i := 101) (ety := 113) (cs := [V.int r76.1.tree.kind, V.int r76.1.tree.op, V.str r76.1.tree.text, V.str r76.1.tree.other, .sl false false (r76.1.tree.kids.map encSTree), V.bool r76.1.target]) (by kernel_rfl) (by kernel_rfl) (by kernel_rfl))) (by kernel_rfl) (by kernel_rfl) (by kernel_rfl)
 refine CodeOk.ifF hc110 (by kernel_rfl) ?_
 refine cu D_ok mix 2 103 (tl 102 [(0, .loc 0 0), (3, .loc 100 0), (4, .loc 101 0), (5, .loc 102 0), (22, V.int a1.Level), (73, V.bool (a1.Level == 11))]) [(0, .cells 108 [.sl false false (p0_0.map encSToken), V.int p0_1, V.bool p0_2, .own 1]), (100, .cells 84 [V.int a1.Level, V.bool a1.Dollar, V.bool a1.NoIn, V.bool a1.NoGt, V.bool a1.NoSign]), (101, .cells 113 [V.int 0, V.int 0, V.str [], V.str [], .c (.slice none 0 0), V.bool false]), (102, .cells 138 [V.bool a1.NoIn, V.bool a1.NoGt]), (1, .vec false 9 1 (p1.map encS))] (by kernel_rfl) ?_
 (revert h; refine cond_rev (fun hc113 h => ?_) (fun hc113 h => ?_))
 ·refine CodeOk.ifT hc113 (by kernel_rfl) ?_
  (revert h; refine bind_rev fun r78 hx115 h => ?_)
  refine CodeOk.cutR (tl 102 [(4, .loc 101 0)]) [(101, .cells 113 [V.int r78.1.tree.kind, V.int r78.1.tree.op, V.str r78.1.tree.text, V.str r78.1.tree.other, .sl false false (r78.1.tree.kids.map encSTree), V.bool r78.1.target]), (103, .vec false 9 1 (r78.2.2.2.map encS)), (0, .cells 108 [.sl false false (p0_0.map encSToken), V.int r78.2.1, V.bool r78.2.2.1, .own 103])] mix (by
   refine W.run D_ok 2 103 (by kernel_rfl) ?_
   refine W.call (m_impl_parser__unary_ok N (⟨a1.NoIn, a1.NoGt⟩ : SRules) p0_0 p0_1 p0_2 p1 hx115) cok109 [(0, 0), (1, 1)] [(0, 0), (100, 103)] [103] (show LayOk _ [] from trivial) (by kernel_rfl) (by kernel_rfl) ?_
   refine W.run D_ok 1 104 (by kernel_rfl) ?_
   exact W.fi (by kernel_rfl)
   ) ?_
  refine CodeOk.ret ?_
  have h := Option.some.inj h
  subst h
  exact Ends.gen [(0, 0), (103, 100)] (.inr rfl) (RetV.one rfl (OneR.cell D_ok (r := .agg [V.int r78.1.tree.kind, V.int r78.1.tree.op, V.str r78.1.tree.text, V.str r78.1.tree.other, .sl false false (r78.1.tree.kids.map encSTree), V.bool r78.1.target]) (i := 101) (ety := 113) (cs := [V.int r78.1.tree.kind, V.int r78.1.tree.op, V.str r78.1.tree.text, V.str r78.1.tree.other, .sl false false (r78.1.tree.kids.map encSTree), V.bool r78.1.target]) (by kernel_rfl) (by kernel_rfl) (by kernel_rfl))) (by kernel_rfl) (by kernel_rfl) (by kernel_rfl)
 refine CodeOk.ifF hc113 (by kernel_rfl) ?_
 refine cu D_ok mix 2 103 (tl 102 [(0, .loc 0 0), (3, .loc 100 0), (4, .loc 101 0), (5, .loc 102 0), (22, V.int a1.Level), (78, V.bool (a1.Level == 12))]) [(0, .cells 108 [.sl false false (p0_0.map encSToken), V.int p0_1, V.bool p0_2, .own 1]), (100, .cells 84 [V.int a1.Level, V.bool a1.Dollar, V.bool a1.NoIn, V.bool a1.NoGt, V.bool a1.NoSign]), (101, .cells 113 [V.int 0, V.int 0, V.str [], V.str [], .c (.slice none 0 0), V.bool false]), (102, .cells 138 [V.bool a1.NoIn, V.bool a1.NoGt]), (1, .vec false 9 1 (p1.map encS))] (by kernel_rfl) ?_
 (revert h; refine cond_rev (fun hc116 h => ?_) (fun hc116 h => ?_))
 ·refine CodeOk.ifT hc116 (by kernel_rfl) ?_
  (revert h; refine bind_rev fun r80 hx118 h => ?_)
  refine CodeOk.cutR (tl 102 [(4, .loc 101 0)]) [(101, .cells 113 [V.int r80.1.tree.kind, V.int r80.1.tree.op, V.str r80.1.tree.text, V.str r80.1.tree.other, .sl false false (r80.1.tree.kids.map encSTree), V.bool r80.1.target]), (103, .vec false 9 1 (r80.2.2.2.map encS)), (0, .cells 108 [.sl false false (p0_0.map encSToken), V.int r80.2.1, V.bool r80.2.2.1, .own 103])] mix (by
   refine W.run D_ok 2 103 (by kernel_rfl) ?_
   refine W.call (m_impl_parser__pow_ok N (⟨a1.NoIn, a1.NoGt⟩ : SRules) p0_0 p0_1 p0_2 p1 hx118) cok110 [(0, 0), (1, 1)] [(0, 0), (100, 103)] [103] (show LayOk _ [] from trivial) (by kernel_rfl) (by kernel_rfl) ?_
   refine W.run D_ok 1 104 (by kernel_rfl) ?_
   exact W.fi (by kernel_rfl)
   ) ?_
  refine CodeOk.ret ?_
  have h := Option.some.inj h
  subst h
  exact Ends.gen [(0, 0), (103, 100)] (.inr rfl) (RetV.one rfl (OneR.cell D_ok (r := .agg [V.int r80.1.tree.kind, V.int r80.1.tree.op, V.str r80.1.tree.text, V.str r80.1.tree.other, .sl false false (r80.1.tree.kids.map encSTree), V.bool r80.1.target]) (i := 101) (ety := 113) (cs := [V.int r80.1.tree.kind, V.int r80.1.tree.op, V.str r80.1.tree.text, V.str r80.1.tree.other, .sl false false (r80.1.tree.kids.map encSTree), V.bool r80.1.target]) (by kernel_rfl) (by kernel_rfl) (by kernel_rfl))) (by kernel_rfl) (by kernel_rfl) (by kernel_rfl)
 refine CodeOk.ifF hc116 (by kernel_rfl) ?_
 refine cu D_ok mix 2 103 (tl 102 [(0, .loc 0 0), (3, .loc 100 0), (4, .loc 101 0), (22, V.int a1.Level), (83, V.bool (a1.Level == 13))]) [(0, .cells 108 [.sl false false (p0_0.map encSToken), V.int p0_1, V.bool p0_2, .own 1]), (100, .cells 84 [V.int a1.Level, V.bool a1.Dollar, V.bool a1.NoIn, V.bool a1.NoGt, V.bool a1.NoSign]), (101, .cells 113 [V.int 0, V.int 0, V.str [], V.str [], .c (.slice none 0 0), V.bool false]), (1, .vec false 9 1 (p1.map encS))] (by kernel_rfl) ?_
 (revert h; refine cond_rev (fun hc119 h => ?_) (fun hc119 h => ?_))
 ·refine CodeOk.ifT hc119 (by kernel_rfl) ?_
  (revert h; refine bind_rev fun r82 hx121 h => ?_)
  refine CodeOk.cutR (tl 102 [(4, .loc 101 0)]) [(101, .cells 113 [V.int r82.1.tree.kind, V.int r82.1.tree.op, V.str r82.1.tree.text, V.str r82.1.tree.other, .sl false false (r82.1.tree.kids.map encSTree), V.bool r82.1.target]), (103, .vec false 9 1 (r82.2.2.2.map encS)), (0, .cells 108 [.sl false false (p0_0.map encSToken), V.int r82.2.1, V.bool r82.2.2.1, .own 103])] mix (by
   refine W.run D_ok 1 103 (by kernel_rfl) ?_
   refine W.call (m_impl_parser__incr_ok N p0_0 p0_1 p0_2 p1 hx121) cok111 [(0, 0), (1, 1)] [(0, 0), (100, 103)] [103] (show LayOk _ [] from trivial) (by kernel_rfl) (by kernel_rfl) ?_
   refine W.run D_ok 1 104 (by kernel_rfl) ?_
   exact W.fi (by kernel_rfl)
   ) ?_
  refine CodeOk.ret ?_
  have h := Option.some.inj h
  subst h
  exact Ends.gen [(0, 0), (103, 100)] (.inr rfl) (RetV.one rfl (OneR.cell D_ok (r := .agg [V.int r82.1.tree.kind, V.int r82.1.tree.op, V.str r82.1.tree.text, V.str r82.1.tree.other, .sl false false (r82.1.tree.kids.map encSTree), V.bool r82.1.target]) (i := 101) (ety := 113) (cs := [V.int r82.1.tree.kind, V.int r82.1.tree.op, V.str r82.1.tree.text, V.str r82.1.tree.other, .sl false false (r82.1.tree.kids.map encSTree), V.bool r82.1.target]) (by kernel_rfl) (by kernel_rfl) (by kernel_rfl))) (by kernel_rfl) (by kernel_rfl) (by kernel_rfl)
 refine CodeOk.ifF hc119 (by kernel_rfl) ?_
 refine cu D_ok mix 2 103 (tl 102 [(0, .loc 0 0), (3, .loc 100 0), (4, .loc 101 0), (87, V.bool (a1.Level == 14))]) [(0, .cells 108 [.sl false false (p0_0.map encSToken), V.int p0_1, V.bool p0_2, .own 1]), (100, .cells 84 [V.int a1.Level, V.bool a1.Dollar, V.bool a1.NoIn, V.bool a1.NoGt, V.bool a1.NoSign]), (101, .cells 113 [V.int 0, V.int 0, V.str [], V.str [], .c (.slice none 0 0), V.bool false]), (1, .vec false 9 1 (p1.map encS))] (by kernel_rfl) ?_
 (revert h; refine cond_rev (fun hc122 h => ?_) (fun hc122 h => ?_))
 ·refine CodeOk.ifT hc122 (by kernel_rfl) ?_
  refine CodeOk.seq' ?_
  (revert h; refine bind_rev fun y92 hv136 h => ?_)
  refine CodeOk.cutR (tl 102 [(0, .loc 0 0), (4, .loc 100 0), (95, V.bool y92)]) [(0, .cells 108 [.sl false false (p0_0.map encSToken), V.int p0_1, V.bool p0_2, .own 1]), (100, .cells 113 [V.int 0, V.int 0, V.str [], V.str [], .c (.slice none 0 0), V.bool false]), (1, .vec false 9 1 (p1.map encS))] mix (by
   refine W.run D_ok 3 103 (by kernel_rfl) ?_
   (revert hv136; refine cond_rev (fun hc137 hv136 => ?_) (fun hc137 hv136 => ?_))
   ·refine W.is 91 hc137 (by kernel_rfl) ?_
    refine W.run D_ok 1 103 (by kernel_rfl) ?_
    (revert hv136; refine bind_rev fun r93 hx138 hv136 => ?_)
    refine W.call (m_impl_parser__kind_ok p0_0 p0_1 p0_2 p1 hx138) cok97 [(0, 0), (1, 1)] [(0, 0), (1, 1)] [] (show LayOk _ [] from trivial) (by kernel_rfl) (by kernel_rfl) ?_
    (revert hv136; refine bind_rev fun r94 hx139 hv136 => ?_)
    refine W.call0 (m_impl_isStep_ok r93 hx139) cok49 rfl (by kernel_rfl) ?_
    refine W.run D_ok 1 103 (by kernel_rfl) ?_
    have hv136 := Option.some.inj hv136
    subst hv136
    exact W.fs [(0, 0), (101, 100), (1, 1)] [0, 4, 95] (by kernel_rfl)
   refine W.is 91 hc137 (by kernel_rfl) ?_
   refine W.run D_ok 4 103 (by kernel_rfl) ?_
   have hv136 := Option.some.inj hv136
   subst hv136
   exact W.fs [(0, 0), (101, 100), (1, 1)] [0, 4, 95] (by kernel_rfl)
   ) ?_
  (revert h; refine cond_rev (fun hc140 h => ?_) (fun hc140 h => ?_))
  ·refine CodeOk.ifT hc140 (by kernel_rfl) ?_
   (revert h; refine bind_rev fun r96 hx142 h => ?_)
   refine CodeOk.cutR (tl 102 [(4, .loc 100 0)]) [(100, .cells 113 [V.int r96.1.tree.kind, V.int r96.1.tree.op, V.str r96.1.tree.text, V.str r96.1.tree.other, .sl false false (r96.1.tree.kids.map encSTree), V.bool r96.1.target]), (103, .vec false 9 1 (r96.2.2.2.map encS)), (0, .cells 108 [.sl false false (p0_0.map encSToken), V.int r96.2.1, V.bool r96.2.2.1, .own 103])] mix (by
    refine W.run D_ok 1 103 (by kernel_rfl) ?_
    refine W.call (m_impl_parser__before_ok N p0_0 p0_1 p0_2 p1 hx142) cok112 [(0, 0), (1, 1)] [(0, 0), (100, 103)] [103] (show LayOk _ [] from trivial) (by kernel_rfl) (by kernel_rfl) ?_
    refine W.run D_ok 1 104 (by kernel_rfl) ?_
    exact W.fi (by kernel_rfl)
    ) ?_
   refine CodeOk.ret ?_
   have h := Option.some.inj h
   subst h
   exact Ends.gen [(0, 0), (103, 100)] (.inr rfl) (RetV.one rfl (OneR.cell D_ok (r := .agg [V.int r96.1.tree.kind, V.int r96.1.tree.op, V.str r96.1.tree.text, V.str r96.1.tree.other, .sl false false (r96.1.tree.kids.map encSTree), V.bool r96.1.target]) (i := 100) (ety := 113) (cs := [V.int r96.1.tree.kind, V.int r96.1.tree.op, V.str r96.1.tree.text, V.str r96.1.tree.other, .sl false false (r96.1.tree.kids.map encSTree), V.bool r96.1.target]) (by kernel_rfl) (by kernel_rfl) (by kernel_rfl))) (by kernel_rfl) (by kernel_rfl) (by kernel_rfl)
  refine CodeOk.ifF hc140 (by kernel_rfl) ?_
  refine CodeOk.skip ?_
  (revert h; refine bind_rev fun r98 hx144 h => ?_)
  refine CodeOk.cutR (tl 102 [(4, .loc 100 0)]) [(100, .cells 113 [V.int r98.1.tree.kind, V.int r98.1.tree.op, V.str r98.1.tree.text, V.str r98.1.tree.other, .sl false false (r98.1.tree.kids.map encSTree), V.bool r98.1.target]), (103, .vec false 9 1 (r98.2.2.2.map encS)), (0, .cells 108 [.sl false false (p0_0.map encSToken), V.int r98.2.1, V.bool r98.2.2.1, .own 103])] mix (by
   refine W.run D_ok 1 103 (by kernel_rfl) ?_
   refine W.call (m_impl_parser__field_ok N p0_0 p0_1 p0_2 p1 hx144) cok113 [(0, 0), (1, 1)] [(0, 0), (100, 103)] [103] (show LayOk _ [] from trivial) (by kernel_rfl) (by kernel_rfl) ?_
   refine W.run D_ok 1 104 (by kernel_rfl) ?_
   exact W.fi (by kernel_rfl)
   ) ?_
  refine CodeOk.ret ?_
  have h := Option.some.inj h
  subst h
  exact Ends.gen [(0, 0), (103, 100)] (.inr rfl) (RetV.one rfl (OneR.cell D_ok (r := .agg [V.int r98.1.tree.kind, V.int r98.1.tree.op, V.str r98.1.tree.text, V.str r98.1.tree.other, .sl false false (r98.1.tree.kids.map encSTree), V.bool r98.1.target]) (i := 100) (ety := 113) (cs := [V.int r98.1.tree.kind, V.int r98.1.tree.op, V.str r98.1.tree.text, V.str r98.1.tree.other, .sl false false (r98.1.tree.kids.map encSTree), V.bool r98.1.target]) (by kernel_rfl) (by kernel_rfl) (by kernel_rfl))) (by kernel_rfl) (by kernel_rfl) (by kernel_rfl)
 refine CodeOk.ifF hc122 (by kernel_rfl) ?_
 refine CodeOk.skip ?_
 (revert h; refine bind_rev fun r100 hx146 h => ?_)
 refine CodeOk.cutR (tl 102 [(4, .loc 101 0)]) [(101, .cells 113 [V.int r100.1.tree.kind, V.int r100.1.tree.op, V.str r100.1.tree.text, V.str r100.1.tree.other, .sl false false (r100.1.tree.kids.map encSTree), V.bool r100.1.target]), (103, .vec false 9 1 (r100.2.2.2.map encS)), (0, .cells 108 [.sl false false (p0_0.map encSToken), V.int r100.2.1, V.bool r100.2.2.1, .own 103])] mix (by
  refine W.run D_ok 1 103 (by kernel_rfl) ?_
  refine W.call (m_impl_parser__primary_ok N p0_0 p0_1 p0_2 p1 hx146) cok114 [(0, 0), (1, 1)] [(0, 0), (100, 103)] [103] (show LayOk _ [] from trivial) (by kernel_rfl) (by kernel_rfl) ?_
  refine W.run D_ok 1 104 (by kernel_rfl) ?_
  exact W.fi (by kernel_rfl)
  ) ?_
 refine CodeOk.ret ?_
 have h := Option.some.inj h
 subst h
 exact Ends.gen [(0, 0), (103, 100)] (.inr rfl) (RetV.one rfl (OneR.cell D_ok (r := .agg [V.int r100.1.tree.kind, V.int r100.1.tree.op, V.str r100.1.tree.text, V.str r100.1.tree.other, .sl false false (r100.1.tree.kids.map encSTree), V.bool r100.1.target]) (i := 101) (ety := 113) (cs := [V.int r100.1.tree.kind, V.int r100.1.tree.op, V.str r100.1.tree.text, V.str r100.1.tree.other, .sl false false (r100.1.tree.kids.map encSTree), V.bool r100.1.target]) (by kernel_rfl) (by kernel_rfl) (by kernel_rfl))) (by kernel_rfl) (by kernel_rfl) (by kernel_rfl)

structure RecOk2 (R : Rec2) : Prop where
  m_impl_tree__size : ∀ (a0 : STree) (r : Int), R.m_impl_tree__size a0 = some r → AC Tryd.prog (GS []) 115 [.agg [V.int a0.kind, V.int a0.op, V.str a0.text, V.str a0.other, .sl false false (a0.kids.map encSTree)]] [] (V.int r) []

theorem m_impl_tree__size_F_ok (N : Nat) (R : Rec2) (HR : RecOk2 R) (a0 : STree) {r : Int} (h : m_impl_tree__size_F N R a0 = some r) :
    AC Tryd.prog (GS []) 115 [.agg [V.int a0.kind, V.int a0.op, V.str a0.text, V.str a0.other, .sl false false (a0.kids.map encSTree)]] [] (V.int r) [] := by
 rw [m_impl_tree__size_F] at h
 refine AC.enter Tryd.func115 rfl ?_
 refine cu D_ok mix 2 100 (tl 19 [(1, .loc 100 0)]) [(100, .cells 111 [V.int a0.kind, V.int a0.op, V.str a0.text, V.str a0.other, .sl false false (a0.kids.map encSTree)])] (by kernel_rfl) ?_
 refine cu D_ok mix 1 101 (tl 19 [(1, .loc 100 0), (3, V.int 1)]) [(100, .cells 111 [V.int a0.kind, V.int a0.op, V.str a0.text, V.str a0.other, .sl false false (a0.kids.map encSTree)])] (by kernel_rfl) ?_
 refine CodeOk.seq' ?_
 refine CodeOk.cutR (tl 19 [(3, V.int 1), (7, .sl false false (a0.kids.map encSTree)), (8, V.int (a0.kids.length : Int)), (9, V.int 0)]) [] mix (by
  refine W.run D_ok 2 101 (by kernel_rfl) ?_
  refine W.len D_ok encSTree a0.kids [] (by kernel_rfl) (by kernel_rfl) ?_
  refine W.run D_ok 1 101 (by kernel_rfl) ?_
  exact W.fi (by kernel_rfl)
  ) ?_
 refine CodeOk.block' ?_
 refine CodeOk.loopJ (fun (⟨a0, y37, y38⟩ : (STree × Int × Int)) => ⟨tl 19 [(3, V.int y37), (7, .sl false false (a0.kids.map encSTree)), (8, V.int (a0.kids.length : Int)), (9, V.int y38)], []⟩) (fun n i => m_impl_tree__size_l1 N R n i = some r) (n0 := N) (i0 := (a0, 1, 0)) (Weak.sel [] [3, 7, 8, 9] (by kernel_rfl) (by kernel_rfl) (by kernel_rfl)) h (fun i h => by simp [m_impl_tree__size_l1] at h) ?_
 rintro n1 ⟨a0, y37, y38⟩ h53 ih54
 rw [m_impl_tree__size_l1] at h53
 refine cu D_ok mix 1 163 (tl 19 [(3, V.int y37), (7, .sl false false (a0.kids.map encSTree)), (8, V.int (a0.kids.length : Int)), (9, V.int y38), (10, V.bool (decide (y38 < (a0.kids.length : Int))))]) [] (by kernel_rfl) ?_
 refine CodeOk.seq' ?_
 (revert h53; refine cond_rev (fun hc56 h53 => ?_) (fun hc56 h53 => ?_))
 ·refine CodeOk.ifT hc56 (by kernel_rfl) ?_
  refine CodeOk.skip ?_
  refine CodeOk.seq' ?_
  refine CodeOk.block' ?_
  (revert h53; refine bind_rev fun e54 hx62 h53 => ?_)
  refine CodeOk.cutR (tl 19 [(3, V.int y37), (5, .loc 163 0), (7, .sl false false (a0.kids.map encSTree)), (8, V.int (a0.kids.length : Int)), (9, V.int y38)]) [(163, .cells 111 [V.int e54.kind, V.int e54.op, V.str e54.text, V.str e54.other, .sl false false (e54.kids.map encSTree)])] mix (by
   refine W.ixDr D_ok encSTree hx62 5 (by kernel_rfl) (encSTree_eq e54) (by kernel_rfl) ?_
   refine W.run D_ok 3 163 (by kernel_rfl) ?_
   exact W.fi (by kernel_rfl)
   ) ?_
  (revert h53; refine bind_rev fun r56 hx64 h53 => ?_)
  refine CodeOk.endR (tl 19 [(3, V.int (IntKind.wrap .i64 (y37 + r56))), (7, .sl false false (a0.kids.map encSTree)), (8, V.int (a0.kids.length : Int)), (9, V.int y38)]) [] mix (by
   refine W.run D_ok 2 164 (by kernel_rfl) ?_
   refine W.call0 (HR.m_impl_tree__size e54 _ hx64) cok115 rfl (by kernel_rfl) ?_
   refine W.run D_ok 2 164 (by kernel_rfl) ?_
   exact W.fi (by kernel_rfl)
   ) (fun st hw => ?_)
  refine CodeOk.weak hw ?_
  refine ce D_ok mix 2 164 (tl 19 [(3, V.int (IntKind.wrap .i64 (y37 + r56))), (7, .sl false false (a0.kids.map encSTree)), (8, V.int (a0.kids.length : Int)), (9, V.int (IntKind.wrap .i64 (y38 + 1)))]) [] (by kernel_rfl) (fun st hw => ?_)
  exact ih54 (a0, (IntKind.wrap .i64 (y37 + r56)), (IntKind.wrap .i64 (y38 + 1))) h53 _ (hw.trans (Weak.sel [] [3, 7, 8, 9] (by kernel_rfl) (by kernel_rfl) (by kernel_rfl)))
 refine CodeOk.ifF hc56 (by kernel_rfl) ?_
 refine CodeOk.exit ?_
 refine cu D_ok mix 2 163 (tl 19 [(2, V.int y37)]) [] (by kernel_rfl) ?_
 refine CodeOk.ret ?_
 have h53 := Option.some.inj h53
 subst h53
 exact Ends.gen [] (.inr rfl) (RetV.one rfl (OneR.tmp (t := 2) (r := V.int y37) (by kernel_rfl))) (by kernel_rfl) (by kernel_rfl) (by kernel_rfl)

theorem scc2_ok : ∀ N, RecOk2 (scc2 N)
  | 0 => ⟨fun _ _ h => (by cases h)⟩
  | N + 1 => ⟨fun a0 _ h => m_impl_tree__size_F_ok N (scc2 N) (scc2_ok N) a0 h⟩

theorem m_impl_tree__size_ok (N : Nat) (a0 : STree) {r : Int} (h : m_impl_tree__size N a0 = some r) :
    AC Tryd.prog (GS []) 115 [.agg [V.int a0.kind, V.int a0.op, V.str a0.text, V.str a0.other, .sl false false (a0.kids.map encSTree)]] [] (V.int r) [] :=
  (scc2_ok N).m_impl_tree__size a0 r h

structure RecOk3 (R : Rec3) : Prop where
  m_impl_tree__depth : ∀ (a0 : STree) (r : Int), R.m_impl_tree__depth a0 = some r → AC Tryd.prog (GS []) 116 [.agg [V.int a0.kind, V.int a0.op, V.str a0.text, V.str a0.other, .sl false false (a0.kids.map encSTree)]] [] (V.int r) []

theorem m_impl_tree__depth_F_ok (N : Nat) (R : Rec3) (HR : RecOk3 R) (a0 : STree) {r : Int} (h : m_impl_tree__depth_F N R a0 = some r) :
    AC Tryd.prog (GS []) 116 [.agg [V.int a0.kind, V.int a0.op, V.str a0.text, V.str a0.other, .sl false false (a0.kids.map encSTree)]] [] (V.int r) [] := by
 rw [m_impl_tree__depth_F] at h
 refine AC.enter Tryd.func116 rfl ?_
 refine cu D_ok mix 2 100 (tl 20 [(1, .loc 100 0)]) [(100, .cells 111 [V.int a0.kind, V.int a0.op, V.str a0.text, V.str a0.other, .sl false false (a0.kids.map encSTree)])] (by kernel_rfl) ?_
 refine cu D_ok mix 1 101 (tl 20 [(1, .loc 100 0), (3, V.int 0)]) [(100, .cells 111 [V.int a0.kind, V.int a0.op, V.str a0.text, V.str a0.other, .sl false false (a0.kids.map encSTree)])] (by kernel_rfl) ?_
 refine CodeOk.seq' ?_
 refine CodeOk.cutR (tl 20 [(3, V.int 0), (7, .sl false false (a0.kids.map encSTree)), (8, V.int (a0.kids.length : Int)), (9, V.int 0)]) [] mix (by
  refine W.run D_ok 2 101 (by kernel_rfl) ?_
  refine W.len D_ok encSTree a0.kids [] (by kernel_rfl) (by kernel_rfl) ?_
  refine W.run D_ok 1 101 (by kernel_rfl) ?_
  exact W.fi (by kernel_rfl)
  ) ?_
 refine CodeOk.block' ?_
 refine CodeOk.loopJ (fun (⟨a0, y37, y38⟩ : (STree × Int × Int)) => ⟨tl 20 [(3, V.int y37), (7, .sl false false (a0.kids.map encSTree)), (8, V.int (a0.kids.length : Int)), (9, V.int y38)], []⟩) (fun n i => m_impl_tree__depth_l1 N R n i = some r) (n0 := N) (i0 := (a0, 0, 0)) (Weak.sel [] [3, 7, 8, 9] (by kernel_rfl) (by kernel_rfl) (by kernel_rfl)) h (fun i h => by simp [m_impl_tree__depth_l1] at h) ?_
 rintro n1 ⟨a0, y37, y38⟩ h53 ih54
 rw [m_impl_tree__depth_l1] at h53
 refine cu D_ok mix 1 163 (tl 20 [(3, V.int y37), (7, .sl false false (a0.kids.map encSTree)), (8, V.int (a0.kids.length : Int)), (9, V.int y38), (10, V.bool (decide (y38 < (a0.kids.length : Int))))]) [] (by kernel_rfl) ?_
 refine CodeOk.seq' ?_
 (revert h53; refine cond_rev (fun hc56 h53 => ?_) (fun hc56 h53 => ?_))
 ·refine CodeOk.ifT hc56 (by kernel_rfl) ?_
  refine CodeOk.skip ?_
  refine CodeOk.seq' ?_
  refine CodeOk.block' ?_
  (revert h53; refine bind_rev fun e54 hx62 h53 => ?_)
  refine CodeOk.cutR (tl 20 [(3, V.int y37), (5, .loc 163 0), (7, .sl false false (a0.kids.map encSTree)), (8, V.int (a0.kids.length : Int)), (9, V.int y38)]) [(163, .cells 111 [V.int e54.kind, V.int e54.op, V.str e54.text, V.str e54.other, .sl false false (e54.kids.map encSTree)])] mix (by
   refine W.ixDr D_ok encSTree hx62 5 (by kernel_rfl) (encSTree_eq e54) (by kernel_rfl) ?_
   refine W.run D_ok 3 163 (by kernel_rfl) ?_
   exact W.fi (by kernel_rfl)
   ) ?_
  (revert h53; refine bind_rev fun r56 hx64 h53 => ?_)
  refine CodeOk.endR (tl 20 [(3, V.int (if r56 > y37 then r56 else y37)), (7, .sl false false (a0.kids.map encSTree)), (8, V.int (a0.kids.length : Int)), (9, V.int y38)]) [] mix (by
   refine W.run D_ok 2 164 (by kernel_rfl) ?_
   refine W.call0 (HR.m_impl_tree__depth e54 _ hx64) cok116 rfl (by kernel_rfl) ?_
   refine W.run D_ok 2 164 (by kernel_rfl) ?_
   exact W.fi (by kernel_rfl)
   ) (fun st hw => ?_)
  refine CodeOk.weak hw ?_
  refine ce D_ok mix 2 164 (tl 20 [(3, V.int (if r56 > y37 then r56 else y37)), (7, .sl false false (a0.kids.map encSTree)), (8, V.int (a0.kids.length : Int)), (9, V.int (IntKind.wrap .i64 (y38 + 1)))]) [] (by kernel_rfl) (fun st hw => ?_)
  exact ih54 (a0, (if r56 > y37 then r56 else y37), (IntKind.wrap .i64 (y38 + 1))) h53 _ (hw.trans (Weak.sel [] [3, 7, 8, 9] (by kernel_rfl) (by kernel_rfl) (by kernel_rfl)))
 refine CodeOk.ifF hc56 (by kernel_rfl) ?_
 refine CodeOk.exit ?_
 refine cu D_ok mix 3 163 (tl 20 [(2, V.int (IntKind.wrap .i64 (y37 + 1)))]) [] (by kernel_rfl) ?_
 refine CodeOk.ret ?_
 have h53 := Option.some.inj h53
 subst h53
 exact Ends.gen [] (.inr rfl) (RetV.one rfl (OneR.tmp (t := 2) (r := V.int (IntKind.wrap .i64 (y37 + 1))) (by kernel_rfl))) (by kernel_rfl) (by kernel_rfl) (by kernel_rfl)

theorem scc3_ok : ∀ N, RecOk3 (scc3 N)
  | 0 => ⟨fun _ _ h => (by cases h)⟩
  | N + 1 => ⟨fun a0 _ h => m_impl_tree__depth_F_ok N (scc3 N) (scc3_ok N) a0 h⟩

theorem m_impl_tree__depth_ok (N : Nat) (a0 : STree) {r : Int} (h : m_impl_tree__depth N a0 = some r) :
    AC Tryd.prog (GS []) 116 [.agg [V.int a0.kind, V.int a0.op, V.str a0.text, V.str a0.other, .sl false false (a0.kids.map encSTree)]] [] (V.int r) [] :=
  (scc3_ok N).m_impl_tree__depth a0 r h

theorem m_impl_bounded_ok (N : Nat) (a0 : STree) {r : SFault} (h : m_impl_bounded N a0 = some r) :
    AC Tryd.prog (GS []) 73 [.agg [V.int a0.kind, V.int a0.op, V.str a0.text, V.str a0.other, .sl false false (a0.kids.map encSTree)]] [] (.agg [V.int r.Kind, V.int r.At]) [] := by
 rw [m_impl_bounded] at h
 refine AC.enter Tryd.func73 rfl ?_
 refine cu D_ok mix 2 100 (tl 14 [(1, .loc 100 0), (2, .loc 101 0)]) [(101, .cells 40 [V.int 0, V.int 0]), (100, .cells 111 [V.int a0.kind, V.int a0.op, V.str a0.text, V.str a0.other, .sl false false (a0.kids.map encSTree)])] (by kernel_rfl) ?_
 refine CodeOk.seq' ?_
 refine CodeOk.block' ?_
 (revert h; refine bind_rev fun r6 hx8 h => ?_)
 refine CodeOk.cutR (tl 14 [(1, .loc 100 0), (2, .loc 101 0), (3, V.bool (decide (r6 > 400)))]) [(101, .cells 40 [V.int 0, V.int 0]), (100, .cells 111 [V.int a0.kind, V.int a0.op, V.str a0.text, V.str a0.other, .sl false false (a0.kids.map encSTree)])] mix (by
  refine W.run D_ok 1 102 (by kernel_rfl) ?_
  refine W.call0 (m_impl_tree__size_ok N a0 hx8) cok115 rfl (by kernel_rfl) ?_
  refine W.run D_ok 2 102 (by kernel_rfl) ?_
  exact W.fi (by kernel_rfl)
  ) ?_
 (revert h; refine cond_rev (fun hc9 h => ?_) (fun hc9 h => ?_))
 ·refine CodeOk.ifT hc9 (by kernel_rfl) ?_
  refine cu D_ok mix 2 102 (tl 14 [(2, .loc 101 0)]) [(101, .cells 40 [V.int 1, V.int 0])] (by kernel_rfl) ?_
  refine CodeOk.ret ?_
  have h := Option.some.inj h
  subst h
  exact Ends.gen [] (.inr rfl) (RetV.one rfl (OneR.cell D_ok (r := .agg [V.int 1, V.int 0]) (i := 101) (ety := 40) (cs := [V.int 1, V.int 0]) (by kernel_rfl) (by kernel_rfl) (by kernel_rfl))) (by kernel_rfl) (by kernel_rfl) (by kernel_rfl)
 refine CodeOk.ifF hc9 (by kernel_rfl) ?_
 (revert h; refine bind_rev fun r8 hx11 h => ?_)
 refine CodeOk.cutR (tl 14 [(2, .loc 101 0), (8, V.bool (decide (r8 > 40)))]) [(101, .cells 40 [V.int 0, V.int 0])] mix (by
  refine W.run D_ok 1 102 (by kernel_rfl) ?_
  refine W.call0 (m_impl_tree__depth_ok N a0 hx11) cok116 rfl (by kernel_rfl) ?_
  refine W.run D_ok 2 102 (by kernel_rfl) ?_
  exact W.fi (by kernel_rfl)
  ) ?_
 (revert h; refine cond_rev (fun hc12 h => ?_) (fun hc12 h => ?_))
 ·refine CodeOk.ifT hc12 (by kernel_rfl) ?_
  refine cu D_ok mix 2 102 (tl 14 [(2, .loc 101 0)]) [(101, .cells 40 [V.int 4, V.int 0])] (by kernel_rfl) ?_
  refine CodeOk.ret ?_
  have h := Option.some.inj h
  subst h
  exact Ends.gen [] (.inr rfl) (RetV.one rfl (OneR.cell D_ok (r := .agg [V.int 4, V.int 0]) (i := 101) (ety := 40) (cs := [V.int 4, V.int 0]) (by kernel_rfl) (by kernel_rfl) (by kernel_rfl))) (by kernel_rfl) (by kernel_rfl) (by kernel_rfl)
 refine CodeOk.ifF hc12 (by kernel_rfl) ?_
 refine CodeOk.skip ?_
 refine cu D_ok mix 2 102 (tl 14 [(2, .loc 101 0)]) [(101, .cells 40 [V.int 0, V.int 0])] (by kernel_rfl) ?_
 refine CodeOk.ret ?_
 have h := Option.some.inj h
 subst h
 exact Ends.gen [] (.inr rfl) (RetV.one rfl (OneR.cell D_ok (r := .agg [V.int 0, V.int 0]) (i := 101) (ety := 40) (cs := [V.int 0, V.int 0]) (by kernel_rfl) (by kernel_rfl) (by kernel_rfl))) (by kernel_rfl) (by kernel_rfl) (by kernel_rfl)

structure RecOk4 (R : Rec4) : Prop where
  m_impl_tree__add : ∀ (a0 : STree) (p0 : List SNode) (r : (List SNode)), R.m_impl_tree__add a0 p0 = some r → AC Tryd.prog (GS []) 117 [.agg [V.int a0.kind, V.int a0.op, V.str a0.text, V.str a0.other, .sl false false (a0.kids.map encSTree)], .own 0] [(0, .vec false 45 5 (p0.map (encSNode true)))] (.own 100) [(100, .vec false 45 5 (r.map (encSNode true)))]

theorem m_impl_tree__add_F_ok (N : Nat) (R : Rec4) (HR : RecOk4 R) (a0 : STree) (p0 : List SNode) {r : (List SNode)} (h : m_impl_tree__add_F N R a0 p0 = some r) :
    AC Tryd.prog (GS []) 117 [.agg [V.int a0.kind, V.int a0.op, V.str a0.text, V.str a0.other, .sl false false (a0.kids.map encSTree)], .own 0] [(0, .vec false 45 5 (p0.map (encSNode true)))] (.own 100) [(100, .vec false 45 5 (r.map (encSNode true)))] := by
 rw [m_impl_tree__add_F] at h
 refine AC.enter Tryd.func117 rfl ?_
 refine cu D_ok mix 2 100 (tl 40 [(1, .own 0), (2, .loc 100 0)]) [(100, .cells 111 [V.int a0.kind, V.int a0.op, V.str a0.text, V.str a0.other, .sl false false (a0.kids.map encSTree)]), (0, .vec false 45 5 (p0.map (encSNode true)))] (by kernel_rfl) ?_
 refine cu D_ok mix 11 101 (tl 40 [(1, .own 0), (2, .loc 100 0), (5, .loc 101 0)]) [(101, .cells 45 [V.int a0.kind, V.int a0.op, V.str a0.text, V.str a0.other, .c (.slice none 0 0)]), (100, .cells 111 [V.int a0.kind, V.int a0.op, V.str a0.text, V.str a0.other, .sl false false (a0.kids.map encSTree)]), (0, .vec false 45 5 (p0.map (encSNode true)))] (by kernel_rfl) ?_
 refine CodeOk.seq' ?_
 refine CodeOk.cutR (tl 40 [(1, .own 0), (5, .loc 101 0), (18, .sl false false (a0.kids.map encSTree)), (19, V.int (a0.kids.length : Int)), (20, V.int 0)]) [(101, .cells 45 [V.int a0.kind, V.int a0.op, V.str a0.text, V.str a0.other, .c (.slice none 0 0)]), (0, .vec false 45 5 (p0.map (encSNode true)))] mix (by
  refine W.run D_ok 2 102 (by kernel_rfl) ?_
  refine W.len D_ok encSTree a0.kids [] (by kernel_rfl) (by kernel_rfl) ?_
  refine W.run D_ok 1 102 (by kernel_rfl) ?_
  exact W.fi (by kernel_rfl)
  ) ?_
 refine CodeOk.block' ?_
 refine CodeOk.loopJ (fun (⟨a0, y59, y60, y61⟩ : (STree × Int × (List SNode) × (List Int))) => ⟨tl 40 [(1, .own 100), (5, .loc 101 0), (18, .sl false false (a0.kids.map encSTree)), (19, V.int (a0.kids.length : Int)), (20, V.int y59)], [(100, .vec false 45 5 (y60.map (encSNode true))), (101, .cells 45 [V.int a0.kind, V.int a0.op, V.str a0.text, V.str a0.other, .own 102]), (102, .vec false 3 1 (y61.map encI))]⟩) (fun n i => m_impl_tree__add_l1 N R n i = some r) (n0 := N) (i0 := (a0, 0, p0, [])) ((Weak.nilCell 101 4 102 3 1 (ety := 45) (cs := [V.int a0.kind, V.int a0.op, V.str a0.text, V.str a0.other, .c (.slice none 0 0)]) (by kernel_rfl) (by kernel_rfl) (by kernel_rfl)).trans (Weak.sel [(0, 100), (101, 101), (102, 102)] [1, 5, 18, 19, 20] (by kernel_rfl) (by kernel_rfl) (by kernel_rfl))) h (fun i h => by simp [m_impl_tree__add_l1] at h) ?_
 rintro n1 ⟨a0, y59, y60, y61⟩ h77 ih78
 rw [m_impl_tree__add_l1] at h77
 refine cu D_ok mix 1 171 (tl 40 [(1, .own 100), (5, .loc 101 0), (18, .sl false false (a0.kids.map encSTree)), (19, V.int (a0.kids.length : Int)), (20, V.int y59), (21, V.bool (decide (y59 < (a0.kids.length : Int))))]) [(100, .vec false 45 5 (y60.map (encSNode true))), (101, .cells 45 [V.int a0.kind, V.int a0.op, V.str a0.text, V.str a0.other, .own 102]), (102, .vec false 3 1 (y61.map encI))] (by kernel_rfl) ?_
 refine CodeOk.seq' ?_
 (revert h77; refine cond_rev (fun hc80 h77 => ?_) (fun hc80 h77 => ?_))
 ·refine CodeOk.ifT hc80 (by kernel_rfl) ?_
  refine CodeOk.skip ?_
  refine CodeOk.seq' ?_
  refine CodeOk.block' ?_
  (revert h77; refine bind_rev fun e84 hx88 h77 => ?_)
  refine CodeOk.cutR (tl 40 [(1, .own 100), (5, .loc 101 0), (7, .loc 171 0), (18, .sl false false (a0.kids.map encSTree)), (19, V.int (a0.kids.length : Int)), (20, V.int y59)]) [(171, .cells 111 [V.int e84.kind, V.int e84.op, V.str e84.text, V.str e84.other, .sl false false (e84.kids.map encSTree)]), (100, .vec false 45 5 (y60.map (encSNode true))), (101, .cells 45 [V.int a0.kind, V.int a0.op, V.str a0.text, V.str a0.other, .own 102]), (102, .vec false 3 1 (y61.map encI))] mix (by
   refine W.ixDr D_ok encSTree hx88 5 (by kernel_rfl) (encSTree_eq e84) (by kernel_rfl) ?_
   refine W.run D_ok 3 171 (by kernel_rfl) ?_
   exact W.fi (by kernel_rfl)
   ) ?_
  (revert h77; refine bind_rev fun r86 hx90 h77 => ?_)
  refine CodeOk.cutR (tl 40 [(1, .own 172), (5, .loc 101 0), (18, .sl false false (a0.kids.map encSTree)), (19, V.int (a0.kids.length : Int)), (20, V.int y59)]) [(172, .vec false 45 5 (r86.map (encSNode true))), (101, .cells 45 [V.int a0.kind, V.int a0.op, V.str a0.text, V.str a0.other, .own 102]), (102, .vec false 3 1 (y61.map encI))] mix (by
   refine W.run D_ok 2 172 (by kernel_rfl) ?_
   refine W.call (HR.m_impl_tree__add e84 y60 _ hx90) cok117 [(100, 0)] [(100, 172)] [172] (show LayOk _ [] from trivial) (by kernel_rfl) (by kernel_rfl) ?_
   refine W.run D_ok 1 173 (by kernel_rfl) ?_
   exact W.fi (by kernel_rfl)
   ) ?_
  (revert h77; refine bind_rev fun x88 hx92 h77 => ?_)
  refine CodeOk.endR (tl 40 [(1, .own 172), (5, .loc 101 0), (18, .sl false false (a0.kids.map encSTree)), (19, V.int (a0.kids.length : Int)), (20, V.int y59)]) [(101, .cells 45 [V.int a0.kind, V.int a0.op, V.str a0.text, V.str a0.other, .own 174]), (174, .vec false 3 1 (x88.map encI)), (172, .vec false 45 5 (r86.map (encSNode true)))] mix (by
   refine W.run D_ok 3 173 (by kernel_rfl) ?_
   refine W.len D_ok (encSNode true) r86 [172] (by kernel_rfl) (by kernel_rfl) ?_
   refine W.run D_ok 2 173 (by kernel_rfl) ?_
   refine W.appO D_ok encI (a := 102) (c := 173) (el := 3) (sz := 1) 8 hx92 rfl 174 (by kernel_rfl) ?_
   refine W.run D_ok 2 175 (by kernel_rfl) ?_
   exact W.fi (by kernel_rfl)
   ) (fun st hw => ?_)
  refine CodeOk.weak hw ?_
  refine ce D_ok mix 2 175 (tl 40 [(1, .own 172), (5, .loc 101 0), (18, .sl false false (a0.kids.map encSTree)), (19, V.int (a0.kids.length : Int)), (20, V.int (IntKind.wrap .i64 (y59 + 1)))]) [(101, .cells 45 [V.int a0.kind, V.int a0.op, V.str a0.text, V.str a0.other, .own 174]), (174, .vec false 3 1 (x88.map encI)), (172, .vec false 45 5 (r86.map (encSNode true)))] (by kernel_rfl) (fun st hw => ?_)
  exact ih78 (a0, (IntKind.wrap .i64 (y59 + 1)), r86, x88) h77 _ (hw.trans (Weak.sel [(172, 100), (101, 101), (174, 102)] [1, 5, 18, 19, 20] (by kernel_rfl) (by kernel_rfl) (by kernel_rfl)))
 refine CodeOk.ifF hc80 (by kernel_rfl) ?_
 refine CodeOk.exit ?_
 (revert h77; refine bind_rev fun x90 hx94 h77 => ?_)
 refine CodeOk.cutR (tl 40 [(4, .own 172)]) [(172, .vec false 45 5 (x90.map (encSNode true)))] mix (by
  refine W.run D_ok 3 171 (by kernel_rfl) ?_
  refine W.appO D_ok (encSNode true) (a := 100) (c := 171) (el := 45) (sz := 5) 72 hx94 rfl 172 (by kernel_rfl) ?_
  refine W.run D_ok 1 173 (by kernel_rfl) ?_
  exact W.fi (by kernel_rfl)
  ) ?_
 refine CodeOk.ret ?_
 have h77 := Option.some.inj h77
 subst h77
 exact Ends.gen [(172, 100)] (.inr rfl) (RetV.one rfl (OneR.tmp (t := 4) (r := .own 172) (by kernel_rfl))) (by kernel_rfl) (by kernel_rfl) (by kernel_rfl)

theorem scc4_ok : ∀ N, RecOk4 (scc4 N)
  | 0 => ⟨fun _ _ _ h => (by cases h)⟩
  | N + 1 => ⟨fun a0 p0 _ h => m_impl_tree__add_F_ok N (scc4 N) (scc4_ok N) a0 p0 h⟩

theorem m_impl_tree__add_ok (N : Nat) (a0 : STree) (p0 : List SNode) {r : (List SNode)} (h : m_impl_tree__add N a0 p0 = some r) :
    AC Tryd.prog (GS []) 117 [.agg [V.int a0.kind, V.int a0.op, V.str a0.text, V.str a0.other, .sl false false (a0.kids.map encSTree)], .own 0] [(0, .vec false 45 5 (p0.map (encSNode true)))] (.own 100) [(100, .vec false 45 5 (r.map (encSNode true)))] :=
  (scc4_ok N).m_impl_tree__add a0 p0 r h

theorem m_impl_tree__list_ok (N : Nat) (a0 : STree) {r : (List SNode)} (h : m_impl_tree__list N a0 = some r) :
    AC Tryd.prog (GS []) 74 [.agg [V.int a0.kind, V.int a0.op, V.str a0.text, V.str a0.other, .sl false false (a0.kids.map encSTree)]] [] (.own 100) [(100, .vec false 45 5 (r.map (encSNode true)))] := by
 rw [m_impl_tree__list] at h
 refine AC.enter Tryd.func74 rfl ?_
 refine cu D_ok mix 2 100 (tl 5 [(1, .loc 100 0)]) [(100, .cells 111 [V.int a0.kind, V.int a0.op, V.str a0.text, V.str a0.other, .sl false false (a0.kids.map encSTree)])] (by kernel_rfl) ?_
 (revert h; refine bind_rev fun r2 hx2 h => ?_)
 refine CodeOk.cutR (tl 5 [(2, .own 101)]) [(101, .vec false 45 5 (r2.map (encSNode true)))] mix (by
  refine W.run D_ok 1 101 (by kernel_rfl) ?_
  refine W.callK (AC.nilArg 1 0 45 5 (m_impl_tree__add_ok N a0 [] hx2) (by kernel_rfl) (by kernel_rfl) (by kernel_rfl) (by kernel_rfl) rfl) cok117 [] [(100, 101)] [1] [101] (show LayOk _ [] from trivial) (by kernel_rfl) (by kernel_rfl) ?_
  refine W.run D_ok 1 102 (by kernel_rfl) ?_
  exact W.fi (by kernel_rfl)
  ) ?_
 refine CodeOk.ret ?_
 have h := Option.some.inj h
 subst h
 exact Ends.gen [(101, 100)] (.inr rfl) (RetV.one rfl (OneR.tmp (t := 2) (r := .own 101) (by kernel_rfl))) (by kernel_rfl) (by kernel_rfl) (by kernel_rfl)

theorem m_impl_ParseExpr_ok (N : Nat) (a0 : List SToken) (a1 : SPos) {r : ((List SNode) × Int × SFault)} (h : m_impl_ParseExpr N a0 a1 = some r) :
    AC Tryd.prog (GS [0, 1, 5]) 45 [.sl false false (a0.map encSToken), .agg [V.int a1.Level, V.bool a1.Dollar, V.bool a1.NoIn, V.bool a1.NoGt, V.bool a1.NoSign]] [] (.tup [.own 100, V.int r.2.1, .agg [V.int r.2.2.Kind, V.int r.2.2.At]]) [(100, .vec false 45 5 (r.1.map (encSNode true)))] := by
 rw [m_impl_ParseExpr] at h
 refine AC.enter Tryd.func45 rfl ?_
 refine cu D_ok mix 4 100 (tl 53 [(0, .sl false false (a0.map encSToken)), (3, .loc 100 0), (6, .loc 101 0)]) [(101, .cells 40 [V.int 0, V.int 0]), (100, .cells 84 [V.int a1.Level, V.bool a1.Dollar, V.bool a1.NoIn, V.bool a1.NoGt, V.bool a1.NoSign])] (by kernel_rfl) ?_
 refine CodeOk.seq' ?_
 (revert h; refine bind_rev fun r4 hx5 h => ?_)
 refine CodeOk.cutR (tl 53 [(0, .sl false false (a0.map encSToken)), (3, .loc 100 0), (6, .loc 101 0), (13, V.bool (!r4))]) [(101, .cells 40 [V.int 0, V.int 0]), (100, .cells 84 [V.int a1.Level, V.bool a1.Dollar, V.bool a1.NoIn, V.bool a1.NoGt, V.bool a1.NoSign])] mix (by
  refine W.run D_ok 1 102 (by kernel_rfl) ?_
  refine W.call0 (AC.gs (m_impl_PosOk_ok a1 hx5) (by decide)) cok70 rfl (by kernel_rfl) ?_
  refine W.run D_ok 1 102 (by kernel_rfl) ?_
  exact W.fi (by kernel_rfl)
  ) ?_
 (revert h; refine cond_rev (fun hc6 h => ?_) (fun hc6 h => ?_))
 ·refine CodeOk.ifT hc6 (by kernel_rfl) ?_
  refine cu D_ok mix 4 102 (tl 53 [(4, .c (.slice none 0 0)), (5, V.int 0), (6, .loc 101 0)]) [(101, .cells 40 [V.int 3, V.int 0])] (by kernel_rfl) ?_
  refine CodeOk.weak (Weak.nil 4 102 45 5 (by kernel_rfl) (by kernel_rfl)) ?_
  refine CodeOk.ret ?_
  have h := Option.some.inj h
  subst h
  exact Ends.gen [(102, 100)] (.inr rfl) (RetV.three rfl (OneR.tmp (t := 4) (r := .own 102) (by kernel_rfl)) (OneR.tmp (t := 5) (r := V.int 0) (by kernel_rfl)) (OneR.cell D_ok (r := .agg [V.int 3, V.int 0]) (i := 101) (ety := 40) (cs := [V.int 3, V.int 0]) (by kernel_rfl) (by kernel_rfl) (by kernel_rfl))) (by kernel_rfl) (by kernel_rfl) (by kernel_rfl)
 refine CodeOk.ifF hc6 (by kernel_rfl) ?_
 refine CodeOk.skip ?_
 refine CodeOk.seq' ?_
 (revert h; refine bind_rev fun r8 hx11 h => ?_)
 refine CodeOk.cutR (tl 53 [(0, .sl false false (a0.map encSToken)), (3, .loc 100 0), (6, .loc 101 0), (7, .loc 102 0)]) [(102, .cells 40 [V.int r8.Kind, V.int r8.At]), (101, .cells 40 [V.int 0, V.int 0]), (100, .cells 84 [V.int a1.Level, V.bool a1.Dollar, V.bool a1.NoIn, V.bool a1.NoGt, V.bool a1.NoSign])] mix (by
  refine W.run D_ok 1 102 (by kernel_rfl) ?_
  refine W.call0 (m_impl_checked_ok N a0 hx11) cok71 rfl (by kernel_rfl) ?_
  refine W.run D_ok 2 102 (by kernel_rfl) ?_
  exact W.fi (by kernel_rfl)
  ) ?_
 refine cu D_ok mix 3 103 (tl 53 [(0, .sl false false (a0.map encSToken)), (3, .loc 100 0), (6, .loc 101 0), (7, .loc 102 0), (19, V.bool (!((r8.Kind == 0) && ((r8.At == 0) && true))))]) [(102, .cells 40 [V.int r8.Kind, V.int r8.At]), (101, .cells 40 [V.int 0, V.int 0]), (100, .cells 84 [V.int a1.Level, V.bool a1.Dollar, V.bool a1.NoIn, V.bool a1.NoGt, V.bool a1.NoSign])] (by kernel_rfl) ?_
 (revert h; refine cond_rev (fun hc12 h => ?_) (fun hc12 h => ?_))
 ·refine CodeOk.ifT hc12 (by kernel_rfl) ?_
  refine cu D_ok mix 4 103 (tl 53 [(4, .c (.slice none 0 0)), (5, V.int 0), (6, .loc 101 0)]) [(101, .cells 40 [V.int r8.Kind, V.int r8.At])] (by kernel_rfl) ?_
  refine CodeOk.weak (Weak.nil 4 103 45 5 (by kernel_rfl) (by kernel_rfl)) ?_
  refine CodeOk.ret ?_
  have h := Option.some.inj h
  subst h
  exact Ends.gen [(103, 100)] (.inr rfl) (RetV.three rfl (OneR.tmp (t := 4) (r := .own 103) (by kernel_rfl)) (OneR.tmp (t := 5) (r := V.int 0) (by kernel_rfl)) (OneR.cell D_ok (r := .agg [V.int r8.Kind, V.int r8.At]) (i := 101) (ety := 40) (cs := [V.int r8.Kind, V.int r8.At]) (by kernel_rfl) (by kernel_rfl) (by kernel_rfl))) (by kernel_rfl) (by kernel_rfl) (by kernel_rfl)
 refine CodeOk.ifF hc12 (by kernel_rfl) ?_
 refine CodeOk.skip ?_
 refine cu D_ok mix 4 103 (tl 53 [(0, .sl false false (a0.map encSToken)), (3, .loc 100 0), (6, .loc 101 0), (8, .loc 103 0)]) [(103, .cells 108 [.sl false false (a0.map encSToken), V.int 0, V.bool false, .c (.slice none 0 0)]), (101, .cells 40 [V.int 0, V.int 0]), (100, .cells 84 [V.int a1.Level, V.bool a1.Dollar, V.bool a1.NoIn, V.bool a1.NoGt, V.bool a1.NoSign])] (by kernel_rfl) ?_
 refine CodeOk.weak (st' := ⟨tl 53 [(0, .sl false false (a0.map encSToken)), (3, .loc 100 0), (6, .loc 101 0), (8, .loc 103 0)], [(104, .vec false 9 1 ([].map encS)), (103, .cells 108 [.sl false false (a0.map encSToken), V.int 0, V.bool false, .own 104]), (101, .cells 40 [V.int 0, V.int 0]), (100, .cells 84 [V.int a1.Level, V.bool a1.Dollar, V.bool a1.NoIn, V.bool a1.NoGt, V.bool a1.NoSign])]⟩) ((Weak.nilCell 103 3 104 9 1 (ety := 108) (cs := [.sl false false (a0.map encSToken), V.int 0, V.bool false, .c (.slice none 0 0)]) (by kernel_rfl) (by kernel_rfl) (by kernel_rfl)).trans (Weak.eq (by kernel_rfl) (by kernel_rfl))) ?_
 (revert h; refine bind_rev fun r11 hx15 h => ?_)
 refine CodeOk.cutR (tl 53 [(0, .sl false false (a0.map encSToken)), (6, .loc 101 0), (8, .loc 103 0), (9, .loc 106 0)]) [(106, .cells 113 [V.int r11.1.tree.kind, V.int r11.1.tree.op, V.str r11.1.tree.text, V.str r11.1.tree.other, .sl false false (r11.1.tree.kids.map encSTree), V.bool r11.1.target]), (105, .vec false 9 1 (r11.2.2.2.map encS)), (103, .cells 108 [.sl false false (a0.map encSToken), V.int r11.2.1, V.bool r11.2.2.1, .own 105]), (101, .cells 40 [V.int 0, V.int 0])] mix (by
  refine W.run D_ok 2 105 (by kernel_rfl) ?_
  refine W.call (AC.gs (m_impl_parser__level_ok N a1 a0 0 false [] hx15) (by decide)) cok72 [(103, 0), (104, 1)] [(0, 103), (100, 105)] [105] (show LayOk _ [] from trivial) (by kernel_rfl) (by kernel_rfl) ?_
  refine W.run D_ok 2 106 (by kernel_rfl) ?_
  exact W.fi (by kernel_rfl)
  ) ?_
 refine CodeOk.seq' ?_
 refine cu D_ok mix 4 107 (tl 53 [(0, .sl false false (a0.map encSToken)), (6, .loc 101 0), (8, .loc 103 0), (9, .loc 106 0), (30, V.bool r11.2.2.1)]) [(106, .cells 113 [V.int r11.1.tree.kind, V.int r11.1.tree.op, V.str r11.1.tree.text, V.str r11.1.tree.other, .sl false false (r11.1.tree.kids.map encSTree), V.bool r11.1.target]), (105, .vec false 9 1 (r11.2.2.2.map encS)), (103, .cells 108 [.sl false false (a0.map encSToken), V.int r11.2.1, V.bool r11.2.2.1, .own 105]), (101, .cells 40 [V.int 0, V.int 0])] (by kernel_rfl) ?_
 (revert h; refine cond_rev (fun hc19 h => ?_) (fun hc19 h => ?_))
 ·refine CodeOk.ifT hc19 (by kernel_rfl) ?_
  (revert h; refine bind_rev fun r15 hx21 h => ?_)
  refine CodeOk.cutR (tl 53 [(4, .c (.slice none 0 0)), (5, V.int 0), (6, .loc 101 0)]) [(101, .cells 40 [V.int 3, V.int r15])] mix (by
   refine W.run D_ok 5 107 (by kernel_rfl) ?_
   refine W.call0 (AC.gs (m_impl_placeOf_ok a0 r11.2.1 hx21) (by decide)) cok47 rfl (by kernel_rfl) ?_
   refine W.run D_ok 4 107 (by kernel_rfl) ?_
   exact W.fi (by kernel_rfl)
   ) ?_
  refine CodeOk.weak (Weak.nil 4 107 45 5 (by kernel_rfl) (by kernel_rfl)) ?_
  refine CodeOk.ret ?_
  have h := Option.some.inj h
  subst h
  exact Ends.gen [(107, 100)] (.inr rfl) (RetV.three rfl (OneR.tmp (t := 4) (r := .own 107) (by kernel_rfl)) (OneR.tmp (t := 5) (r := V.int 0) (by kernel_rfl)) (OneR.cell D_ok (r := .agg [V.int 3, V.int r15]) (i := 101) (ety := 40) (cs := [V.int 3, V.int r15]) (by kernel_rfl) (by kernel_rfl) (by kernel_rfl))) (by kernel_rfl) (by kernel_rfl) (by kernel_rfl)
 refine CodeOk.ifF hc19 (by kernel_rfl) ?_
 refine CodeOk.skip ?_
 refine CodeOk.seq' ?_
 (revert h; refine bind_rev fun r19 hx26 h => ?_)
 refine CodeOk.cutR (tl 53 [(6, .loc 101 0), (8, .loc 103 0), (9, .loc 106 0), (10, .loc 107 0)]) [(107, .cells 40 [V.int r19.Kind, V.int r19.At]), (106, .cells 113 [V.int r11.1.tree.kind, V.int r11.1.tree.op, V.str r11.1.tree.text, V.str r11.1.tree.other, .sl false false (r11.1.tree.kids.map encSTree), V.bool r11.1.target]), (105, .vec false 9 1 (r11.2.2.2.map encS)), (103, .cells 108 [.sl false false (a0.map encSToken), V.int r11.2.1, V.bool r11.2.2.1, .own 105]), (101, .cells 40 [V.int 0, V.int 0])] mix (by
  refine W.run D_ok 2 107 (by kernel_rfl) ?_
  refine W.call0 (AC.gs (m_impl_bounded_ok N r11.1.tree hx26) (by decide)) cok73 rfl (by kernel_rfl) ?_
  refine W.run D_ok 2 107 (by kernel_rfl) ?_
  exact W.fi (by kernel_rfl)
  ) ?_
 refine cu D_ok mix 3 108 (tl 53 [(6, .loc 101 0), (8, .loc 103 0), (9, .loc 106 0), (10, .loc 107 0), (43, V.bool (!((r19.Kind == 0) && ((r19.At == 0) && true))))]) [(107, .cells 40 [V.int r19.Kind, V.int r19.At]), (106, .cells 113 [V.int r11.1.tree.kind, V.int r11.1.tree.op, V.str r11.1.tree.text, V.str r11.1.tree.other, .sl false false (r11.1.tree.kids.map encSTree), V.bool r11.1.target]), (105, .vec false 9 1 (r11.2.2.2.map encS)), (103, .cells 108 [.sl false false (a0.map encSToken), V.int r11.2.1, V.bool r11.2.2.1, .own 105]), (101, .cells 40 [V.int 0, V.int 0])] (by kernel_rfl) ?_
 (revert h; refine cond_rev (fun hc27 h => ?_) (fun hc27 h => ?_))
 ·refine CodeOk.ifT hc27 (by kernel_rfl) ?_
  refine cu D_ok mix 4 108 (tl 53 [(4, .c (.slice none 0 0)), (5, V.int 0), (6, .loc 101 0)]) [(101, .cells 40 [V.int r19.Kind, V.int r19.At])] (by kernel_rfl) ?_
  refine CodeOk.weak (Weak.nil 4 108 45 5 (by kernel_rfl) (by kernel_rfl)) ?_
  refine CodeOk.ret ?_
  have h := Option.some.inj h
  subst h
  exact Ends.gen [(108, 100)] (.inr rfl) (RetV.three rfl (OneR.tmp (t := 4) (r := .own 108) (by kernel_rfl)) (OneR.tmp (t := 5) (r := V.int 0) (by kernel_rfl)) (OneR.cell D_ok (r := .agg [V.int r19.Kind, V.int r19.At]) (i := 101) (ety := 40) (cs := [V.int r19.Kind, V.int r19.At]) (by kernel_rfl) (by kernel_rfl) (by kernel_rfl))) (by kernel_rfl) (by kernel_rfl) (by kernel_rfl)
 refine CodeOk.ifF hc27 (by kernel_rfl) ?_
 refine CodeOk.skip ?_
 (revert h; refine bind_rev fun r21 hx29 h => ?_)
 refine CodeOk.cutR (tl 53 [(4, .own 108), (5, V.int r11.2.1), (6, .loc 101 0)]) [(101, .cells 40 [V.int 0, V.int 0]), (108, .vec false 45 5 (r21.map (encSNode true)))] mix (by
  refine W.run D_ok 2 108 (by kernel_rfl) ?_
  refine W.call (AC.gs (m_impl_tree__list_ok N r11.1.tree hx29) (by decide)) cok74 [] [(100, 108)] [108] (show LayOk _ [] from trivial) (by kernel_rfl) (by kernel_rfl) ?_
  refine W.run D_ok 8 109 (by kernel_rfl) ?_
  exact W.fi (by kernel_rfl)
  ) ?_
 refine CodeOk.ret ?_
 have h := Option.some.inj h
 subst h
 exact Ends.gen [(108, 100)] (.inr rfl) (RetV.three rfl (OneR.tmp (t := 4) (r := .own 108) (by kernel_rfl)) (OneR.tmp (t := 5) (r := V.int r11.2.1) (by kernel_rfl)) (OneR.cell D_ok (r := .agg [V.int 0, V.int 0]) (i := 101) (ety := 40) (cs := [V.int 0, V.int 0]) (by kernel_rfl) (by kernel_rfl) (by kernel_rfl))) (by kernel_rfl) (by kernel_rfl) (by kernel_rfl)

theorem m_impl_ReadExpr_ok (N : Nat) (a0 : List UInt8) {r : ((List SNode) × SFault)} (h : m_impl_ReadExpr N a0 = some r) :
    AC Tryd.prog (GS [0, 1, 5]) 21 [V.str a0] [] (.tup [.own 100, .agg [V.int r.2.Kind, V.int r.2.At]]) [(100, .vec false 45 5 (r.1.map (encSNode true)))] := by
 rw [m_impl_ReadExpr] at h
 refine AC.enter Tryd.func21 rfl ?_
 refine cu D_ok mix 2 100 (tl 38 [(0, V.str a0), (3, .loc 100 0)]) [(100, .cells 40 [V.int 0, V.int 0])] (by kernel_rfl) ?_
 (revert h; refine bind_rev fun r2 hx2 h => ?_)
 refine CodeOk.cutR (tl 38 [(3, .loc 100 0), (4, .own 101), (5, .loc 102 0)]) [(102, .cells 40 [V.int r2.2.Kind, V.int r2.2.At]), (101, .vec false 118 3 (r2.1.map encSToken)), (100, .cells 40 [V.int 0, V.int 0])] mix (by
  refine W.run D_ok 1 101 (by kernel_rfl) ?_
  refine W.call (m_impl_Lex_ok N a0 hx2) cok44 [] [(100, 101)] [101] (show LayOk _ [] from trivial) (by kernel_rfl) (by kernel_rfl) ?_
  refine W.run D_ok 6 102 (by kernel_rfl) ?_
  exact W.fi (by kernel_rfl)
  ) ?_
 refine CodeOk.seq' ?_
 refine cu D_ok mix 3 103 (tl 38 [(3, .loc 100 0), (4, .own 101), (5, .loc 102 0), (15, V.bool (!((r2.2.Kind == 0) && ((r2.2.At == 0) && true))))]) [(102, .cells 40 [V.int r2.2.Kind, V.int r2.2.At]), (101, .vec false 118 3 (r2.1.map encSToken)), (100, .cells 40 [V.int 0, V.int 0])] (by kernel_rfl) ?_
 (revert h; refine cond_rev (fun hc4 h => ?_) (fun hc4 h => ?_))
 ·refine CodeOk.ifT hc4 (by kernel_rfl) ?_
  refine cu D_ok mix 3 103 (tl 38 [(2, .c (.slice none 0 0)), (3, .loc 100 0)]) [(100, .cells 40 [V.int r2.2.Kind, V.int r2.2.At])] (by kernel_rfl) ?_
  refine CodeOk.weak (Weak.nil 2 103 45 5 (by kernel_rfl) (by kernel_rfl)) ?_
  refine CodeOk.ret ?_
  have h := Option.some.inj h
  subst h
  exact Ends.gen [(103, 100)] (.inr rfl) (RetV.two rfl (OneR.tmp (t := 2) (r := .own 103) (by kernel_rfl)) (OneR.cell D_ok (r := .agg [V.int r2.2.Kind, V.int r2.2.At]) (i := 100) (ety := 40) (cs := [V.int r2.2.Kind, V.int r2.2.At]) (by kernel_rfl) (by kernel_rfl) (by kernel_rfl))) (by kernel_rfl) (by kernel_rfl) (by kernel_rfl)
 refine CodeOk.ifF hc4 (by kernel_rfl) ?_
 refine CodeOk.skip ?_
 (revert h; refine bind_rev fun r5 hx7 h => ?_)
 (revert h; refine bind_rev fun r6 hx8 h => ?_)
 refine CodeOk.cutR (tl 38 [(3, .loc 100 0), (4, .own 101), (5, .loc 102 0), (6, .own 103), (7, V.int r6.2.1)]) [(102, .cells 40 [V.int r6.2.2.Kind, V.int r6.2.2.At]), (103, .vec false 45 5 (r6.1.map (encSNode true))), (101, .vec false 118 3 (r2.1.map encSToken)), (100, .cells 40 [V.int 0, V.int 0])] mix (by
  refine W.run D_ok 1 103 (by kernel_rfl) ?_
  refine W.call0 (AC.gs (m_impl_Top_ok  hx7) (by decide)) cok46 rfl (by kernel_rfl) ?_
  refine W.lend (m_impl_ParseExpr_ok N r2.1 r5 hx8) cok45 [(100, 103)] [103] (LayOk.cons (j := 101) encSToken encSToken r2.1 (by kernel_rfl) (fun _ => rfl) (show LayOk _ [] from trivial)) (.tup _ (.cons (.own _) (.cons (.c _) (.cons (.agg _ (.cons (.c _) (.cons (.c _) .nil))) .nil)))) (.cons (DeepR.map (fun _ => (.cons (.c _) (.cons (.c _) (.cons (.c _) (.cons (.c _) (.cons (.sl _ _ (DeepR.map (fun _ => (.cons (.c _) .nil)) _)) .nil)))))) _) .nil) (by kernel_rfl) (by kernel_rfl) ?_
  refine W.run D_ok 7 104 (by kernel_rfl) ?_
  exact W.fi (by kernel_rfl)
  ) ?_
 refine CodeOk.seq' ?_
 refine cu D_ok mix 3 104 (tl 38 [(3, .loc 100 0), (4, .own 101), (5, .loc 102 0), (6, .own 103), (7, V.int r6.2.1), (26, V.bool (!((r6.2.2.Kind == 0) && ((r6.2.2.At == 0) && true))))]) [(102, .cells 40 [V.int r6.2.2.Kind, V.int r6.2.2.At]), (103, .vec false 45 5 (r6.1.map (encSNode true))), (101, .vec false 118 3 (r2.1.map encSToken)), (100, .cells 40 [V.int 0, V.int 0])] (by kernel_rfl) ?_
 (revert h; refine cond_rev (fun hc10 h => ?_) (fun hc10 h => ?_))
 ·refine CodeOk.ifT hc10 (by kernel_rfl) ?_
  refine cu D_ok mix 3 104 (tl 38 [(2, .c (.slice none 0 0)), (3, .loc 100 0)]) [(100, .cells 40 [V.int r6.2.2.Kind, V.int r6.2.2.At])] (by kernel_rfl) ?_
  refine CodeOk.weak (Weak.nil 2 104 45 5 (by kernel_rfl) (by kernel_rfl)) ?_
  refine CodeOk.ret ?_
  have h := Option.some.inj h
  subst h
  exact Ends.gen [(104, 100)] (.inr rfl) (RetV.two rfl (OneR.tmp (t := 2) (r := .own 104) (by kernel_rfl)) (OneR.cell D_ok (r := .agg [V.int r6.2.2.Kind, V.int r6.2.2.At]) (i := 100) (ety := 40) (cs := [V.int r6.2.2.Kind, V.int r6.2.2.At]) (by kernel_rfl) (by kernel_rfl) (by kernel_rfl))) (by kernel_rfl) (by kernel_rfl) (by kernel_rfl)
 refine CodeOk.ifF hc10 (by kernel_rfl) ?_
 refine CodeOk.skip ?_
 refine CodeOk.seq' ?_
 refine CodeOk.cutR (tl 38 [(3, .loc 100 0), (4, .own 101), (6, .own 103), (7, V.int r6.2.1), (31, V.bool (decide (r6.2.1 < (r2.1.length : Int))))]) [(103, .vec false 45 5 (r6.1.map (encSNode true))), (101, .vec false 118 3 (r2.1.map encSToken)), (100, .cells 40 [V.int 0, V.int 0])] mix (by
  refine W.run D_ok 2 104 (by kernel_rfl) ?_
  refine W.len D_ok encSToken r2.1 [101] (by kernel_rfl) (by kernel_rfl) ?_
  refine W.run D_ok 1 104 (by kernel_rfl) ?_
  exact W.fi (by kernel_rfl)
  ) ?_
 (revert h; refine cond_rev (fun hc14 h => ?_) (fun hc14 h => ?_))
 ·refine CodeOk.ifT hc14 (by kernel_rfl) ?_
  (revert h; refine bind_rev fun r10 hx16 h => ?_)
  refine CodeOk.cutR (tl 38 [(2, .c (.slice none 0 0)), (3, .loc 100 0)]) [(100, .cells 40 [V.int 3, V.int r10])] mix (by
   refine W.run D_ok 2 104 (by kernel_rfl) ?_
   refine W.lend (AC.gs (m_impl_placeOf_ok r2.1 r6.2.1 hx16) (by decide)) cok47 [] [] (LayOk.cons (j := 101) encSToken encSToken r2.1 (by kernel_rfl) (fun _ => rfl) (show LayOk _ [] from trivial)) (.c _) .nil (by kernel_rfl) (by kernel_rfl) ?_
   refine W.run D_ok 3 104 (by kernel_rfl) ?_
   exact W.fi (by kernel_rfl)
   ) ?_
  refine CodeOk.weak (Weak.nil 2 104 45 5 (by kernel_rfl) (by kernel_rfl)) ?_
  refine CodeOk.ret ?_
  have h := Option.some.inj h
  subst h
  exact Ends.gen [(104, 100)] (.inr rfl) (RetV.two rfl (OneR.tmp (t := 2) (r := .own 104) (by kernel_rfl)) (OneR.cell D_ok (r := .agg [V.int 3, V.int r10]) (i := 100) (ety := 40) (cs := [V.int 3, V.int r10]) (by kernel_rfl) (by kernel_rfl) (by kernel_rfl))) (by kernel_rfl) (by kernel_rfl) (by kernel_rfl)
 refine CodeOk.ifF hc14 (by kernel_rfl) ?_
 refine CodeOk.skip ?_
 refine cu D_ok mix 4 104 (tl 38 [(2, .own 103), (3, .loc 100 0)]) [(100, .cells 40 [V.int 0, V.int 0]), (103, .vec false 45 5 (r6.1.map (encSNode true)))] (by kernel_rfl) ?_
 refine CodeOk.ret ?_
 have h := Option.some.inj h
 subst h
 exact Ends.gen [(103, 100)] (.inr rfl) (RetV.two rfl (OneR.tmp (t := 2) (r := .own 103) (by kernel_rfl)) (OneR.cell D_ok (r := .agg [V.int 0, V.int 0]) (i := 100) (ety := 40) (cs := [V.int 0, V.int 0]) (by kernel_rfl) (by kernel_rfl) (by kernel_rfl))) (by kernel_rfl) (by kernel_rfl) (by kernel_rfl)

theorem m_laws_FnDeep_ok (N : Nat) (a0 : List UInt8) {r : Bool} (h : m_laws_FnDeep N a0 = some r) :
    AC Tryd.prog (GS [0, 1, 5]) 5 [.sl false false (a0.map byteRow)] [] (V.bool r) [] := by
 rw [m_laws_FnDeep] at h
 refine AC.enter Tryd.func5 rfl ?_
 refine cu D_ok mix 1 100 (tl 62 [(0, .sl false false (a0.map byteRow))]) [] (by kernel_rfl) ?_
 refine CodeOk.seq' ?_
 (revert h; refine bind_rev fun r4 hx5 h => ?_)
 refine CodeOk.cutR (tl 62 [(0, .sl false false (a0.map byteRow)), (11, V.bool r4)]) [] mix (by
  refine W.run D_ok 1 100 (by kernel_rfl) ?_
  refine W.call0 (AC.gs (m_laws_big_ok a0 hx5) (by decide)) cok8 rfl (by kernel_rfl) ?_
  exact W.fi (by kernel_rfl)
  ) ?_
 (revert h; refine cond_rev (fun hc6 h => ?_) (fun hc6 h => ?_))
 ·refine CodeOk.ifT hc6 (by kernel_rfl) ?_
  refine cu D_ok mix 1 100 (tl 62 [(2, V.bool true)]) [] (by kernel_rfl) ?_
  refine CodeOk.ret ?_
  have h := Option.some.inj h
  subst h
  exact Ends.gen [] (.inr rfl) (RetV.one rfl (OneR.tmp (t := 2) (r := V.bool true) (by kernel_rfl))) (by kernel_rfl) (by kernel_rfl) (by kernel_rfl)
 refine CodeOk.ifF hc6 (by kernel_rfl) ?_
 refine CodeOk.skip ?_
 (revert h; refine bind_rev fun r6 hx8 h => ?_)
 refine CodeOk.cutR (tl 62 [(3, V.int (IntKind.wrap .i64 (37 + (Int.tmod r6 8))))]) [] mix (by
  refine W.run D_ok 1 100 (by kernel_rfl) ?_
  refine W.call0 (AC.gs (m_laws_at_ok a0 0 hx8) (by decide)) cok13 rfl (by kernel_rfl) ?_
  refine W.run D_ok 3 100 (by kernel_rfl) ?_
  exact W.fi (by kernel_rfl)
  ) ?_
 refine cu D_ok mix 1 100 (tl 62 [(3, V.int (IntKind.wrap .i64 (37 + (Int.tmod r6 8)))), (4, V.str [])]) [] (by kernel_rfl) ?_
 refine CodeOk.seq' ?_
 refine cu D_ok mix 1 100 (tl 62 [(3, V.int (IntKind.wrap .i64 (37 + (Int.tmod r6 8)))), (4, V.str []), (5, V.int 0)]) [] (by kernel_rfl) ?_
 refine CodeOk.block' ?_
 refine CodeOk.loopJ (fun (⟨r6, y27, y28⟩ : (Int × (List UInt8) × Int)) => ⟨tl 62 [(3, V.int (IntKind.wrap .i64 (37 + (Int.tmod r6 8)))), (4, V.str y27), (5, V.int y28)], []⟩) (fun n i => m_laws_FnDeep_l1 N n i = some r) (n0 := N) (i0 := (r6, [], 0)) (Weak.sel [] [3, 4, 5] (by kernel_rfl) (by kernel_rfl) (by kernel_rfl)) h (fun i h => by simp [m_laws_FnDeep_l1] at h) ?_
 rintro n1 ⟨r6, y27, y28⟩ h41 ih42
 rw [m_laws_FnDeep_l1] at h41
 refine CodeOk.seq' ?_
 refine cu D_ok mix 3 160 (tl 62 [(3, V.int (IntKind.wrap .i64 (37 + (Int.tmod r6 8)))), (4, V.str y27), (5, V.int y28), (18, V.bool (decide (y28 < (IntKind.wrap .i64 (37 + (Int.tmod r6 8))))))]) [] (by kernel_rfl) ?_
 (revert h41; refine cond_rev (fun hc44 h41 => ?_) (fun hc44 h41 => ?_))
 ·refine CodeOk.ifT hc44 (by kernel_rfl) ?_
  refine CodeOk.skip ?_
  refine CodeOk.seq' ?_
  refine CodeOk.block' ?_
  (revert h41; refine bind_rev fun s38 hx48 h41 => ?_)
  refine CodeOk.endR (tl 62 [(3, V.int (IntKind.wrap .i64 (37 + (Int.tmod r6 8)))), (4, V.str s38), (5, V.int y28)]) [] mix (by
   refine W.run D_ok 1 160 (by kernel_rfl) ?_
   refine W.cat hx48 (by kernel_rfl) ?_
   refine W.run D_ok 1 160 (by kernel_rfl) ?_
   exact W.fi (by kernel_rfl)
   ) (fun st hw => ?_)
  refine CodeOk.weak hw ?_
  refine ce D_ok mix 3 160 (tl 62 [(3, V.int (IntKind.wrap .i64 (37 + (Int.tmod r6 8)))), (4, V.str s38), (5, V.int (IntKind.wrap .i64 (y28 + 1)))]) [] (by kernel_rfl) (fun st hw => ?_)
  exact ih42 (r6, s38, (IntKind.wrap .i64 (y28 + 1))) h41 _ (hw.trans (Weak.sel [] [3, 4, 5] (by kernel_rfl) (by kernel_rfl) (by kernel_rfl)))
 refine CodeOk.ifF hc44 (by kernel_rfl) ?_
 refine CodeOk.exit ?_
 (revert h41; refine bind_rev fun s40 hx50 h41 => ?_)
 refine CodeOk.cutR (tl 62 [(3, V.int (IntKind.wrap .i64 (37 + (Int.tmod r6 8)))), (6, V.str s40)]) [] mix (by
  refine W.run D_ok 1 160 (by kernel_rfl) ?_
  refine W.cat hx50 (by kernel_rfl) ?_
  refine W.run D_ok 1 160 (by kernel_rfl) ?_
  exact W.fi (by kernel_rfl)
  ) ?_
 refine CodeOk.seq' ?_
 refine cu D_ok mix 1 160 (tl 62 [(3, V.int (IntKind.wrap .i64 (37 + (Int.tmod r6 8)))), (6, V.str s40), (7, V.int 0)]) [] (by kernel_rfl) ?_
 refine CodeOk.block' ?_
 refine CodeOk.loopJ (fun (⟨r6, y61, y62⟩ : (Int × (List UInt8) × Int)) => ⟨tl 62 [(3, V.int (IntKind.wrap .i64 (37 + (Int.tmod r6 8)))), (6, V.str y61), (7, V.int y62)], []⟩) (fun n i => m_laws_FnDeep_l2 N (m_laws_FnDeep_l1 N n1) n i = some r) (n0 := N) (i0 := (r6, s40, 0)) (Weak.sel [] [3, 6, 7] (by kernel_rfl) (by kernel_rfl) (by kernel_rfl)) h41 (fun i h => by simp [m_laws_FnDeep_l2] at h) ?_
 rintro n2 ⟨r6, y61, y62⟩ h83 ih84
 rw [m_laws_FnDeep_l2] at h83
 refine CodeOk.seq' ?_
 refine cu D_ok mix 3 220 (tl 62 [(3, V.int (IntKind.wrap .i64 (37 + (Int.tmod r6 8)))), (6, V.str y61), (7, V.int y62), (27, V.bool (decide (y62 < (IntKind.wrap .i64 (37 + (Int.tmod r6 8))))))]) [] (by kernel_rfl) ?_
 (revert h83; refine cond_rev (fun hc86 h83 => ?_) (fun hc86 h83 => ?_))
 ·refine CodeOk.ifT hc86 (by kernel_rfl) ?_
  refine CodeOk.skip ?_
  refine CodeOk.seq' ?_
  refine CodeOk.block' ?_
  (revert h83; refine bind_rev fun s72 hx90 h83 => ?_)
  refine CodeOk.endR (tl 62 [(3, V.int (IntKind.wrap .i64 (37 + (Int.tmod r6 8)))), (6, V.str s72), (7, V.int y62)]) [] mix (by
   refine W.run D_ok 1 220 (by kernel_rfl) ?_
   refine W.cat hx90 (by kernel_rfl) ?_
   refine W.run D_ok 1 220 (by kernel_rfl) ?_
   exact W.fi (by kernel_rfl)
   ) (fun st hw => ?_)
  refine CodeOk.weak hw ?_
  refine ce D_ok mix 3 220 (tl 62 [(3, V.int (IntKind.wrap .i64 (37 + (Int.tmod r6 8)))), (6, V.str s72), (7, V.int (IntKind.wrap .i64 (y62 + 1)))]) [] (by kernel_rfl) (fun st hw => ?_)
  exact ih84 (r6, s72, (IntKind.wrap .i64 (y62 + 1))) h83 _ (hw.trans (Weak.sel [] [3, 6, 7] (by kernel_rfl) (by kernel_rfl) (by kernel_rfl)))
 refine CodeOk.ifF hc86 (by kernel_rfl) ?_
 refine CodeOk.exit ?_
 (revert h83; refine bind_rev fun r74 hx92 h83 => ?_)
 refine CodeOk.cutR (tl 62 [(3, V.int (IntKind.wrap .i64 (37 + (Int.tmod r6 8)))), (8, .own 220), (9, .loc 221 0)]) [(221, .cells 40 [V.int r74.2.Kind, V.int r74.2.At]), (220, .vec false 45 5 (r74.1.map (encSNode true)))] mix (by
  refine W.run D_ok 1 220 (by kernel_rfl) ?_
  refine W.call (m_impl_ReadExpr_ok N y61 hx92) cok21 [] [(100, 220)] [220] (show LayOk _ [] from trivial) (by kernel_rfl) (by kernel_rfl) ?_
  refine W.run D_ok 6 221 (by kernel_rfl) ?_
  exact W.fi (by kernel_rfl)
  ) ?_
 refine CodeOk.seq' ?_
 refine cu D_ok mix 2 222 (tl 62 [(8, .own 220), (9, .loc 221 0), (38, V.bool (decide ((IntKind.wrap .i64 (37 + (Int.tmod r6 8))) > 40)))]) [(221, .cells 40 [V.int r74.2.Kind, V.int r74.2.At]), (220, .vec false 45 5 (r74.1.map (encSNode true)))] (by kernel_rfl) ?_
 (revert h83; refine cond_rev (fun hc97 h83 => ?_) (fun hc97 h83 => ?_))
 ·refine CodeOk.ifT hc97 (by kernel_rfl) ?_
  (revert h83; refine bind_rev fun y76 hv99 h83 => ?_)
  refine CodeOk.cutR (tl 62 [(2, V.bool y76)]) [] mix (by
   refine W.run D_ok 4 222 (by kernel_rfl) ?_
   (revert hv99; refine cond_rev (fun hc100 hv99 => ?_) (fun hc100 hv99 => ?_))
   ·refine W.is 42 hc100 (by kernel_rfl) ?_
    refine W.run D_ok 1 222 (by kernel_rfl) ?_
    refine W.len D_ok (encSNode true) r74.1 [220] (by kernel_rfl) (by kernel_rfl) ?_
    refine W.run D_ok 3 222 (by kernel_rfl) ?_
    have hv99 := Option.some.inj hv99
    subst hv99
    exact W.fs [] [2] (by kernel_rfl)
   refine W.is 42 hc100 (by kernel_rfl) ?_
   refine W.run D_ok 5 222 (by kernel_rfl) ?_
   have hv99 := Option.some.inj hv99
   subst hv99
   exact W.fs [] [2] (by kernel_rfl)
   ) ?_
  refine CodeOk.ret ?_
  have h83 := Option.some.inj h83
  subst h83
  exact Ends.gen [] (.inr rfl) (RetV.one rfl (OneR.tmp (t := 2) (r := V.bool y76) (by kernel_rfl))) (by kernel_rfl) (by kernel_rfl) (by kernel_rfl)
 refine CodeOk.ifF hc97 (by kernel_rfl) ?_
 refine CodeOk.skip ?_
 (revert h83; refine bind_rev fun y78 hv104 h83 => ?_)
 refine CodeOk.cutR (tl 62 [(2, V.bool y78)]) [] mix (by
  refine W.run D_ok 4 222 (by kernel_rfl) ?_
  (revert hv104; refine cond_rev (fun hc105 hv104 => ?_) (fun hc105 hv104 => ?_))
  ·refine W.is 50 hc105 (by kernel_rfl) ?_
   refine W.run D_ok 1 222 (by kernel_rfl) ?_
   refine W.len D_ok (encSNode true) r74.1 [220] (by kernel_rfl) (by kernel_rfl) ?_
   refine W.run D_ok 3 222 (by kernel_rfl) ?_
   (revert hv104; refine cond_rev (fun hc106 hv104 => ?_) (fun hc106 hv104 => ?_))
   ·refine W.is 55 hc106 (by kernel_rfl) ?_
    refine W.run D_ok 1 222 (by kernel_rfl) ?_
    (revert hv104; refine bind_rev fun e79 hx107 hv104 => ?_)
    refine W.ixO D_ok (encSNode true) hx107 220 5 (by kernel_rfl) ?_
    refine W.run D_ok 1 222 (by kernel_rfl) ?_
    refine W.ldO D_ok (encSNode true) hx107 9 220 2 (V.str e79.Text) (by kernel_rfl) (by kernel_rfl) ?_
    refine W.run D_ok 3 222 (by kernel_rfl) ?_
    have hv104 := Option.some.inj hv104
    subst hv104
    exact W.fs [] [2] (by kernel_rfl)
   refine W.is 55 hc106 (by kernel_rfl) ?_
   refine W.run D_ok 7 222 (by kernel_rfl) ?_
   have hv104 := Option.some.inj hv104
   subst hv104
   exact W.fs [] [2] (by kernel_rfl)
  refine W.is 50 hc105 (by kernel_rfl) ?_
  refine W.run D_ok 12 222 (by kernel_rfl) ?_
  have hv104 := Option.some.inj hv104
  subst hv104
  exact W.fs [] [2] (by kernel_rfl)
  ) ?_
 refine CodeOk.ret ?_
 have h83 := Option.some.inj h83
 subst h83
 exact Ends.gen [] (.inr rfl) (RetV.one rfl (OneR.tmp (t := 2) (r := V.bool y78) (by kernel_rfl))) (by kernel_rfl) (by kernel_rfl) (by kernel_rfl)

end Go.Proofs.Tryd
