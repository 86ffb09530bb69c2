/-
  The walks that show that the code computes the models, part 4.
-/
import Derived.Test.YtllanibkffnogaaDoorLeW3
namespace Go.Proofs.Tryd
open Go.Av
set_option maxRecDepth 100000
set_option maxHeartbeats 8000000
set_option linter.unusedSimpArgs false
set_option linter.unusedVariables false

theorem m_impl_parser__level_ok (N : Nat) (a1 : SPos) (p0_0 : List SToken) (p0_1 : Int) (p0_2 : Bool) (p1 : List (List UInt8)) {r : (SPart × Int × Bool × (List (List UInt8)))} (h : m_impl_parser__level N a1 p0_0 p0_1 p0_2 p1 = some r) :
    AC Tryd.prog (GS []) 72 [.loc 0 0, .agg [V.int a1.Level, V.bool a1.Dollar, V.bool a1.NoIn, V.bool a1.NoGt, V.bool a1.NoSign]] [(0, .cells 108 [.sl false false (p0_0.map encSToken), V.int p0_1, V.bool p0_2, .own 1]), (1, .vec false 9 1 (p1.map encS))] (.agg [V.int r.1.tree.kind, V.int r.1.tree.op, V.str r.1.tree.text, V.str r.1.tree.other, .sl false false (r.1.tree.kids.map encSTree), V.bool r.1.target]) [(0, .cells 108 [.sl false false (p0_0.map encSToken), V.int r.2.1, V.bool r.2.2.1, .own 100]), (100, .vec false 9 1 (r.2.2.2.map encS))] := by
 rw [m_impl_parser__level] at h
 refine AC.enter Tryd.func72 rfl ?_
 refine cu D_ok mix 2 100 (tl 102 [(0, .loc 0 0), (3, .loc 100 0), (4, .loc 101 0)]) [(101, .cells 113 [V.int 0, V.int 0, V.str [], V.str [], .c (.slice none 0 0), V.bool false]), (100, .cells 84 [V.int a1.Level, V.bool a1.Dollar, V.bool a1.NoIn, V.bool a1.NoGt, V.bool a1.NoSign]), (0, .cells 108 [.sl false false (p0_0.map encSToken), V.int p0_1, V.bool p0_2, .own 1]), (1, .vec false 9 1 (p1.map encS))] (by kernel_rfl) ?_
 refine cu D_ok mix 7 102 (tl 102 [(0, .loc 0 0), (3, .loc 100 0), (4, .loc 101 0), (5, .loc 102 0)]) [(102, .cells 138 [V.bool a1.NoIn, V.bool a1.NoGt]), (101, .cells 113 [V.int 0, V.int 0, V.str [], V.str [], .c (.slice none 0 0), V.bool false]), (100, .cells 84 [V.int a1.Level, V.bool a1.Dollar, V.bool a1.NoIn, V.bool a1.NoGt, V.bool a1.NoSign]), (0, .cells 108 [.sl false false (p0_0.map encSToken), V.int p0_1, V.bool p0_2, .own 1]), (1, .vec false 9 1 (p1.map encS))] (by kernel_rfl) ?_
 refine CodeOk.seq' ?_
 (revert h; refine bind_rev fun y10 hv14 h => ?_)
 refine CodeOk.cutR (tl 102 [(0, .loc 0 0), (3, .loc 100 0), (4, .loc 101 0), (5, .loc 102 0), (18, V.bool y10)]) [(0, .cells 108 [.sl false false (p0_0.map encSToken), V.int p0_1, V.bool p0_2, .own 1]), (100, .cells 84 [V.int a1.Level, V.bool a1.Dollar, V.bool a1.NoIn, V.bool a1.NoGt, V.bool a1.NoSign]), (101, .cells 113 [V.int 0, V.int 0, V.str [], V.str [], .c (.slice none 0 0), V.bool false]), (102, .cells 138 [V.bool a1.NoIn, V.bool a1.NoGt]), (1, .vec false 9 1 (p1.map encS))] mix (by
  refine W.run D_ok 3 103 (by kernel_rfl) ?_
  (revert hv14; refine cond_rev (fun hc15 hv14 => ?_) (fun hc15 hv14 => ?_))
  ·refine W.is 13 hc15 (by kernel_rfl) ?_
   refine W.run D_ok 1 103 (by kernel_rfl) ?_
   (revert hv14; refine bind_rev fun r11 hx16 hv14 => ?_)
   refine W.call (m_impl_parser__kind_ok p0_0 p0_1 p0_2 p1 hx16) cok97 [(0, 0), (1, 1)] [(0, 0), (1, 1)] [] (show LayOk _ [] from trivial) (by kernel_rfl) (by kernel_rfl) ?_
   (revert hv14; refine bind_rev fun r12 hx17 hv14 => ?_)
   refine W.call0 (m_impl_BeginsOperand_ok r11 hx17) cok96 rfl (by kernel_rfl) ?_
   refine W.run D_ok 2 103 (by kernel_rfl) ?_
   have hv14 := Option.some.inj hv14
   subst hv14
   exact W.fs [(0, 0), (100, 100), (101, 101), (102, 102), (1, 1)] [0, 3, 4, 5, 18] (by kernel_rfl)
  refine W.is 13 hc15 (by kernel_rfl) ?_
  refine W.run D_ok 5 103 (by kernel_rfl) ?_
  have hv14 := Option.some.inj hv14
  subst hv14
  exact W.fs [(0, 0), (100, 100), (101, 101), (102, 102), (1, 1)] [0, 3, 4, 5, 18] (by kernel_rfl)
  ) ?_
 (revert h; refine cond_rev (fun hc18 h => ?_) (fun hc18 h => ?_))
 ·refine CodeOk.ifT hc18 (by kernel_rfl) ?_
  (revert h; refine bind_rev fun r14 hx20 h => ?_)
  refine CodeOk.cutR (tl 102 [(4, .loc 101 0)]) [(101, .cells 113 [V.int r14.1.tree.kind, V.int r14.1.tree.op, V.str r14.1.tree.text, V.str r14.1.tree.other, .sl false false (r14.1.tree.kids.map encSTree), V.bool r14.1.target]), (0, .cells 108 [.sl false false (p0_0.map encSToken), V.int p0_1, V.bool r14.2, .own 1]), (1, .vec false 9 1 (p1.map encS))] mix (by
   refine W.run D_ok 1 103 (by kernel_rfl) ?_
   refine W.call (m_impl_parser__fail_ok p0_0 p0_1 p0_2 p1 hx20) cok98 [(0, 0), (1, 1)] [(0, 0), (1, 1)] [] (show LayOk _ [] from trivial) (by kernel_rfl) (by kernel_rfl) ?_
   refine W.run D_ok 1 103 (by kernel_rfl) ?_
   exact W.fi (by kernel_rfl)
   ) ?_
  refine CodeOk.ret ?_
  have h := Option.some.inj h
  subst h
  exact Ends.gen [(0, 0), (1, 100)] (.inr rfl) (RetV.one rfl (OneR.cell D_ok (r := .agg [V.int r14.1.tree.kind, V.int r14.1.tree.op, V.str r14.1.tree.text, V.str r14.1.tree.other, .sl false false (r14.1.tree.kids.map encSTree), V.bool r14.1.target]) (i := 101) (ety := 113) (cs := [V.int r14.1.tree.kind, V.int r14.1.tree.op, V.str r14.1.tree.text, V.str r14.1.tree.other, .sl false false (r14.1.tree.kids.map encSTree), V.bool r14.1.target]) (by kernel_rfl) (by kernel_rfl) (by kernel_rfl))) (by kernel_rfl) (by kernel_rfl) (by kernel_rfl)
 refine CodeOk.ifF hc18 (by kernel_rfl) ?_
 refine CodeOk.skip ?_
 refine CodeOk.seq' ?_
 refine cu D_ok mix 2 103 (tl 102 [(0, .loc 0 0), (3, .loc 100 0), (4, .loc 101 0), (5, .loc 102 0), (22, V.int a1.Level)]) [(0, .cells 108 [.sl false false (p0_0.map encSToken), V.int p0_1, V.bool p0_2, .own 1]), (100, .cells 84 [V.int a1.Level, V.bool a1.Dollar, V.bool a1.NoIn, V.bool a1.NoGt, V.bool a1.NoSign]), (101, .cells 113 [V.int 0, V.int 0, V.str [], V.str [], .c (.slice none 0 0), V.bool false]), (102, .cells 138 [V.bool a1.NoIn, V.bool a1.NoGt]), (1, .vec false 9 1 (p1.map encS))] (by kernel_rfl) ?_
 refine CodeOk.block' ?_
 refine cu D_ok mix 2 103 (tl 102 [(0, .loc 0 0), (3, .loc 100 0), (4, .loc 101 0), (5, .loc 102 0), (22, V.int a1.Level), (23, V.bool (a1.Level == 1))]) [(0, .cells 108 [.sl false false (p0_0.map encSToken), V.int p0_1, V.bool p0_2, .own 1]), (100, .cells 84 [V.int a1.Level, V.bool a1.Dollar, V.bool a1.NoIn, V.bool a1.NoGt, V.bool a1.NoSign]), (101, .cells 113 [V.int 0, V.int 0, V.str [], V.str [], .c (.slice none 0 0), V.bool false]), (102, .cells 138 [V.bool a1.NoIn, V.bool a1.NoGt]), (1, .vec false 9 1 (p1.map encS))] (by kernel_rfl) ?_
 (revert h; refine cond_rev (fun hc83 h => ?_) (fun hc83 h => ?_))
 ·refine CodeOk.ifT hc83 (by kernel_rfl) ?_
  (revert h; refine bind_rev fun r58 hx85 h => ?_)
  refine CodeOk.cutR (tl 102 [(4, .loc 101 0)]) [(101, .cells 113 [V.int r58.1.tree.kind, V.int r58.1.tree.op, V.str r58.1.tree.text, V.str r58.1.tree.other, .sl false false (r58.1.tree.kids.map encSTree), V.bool r58.1.target]), (103, .vec false 9 1 (r58.2.2.2.map encS)), (0, .cells 108 [.sl false false (p0_0.map encSToken), V.int r58.2.1, V.bool r58.2.2.1, .own 103])] mix (by
   refine W.run D_ok 2 103 (by kernel_rfl) ?_
   refine W.call (m_impl_parser__assign_ok N (⟨a1.NoIn, a1.NoGt⟩ : SRules) p0_0 p0_1 p0_2 p1 hx85) cok99 [(0, 0), (1, 1)] [(0, 0), (100, 103)] [103] (show LayOk _ [] from trivial) (by kernel_rfl) (by kernel_rfl) ?_
   refine W.run D_ok 1 104 (by kernel_rfl) ?_
   exact W.fi (by kernel_rfl)
   ) ?_
  refine CodeOk.ret ?_
  have h := Option.some.inj h
  subst h
  exact Ends.gen [(0, 0), (103, 100)] (.inr rfl) (RetV.one rfl (OneR.cell D_ok (r := .agg [V.int r58.1.tree.kind, V.int r58.1.tree.op, V.str r58.1.tree.text, V.str r58.1.tree.other, .sl false false (r58.1.tree.kids.map encSTree), V.bool r58.1.target]) (i := 101) (ety := 113) (cs := [V.int r58.1.tree.kind, V.int r58.1.tree.op, V.str r58.1.tree.text, V.str r58.1.tree.other, .sl false false (r58.1.tree.kids.map encSTree), V.bool r58.1.target]) (by kernel_rfl) (by kernel_rfl) (by kernel_rfl))) (by kernel_rfl) (by kernel_rfl) (by kernel_rfl)
 refine CodeOk.ifF hc83 (by kernel_rfl) ?_
 refine cu D_ok mix 2 103 (tl 102 [(0, .loc 0 0), (3, .loc 100 0), (4, .loc 101 0), (5, .loc 102 0), (22, V.int a1.Level), (28, V.bool (a1.Level == 2))]) [(0, .cells 108 [.sl false false (p0_0.map encSToken), V.int p0_1, V.bool p0_2, .own 1]), (100, .cells 84 [V.int a1.Level, V.bool a1.Dollar, V.bool a1.NoIn, V.bool a1.NoGt, V.bool a1.NoSign]), (101, .cells 113 [V.int 0, V.int 0, V.str [], V.str [], .c (.slice none 0 0), V.bool false]), (102, .cells 138 [V.bool a1.NoIn, V.bool a1.NoGt]), (1, .vec false 9 1 (p1.map encS))] (by kernel_rfl) ?_
 (revert h; refine cond_rev (fun hc86 h => ?_) (fun hc86 h => ?_))
 ·refine CodeOk.ifT hc86 (by kernel_rfl) ?_
  (revert h; refine bind_rev fun r60 hx88 h => ?_)
  refine CodeOk.cutR (tl 102 [(4, .loc 101 0)]) [(101, .cells 113 [V.int r60.1.tree.kind, V.int r60.1.tree.op, V.str r60.1.tree.text, V.str r60.1.tree.other, .sl false false (r60.1.tree.kids.map encSTree), V.bool r60.1.target]), (103, .vec false 9 1 (r60.2.2.2.map encS)), (0, .cells 108 [.sl false false (p0_0.map encSToken), V.int r60.2.1, V.bool r60.2.2.1, .own 103])] mix (by
   refine W.run D_ok 2 103 (by kernel_rfl) ?_
   refine W.call (m_impl_parser__cond_ok N (⟨a1.NoIn, a1.NoGt⟩ : SRules) p0_0 p0_1 p0_2 p1 hx88) cok100 [(0, 0), (1, 1)] [(0, 0), (100, 103)] [103] (show LayOk _ [] from trivial) (by kernel_rfl) (by kernel_rfl) ?_
   refine W.run D_ok 1 104 (by kernel_rfl) ?_
   exact W.fi (by kernel_rfl)
   ) ?_
  refine CodeOk.ret ?_
  have h := Option.some.inj h
  subst h
  exact Ends.gen [(0, 0), (103, 100)] (.inr rfl) (RetV.one rfl (OneR.cell D_ok (r := .agg [V.int r60.1.tree.kind, V.int r60.1.tree.op, V.str r60.1.tree.text, V.str r60.1.tree.other, .sl false false (r60.1.tree.kids.map encSTree), V.bool r60.1.target]) (i := 101) (ety := 113) (cs := [V.int r60.1.tree.kind, V.int r60.1.tree.op, V.str r60.1.tree.text, V.str r60.1.tree.other, .sl false false (r60.1.tree.kids.map encSTree), V.bool r60.1.target]) (by kernel_rfl) (by kernel_rfl) (by kernel_rfl))) (by kernel_rfl) (by kernel_rfl) (by kernel_rfl)
 refine CodeOk.ifF hc86 (by kernel_rfl) ?_
 refine cu D_ok mix 2 103 (tl 102 [(0, .loc 0 0), (3, .loc 100 0), (4, .loc 101 0), (5, .loc 102 0), (22, V.int a1.Level), (33, V.bool (a1.Level == 3))]) [(0, .cells 108 [.sl false false (p0_0.map encSToken), V.int p0_1, V.bool p0_2, .own 1]), (100, .cells 84 [V.int a1.Level, V.bool a1.Dollar, V.bool a1.NoIn, V.bool a1.NoGt, V.bool a1.NoSign]), (101, .cells 113 [V.int 0, V.int 0, V.str [], V.str [], .c (.slice none 0 0), V.bool false]), (102, .cells 138 [V.bool a1.NoIn, V.bool a1.NoGt]), (1, .vec false 9 1 (p1.map encS))] (by kernel_rfl) ?_
 (revert h; refine cond_rev (fun hc89 h => ?_) (fun hc89 h => ?_))
 ·refine CodeOk.ifT hc89 (by kernel_rfl) ?_
  (revert h; refine bind_rev fun r62 hx91 h => ?_)
  refine CodeOk.cutR (tl 102 [(4, .loc 101 0)]) [(101, .cells 113 [V.int r62.1.tree.kind, V.int r62.1.tree.op, V.str r62.1.tree.text, V.str r62.1.tree.other, .sl false false (r62.1.tree.kids.map encSTree), V.bool r62.1.target]), (103, .vec false 9 1 (r62.2.2.2.map encS)), (0, .cells 108 [.sl false false (p0_0.map encSToken), V.int r62.2.1, V.bool r62.2.2.1, .own 103])] mix (by
   refine W.run D_ok 2 103 (by kernel_rfl) ?_
   refine W.call (m_impl_parser__or_ok N (⟨a1.NoIn, a1.NoGt⟩ : SRules) p0_0 p0_1 p0_2 p1 hx91) cok101 [(0, 0), (1, 1)] [(0, 0), (100, 103)] [103] (show LayOk _ [] from trivial) (by kernel_rfl) (by kernel_rfl) ?_
   refine W.run D_ok 1 104 (by kernel_rfl) ?_
   exact W.fi (by kernel_rfl)
   ) ?_
  refine CodeOk.ret ?_
  have h := Option.some.inj h
  subst h
  exact Ends.gen [(0, 0), (103, 100)] (.inr rfl) (RetV.one rfl (OneR.cell D_ok (r := .agg [V.int r62.1.tree.kind, V.int r62.1.tree.op, V.str r62.1.tree.text, V.str r62.1.tree.other, .sl false false (r62.1.tree.kids.map encSTree), V.bool r62.1.target]) (i := 101) (ety := 113) (cs := [V.int r62.1.tree.kind, V.int r62.1.tree.op, V.str r62.1.tree.text, V.str r62.1.tree.other, .sl false false (r62.1.tree.kids.map encSTree), V.bool r62.1.target]) (by kernel_rfl) (by kernel_rfl) (by kernel_rfl))) (by kernel_rfl) (by kernel_rfl) (by kernel_rfl)
 refine CodeOk.ifF hc89 (by kernel_rfl) ?_
 refine cu D_ok mix 2 103 (tl 102 [(0, .loc 0 0), (3, .loc 100 0), (4, .loc 101 0), (5, .loc 102 0), (22, V.int a1.Level), (38, V.bool (a1.Level == 4))]) [(0, .cells 108 [.sl false false (p0_0.map encSToken), V.int p0_1, V.bool p0_2, .own 1]), (100, .cells 84 [V.int a1.Level, V.bool a1.Dollar, V.bool a1.NoIn, V.bool a1.NoGt, V.bool a1.NoSign]), (101, .cells 113 [V.int 0, V.int 0, V.str [], V.str [], .c (.slice none 0 0), V.bool false]), (102, .cells 138 [V.bool a1.NoIn, V.bool a1.NoGt]), (1, .vec false 9 1 (p1.map encS))] (by kernel_rfl) ?_
 (revert h; refine cond_rev (fun hc92 h => ?_) (fun hc92 h => ?_))
 ·refine CodeOk.ifT hc92 (by kernel_rfl) ?_
  (revert h; refine bind_rev fun r64 hx94 h => ?_)
  refine CodeOk.cutR (tl 102 [(4, .loc 101 0)]) [(101, .cells 113 [V.int r64.1.tree.kind, V.int r64.1.tree.op, V.str r64.1.tree.text, V.str r64.1.tree.other, .sl false false (r64.1.tree.kids.map encSTree), V.bool r64.1.target]), (103, .vec false 9 1 (r64.2.2.2.map encS)), (0, .cells 108 [.sl false false (p0_0.map encSToken), V.int r64.2.1, V.bool r64.2.2.1, .own 103])] mix (by
   refine W.run D_ok 2 103 (by kernel_rfl) ?_
   refine W.call (m_impl_parser__and_ok N (⟨a1.NoIn, a1.NoGt⟩ : SRules) p0_0 p0_1 p0_2 p1 hx94) cok102 [(0, 0), (1, 1)] [(0, 0), (100, 103)] [103] (show LayOk _ [] from trivial) (by kernel_rfl) (by kernel_rfl) ?_
   refine W.run D_ok 1 104 (by kernel_rfl) ?_
   exact W.fi (by kernel_rfl)
   ) ?_
  refine CodeOk.ret ?_
  have h := Option.some.inj h
  subst h
  exact Ends.gen [(0, 0), (103, 100)] (.inr rfl) (RetV.one rfl (OneR.cell D_ok (r := .agg [V.int r64.1.tree.kind, V.int r64.1.tree.op, V.str r64.1.tree.text, V.str r64.1.tree.other, .sl false false (r64.1.tree.kids.map encSTree), V.bool r64.1.target]) (i := 101) (ety := 113) (cs := [V.int r64.1.tree.kind, V.int r64.1.tree.op, V.str r64.1.tree.text, V.str r64.1.tree.other, .sl false false (r64.1.tree.kids.map encSTree), V.bool r64.1.target]) (by kernel_rfl) (by kernel_rfl) (by kernel_rfl))) (by kernel_rfl) (by kernel_rfl) (by kernel_rfl)
 refine CodeOk.ifF hc92 (by kernel_rfl) ?_
 refine cu D_ok mix 2 103 (tl 102 [(0, .loc 0 0), (3, .loc 100 0), (4, .loc 101 0), (5, .loc 102 0), (22, V.int a1.Level), (43, V.bool (a1.Level == 5))]) [(0, .cells 108 [.sl false false (p0_0.map encSToken), V.int p0_1, V.bool p0_2, .own 1]), (100, .cells 84 [V.int a1.Level, V.bool a1.Dollar, V.bool a1.NoIn, V.bool a1.NoGt, V.bool a1.NoSign]), (101, .cells 113 [V.int 0, V.int 0, V.str [], V.str [], .c (.slice none 0 0), V.bool false]), (102, .cells 138 [V.bool a1.NoIn, V.bool a1.NoGt]), (1, .vec false 9 1 (p1.map encS))] (by kernel_rfl) ?_
 (revert h; refine cond_rev (fun hc95 h => ?_) (fun hc95 h => ?_))
 ·refine CodeOk.ifT hc95 (by kernel_rfl) ?_
  (revert h; refine bind_rev fun r66 hx97 h => ?_)
  refine CodeOk.cutR (tl 102 [(4, .loc 101 0)]) [(101, .cells 113 [V.int r66.1.tree.kind, V.int r66.1.tree.op, V.str r66.1.tree.text, V.str r66.1.tree.other, .sl false false (r66.1.tree.kids.map encSTree), V.bool r66.1.target]), (103, .vec false 9 1 (r66.2.2.2.map encS)), (0, .cells 108 [.sl false false (p0_0.map encSToken), V.int r66.2.1, V.bool r66.2.2.1, .own 103])] mix (by
   refine W.run D_ok 2 103 (by kernel_rfl) ?_
   refine W.call (m_impl_parser__in_ok N (⟨a1.NoIn, a1.NoGt⟩ : SRules) p0_0 p0_1 p0_2 p1 hx97) cok103 [(0, 0), (1, 1)] [(0, 0), (100, 103)] [103] (show LayOk _ [] from trivial) (by kernel_rfl) (by kernel_rfl) ?_
   refine W.run D_ok 1 104 (by kernel_rfl) ?_
   exact W.fi (by kernel_rfl)
   ) ?_
  refine CodeOk.ret ?_
  have h := Option.some.inj h
  subst h
  exact Ends.gen [(0, 0), (103, 100)] (.inr rfl) (RetV.one rfl (OneR.cell D_ok (r := .agg [V.int r66.1.tree.kind, V.int r66.1.tree.op, V.str r66.1.tree.text, V.str r66.1.tree.other, .sl false false (r66.1.tree.kids.map encSTree), V.bool r66.1.target]) (i := 101) (ety := 113) (cs := [V.int r66.1.tree.kind, V.int r66.1.tree.op, V.str r66.1.tree.text, V.str r66.1.tree.other, .sl false false (r66.1.tree.kids.map encSTree), V.bool r66.1.target]) (by kernel_rfl) (by kernel_rfl) (by kernel_rfl))) (by kernel_rfl) (by kernel_rfl) (by kernel_rfl)
 refine CodeOk.ifF hc95 (by kernel_rfl) ?_
 refine cu D_ok mix 2 103 (tl 102 [(0, .loc 0 0), (3, .loc 100 0), (4, .loc 101 0), (5, .loc 102 0), (22, V.int a1.Level), (48, V.bool (a1.Level == 6))]) [(0, .cells 108 [.sl false false (p0_0.map encSToken), V.int p0_1, V.bool p0_2, .own 1]), (100, .cells 84 [V.int a1.Level, V.bool a1.Dollar, V.bool a1.NoIn, V.bool a1.NoGt, V.bool a1.NoSign]), (101, .cells 113 [V.int 0, V.int 0, V.str [], V.str [], .c (.slice none 0 0), V.bool false]), (102, .cells 138 [V.bool a1.NoIn, V.bool a1.NoGt]), (1, .vec false 9 1 (p1.map encS))] (by kernel_rfl) ?_
 (revert h; refine cond_rev (fun hc98 h => ?_) (fun hc98 h => ?_))
 ·refine CodeOk.ifT hc98 (by kernel_rfl) ?_
  (revert h; refine bind_rev fun r68 hx100 h => ?_)
  refine CodeOk.cutR (tl 102 [(4, .loc 101 0)]) [(101, .cells 113 [V.int r68.1.tree.kind, V.int r68.1.tree.op, V.str r68.1.tree.text, V.str r68.1.tree.other, .sl false false (r68.1.tree.kids.map encSTree), V.bool r68.1.target]), (103, .vec false 9 1 (r68.2.2.2.map encS)), (0, .cells 108 [.sl false false (p0_0.map encSToken), V.int r68.2.1, V.bool r68.2.2.1, .own 103])] mix (by
   refine W.run D_ok 2 103 (by kernel_rfl) ?_
   refine W.call (m_impl_parser__match_ok N (⟨a1.NoIn, a1.NoGt⟩ : SRules) p0_0 p0_1 p0_2 p1 hx100) cok104 [(0, 0), (1, 1)] [(0, 0), (100, 103)] [103] (show LayOk _ [] from trivial) (by kernel_rfl) (by kernel_rfl) ?_
   refine W.run D_ok 1 104 (by kernel_rfl) ?_
   exact W.fi (by kernel_rfl)
   ) ?_
  refine CodeOk.ret ?_
  have h := Option.some.inj h
  subst h
  exact Ends.gen [(0, 0), (103, 100)] (.inr rfl) (RetV.one rfl (OneR.cell D_ok (r := .agg [V.int r68.1.tree.kind, V.int r68.1.tree.op, V.str r68.1.tree.text, V.str r68.1.tree.other, .sl false false (r68.1.tree.kids.map encSTree), V.bool r68.1.target]) (i := 101) (ety := 113) (cs := [V.int r68.1.tree.kind, V.int r68.1.tree.op, V.str r68.1.tree.text, V.str r68.1.tree.other, .sl false false (r68.1.tree.kids.map encSTree), V.bool r68.1.target]) (by kernel_rfl) (by kernel_rfl) (by kernel_rfl))) (by kernel_rfl) (by kernel_rfl) (by kernel_rfl)
 refine CodeOk.ifF hc98 (by kernel_rfl) ?_
 refine cu D_ok mix 2 103 (tl 102 [(0, .loc 0 0), (3, .loc 100 0), (4, .loc 101 0), (5, .loc 102 0), (22, V.int a1.Level), (53, V.bool (a1.Level == 7))]) [(0, .cells 108 [.sl false false (p0_0.map encSToken), V.int p0_1, V.bool p0_2, .own 1]), (100, .cells 84 [V.int a1.Level, V.bool a1.Dollar, V.bool a1.NoIn, V.bool a1.NoGt, V.bool a1.NoSign]), (101, .cells 113 [V.int 0, V.int 0, V.str [], V.str [], .c (.slice none 0 0), V.bool false]), (102, .cells 138 [V.bool a1.NoIn, V.bool a1.NoGt]), (1, .vec false 9 1 (p1.map encS))] (by kernel_rfl) ?_
 (revert h; refine cond_rev (fun hc101 h => ?_) (fun hc101 h => ?_))
 ·refine CodeOk.ifT hc101 (by kernel_rfl) ?_
  (revert h; refine bind_rev fun r70 hx103 h => ?_)
  refine CodeOk.cutR (tl 102 [(4, .loc 101 0)]) [(101, .cells 113 [V.int r70.1.tree.kind, V.int r70.1.tree.op, V.str r70.1.tree.text, V.str r70.1.tree.other, .sl false false (r70.1.tree.kids.map encSTree), V.bool r70.1.target]), (103, .vec false 9 1 (r70.2.2.2.map encS)), (0, .cells 108 [.sl false false (p0_0.map encSToken), V.int r70.2.1, V.bool r70.2.2.1, .own 103])] mix (by
   refine W.run D_ok 2 103 (by kernel_rfl) ?_
   refine W.call (m_impl_parser__compare_ok N (⟨a1.NoIn, a1.NoGt⟩ : SRules) p0_0 p0_1 p0_2 p1 hx103) cok105 [(0, 0), (1, 1)] [(0, 0), (100, 103)] [103] (show LayOk _ [] from trivial) (by kernel_rfl) (by kernel_rfl) ?_
   refine W.run D_ok 1 104 (by kernel_rfl) ?_
   exact W.fi (by kernel_rfl)
   ) ?_
  refine CodeOk.ret ?_
  have h := Option.some.inj h
  subst h
  exact Ends.gen [(0, 0), (103, 100)] (.inr rfl) (RetV.one rfl (OneR.cell D_ok (r := .agg [V.int r70.1.tree.kind, V.int r70.1.tree.op, V.str r70.1.tree.text, V.str r70.1.tree.other, .sl false false (r70.1.tree.kids.map encSTree), V.bool r70.1.target]) (i := 101) (ety := 113) (cs := [V.int r70.1.tree.kind, V.int r70.1.tree.op, V.str r70.1.tree.text, V.str r70.1.tree.other, .sl false false (r70.1.tree.kids.map encSTree), V.bool r70.1.target]) (by kernel_rfl) (by kernel_rfl) (by kernel_rfl))) (by kernel_rfl) (by kernel_rfl) (by kernel_rfl)
 refine CodeOk.ifF hc101 (by kernel_rfl) ?_
 refine cu D_ok mix 2 103 (tl 102 [(0, .loc 0 0), (3, .loc 100 0), (4, .loc 101 0), (5, .loc 102 0), (22, V.int a1.Level), (58, V.bool (a1.Level == 8))]) [(0, .cells 108 [.sl false false (p0_0.map encSToken), V.int p0_1, V.bool p0_2, .own 1]), (100, .cells 84 [V.int a1.Level, V.bool a1.Dollar, V.bool a1.NoIn, V.bool a1.NoGt, V.bool a1.NoSign]), (101, .cells 113 [V.int 0, V.int 0, V.str [], V.str [], .c (.slice none 0 0), V.bool false]), (102, .cells 138 [V.bool a1.NoIn, V.bool a1.NoGt]), (1, .vec false 9 1 (p1.map encS))] (by kernel_rfl) ?_
 (revert h; refine cond_rev (fun hc104 h => ?_) (fun hc104 h => ?_))
 ·refine CodeOk.ifT hc104 (by kernel_rfl) ?_
  (revert h; refine bind_rev fun r72 hx106 h => ?_)
  refine CodeOk.cutR (tl 102 [(4, .loc 101 0)]) [(101, .cells 113 [V.int r72.1.tree.kind, V.int r72.1.tree.op, V.str r72.1.tree.text, V.str r72.1.tree.other, .sl false false (r72.1.tree.kids.map encSTree), V.bool r72.1.target]), (103, .vec false 9 1 (r72.2.2.2.map encS)), (0, .cells 108 [.sl false false (p0_0.map encSToken), V.int r72.2.1, V.bool r72.2.2.1, .own 103])] mix (by
   refine W.run D_ok 2 103 (by kernel_rfl) ?_
   refine W.call (m_impl_parser__cat_ok N (⟨a1.NoIn, a1.NoGt⟩ : SRules) p0_0 p0_1 p0_2 p1 hx106) cok106 [(0, 0), (1, 1)] [(0, 0), (100, 103)] [103] (show LayOk _ [] from trivial) (by kernel_rfl) (by kernel_rfl) ?_
   refine W.run D_ok 1 104 (by kernel_rfl) ?_
   exact W.fi (by kernel_rfl)
   ) ?_
  refine CodeOk.ret ?_
  have h := Option.some.inj h
  subst h
  exact Ends.gen [(0, 0), (103, 100)] (.inr rfl) (RetV.one rfl (OneR.cell D_ok (r := .agg [V.int r72.1.tree.kind, V.int r72.1.tree.op, V.str r72.1.tree.text, V.str r72.1.tree.other, .sl false false (r72.1.tree.kids.map encSTree), V.bool r72.1.target]) (i := 101) (ety := 113) (cs := [V.int r72.1.tree.kind, V.int r72.1.tree.op, V.str r72.1.tree.text, V.str r72.1.tree.other, .sl false false (r72.1.tree.kids.map encSTree), V.bool r72.1.target]) (by kernel_rfl) (by kernel_rfl) (by kernel_rfl))) (by kernel_rfl) (by kernel_rfl) (by kernel_rfl)
 refine CodeOk.ifF hc104 (by kernel_rfl) ?_
 refine cu D_ok mix 2 103 (tl 102 [(0, .loc 0 0), (3, .loc 100 0), (4, .loc 101 0), (5, .loc 102 0), (22, V.int a1.Level), (63, V.bool (a1.Level == 9))]) [(0, .cells 108 [.sl false false (p0_0.map encSToken), V.int p0_1, V.bool p0_2, .own 1]), (100, .cells 84 [V.int a1.Level, V.bool a1.Dollar, V.bool a1.NoIn, V.bool a1.NoGt, V.bool a1.NoSign]), (101, .cells 113 [V.int 0, V.int 0, V.str [], V.str [], .c (.slice none 0 0), V.bool false]), (102, .cells 138 [V.bool a1.NoIn, V.bool a1.NoGt]), (1, .vec false 9 1 (p1.map encS))] (by kernel_rfl) ?_
 (revert h; refine cond_rev (fun hc107 h => ?_) (fun hc107 h => ?_))
 ·refine CodeOk.ifT hc107 (by kernel_rfl) ?_
  (revert h; refine bind_rev fun r74 hx109 h => ?_)
  refine CodeOk.cutR (tl 102 [(4, .loc 101 0)]) [(101, .cells 113 [V.int r74.1.tree.kind, V.int r74.1.tree.op, V.str r74.1.tree.text, V.str r74.1.tree.other, .sl false false (r74.1.tree.kids.map encSTree), V.bool r74.1.target]), (103, .vec false 9 1 (r74.2.2.2.map encS)), (0, .cells 108 [.sl false false (p0_0.map encSToken), V.int r74.2.1, V.bool r74.2.2.1, .own 103])] mix (by
   refine W.run D_ok 2 103 (by kernel_rfl) ?_
   refine W.call (m_impl_parser__add_ok N (⟨a1.NoIn, a1.NoGt⟩ : SRules) p0_0 p0_1 p0_2 p1 hx109) cok107 [(0, 0), (1, 1)] [(0, 0), (100, 103)] [103] (show LayOk _ [] from trivial) (by kernel_rfl) (by kernel_rfl) ?_
   refine W.run D_ok 1 104 (by kernel_rfl) ?_
   exact W.fi (by kernel_rfl)
   ) ?_
  refine CodeOk.ret ?_
  have h := Option.some.inj h
  subst h
  exact Ends.gen [(0, 0), (103, 100)] (.inr rfl) (RetV.one rfl (OneR.cell D_ok (r := .agg [V.int r74.1.tree.kind, V.int r74.1.tree.op, V.str r74.1.tree.text, V.str r74.1.tree.other, .sl false false (r74.1.tree.kids.map encSTree), V.bool r74.1.target]) (i := 101) (ety := 113) (cs := [V.int r74.1.tree.kind, V.int r74.1.tree.op, V.str r74.1.tree.text, V.str r74.1.tree.other, .sl false false (r74.1.tree.kids.map encSTree), V.bool r74.1.target]) (by kernel_rfl) (by kernel_rfl) (by kernel_rfl))) (by kernel_rfl) (by kernel_rfl) (by kernel_rfl)
 refine CodeOk.ifF hc107 (by kernel_rfl) ?_
 refine cu D_ok mix 2 103 (tl 102 [(0, .loc 0 0), (3, .loc 100 0), (4, .loc 101 0), (5, .loc 102 0), (22, V.int a1.Level), (68, V.bool (a1.Level == 10))]) [(0, .cells 108 [.sl false false (p0_0.map encSToken), V.int p0_1, V.bool p0_2, .own 1]), (100, .cells 84 [V.int a1.Level, V.bool a1.Dollar, V.bool a1.NoIn, V.bool a1.NoGt, V.bool a1.NoSign]), (101, .cells 113 [V.int 0, V.int 0, V.str [], V.str [], .c (.slice none 0 0), V.bool false]), (102, .cells 138 [V.bool a1.NoIn, V.bool a1.NoGt]), (1, .vec false 9 1 (p1.map encS))] (by kernel_rfl) ?_
 (revert h; refine cond_rev (fun hc110 h => ?_) (fun hc110 h => ?_))
 ·refine CodeOk.ifT hc110 (by kernel_rfl) ?_
  (revert h; refine bind_rev fun r76 hx112 h => ?_)
  refine CodeOk.cutR (tl 102 [(4, .loc 101 0)]) [(101, .cells 113 [V.int r76.1.tree.kind, V.int r76.1.tree.op, V.str r76.1.tree.text, V.str r76.1.tree.other, .sl false false (r76.1.tree.kids.map encSTree), V.bool r76.1.target]), (103, .vec false 9 1 (r76.2.2.2.map encS)), (0, .cells 108 [.sl false false (p0_0.map encSToken), V.int r76.2.1, V.bool r76.2.2.1, .own 103])] mix (by
   refine W.run D_ok 2 103 (by kernel_rfl) ?_
   refine W.call (m_impl_parser__mul_ok N (⟨a1.NoIn, a1.NoGt⟩ : SRules) p0_0 p0_1 p0_2 p1 hx112) cok108 [(0, 0), (1, 1)] [(0, 0), (100, 103)] [103] (show LayOk _ [] from trivial) (by kernel_rfl) (by kernel_rfl) ?_
   refine W.run D_ok 1 104 (by kernel_rfl) ?_
   exact W.fi (by kernel_rfl)
   ) ?_
  refine CodeOk.ret ?_
  have h := Option.some.inj h
  subst h
  exact Ends.gen [(0, 0), (103, 100)] (.inr rfl) (RetV.one rfl (OneR.cell D_ok (r := .agg [V.int r76.1.tree.kind, V.int r76.1.tree.op, V.str r76.1.tree.text, V.str r76.1.tree.other, .sl false false (r76.1.tree.kids.map encSTree), V.bool r76.1.target]) (i := 101) (ety := 113) (cs := [V.int r76.1.tree.kind, V.int r76.1.tree.op, V.str r76.1.tree.text, V.str r76.1.tree.other, .sl false false (r76.1.tree.kids.map encSTree), V.bool r76.1.target]) (by kernel_rfl) (by kernel_rfl) (by kernel_rfl))) (by kernel_rfl) (by kernel_rfl) (by kernel_rfl)
 refine CodeOk.ifF hc110 (by kernel_rfl) ?_
 refine cu D_ok mix 2 103 (tl 102 [(0, .loc 0 0), (3, .loc 100 0), (4, .loc 101 0), (5, .loc 102 0), (22, V.int a1.Level), (73, V.bool (a1.Level == 11))]) [(0, .cells 108 [.sl false false (p0_0.map encSToken), V.int p0_1, V.bool p0_2, .own 1]), (100, .cells 84 [V.int a1.Level, V.bool a1.Dollar, V.bool a1.NoIn, V.bool a1.NoGt, V.bool a1.NoSign]), (101, .cells 113 [V.int 0, V.int 0, V.str [], V.str [], .c (.slice none 0 0), V.bool false]), (102, .cells 138 [V.bool a1.NoIn, V.bool a1.NoGt]), (1, .vec false 9 1 (p1.map encS))] (by kernel_rfl) ?_
 (revert h; refine cond_rev (fun hc113 h => ?_) (fun hc113 h => ?_))
 ·refine CodeOk.ifT hc113 (by kernel_rfl) ?_
  (revert h; refine bind_rev fun r78 hx115 h => ?_)
  refine CodeOk.cutR (tl 102 [(4, .loc 101 0)]) [(101, .cells 113 [V.int r78.1.tree.kind, V.int r78.1.tree.op, V.str r78.1.tree.text, V.str r78.1.tree.other, .sl false false (r78.1.tree.kids.map encSTree), V.bool r78.1.target]), (103, .vec false 9 1 (r78.2.2.2.map encS)), (0, .cells 108 [.sl false false (p0_0.map encSToken), V.int r78.2.1, V.bool r78.2.2.1, .own 103])] mix (by
   refine W.run D_ok 2 103 (by kernel_rfl) ?_
   refine W.call (m_impl_parser__unary_ok N (⟨a1.NoIn, a1.NoGt⟩ : SRules) p0_0 p0_1 p0_2 p1 hx115) cok109 [(0, 0), (1, 1)] [(0, 0), (100, 103)] [103] (show LayOk _ [] from trivial) (by kernel_rfl) (by kernel_rfl) ?_
   refine W.run D_ok 1 104 (by kernel_rfl) ?_
   exact W.fi (by kernel_rfl)
   ) ?_
  refine CodeOk.ret ?_
  have h := Option.some.inj h
  subst h
  exact Ends.gen [(0, 0), (103, 100)] (.inr rfl) (RetV.one rfl (OneR.cell D_ok (r := .agg [V.int r78.1.tree.kind, V.int r78.1.tree.op, V.str r78.1.tree.text, V.str r78.1.tree.other, .sl false false (r78.1.tree.kids.map encSTree), V.bool r78.1.target]) (i := 101) (ety := 113) (cs := [V.int r78.1.tree.kind, V.int r78.1.tree.op, V.str r78.1.tree.text, V.str r78.1.tree.other, .sl false false (r78.1.tree.kids.map encSTree), V.bool r78.1.target]) (by kernel_rfl) (by kernel_rfl) (by kernel_rfl))) (by kernel_rfl) (by kernel_rfl) (by kernel_rfl)
 refine CodeOk.ifF hc113 (by kernel_rfl) ?_
 refine cu D_ok mix 2 103 (tl 102 [(0, .loc 0 0), (3, .loc 100 0), (4, .loc 101 0), (5, .loc 102 0), (22, V.int a1.Level), (78, V.bool (a1.Level == 12))]) [(0, .cells 108 [.sl false false (p0_0.map encSToken), V.int p0_1, V.bool p0_2, .own 1]), (100, .cells 84 [V.int a1.Level, V.bool a1.Dollar, V.bool a1.NoIn, V.bool a1.NoGt, V.bool a1.NoSign]), (101, .cells 113 [V.int 0, V.int 0, V.str [], V.str [], .c (.slice none 0 0), V.bool false]), (102, .cells 138 [V.bool a1.NoIn, V.bool a1.NoGt]), (1, .vec false 9 1 (p1.map encS))] (by kernel_rfl) ?_
 (revert h; refine cond_rev (fun hc116 h => ?_) (fun hc116 h => ?_))
 ·refine CodeOk.ifT hc116 (by kernel_rfl) ?_
  (revert h; refine bind_rev fun r80 hx118 h => ?_)
  refine CodeOk.cutR (tl 102 [(4, .loc 101 0)]) [(101, .cells 113 [V.int r80.1.tree.kind, V.int r80.1.tree.op, V.str r80.1.tree.text, V.str r80.1.tree.other, .sl false false (r80.1.tree.kids.map encSTree), V.bool r80.1.target]), (103, .vec false 9 1 (r80.2.2.2.map encS)), (0, .cells 108 [.sl false false (p0_0.map encSToken), V.int r80.2.1, V.bool r80.2.2.1, .own 103])] mix (by
   refine W.run D_ok 2 103 (by kernel_rfl) ?_
   refine W.call (m_impl_parser__pow_ok N (⟨a1.NoIn, a1.NoGt⟩ : SRules) p0_0 p0_1 p0_2 p1 hx118) cok110 [(0, 0), (1, 1)] [(0, 0), (100, 103)] [103] (show LayOk _ [] from trivial) (by kernel_rfl) (by kernel_rfl) ?_
   refine W.run D_ok 1 104 (by kernel_rfl) ?_
   exact W.fi (by kernel_rfl)
   ) ?_
  refine CodeOk.ret ?_
  have h := Option.some.inj h
  subst h
  exact Ends.gen [(0, 0), (103, 100)] (.inr rfl) (RetV.one rfl (OneR.cell D_ok (r := .agg [V.int r80.1.tree.kind, V.int r80.1.tree.op, V.str r80.1.tree.text, V.str r80.1.tree.other, .sl false false (r80.1.tree.kids.map encSTree), V.bool r80.1.target]) (i := 101) (ety := 113) (cs := [V.int r80.1.tree.kind, V.int r80.1.tree.op, V.str r80.1.tree.text, V.str r80.1.tree.other, .sl false false (r80.1.tree.kids.map encSTree), V.bool r80.1.target]) (by kernel_rfl) (by kernel_rfl) (by kernel_rfl))) (by kernel_rfl) (by kernel_rfl) (by kernel_rfl)
 refine CodeOk.ifF hc116 (by kernel_rfl) ?_
 refine cu D_ok mix 2 103 (tl 102 [(0, .loc 0 0), (3, .loc 100 0), (4, .loc 101 0), (22, V.int a1.Level), (83, V.bool (a1.Level == 13))]) [(0, .cells 108 [.sl false false (p0_0.map encSToken), V.int p0_1, V.bool p0_2, .own 1]), (100, .cells 84 [V.int a1.Level, V.bool a1.Dollar, V.bool a1.NoIn, V.bool a1.NoGt, V.bool a1.NoSign]), (101, .cells 113 [V.int 0, V.int 0, V.str [], V.str [], .c (.slice none 0 0), V.bool false]), (1, .vec false 9 1 (p1.map encS))] (by kernel_rfl) ?_
 (revert h; refine cond_rev (fun hc119 h => ?_) (fun hc119 h => ?_))
 ·refine CodeOk.ifT hc119 (by kernel_rfl) ?_
  (revert h; refine bind_rev fun r82 hx121 h => ?_)
  refine CodeOk.cutR (tl 102 [(4, .loc 101 0)]) [(101, .cells 113 [V.int r82.1.tree.kind, V.int r82.1.tree.op, V.str r82.1.tree.text, V.str r82.1.tree.other, .sl false false (r82.1.tree.kids.map encSTree), V.bool r82.1.target]), (103, .vec false 9 1 (r82.2.2.2.map encS)), (0, .cells 108 [.sl false false (p0_0.map encSToken), V.int r82.2.1, V.bool r82.2.2.1, .own 103])] mix (by
   refine W.run D_ok 1 103 (by kernel_rfl) ?_
   refine W.call (m_impl_parser__incr_ok N p0_0 p0_1 p0_2 p1 hx121) cok111 [(0, 0), (1, 1)] [(0, 0), (100, 103)] [103] (show LayOk _ [] from trivial) (by kernel_rfl) (by kernel_rfl) ?_
   refine W.run D_ok 1 104 (by kernel_rfl) ?_
   exact W.fi (by kernel_rfl)
   ) ?_
  refine CodeOk.ret ?_
  have h := Option.some.inj h
  subst h
  exact Ends.gen [(0, 0), (103, 100)] (.inr rfl) (RetV.one rfl (OneR.cell D_ok (r := .agg [V.int r82.1.tree.kind, V.int r82.1.tree.op, V.str r82.1.tree.text, V.str r82.1.tree.other, .sl false false (r82.1.tree.kids.map encSTree), V.bool r82.1.target]) (i := 101) (ety := 113) (cs := [V.int r82.1.tree.kind, V.int r82.1.tree.op, V.str r82.1.tree.text, V.str r82.1.tree.other, .sl false false (r82.1.tree.kids.map encSTree), V.bool r82.1.target]) (by kernel_rfl) (by kernel_rfl) (by kernel_rfl))) (by kernel_rfl) (by kernel_rfl) (by kernel_rfl)
 refine CodeOk.ifF hc119 (by kernel_rfl) ?_
 refine cu D_ok mix 2 103 (tl 102 [(0, .loc 0 0), (3, .loc 100 0), (4, .loc 101 0), (87, V.bool (a1.Level == 14))]) [(0, .cells 108 [.sl false false (p0_0.map encSToken), V.int p0_1, V.bool p0_2, .own 1]), (100, .cells 84 [V.int a1.Level, V.bool a1.Dollar, V.bool a1.NoIn, V.bool a1.NoGt, V.bool a1.NoSign]), (101, .cells 113 [V.int 0, V.int 0, V.str [], V.str [], .c (.slice none 0 0), V.bool false]), (1, .vec false 9 1 (p1.map encS))] (by kernel_rfl) ?_
 (revert h; refine cond_rev (fun hc122 h => ?_) (fun hc122 h => ?_))
 ·refine CodeOk.ifT hc122 (by kernel_rfl) ?_
  refine CodeOk.seq' ?_
  (revert h; refine bind_rev fun y92 hv136 h => ?_)
  refine CodeOk.cutR (tl 102 [(0, .loc 0 0), (4, .loc 100 0), (95, V.bool y92)]) [(0, .cells 108 [.sl false false (p0_0.map encSToken), V.int p0_1, V.bool p0_2, .own 1]), (100, .cells 113 [V.int 0, V.int 0, V.str [], V.str [], .c (.slice none 0 0), V.bool false]), (1, .vec false 9 1 (p1.map encS))] mix (by
   refine W.run D_ok 3 103 (by kernel_rfl) ?_
   (revert hv136; refine cond_rev (fun hc137 hv136 => ?_) (fun hc137 hv136 => ?_))
   ·refine W.is 91 hc137 (by kernel_rfl) ?_
    refine W.run D_ok 1 103 (by kernel_rfl) ?_
    (revert hv136; refine bind_rev fun r93 hx138 hv136 => ?_)
    refine W.call (m_impl_parser__kind_ok p0_0 p0_1 p0_2 p1 hx138) cok97 [(0, 0), (1, 1)] [(0, 0), (1, 1)] [] (show LayOk _ [] from trivial) (by kernel_rfl) (by kernel_rfl) ?_
    (revert hv136; refine bind_rev fun r94 hx139 hv136 => ?_)
    refine W.call0 (m_impl_isStep_ok r93 hx139) cok49 rfl (by kernel_rfl) ?_
    refine W.run D_ok 1 103 (by kernel_rfl) ?_
    have hv136 := Option.some.inj hv136
    subst hv136
    exact W.fs [(0, 0), (101, 100), (1, 1)] [0, 4, 95] (by kernel_rfl)
   refine W.is 91 hc137 (by kernel_rfl) ?_
   refine W.run D_ok 4 103 (by kernel_rfl) ?_
   have hv136 := Option.some.inj hv136
   subst hv136
   exact W.fs [(0, 0), (101, 100), (1, 1)] [0, 4, 95] (by kernel_rfl)
   ) ?_
  (revert h; refine cond_rev (fun hc140 h => ?_) (fun hc140 h => ?_))
  ·refine CodeOk.ifT hc140 (by kernel_rfl) ?_
   (revert h; refine bind_rev fun r96 hx142 h => ?_)
   refine CodeOk.cutR (tl 102 [(4, .loc 100 0)]) [(100, .cells 113 [V.int r96.1.tree.kind, V.int r96.1.tree.op, V.str r96.1.tree.text, V.str r96.1.tree.other, .sl false false (r96.1.tree.kids.map encSTree), V.bool r96.1.target]), (103, .vec false 9 1 (r96.2.2.2.map encS)), (0, .cells 108 [.sl false false (p0_0.map encSToken), V.int r96.2.1, V.bool r96.2.2.1, .own 103])] mix (by
    refine W.run D_ok 1 103 (by kernel_rfl) ?_
    refine W.call (m_impl_parser__before_ok N p0_0 p0_1 p0_2 p1 hx142) cok112 [(0, 0), (1, 1)] [(0, 0), (100, 103)] [103] (show LayOk _ [] from trivial) (by kernel_rfl) (by kernel_rfl) ?_
    refine W.run D_ok 1 104 (by kernel_rfl) ?_
    exact W.fi (by kernel_rfl)
    ) ?_
   refine CodeOk.ret ?_
   have h := Option.some.inj h
   subst h
   exact Ends.gen [(0, 0), (103, 100)] (.inr rfl) (RetV.one rfl (OneR.cell D_ok (r := .agg [V.int r96.1.tree.kind, V.int r96.1.tree.op, V.str r96.1.tree.text, V.str r96.1.tree.other, .sl false false (r96.1.tree.kids.map encSTree), V.bool r96.1.target]) (i := 100) (ety := 113) (cs := [V.int r96.1.tree.kind, V.int r96.1.tree.op, V.str r96.1.tree.text, V.str r96.1.tree.other, .sl false false (r96.1.tree.kids.map encSTree), V.bool r96.1.target]) (by kernel_rfl) (by kernel_rfl) (by kernel_rfl))) (by kernel_rfl) (by kernel_rfl) (by kernel_rfl)
  refine CodeOk.ifF hc140 (by kernel_rfl) ?_
  refine CodeOk.skip ?_
  (revert h; refine bind_rev fun r98 hx144 h => ?_)
  refine CodeOk.cutR (tl 102 [(4, .loc 100 0)]) [(100, .cells 113 [V.int r98.1.tree.kind, V.int r98.1.tree.op, V.str r98.1.tree.text, V.str r98.1.tree.other, .sl false false (r98.1.tree.kids.map encSTree), V.bool r98.1.target]), (103, .vec false 9 1 (r98.2.2.2.map encS)), (0, .cells 108 [.sl false false (p0_0.map encSToken), V.int r98.2.1, V.bool r98.2.2.1, .own 103])] mix (by
   refine W.run D_ok 1 103 (by kernel_rfl) ?_
   refine W.call (m_impl_parser__field_ok N p0_0 p0_1 p0_2 p1 hx144) cok113 [(0, 0), (1, 1)] [(0, 0), (100, 103)] [103] (show LayOk _ [] from trivial) (by kernel_rfl) (by kernel_rfl) ?_
   refine W.run D_ok 1 104 (by kernel_rfl) ?_
   exact W.fi (by kernel_rfl)
   ) ?_
  refine CodeOk.ret ?_
  have h := Option.some.inj h
  subst h
  exact Ends.gen [(0, 0), (103, 100)] (.inr rfl) (RetV.one rfl (OneR.cell D_ok (r := .agg [V.int r98.1.tree.kind, V.int r98.1.tree.op, V.str r98.1.tree.text, V.str r98.1.tree.other, .sl false false (r98.1.tree.kids.map encSTree), V.bool r98.1.target]) (i := 100) (ety := 113) (cs := [V.int r98.1.tree.kind, V.int r98.1.tree.op, V.str r98.1.tree.text, V.str r98.1.tree.other, .sl false false (r98.1.tree.kids.map encSTree), V.bool r98.1.target]) (by kernel_rfl) (by kernel_rfl) (by kernel_rfl))) (by kernel_rfl) (by kernel_rfl) (by kernel_rfl)
 refine CodeOk.ifF hc122 (by kernel_rfl) ?_
 refine CodeOk.skip ?_
 (revert h; refine bind_rev fun r100 hx146 h => ?_)
 refine CodeOk.cutR (tl 102 [(4, .loc 101 0)]) [(101, .cells 113 [V.int r100.1.tree.kind, V.int r100.1.tree.op, V.str r100.1.tree.text, V.str r100.1.tree.other, .sl false false (r100.1.tree.kids.map encSTree), V.bool r100.1.target]), (103, .vec false 9 1 (r100.2.2.2.map encS)), (0, .cells 108 [.sl false false (p0_0.map encSToken), V.int r100.2.1, V.bool r100.2.2.1, .own 103])] mix (by
  refine W.run D_ok 1 103 (by kernel_rfl) ?_
  refine W.call (m_impl_parser__primary_ok N p0_0 p0_1 p0_2 p1 hx146) cok114 [(0, 0), (1, 1)] [(0, 0), (100, 103)] [103] (show LayOk _ [] from trivial) (by kernel_rfl) (by kernel_rfl) ?_
  refine W.run D_ok 1 104 (by kernel_rfl) ?_
  exact W.fi (by kernel_rfl)
  ) ?_
 refine CodeOk.ret ?_
 have h := Option.some.inj h
 subst h
 exact Ends.gen [(0, 0), (103, 100)] (.inr rfl) (RetV.one rfl (OneR.cell D_ok (r := .agg [V.int r100.1.tree.kind, V.int r100.1.tree.op, V.str r100.1.tree.text, V.str r100.1.tree.other, .sl false false (r100.1.tree.kids.map encSTree), V.bool r100.1.target]) (i := 101) (ety := 113) (cs := [V.int r100.1.tree.kind, V.int r100.1.tree.op, V.str r100.1.tree.text, V.str r100.1.tree.other, .sl false false (r100.1.tree.kids.map encSTree), V.bool r100.1.target]) (by kernel_rfl) (by kernel_rfl) (by kernel_rfl))) (by kernel_rfl) (by kernel_rfl) (by kernel_rfl)

structure RecOk2 (R : Rec2) : Prop where
  m_impl_tree__size : ∀ (a0 : STree) (r : Int), R.m_impl_tree__size a0 = some r → AC Tryd.prog (GS []) 115 [.agg [V.int a0.kind, V.int a0.op, V.str a0.text, V.str a0.other, .sl false false (a0.kids.map encSTree)]] [] (V.int r) []

theorem m_impl_tree__size_F_ok (N : Nat) (R : Rec2) (HR : RecOk2 R) (a0 : STree) {r : Int} (h : m_impl_tree__size_F N R a0 = some r) :
    AC Tryd.prog (GS []) 115 [.agg [V.int a0.kind, V.int a0.op, V.str a0.text, V.str a0.other, .sl false false (a0.kids.map encSTree)]] [] (V.int r) [] := by
 rw [m_impl_tree__size_F] at h
 refine AC.enter Tryd.func115 rfl ?_
 refine cu D_ok mix 2 100 (tl 19 [(1, .loc 100 0)]) [(100, .cells 111 [V.int a0.kind, V.int a0.op, V.str a0.text, V.str a0.other, .sl false false (a0.kids.map encSTree)])] (by kernel_rfl) ?_
 refine cu D_ok mix 1 101 (tl 19 [(1, .loc 100 0), (3, V.int 1)]) [(100, .cells 111 [V.int a0.kind, V.int a0.op, V.str a0.text, V.str a0.other, .sl false false (a0.kids.map encSTree)])] (by kernel_rfl) ?_
 refine CodeOk.seq' ?_
 refine CodeOk.cutR (tl 19 [(3, V.int 1), (7, .sl false false (a0.kids.map encSTree)), (8, V.int (a0.kids.length : Int)), (9, V.int 0)]) [] mix (by
  refine W.run D_ok 2 101 (by kernel_rfl) ?_
  refine W.len D_ok encSTree a0.kids [] (by kernel_rfl) (by kernel_rfl) ?_
  refine W.run D_ok 1 101 (by kernel_rfl) ?_
  exact W.fi (by kernel_rfl)
  ) ?_
 refine CodeOk.block' ?_
 refine CodeOk.loopJ (fun (⟨a0, y37, y38⟩ : (STree × Int × Int)) => ⟨tl 19 [(3, V.int y37), (7, .sl false false (a0.kids.map encSTree)), (8, V.int (a0.kids.length : Int)), (9, V.int y38)], []⟩) (fun n i => m_impl_tree__size_l1 N R n i = some r) (n0 := N) (i0 := (a0, 1, 0)) (Weak.sel [] [3, 7, 8, 9] (by kernel_rfl) (by kernel_rfl) (by kernel_rfl)) h (fun i h => by simp [m_impl_tree__size_l1] at h) ?_
 rintro n1 ⟨a0, y37, y38⟩ h53 ih54
 rw [m_impl_tree__size_l1] at h53
 refine cu D_ok mix 1 163 (tl 19 [(3, V.int y37), (7, .sl false false (a0.kids.map encSTree)), (8, V.int (a0.kids.length : Int)), (9, V.int y38), (10, V.bool (decide (y38 < (a0.kids.length : Int))))]) [] (by kernel_rfl) ?_
 refine CodeOk.seq' ?_
 (revert h53; refine cond_rev (fun hc56 h53 => ?_) (fun hc56 h53 => ?_))
 ·refine CodeOk.ifT hc56 (by kernel_rfl) ?_
  refine CodeOk.skip ?_
  refine CodeOk.seq' ?_
  refine CodeOk.block' ?_
  (revert h53; refine bind_rev fun e54 hx62 h53 => ?_)
  refine CodeOk.cutR (tl 19 [(3, V.int y37), (5, .loc 163 0), (7, .sl false false (a0.kids.map encSTree)), (8, V.int (a0.kids.length : Int)), (9, V.int y38)]) [(163, .cells 111 [V.int e54.kind, V.int e54.op, V.str e54.text, V.str e54.other, .sl false false (e54.kids.map encSTree)])] mix (by
   refine W.ixDr D_ok encSTree hx62 5 (by kernel_rfl) (encSTree_eq e54) (by kernel_rfl) ?_
   refine W.run D_ok 3 163 (by kernel_rfl) ?_
   exact W.fi (by kernel_rfl)
   ) ?_
  (revert h53; refine bind_rev fun r56 hx64 h53 => ?_)
  refine CodeOk.endR (tl 19 [(3, V.int (IntKind.wrap .i64 (y37 + r56))), (7, .sl false false (a0.kids.map encSTree)), (8, V.int (a0.kids.length : Int)), (9, V.int y38)]) [] mix (by
   refine W.run D_ok 2 164 (by kernel_rfl) ?_
   refine W.call0 (HR.m_impl_tree__size e54 _ hx64) cok115 rfl (by kernel_rfl) ?_
   refine W.run D_ok 2 164 (by kernel_rfl) ?_
   exact W.fi (by kernel_rfl)
   ) (fun st hw => ?_)
  refine CodeOk.weak hw ?_
  refine ce D_ok mix 2 164 (tl 19 [(3, V.int (IntKind.wrap .i64 (y37 + r56))), (7, .sl false false (a0.kids.map encSTree)), (8, V.int (a0.kids.length : Int)), (9, V.int (IntKind.wrap .i64 (y38 + 1)))]) [] (by kernel_rfl) (fun st hw => ?_)
  exact ih54 (a0, (IntKind.wrap .i64 (y37 + r56)), (IntKind.wrap .i64 (y38 + 1))) h53 _ (hw.trans (Weak.sel [] [3, 7, 8, 9] (by kernel_rfl) (by kernel_rfl) (by kernel_rfl)))
 refine CodeOk.ifF hc56 (by kernel_rfl) ?_
 refine CodeOk.exit ?_
 refine cu D_ok mix 2 163 (tl 19 [(2, V.int y37)]) [] (by kernel_rfl) ?_
 refine CodeOk.ret ?_
 have h53 := Option.some.inj h53
 subst h53
 exact Ends.gen [] (.inr rfl) (RetV.one rfl (OneR.tmp (t := 2) (r := V.int y37) (by kernel_rfl))) (by kernel_rfl) (by kernel_rfl) (by kernel_rfl)

theorem scc2_ok : ∀ N, RecOk2 (scc2 N)
  | 0 => ⟨fun _ _ h => (by cases h)⟩
  | N + 1 => ⟨fun a0 _ h => m_impl_tree__size_F_ok N (scc2 N) (scc2_ok N) a0 h⟩

theorem m_impl_tree__size_ok (N : Nat) (a0 : STree) {r : Int} (h : m_impl_tree__size N a0 = some r) :
    AC Tryd.prog (GS []) 115 [.agg [V.int a0.kind, V.int a0.op, V.str a0.text, V.str a0.other, .sl false false (a0.kids.map encSTree)]] [] (V.int r) [] :=
  (scc2_ok N).m_impl_tree__size a0 r h

structure RecOk3 (R : Rec3) : Prop where
  m_impl_tree__depth : ∀ (a0 : STree) (r : Int), R.m_impl_tree__depth a0 = some r → AC Tryd.prog (GS []) 116 [.agg [V.int a0.kind, V.int a0.op, V.str a0.text, V.str a0.other, .sl false false (a0.kids.map encSTree)]] [] (V.int r) []

theorem m_impl_tree__depth_F_ok (N : Nat) (R : Rec3) (HR : RecOk3 R) (a0 : STree) {r : Int} (h : m_impl_tree__depth_F N R a0 = some r) :
    AC Tryd.prog (GS []) 116 [.agg [V.int a0.kind, V.int a0.op, V.str a0.text, V.str a0.other, .sl false false (a0.kids.map encSTree)]] [] (V.int r) [] := by
 rw [m_impl_tree__depth_F] at h
 refine AC.enter Tryd.func116 rfl ?_
 refine cu D_ok mix 2 100 (tl 20 [(1, .loc 100 0)]) [(100, .cells 111 [V.int a0.kind, V.int a0.op, V.str a0.text, V.str a0.other, .sl false false (a0.kids.map encSTree)])] (by kernel_rfl) ?_
 refine cu D_ok mix 1 101 (tl 20 [(1, .loc 100 0), (3, V.int 0)]) [(100, .cells 111 [V.int a0.kind, V.int a0.op, V.str a0.text, V.str a0.other, .sl false false (a0.kids.map encSTree)])] (by kernel_rfl) ?_
 refine CodeOk.seq' ?_
 refine CodeOk.cutR (tl 20 [(3, V.int 0), (7, .sl false false (a0.kids.map encSTree)), (8, V.int (a0.kids.length : Int)), (9, V.int 0)]) [] mix (by
  refine W.run D_ok 2 101 (by kernel_rfl) ?_
  refine W.len D_ok encSTree a0.kids [] (by kernel_rfl) (by kernel_rfl) ?_
  refine W.run D_ok 1 101 (by kernel_rfl) ?_
  exact W.fi (by kernel_rfl)
  ) ?_
 refine CodeOk.block' ?_
 refine CodeOk.loopJ (fun (⟨a0, y37, y38⟩ : (STree × Int × Int)) => ⟨tl 20 [(3, V.int y37), (7, .sl false false (a0.kids.map encSTree)), (8, V.int (a0.kids.length : Int)), (9, V.int y38)], []⟩) (fun n i => m_impl_tree__depth_l1 N R n i = some r) (n0 := N) (i0 := (a0, 0, 0)) (Weak.sel [] [3, 7, 8, 9] (by kernel_rfl) (by kernel_rfl) (by kernel_rfl)) h (fun i h => by simp [m_impl_tree__depth_l1] at h) ?_
 rintro n1 ⟨a0, y37, y38⟩ h53 ih54
 rw [m_impl_tree__depth_l1] at h53
 refine cu D_ok mix 1 163 (tl 20 [(3, V.int y37), (7, .sl false false (a0.kids.map encSTree)), (8, V.int (a0.kids.length : Int)), (9, V.int y38), (10, V.bool (decide (y38 < (a0.kids.length : Int))))]) [] (by kernel_rfl) ?_
 refine CodeOk.seq' ?_
 (revert h53; refine cond_rev (fun hc56 h53 => ?_) (fun hc56 h53 => ?_))
 ·refine CodeOk.ifT hc56 (by kernel_rfl) ?_
  refine CodeOk.skip ?_
  refine CodeOk.seq' ?_
  refine CodeOk.block' ?_
  (revert h53; refine bind_rev fun e54 hx62 h53 => ?_)
  refine CodeOk.cutR (tl 20 [(3, V.int y37), (5, .loc 163 0), (7, .sl false false (a0.kids.map encSTree)), (8, V.int (a0.kids.length : Int)), (9, V.int y38)]) [(163, .cells 111 [V.int e54.kind, V.int e54.op, V.str e54.text, V.str e54.other, .sl false false (e54.kids.map encSTree)])] mix (by
   refine W.ixDr D_ok encSTree hx62 5 (by kernel_rfl) (encSTree_eq e54) (by kernel_rfl) ?_
   refine W.run D_ok 3 163 (by kernel_rfl) ?_
   exact W.fi (by kernel_rfl)
   ) ?_
  (revert h53; refine bind_rev fun r56 hx64 h53 => ?_)
  refine CodeOk.endR (tl 20 [(3, V.int (if r56 > y37 then r56 else y37)), (7, .sl false false (a0.kids.map encSTree)), (8, V.int (a0.kids.length : Int)), (9, V.int y38)]) [] mix (by
   refine W.run D_ok 2 164 (by kernel_rfl) ?_
   refine W.call0 (HR.m_impl_tree__depth e54 _ hx64) cok116 rfl (by kernel_rfl) ?_
   refine W.run D_ok 2 164 (by kernel_rfl) ?_
   exact W.fi (by kernel_rfl)
   ) (fun st hw => ?_)
  refine CodeOk.weak hw ?_
  refine ce D_ok mix 2 164 (tl 20 [(3, V.int (if r56 > y37 then r56 else y37)), (7, .sl false false (a0.kids.map encSTree)), (8, V.int (a0.kids.length : Int)), (9, V.int (IntKind.wrap .i64 (y38 + 1)))]) [] (by kernel_rfl) (fun st hw => ?_)
  exact ih54 (a0, (if r56 > y37 then r56 else y37), (IntKind.wrap .i64 (y38 + 1))) h53 _ (hw.trans (Weak.sel [] [3, 7, 8, 9] (by kernel_rfl) (by kernel_rfl) (by kernel_rfl)))
 refine CodeOk.ifF hc56 (by kernel_rfl) ?_
 refine CodeOk.exit ?_
 refine cu D_ok mix 3 163 (tl 20 [(2, V.int (IntKind.wrap .i64 (y37 + 1)))]) [] (by kernel_rfl) ?_
 refine CodeOk.ret ?_
 have h53 := Option.some.inj h53
 subst h53
 exact Ends.gen [] (.inr rfl) (RetV.one rfl (OneR.tmp (t := 2) (r := V.int (IntKind.wrap .i64 (y37 + 1))) (by kernel_rfl))) (by kernel_rfl) (by kernel_rfl) (by kernel_rfl)

theorem scc3_ok : ∀ N, RecOk3 (scc3 N)
  | 0 => ⟨fun _ _ h => (by cases h)⟩
  | N + 1 => ⟨fun a0 _ h => m_impl_tree__depth_F_ok N (scc3 N) (scc3_ok N) a0 h⟩

theorem m_impl_tree__depth_ok (N : Nat) (a0 : STree) {r : Int} (h : m_impl_tree__depth N a0 = some r) :
    AC Tryd.prog (GS []) 116 [.agg [V.int a0.kind, V.int a0.op, V.str a0.text, V.str a0.other, .sl false false (a0.kids.map encSTree)]] [] (V.int r) [] :=
  (scc3_ok N).m_impl_tree__depth a0 r h

theorem m_impl_bounded_ok (N : Nat) (a0 : STree) {r : SFault} (h : m_impl_bounded N a0 = some r) :
    AC Tryd.prog (GS []) 73 [.agg [V.int a0.kind, V.int a0.op, V.str a0.text, V.str a0.other, .sl false false (a0.kids.map encSTree)]] [] (.agg [V.int r.Kind, V.int r.At]) [] := by
 rw [m_impl_bounded] at h
 refine AC.enter Tryd.func73 rfl ?_
 refine cu D_ok mix 2 100 (tl 14 [(1, .loc 100 0), (2, .loc 101 0)]) [(101, .cells 40 [V.int 0, V.int 0]), (100, .cells 111 [V.int a0.kind, V.int a0.op, V.str a0.text, V.str a0.other, .sl false false (a0.kids.map encSTree)])] (by kernel_rfl) ?_
 refine CodeOk.seq' ?_
 refine CodeOk.block' ?_
 (revert h; refine bind_rev fun r6 hx8 h => ?_)
 refine CodeOk.cutR (tl 14 [(1, .loc 100 0), (2, .loc 101 0), (3, V.bool (decide (r6 > 400)))]) [(101, .cells 40 [V.int 0, V.int 0]), (100, .cells 111 [V.int a0.kind, V.int a0.op, V.str a0.text, V.str a0.other, .sl false false (a0.kids.map encSTree)])] mix (by
  refine W.run D_ok 1 102 (by kernel_rfl) ?_
  refine W.call0 (m_impl_tree__size_ok N a0 hx8) cok115 rfl (by kernel_rfl) ?_
  refine W.run D_ok 2 102 (by kernel_rfl) ?_
  exact W.fi (by kernel_rfl)
  ) ?_
 (revert h; refine cond_rev (fun hc9 h => ?_) (fun hc9 h => ?_))
 ·refine CodeOk.ifT hc9 (by kernel_rfl) ?_
  refine cu D_ok mix 2 102 (tl 14 [(2, .loc 101 0)]) [(101, .cells 40 [V.int 1, V.int 0])] (by kernel_rfl) ?_
  refine CodeOk.ret ?_
  have h := Option.some.inj h
  subst h
  exact Ends.gen [] (.inr rfl) (RetV.one rfl (OneR.cell D_ok (r := .agg [V.int 1, V.int 0]) (i := 101) (ety := 40) (cs := [V.int 1, V.int 0]) (by kernel_rfl) (by kernel_rfl) (by kernel_rfl))) (by kernel_rfl) (by kernel_rfl) (by kernel_rfl)
 refine CodeOk.ifF hc9 (by kernel_rfl) ?_
 (revert h; refine bind_rev fun r8 hx11 h => ?_)
 refine CodeOk.cutR (tl 14 [(2, .loc 101 0), (8, V.bool (decide (r8 > 40)))]) [(101, .cells 40 [V.int 0, V.int 0])] mix (by
  refine W.run D_ok 1 102 (by kernel_rfl) ?_
  refine W.call0 (m_impl_tree__depth_ok N a0 hx11) cok116 rfl (by kernel_rfl) ?_
  refine W.run D_ok 2 102 (by kernel_rfl) ?_
  exact W.fi (by kernel_rfl)
  ) ?_
 (revert h; refine cond_rev (fun hc12 h => ?_) (fun hc12 h => ?_))
 ·refine CodeOk.ifT hc12 (by kernel_rfl) ?_
  refine cu D_ok mix 2 102 (tl 14 [(2, .loc 101 0)]) [(101, .cells 40 [V.int 4, V.int 0])] (by kernel_rfl) ?_
  refine CodeOk.ret ?_
  have h := Option.some.inj h
  subst h
  exact Ends.gen [] (.inr rfl) (RetV.one rfl (OneR.cell D_ok (r := .agg [V.int 4, V.int 0]) (i := 101) (ety := 40) (cs := [V.int 4, V.int 0]) (by kernel_rfl) (by kernel_rfl) (by kernel_rfl))) (by kernel_rfl) (by kernel_rfl) (by kernel_rfl)
 refine CodeOk.ifF hc12 (by kernel_rfl) ?_
 refine CodeOk.skip ?_
 refine cu D_ok mix 2 102 (tl 14 [(2, .loc 101 0)]) [(101, .cells 40 [V.int 0, V.int 0])] (by kernel_rfl) ?_
 refine CodeOk.ret ?_
 have h := Option.some.inj h
 subst h
 exact Ends.gen [] (.inr rfl) (RetV.one rfl (OneR.cell D_ok (r := .agg [V.int 0, V.int 0]) (i := 101) (ety := 40) (cs := [V.int 0, V.int 0]) (by kernel_rfl) (by kernel_rfl) (by kernel_rfl))) (by kernel_rfl) (by kernel_rfl) (by kernel_rfl)

structure RecOk4 (R : Rec4) : Prop where
  m_impl_tree__add : ∀ (a0 : STree) (p0 : List SNode) (r : (List SNode)), R.m_impl_tree__add a0 p0 = some r → AC Tryd.prog (GS []) 117 [.agg [V.int a0.kind, V.int a0.op, V.str a0.text, V.str a0.other, .sl false false (a0.kids.map encSTree)], .own 0] [(0, .vec false 45 5 (p0.map (encSNode true)))] (.own 100) [(100, .vec false 45 5 (r.map (encSNode true)))]

theorem m_impl_tree__add_F_ok (N : Nat) (R : Rec4) (HR : RecOk4 R) (a0 : STree) (p0 : List SNode) {r : (List SNode)} (h : m_impl_tree__add_F N R a0 p0 = some r) :
    AC Tryd.prog (GS []) 117 [.agg [V.int a0.kind, V.int a0.op, V.str a0.text, V.str a0.other, .sl false false (a0.kids.map encSTree)], .own 0] [(0, .vec false 45 5 (p0.map (encSNode true)))] (.own 100) [(100, .vec false 45 5 (r.map (encSNode true)))] := by
 rw [m_impl_tree__add_F] at h
 refine AC.enter Tryd.func117 rfl ?_
 refine cu D_ok mix 2 100 (tl 40 [(1, .own 0), (2, .loc 100 0)]) [(100, .cells 111 [V.int a0.kind, V.int a0.op, V.str a0.text, V.str a0.other, .sl false false (a0.kids.map encSTree)]), (0, .vec false 45 5 (p0.map (encSNode true)))] (by kernel_rfl) ?_
 refine cu D_ok mix 11 101 (tl 40 [(1, .own 0), (2, .loc 100 0), (5, .loc 101 0)]) [(101, .cells 45 [V.int a0.kind, V.int a0.op, V.str a0.text, V.str a0.other, .c (.slice none 0 0)]), (100, .cells 111 [V.int a0.kind, V.int a0.op, V.str a0.text, V.str a0.other, .sl false false (a0.kids.map encSTree)]), (0, .vec false 45 5 (p0.map (encSNode true)))] (by kernel_rfl) ?_
 refine CodeOk.seq' ?_
 refine CodeOk.cutR (tl 40 [(1, .own 0), (5, .loc 101 0), (18, .sl false false (a0.kids.map encSTree)), (19, V.int (a0.kids.length : Int)), (20, V.int 0)]) [(101, .cells 45 [V.int a0.kind, V.int a0.op, V.str a0.text, V.str a0.other, .c (.slice none 0 0)]), (0, .vec false 45 5 (p0.map (encSNode true)))] mix (by
  refine W.run D_ok 2 102 (by kernel_rfl) ?_
  refine W.len D_ok encSTree a0.kids [] (by kernel_rfl) (by kernel_rfl) ?_
  refine W.run D_ok 1 102 (by kernel_rfl) ?_
  exact W.fi (by kernel_rfl)
  ) ?_
 refine CodeOk.block' ?_
 refine CodeOk.loopJ (fun (⟨a0, y59, y60, y61⟩ : (STree × Int × (List SNode) × (List Int))) => ⟨tl 40 [(1, .own 100), (5, .loc 101 0), (18, .sl false false (a0.kids.map encSTree)), (19, V.int (a0.kids.length : Int)), (20, V.int y59)], [(100, .vec false 45 5 (y60.map (encSNode true))), (101, .cells 45 [V.int a0.kind, V.int a0.op, V.str a0.text, V.str a0.other, .own 102]), (102, .vec false 3 1 (y61.map encI))]⟩) (fun n i => m_impl_tree__add_l1 N R n i = some r) (n0 := N) (i0 := (a0, 0, p0, [])) ((Weak.nilCell 101 4 102 3 1 (ety := 45) (cs := [V.int a0.kind, V.int a0.op, V.str a0.text, V.str a0.other, .c (.slice none 0 0)]) (by kernel_rfl) (by kernel_rfl) (by kernel_rfl)).trans (Weak.sel [(0, 100), (101, 101), (102, 102)] [1, 5, 18, 19, 20] (by kernel_rfl) (by kernel_rfl) (by kernel_rfl))) h (fun i h => by simp [m_impl_tree__add_l1] at h) ?_
 rintro n1 ⟨a0, y59, y60, y61⟩ h77 ih78
 rw [m_impl_tree__add_l1] at h77
 refine cu D_ok mix 1 171 (tl 40 [(1, .own 100), (5, .loc 101 0), (18, .sl false false (a0.kids.map encSTree)), (19, V.int (a0.kids.length : Int)), (20, V.int y59), (21, V.bool (decide (y59 < (a0.kids.length : Int))))]) [(100, .vec false 45 5 (y60.map (encSNode true))), (101, .cells 45 [V.int a0.kind, V.int a0.op, V.str a0.text, V.str a0.other, .own 102]), (102, .vec false 3 1 (y61.map encI))] (by kernel_rfl) ?_
 refine CodeOk.seq' ?_
 (revert h77; refine cond_rev (fun hc80 h77 => ?_) (fun hc80 h77 => ?_))
 ·refine CodeOk.ifT hc80 (by kernel_rfl) ?_
  refine CodeOk.skip ?_
  refine CodeOk.seq' ?_
  refine CodeOk.block' ?_
  (revert h77; refine bind_rev fun e84 hx88 h77 => ?_)
  refine CodeOk.cutR (tl 40 [(1, .own 100), (5, .loc 101 0), (7, .loc 171 0), (18, .sl false false (a0.kids.map encSTree)), (19, V.int (a0.kids.length : Int)), (20, V.int y59)]) [(171, .cells 111 [V.int e84.kind, V.int e84.op, V.str e84.text, V.str e84.other, .sl false false (e84.kids.map encSTree)]), (100, .vec false 45 5 (y60.map (encSNode true))), (101, .cells 45 [V.int a0.kind, V.int a0.op, V.str a0.text, V.str a0.other, .own 102]), (102, .vec false 3 1 (y61.map encI))] mix (by
   refine W.ixDr D_ok encSTree hx88 5 (by kernel_rfl) (encSTree_eq e84) (by kernel_rfl) ?_
   refine W.run D_ok 3 171 (by kernel_rfl) ?_
   exact W.fi (by kernel_rfl)
   ) ?_
  (revert h77; refine bind_rev fun r86 hx90 h77 => ?_)
  refine CodeOk.cutR (tl 40 [(1, .own 172), (5, .loc 101 0), (18, .sl false false (a0.kids.map encSTree)), (19, V.int (a0.kids.length : Int)), (20, V.int y59)]) [(172, .vec false 45 5 (r86.map (encSNode true))), (101, .cells 45 [V.int a0.kind, V.int a0.op, V.str a0.text, V.str a0.other, .own 102]), (102, .vec false 3 1 (y61.map encI))] mix (by
   refine W.run D_ok 2 172 (by kernel_rfl) ?_
   refine W.call (HR.m_impl_tree__add e84 y60 _ hx90) cok117 [(100, 0)] [(100, 172)] [172] (show LayOk _ [] from trivial) (by kernel_rfl) (by kernel_rfl) ?_
   refine W.run D_ok 1 173 (by kernel_rfl) ?_
   exact W.fi (by kernel_rfl)
   ) ?_
  (revert h77; refine bind_rev fun x88 hx92 h77 => ?_)
  refine CodeOk.endR (tl 40 [(1, .own 172), (5, .loc 101 0), (18, .sl false false (a0.kids.map encSTree)), (19, V.int (a0.kids.length : Int)), (20, V.int y59)]) [(101, .cells 45 [V.int a0.kind, V.int a0.op, V.str a0.text, V.str a0.other, .own 174]), (174, .vec false 3 1 (x88.map encI)), (172, .vec false 45 5 (r86.map (encSNode true)))] mix (by
   refine W.run D_ok 3 173 (by kernel_rfl) ?_
   refine W.len D_ok (encSNode true) r86 [172] (by kernel_rfl) (by kernel_rfl) ?_
   refine W.run D_ok 2 173 (by kernel_rfl) ?_
   refine W.appO D_ok encI (a := 102) (c := 173) (el := 3) (sz := 1) 8 hx92 rfl 174 (by kernel_rfl) ?_
   refine W.run D_ok 2 175 (by kernel_rfl) ?_
   exact W.fi (by kernel_rfl)
   ) (fun st hw => ?_)
  refine CodeOk.weak hw ?_
  refine ce D_ok mix 2 175 (tl 40 [(1, .own 172), (5, .loc 101 0), (18, .sl false false (a0.kids.map encSTree)), (19, V.int (a0.kids.length : Int)), (20, V.int (IntKind.wrap .i64 (y59 + 1)))]) [(101, .cells 45 [V.int a0.kind, V.int a0.op, V.str a0.text, V.str a0.other, .own 174]), (174, .vec false 3 1 (x88.map encI)), (172, .vec false 45 5 (r86.map (encSNode true)))] (by kernel_rfl) (fun st hw => ?_)
  exact ih78 (a0, (IntKind.wrap .i64 (y59 + 1)), r86, x88) h77 _ (hw.trans (Weak.sel [(172, 100), (101, 101), (174, 102)] [1, 5, 18, 19, 20] (by kernel_rfl) (by kernel_rfl) (by kernel_rfl)))
 refine CodeOk.ifF hc80 (by kernel_rfl) ?_
 refine CodeOk.exit ?_
 (revert h77; refine bind_rev fun x90 hx94 h77 => ?_)
 refine CodeOk.cutR (tl 40 [(4, .own 172)]) [(172, .vec false 45 5 (x90.map (encSNode true)))] mix (by
  refine W.run D_ok 3 171 (by kernel_rfl) ?_
  refine W.appO D_ok (encSNode true) (a := 100) (c := 171) (el := 45) (sz := 5) 72 hx94 rfl 172 (by kernel_rfl) ?_
  refine W.run D_ok 1 173 (by kernel_rfl) ?_
  exact W.fi (by kernel_rfl)
  ) ?_
 refine CodeOk.ret ?_
 have h77 := Option.some.inj h77
 subst h77
 exact Ends.gen [(172, 100)] (.inr rfl) (RetV.one rfl (OneR.tmp (t := 4) (r := .own 172) (by kernel_rfl))) (by kernel_rfl) (by kernel_rfl) (by kernel_rfl)

theorem scc4_ok : ∀ N, RecOk4 (scc4 N)
  | 0 => ⟨fun _ _ _ h => (by cases h)⟩
  | N + 1 => ⟨fun a0 p0 _ h => m_impl_tree__add_F_ok N (scc4 N) (scc4_ok N) a0 p0 h⟩

theorem m_impl_tree__add_ok (N : Nat) (a0 : STree) (p0 : List SNode) {r : (List SNode)} (h : m_impl_tree__add N a0 p0 = some r) :
    AC Tryd.prog (GS []) 117 [.agg [V.int a0.kind, V.int a0.op, V.str a0.text, V.str a0.other, .sl false false (a0.kids.map encSTree)], .own 0] [(0, .vec false 45 5 (p0.map (encSNode true)))] (.own 100) [(100, .vec false 45 5 (r.map (encSNode true)))] :=
  (scc4_ok N).m_impl_tree__add a0 p0 r h

theorem m_impl_tree__list_ok (N : Nat) (a0 : STree) {r : (List SNode)} (h : m_impl_tree__list N a0 = some r) :
    AC Tryd.prog (GS []) 74 [.agg [V.int a0.kind, V.int a0.op, V.str a0.text, V.str a0.other, .sl false false (a0.kids.map encSTree)]] [] (.own 100) [(100, .vec false 45 5 (r.map (encSNode true)))] := by
 rw [m_impl_tree__list] at h
 refine AC.enter Tryd.func74 rfl ?_
 refine cu D_ok mix 2 100 (tl 5 [(1, .loc 100 0)]) [(100, .cells 111 [V.int a0.kind, V.int a0.op, V.str a0.text, V.str a0.other, .sl false false (a0.kids.map encSTree)])] (by kernel_rfl) ?_
 (revert h; refine bind_rev fun r2 hx2 h => ?_)
 refine CodeOk.cutR (tl 5 [(2, .own 101)]) [(101, .vec false 45 5 (r2.map (encSNode true)))] mix (by
  refine W.run D_ok 1 101 (by kernel_rfl) ?_
  refine W.callK (AC.nilArg 1 0 45 5 (m_impl_tree__add_ok N a0 [] hx2) (by kernel_rfl) (by kernel_rfl) (by kernel_rfl) (by kernel_rfl) rfl) cok117 [] [(100, 101)] [1] [101] (show LayOk _ [] from trivial) (by kernel_rfl) (by kernel_rfl) ?_
  refine W.run D_ok 1 102 (by kernel_rfl) ?_
  exact W.fi (by kernel_rfl)
  ) ?_
 refine CodeOk.ret ?_
 have h := Option.some.inj h
 subst h
 exact Ends.gen [(101, 100)] (.inr rfl) (RetV.one rfl (OneR.tmp (t := 2) (r := .own 101) (by kernel_rfl))) (by kernel_rfl) (by kernel_rfl) (by kernel_rfl)

theorem m_impl_ParseExpr_ok (N : Nat) (a0 : List SToken) (a1 : SPos) {r : ((List SNode) × Int × SFault)} (h : m_impl_ParseExpr N a0 a1 = some r) :
    AC Tryd.prog (GS [0, 1, 5]) 45 [.sl false false (a0.map encSToken), .agg [V.int a1.Level, V.bool a1.Dollar, V.bool a1.NoIn, V.bool a1.NoGt, V.bool a1.NoSign]] [] (.tup [.own 100, V.int r.2.1, .agg [V.int r.2.2.Kind, V.int r.2.2.At]]) [(100, .vec false 45 5 (r.1.map (encSNode true)))] := by
 rw [m_impl_ParseExpr] at h
 refine AC.enter Tryd.func45 rfl ?_
 refine cu D_ok mix 4 100 (tl 53 [(0, .sl false false (a0.map encSToken)), (3, .loc 100 0), (6, .loc 101 0)]) [(101, .cells 40 [V.int 0, V.int 0]), (100, .cells 84 [V.int a1.Level, V.bool a1.Dollar, V.bool a1.NoIn, V.bool a1.NoGt, V.bool a1.NoSign])] (by kernel_rfl) ?_
 refine CodeOk.seq' ?_
 (revert h; refine bind_rev fun r4 hx5 h => ?_)
 refine CodeOk.cutR (tl 53 [(0, .sl false false (a0.map encSToken)), (3, .loc 100 0), (6, .loc 101 0), (13, V.bool (!r4))]) [(101, .cells 40 [V.int 0, V.int 0]), (100, .cells 84 [V.int a1.Level, V.bool a1.Dollar, V.bool a1.NoIn, V.bool a1.NoGt, V.bool a1.NoSign])] mix (by
  refine W.run D_ok 1 102 (by kernel_rfl) ?_
  refine W.call0 (AC.gs (m_impl_PosOk_ok a1 hx5) (by decide)) cok70 rfl (by kernel_rfl) ?_
  refine W.run D_ok 1 102 (by kernel_rfl) ?_
  exact W.fi (by kernel_rfl)
  ) ?_
 (revert h; refine cond_rev (fun hc6 h => ?_) (fun hc6 h => ?_))
 ·refine CodeOk.ifT hc6 (by kernel_rfl) ?_
  refine cu D_ok mix 4 102 (tl 53 [(4, .c (.slice none 0 0)), (5, V.int 0), (6, .loc 101 0)]) [(101, .cells 40 [V.int 3, V.int 0])] (by kernel_rfl) ?_
  refine CodeOk.weak (Weak.nil 4 102 45 5 (by kernel_rfl) (by kernel_rfl)) ?_
  refine CodeOk.ret ?_
  have h := Option.some.inj h
  subst h
  exact Ends.gen [(102, 100)] (.inr rfl) (RetV.three rfl (OneR.tmp (t := 4) (r := .own 102) (by kernel_rfl)) (OneR.tmp (t := 5) (r := V.int 0) (by kernel_rfl)) (OneR.cell D_ok (r := .agg [V.int 3, V.int 0]) (i := 101) (ety := 40) (cs := [V.int 3, V.int 0]) (by kernel_rfl) (by kernel_rfl) (by kernel_rfl))) (by kernel_rfl) (by kernel_rfl) (by kernel_rfl)
 refine CodeOk.ifF hc6 (by kernel_rfl) ?_
 refine CodeOk.skip ?_
 refine CodeOk.seq' ?_
 (revert h; refine bind_rev fun r8 hx11 h => ?_)
 refine CodeOk.cutR (tl 53 [(0, .sl false false (a0.map encSToken)), (3, .loc 100 0), (6, .loc 101 0), (7, .loc 102 0)]) [(102, .cells 40 [V.int r8.Kind, V.int r8.At]), (101, .cells 40 [V.int 0, V.int 0]), (100, .cells 84 [V.int a1.Level, V.bool a1.Dollar, V.bool a1.NoIn, V.bool a1.NoGt, V.bool a1.NoSign])] mix (by
  refine W.run D_ok 1 102 (by kernel_rfl) ?_
  refine W.call0 (m_impl_checked_ok N a0 hx11) cok71 rfl (by kernel_rfl) ?_
  refine W.run D_ok 2 102 (by kernel_rfl) ?_
  exact W.fi (by kernel_rfl)
  ) ?_
 refine cu D_ok mix 3 103 (tl 53 [(0, .sl false false (a0.map encSToken)), (3, .loc 100 0), (6, .loc 101 0), (7, .loc 102 0), (19, V.bool (!((r8.Kind == 0) && ((r8.At == 0) && true))))]) [(102, .cells 40 [V.int r8.Kind, V.int r8.At]), (101, .cells 40 [V.int 0, V.int 0]), (100, .cells 84 [V.int a1.Level, V.bool a1.Dollar, V.bool a1.NoIn, V.bool a1.NoGt, V.bool a1.NoSign])] (by kernel_rfl) ?_
 (revert h; refine cond_rev (fun hc12 h => ?_) (fun hc12 h => ?_))
 ·refine CodeOk.ifT hc12 (by kernel_rfl) ?_
  refine cu D_ok mix 4 103 (tl 53 [(4, .c (.slice none 0 0)), (5, V.int 0), (6, .loc 101 0)]) [(101, .cells 40 [V.int r8.Kind, V.int r8.At])] (by kernel_rfl) ?_
  refine CodeOk.weak (Weak.nil 4 103 45 5 (by kernel_rfl) (by kernel_rfl)) ?_
  refine CodeOk.ret ?_
  have h := Option.some.inj h
  subst h
  exact Ends.gen [(103, 100)] (.inr rfl) (RetV.three rfl (OneR.tmp (t := 4) (r := .own 103) (by kernel_rfl)) (OneR.tmp (t := 5) (r := V.int 0) (by kernel_rfl)) (OneR.cell D_ok (r := .agg [V.int r8.Kind, V.int r8.At]) (i := 101) (ety := 40) (cs := [V.int r8.Kind, V.int r8.At]) (by kernel_rfl) (by kernel_rfl) (by kernel_rfl))) (by kernel_rfl) (by kernel_rfl) (by kernel_rfl)
 refine CodeOk.ifF hc12 (by kernel_rfl) ?_
 refine CodeOk.skip ?_
 refine cu D_ok mix 4 103 (tl 53 [(0, .sl false false (a0.map encSToken)), (3, .loc 100 0), (6, .loc 101 0), (8, .loc 103 0)]) [(103, .cells 108 [.sl false false (a0.map encSToken), V.int 0, V.bool false, .c (.slice none 0 0)]), (101, .cells 40 [V.int 0, V.int 0]), (100, .cells 84 [V.int a1.Level, V.bool a1.Dollar, V.bool a1.NoIn, V.bool a1.NoGt, V.bool a1.NoSign])] (by kernel_rfl) ?_
 refine CodeOk.weak (st' := ⟨tl 53 [(0, .sl false false (a0.map encSToken)), (3, .loc 100 0), (6, .loc 101 0), (8, .loc 103 0)], [(104, .vec false 9 1 ([].map encS)), (103, .cells 108 [.sl false false (a0.map encSToken), V.int 0, V.bool false, .own 104]), (101, .cells 40 [V.int 0, V.int 0]), (100, .cells 84 [V.int a1.Level, V.bool a1.Dollar, V.bool a1.NoIn, V.bool a1.NoGt, V.bool a1.NoSign])]⟩) ((Weak.nilCell 103 3 104 9 1 (ety := 108) (cs := [.sl false false (a0.map encSToken), V.int 0, V.bool false, .c (.slice none 0 0)]) (by kernel_rfl) (by kernel_rfl) (by kernel_rfl)).trans (Weak.eq (by kernel_rfl) (by kernel_rfl))) ?_
 (revert h; refine bind_rev fun r11 hx15 h => ?_)
 refine CodeOk.cutR (tl 53 [(0, .sl false false (a0.map encSToken)), (6, .loc 101 0), (8, .loc 103 0), (9, .loc 106 0)]) [(106, .cells 113 [V.int r11.1.tree.kind, V.int r11.1.tree.op, V.str r11.1.tree.text, V.str r11.1.tree.other, .sl false false (r11.1.tree.kids.map encSTree), V.bool r11.1.target]), (105, .vec false 9 1 (r11.2.2.2.map encS)), (103, .cells 108 [.sl false false (a0.map encSToken), V.int r11.2.1, V.bool r11.2.2.1, .own 105]), (101, .cells 40 [V.int 0, V.int 0])] mix (by
  refine W.run D_ok 2 105 (by kernel_rfl) ?_
  refine W.call (AC.gs (m_impl_parser__level_ok N a1 a0 0 false [] hx15) (by decide)) cok72 [(103, 0), (104, 1)] [(0, 103), (100, 105)] [105] (show LayOk _ [] from trivial) (by kernel_rfl) (by kernel_rfl) ?_
  refine W.run D_ok 2 106 (by kernel_rfl) ?_
  exact W.fi (by kernel_rfl)
  ) ?_
 refine CodeOk.seq' ?_
 refine cu D_ok mix 4 107 (tl 53 [(0, .sl false false (a0.map encSToken)), (6, .loc 101 0), (8, .loc 103 0), (9, .loc 106 0), (30, V.bool r11.2.2.1)]) [(106, .cells 113 [V.int r11.1.tree.kind, V.int r11.1.tree.op, V.str r11.1.tree.text, V.str r11.1.tree.other, .sl false false (r11.1.tree.kids.map encSTree), V.bool r11.1.target]), (105, .vec false 9 1 (r11.2.2.2.map encS)), (103, .cells 108 [.sl false false (a0.map encSToken), V.int r11.2.1, V.bool r11.2.2.1, .own 105]), (101, .cells 40 [V.int 0, V.int 0])] (by kernel_rfl) ?_
 (revert h; refine cond_rev (fun hc19 h => ?_) (fun hc19 h => ?_))
 ·refine CodeOk.ifT hc19 (by kernel_rfl) ?_
  (revert h; refine bind_rev fun r15 hx21 h => ?_)
  refine CodeOk.cutR (tl 53 [(4, .c (.slice none 0 0)), (5, V.int 0), (6, .loc 101 0)]) [(101, .cells 40 [V.int 3, V.int r15])] mix (by
   refine W.run D_ok 5 107 (by kernel_rfl) ?_
   refine W.call0 (AC.gs (m_impl_placeOf_ok a0 r11.2.1 hx21) (by decide)) cok47 rfl (by kernel_rfl) ?_
   refine W.run D_ok 4 107 (by kernel_rfl) ?_
   exact W.fi (by kernel_rfl)
   ) ?_
  refine CodeOk.weak (Weak.nil 4 107 45 5 (by kernel_rfl) (by kernel_rfl)) ?_
  refine CodeOk.ret ?_
  have h := Option.some.inj h
  subst h
  exact Ends.gen [(107, 100)] (.inr rfl) (RetV.three rfl (OneR.tmp (t := 4) (r := .own 107) (by kernel_rfl)) (OneR.tmp (t := 5) (r := V.int 0) (by kernel_rfl)) (OneR.cell D_ok (r := .agg [V.int 3, V.int r15]) (i := 101) (ety := 40) (cs := [V.int 3, V.int r15]) (by kernel_rfl) (by kernel_rfl) (by kernel_rfl))) (by kernel_rfl) (by kernel_rfl) (by kernel_rfl)
 refine CodeOk.ifF hc19 (by kernel_rfl) ?_
 refine CodeOk.skip ?_
 refine CodeOk.seq' ?_
 (revert h; refine bind_rev fun r19 hx26 h => ?_)
 refine CodeOk.cutR (tl 53 [(6, .loc 101 0), (8, .loc 103 0), (9, .loc 106 0), (10, .loc 107 0)]) [(107, .cells 40 [V.int r19.Kind, V.int r19.At]), (106, .cells 113 [V.int r11.1.tree.kind, V.int r11.1.tree.op, V.str r11.1.tree.text, V.str r11.1.tree.other, .sl false false (r11.1.tree.kids.map encSTree), V.bool r11.1.target]), (105, .vec false 9 1 (r11.2.2.2.map encS)), (103, .cells 108 [.sl false false (a0.map encSToken), V.int r11.2.1, V.bool r11.2.2.1, .own 105]), (101, .cells 40 [V.int 0, V.int 0])] mix (by
  refine W.run D_ok 2 107 (by kernel_rfl) ?_
  refine W.call0 (AC.gs (m_impl_bounded_ok N r11.1.tree hx26) (by decide)) cok73 rfl (by kernel_rfl) ?_
  refine W.run D_ok 2 107 (by kernel_rfl) ?_
  exact W.fi (by kernel_rfl)
  ) ?_
 refine cu D_ok mix 3 108 (tl 53 [(6, .loc 101 0), (8, .loc 103 0), (9, .loc 106 0), (10, .loc 107 0), (43, V.bool (!((r19.Kind == 0) && ((r19.At == 0) && true))))]) [(107, .cells 40 [V.int r19.Kind, V.int r19.At]), (106, .cells 113 [V.int r11.1.tree.kind, V.int r11.1.tree.op, V.str r11.1.tree.text, V.str r11.1.tree.other, .sl false false (r11.1.tree.kids.map encSTree), V.bool r11.1.target]), (105, .vec false 9 1 (r11.2.2.2.map encS)), (103, .cells 108 [.sl false false (a0.map encSToken), V.int r11.2.1, V.bool r11.2.2.1, .own 105]), (101, .cells 40 [V.int 0, V.int 0])] (by kernel_rfl) ?_
 (revert h; refine cond_rev (fun hc27 h => ?_) (fun hc27 h => ?_))
 ·refine CodeOk.ifT hc27 (by kernel_rfl) ?_
  refine cu D_ok mix 4 108 (tl 53 [(4, .c (.slice none 0 0)), (5, V.int 0), (6, .loc 101 0)]) [(101, .cells 40 [V.int r19.Kind, V.int r19.At])] (by kernel_rfl) ?_
  refine CodeOk.weak (Weak.nil 4 108 45 5 (by kernel_rfl) (by kernel_rfl)) ?_
  refine CodeOk.ret ?_
  have h := Option.some.inj h
  subst h
  exact Ends.gen [(108, 100)] (.inr rfl) (RetV.three rfl (OneR.tmp (t := 4) (r := .own 108) (by kernel_rfl)) (OneR.tmp (t := 5) (r := V.int 0) (by kernel_rfl)) (OneR.cell D_ok (r := .agg [V.int r19.Kind, V.int r19.At]) (i := 101) (ety := 40) (cs := [V.int r19.Kind, V.int r19.At]) (by kernel_rfl) (by kernel_rfl) (by kernel_rfl))) (by kernel_rfl) (by kernel_rfl) (by kernel_rfl)
 refine CodeOk.ifF hc27 (by kernel_rfl) ?_
 refine CodeOk.skip ?_
 (revert h; refine bind_rev fun r21 hx29 h => ?_)
 refine CodeOk.cutR (tl 53 [(4, .own 108), (5, V.int r11.2.1), (6, .loc 101 0)]) [(101, .cells 40 [V.int 0, V.int 0]), (108, .vec false 45 5 (r21.map (encSNode true)))] mix (by
  refine W.run D_ok 2 108 (by kernel_rfl) ?_
  refine W.call (AC.gs (m_impl_tree__list_ok N r11.1.tree hx29) (by decide)) cok74 [] [(100, 108)] [108] (show LayOk _ [] from trivial) (by kernel_rfl) (by kernel_rfl) ?_
  refine W.run D_ok 8 109 (by kernel_rfl) ?_
  exact W.fi (by kernel_rfl)
  ) ?_
 refine CodeOk.ret ?_
 have h := Option.some.inj h
 subst h
 exact Ends.gen [(108, 100)] (.inr rfl) (RetV.three rfl (OneR.tmp (t := 4) (r := .own 108) (by kernel_rfl)) (OneR.tmp (t := 5) (r := V.int r11.2.1) (by kernel_rfl)) (OneR.cell D_ok (r := .agg [V.int 0, V.int 0]) (i := 101) (ety := 40) (cs := [V.int 0, V.int 0]) (by kernel_rfl) (by kernel_rfl) (by kernel_rfl))) (by kernel_rfl) (by kernel_rfl) (by kernel_rfl)

theorem m_impl_ReadExpr_ok (N : Nat) (a0 : List UInt8) {r : ((List SNode) × SFault)} (h : m_impl_ReadExpr N a0 = some r) :
    AC Tryd.prog (GS [0, 1, 5]) 21 [V.str a0] [] (.tup [.own 100, .agg [V.int r.2.Kind, V.int r.2.At]]) [(100, .vec false 45 5 (r.1.map (encSNode true)))] := by
 rw [m_impl_ReadExpr] at h
 refine AC.enter Tryd.func21 rfl ?_
 refine cu D_ok mix 2 100 (tl 38 [(0, V.str a0), (3, .loc 100 0)]) [(100, .cells 40 [V.int 0, V.int 0])] (by kernel_rfl) ?_
 (revert h; refine bind_rev fun r2 hx2 h => ?_)
 refine CodeOk.cutR (tl 38 [(3, .loc 100 0), (4, .own 101), (5, .loc 102 0)]) [(102, .cells 40 [V.int r2.2.Kind, V.int r2.2.At]), (101, .vec false 118 3 (r2.1.map encSToken)), (100, .cells 40 [V.int 0, V.int 0])] mix (by
  refine W.run D_ok 1 101 (by kernel_rfl) ?_
  refine W.call (m_impl_Lex_ok N a0 hx2) cok44 [] [(100, 101)] [101] (show LayOk _ [] from trivial) (by kernel_rfl) (by kernel_rfl) ?_
  refine W.run D_ok 6 102 (by kernel_rfl) ?_
  exact W.fi (by kernel_rfl)
  ) ?_
 refine CodeOk.seq' ?_
 refine cu D_ok mix 3 103 (tl 38 [(3, .loc 100 0), (4, .own 101), (5, .loc 102 0), (15, V.bool (!((r2.2.Kind == 0) && ((r2.2.At == 0) && true))))]) [(102, .cells 40 [V.int r2.2.Kind, V.int r2.2.At]), (101, .vec false 118 3 (r2.1.map encSToken)), (100, .cells 40 [V.int 0, V.int 0])] (by kernel_rfl) ?_
 (revert h; refine cond_rev (fun hc4 h => ?_) (fun hc4 h => ?_))
 ·refine CodeOk.ifT hc4 (by kernel_rfl) ?_
  refine cu D_ok mix 3 103 (tl 38 [(2, .c (.slice none 0 0)), (3, .loc 100 0)]) [(100, .cells 40 [V.int r2.2.Kind, V.int r2.2.At])] (by kernel_rfl) ?_
  refine CodeOk.weak (Weak.nil 2 103 45 5 (by kernel_rfl) (by kernel_rfl)) ?_
  refine CodeOk.ret ?_
  have h := Option.some.inj h
  subst h
  exact Ends.gen [(103, 100)] (.inr rfl) (RetV.two rfl (OneR.tmp (t := 2) (r := .own 103) (by kernel_rfl)) (OneR.cell D_ok (r := .agg [V.int r2.2.Kind, V.int r2.2.At]) (i := 100) (ety := 40) (cs := [V.int r2.2.Kind, V.int r2.2.At]) (by kernel_rfl) (by kernel_rfl) (by kernel_rfl))) (by kernel_rfl) (by kernel_rfl) (by kernel_rfl)
 refine CodeOk.ifF hc4 (by kernel_rfl) ?_
 refine CodeOk.skip ?_
 (revert h; refine bind_rev fun r5 hx7 h => ?_)
 (revert h; refine bind_rev fun r6 hx8 h => ?_)
 refine CodeOk.cutR (tl 38 [(3, .loc 100 0), (4, .own 101), (5, .loc 102 0), (6, .own 103), (7, V.int r6.2.1)]) [(102, .cells 40 [V.int r6.2.2.Kind, V.int r6.2.2.At]), (103, .vec false 45 5 (r6.1.map (encSNode true))), (101, .vec false 118 3 (r2.1.map encSToken)), (100, .cells 40 [V.int 0, V.int 0])] mix (by
  refine W.run D_ok 1 103 (by kernel_rfl) ?_
  refine W.call0 (AC.gs (m_impl_Top_ok  hx7) (by decide)) cok46 rfl (by kernel_rfl) ?_
  refine W.lend (m_impl_ParseExpr_ok N r2.1 r5 hx8) cok45 [(100, 103)] [103] (LayOk.cons (j := 101) encSToken encSToken r2.1 (by kernel_rfl) (fun _ => rfl) (show LayOk _ [] from trivial)) (.tup _ (.cons (.own _) (.cons (.c _) (.cons (.agg _ (.cons (.c _) (.cons (.c _) .nil))) .nil)))) (.cons (DeepR.map (fun _ => (.cons (.c _) (.cons (.c _) (.cons (.c _) (.cons (.c _) (.cons (.sl _ _ (DeepR.map (fun _ => (.cons (.c _) .nil)) _)) .nil)))))) _) .nil) (by kernel_rfl) (by kernel_rfl) ?_
  refine W.run D_ok 7 104 (by kernel_rfl) ?_
  exact W.fi (by kernel_rfl)
  ) ?_
 refine CodeOk.seq' ?_
 refine cu D_ok mix 3 104 (tl 38 [(3, .loc 100 0), (4, .own 101), (5, .loc 102 0), (6, .own 103), (7, V.int r6.2.1), (26, V.bool (!((r6.2.2.Kind == 0) && ((r6.2.2.At == 0) && true))))]) [(102, .cells 40 [V.int r6.2.2.Kind, V.int r6.2.2.At]), (103, .vec false 45 5 (r6.1.map (encSNode true))), (101, .vec false 118 3 (r2.1.map encSToken)), (100, .cells 40 [V.int 0, V.int 0])] (by kernel_rfl) ?_
 (revert h; refine cond_rev (fun hc10 h => ?_) (fun hc10 h => ?_))
 ·refine CodeOk.ifT hc10 (by kernel_rfl) ?_
  refine cu D_ok mix 3 104 (tl 38 [(2, .c (.slice none 0 0)), (3, .loc 100 0)]) [(100, .cells 40 [V.int r6.2.2.Kind, V.int r6.2.2.At])] (by kernel_rfl) ?_
  refine CodeOk.weak (Weak.nil 2 104 45 5 (by kernel_rfl) (by kernel_rfl)) ?_
  refine CodeOk.ret ?_
  have h := Option.some.inj h
  subst h
  exact Ends.gen [(104, 100)] (.inr rfl) (RetV.two rfl (OneR.tmp (t := 2) (r := .own 104) (by kernel_rfl)) (OneR.cell D_ok (r := .agg [V.int r6.2.2.Kind, V.int r6.2.2.At]) (i := 100) (ety := 40) (cs := [V.int r6.2.2.Kind, V.int r6.2.2.At]) (by kernel_rfl) (by kernel_rfl) (by kernel_rfl))) (by kernel_rfl) (by kernel_rfl) (by kernel_rfl)
 refine CodeOk.ifF hc10 (by kernel_rfl) ?_
 refine CodeOk.skip ?_
 refine CodeOk.seq' ?_
 refine CodeOk.cutR (tl 38 [(3, .loc 100 0), (4, .own 101), (6, .own 103), (7, V.int r6.2.1), (31, V.bool (decide (r6.2.1 < (r2.1.length : Int))))]) [(103, .vec false 45 5 (r6.1.map (encSNode true))), (101, .vec false 118 3 (r2.1.map encSToken)), (100, .cells 40 [V.int 0, V.int 0])] mix (by
  refine W.run D_ok 2 104 (by kernel_rfl) ?_
  refine W.len D_ok encSToken r2.1 [101] (by kernel_rfl) (by kernel_rfl) ?_
  refine W.run D_ok 1 104 (by kernel_rfl) ?_
  exact W.fi (by kernel_rfl)
  ) ?_
 (revert h; refine cond_rev (fun hc14 h => ?_) (fun hc14 h => ?_))
 ·refine CodeOk.ifT hc14 (by kernel_rfl) ?_
  (revert h; refine bind_rev fun r10 hx16 h => ?_)
  refine CodeOk.cutR (tl 38 [(2, .c (.slice none 0 0)), (3, .loc 100 0)]) [(100, .cells 40 [V.int 3, V.int r10])] mix (by
   refine W.run D_ok 2 104 (by kernel_rfl) ?_
   refine W.lend (AC.gs (m_impl_placeOf_ok r2.1 r6.2.1 hx16) (by decide)) cok47 [] [] (LayOk.cons (j := 101) encSToken encSToken r2.1 (by kernel_rfl) (fun _ => rfl) (show LayOk _ [] from trivial)) (.c _) .nil (by kernel_rfl) (by kernel_rfl) ?_
   refine W.run D_ok 3 104 (by kernel_rfl) ?_
   exact W.fi (by kernel_rfl)
   ) ?_
  refine CodeOk.weak (Weak.nil 2 104 45 5 (by kernel_rfl) (by kernel_rfl)) ?_
  refine CodeOk.ret ?_
  have h := Option.some.inj h
  subst h
  exact Ends.gen [(104, 100)] (.inr rfl) (RetV.two rfl (OneR.tmp (t := 2) (r := .own 104) (by kernel_rfl)) (OneR.cell D_ok (r := .agg [V.int 3, V.int r10]) (i := 100) (ety := 40) (cs := [V.int 3, V.int r10]) (by kernel_rfl) (by kernel_rfl) (by kernel_rfl))) (by kernel_rfl) (by kernel_rfl) (by kernel_rfl)
 refine CodeOk.ifF hc14 (by kernel_rfl) ?_
 refine CodeOk.skip ?_
 refine cu D_ok mix 4 104 (tl 38 [(2, .own 103), (3, .loc 100 0)]) [(100, .cells 40 [V.int 0, V.int 0]), (103, .vec false 45 5 (r6.1.map (encSNode true)))] (by kernel_rfl) ?_
 refine CodeOk.ret ?_
 have h := Option.some.inj h
 subst h
 exact Ends.gen [(103, 100)] (.inr rfl) (RetV.two rfl (OneR.tmp (t := 2) (r := .own 103) (by kernel_rfl)) (OneR.cell D_ok (r := .agg [V.int 0, V.int 0]) (i := 100) (ety := 40) (cs := [V.int 0, V.int 0]) (by kernel_rfl) (by kernel_rfl) (by kernel_rfl))) (by kernel_rfl) (by kernel_rfl) (by kernel_rfl)

theorem m_spec_l6Ints_ok (N : Nat) (a0 : List Int) (a1 : List Int) {r : Bool} (h : m_spec_l6Ints N a0 a1 = some r) :
    AC Tryd.prog (GS []) 51 [.sl false false (a0.map encI), .sl false false (a1.map encI)] [] (V.bool r) [] := by
 rw [m_spec_l6Ints] at h
 refine AC.enter Tryd.func51 rfl ?_
 refine cu D_ok mix 1 100 (tl 26 [(0, .sl false false (a0.map encI)), (1, .sl false false (a1.map encI))]) [] (by kernel_rfl) ?_
 refine CodeOk.seq' ?_
 refine CodeOk.cutR (tl 26 [(0, .sl false false (a0.map encI)), (1, .sl false false (a1.map encI)), (10, V.bool ((a0.length : Int) != (a1.length : Int)))]) [] mix (by
  refine W.run D_ok 1 100 (by kernel_rfl) ?_
  refine W.len D_ok encI a0 [] (by kernel_rfl) (by kernel_rfl) ?_
  refine W.run D_ok 1 100 (by kernel_rfl) ?_
  refine W.len D_ok encI a1 [] (by kernel_rfl) (by kernel_rfl) ?_
  refine W.run D_ok 1 100 (by kernel_rfl) ?_
  exact W.fi (by kernel_rfl)
  ) ?_
 (revert h; refine cond_rev (fun hc2 h => ?_) (fun hc2 h => ?_))
 ·refine CodeOk.ifT hc2 (by kernel_rfl) ?_
  refine cu D_ok mix 1 100 (tl 26 [(4, V.bool false)]) [] (by kernel_rfl) ?_
  refine CodeOk.ret ?_
  have h := Option.some.inj h
  subst h
  exact Ends.gen [] (.inr rfl) (RetV.one rfl (OneR.tmp (t := 4) (r := V.bool false) (by kernel_rfl))) (by kernel_rfl) (by kernel_rfl) (by kernel_rfl)
 refine CodeOk.ifF hc2 (by kernel_rfl) ?_
 refine CodeOk.skip ?_
 refine CodeOk.seq' ?_
 refine cu D_ok mix 1 100 (tl 26 [(0, .sl false false (a0.map encI)), (1, .sl false false (a1.map encI)), (5, V.int 0)]) [] (by kernel_rfl) ?_
 refine CodeOk.block' ?_
 refine CodeOk.loopJ (fun (⟨a0, a1, y35⟩ : ((List Int) × (List Int) × Int)) => ⟨tl 26 [(0, .sl false false (a0.map encI)), (1, .sl false false (a1.map encI)), (5, V.int y35)], []⟩) (fun n i => m_spec_l6Ints_l1 N n i = some r) (n0 := N) (i0 := (a0, a1, 0)) (Weak.sel [] [0, 1, 5] (by kernel_rfl) (by kernel_rfl) (by kernel_rfl)) h (fun i h => by simp [m_spec_l6Ints_l1] at h) ?_
 rintro n1 ⟨a0, a1, y35⟩ h65 ih66
 rw [m_spec_l6Ints_l1] at h65
 refine CodeOk.seq' ?_
 refine CodeOk.cutR (tl 26 [(0, .sl false false (a0.map encI)), (1, .sl false false (a1.map encI)), (5, V.int y35), (14, V.bool (decide (y35 < (a0.length : Int))))]) [] mix (by
  refine W.run D_ok 2 160 (by kernel_rfl) ?_
  refine W.len D_ok encI a0 [] (by kernel_rfl) (by kernel_rfl) ?_
  refine W.run D_ok 1 160 (by kernel_rfl) ?_
  exact W.fi (by kernel_rfl)
  ) ?_
 (revert h65; refine cond_rev (fun hc68 h65 => ?_) (fun hc68 h65 => ?_))
 ·refine CodeOk.ifT hc68 (by kernel_rfl) ?_
  refine CodeOk.skip ?_
  refine CodeOk.seq' ?_
  refine CodeOk.block' ?_
  (revert h65; refine bind_rev fun e51 hx76 h65 => ?_)
  (revert h65; refine bind_rev fun e52 hx77 h65 => ?_)
  refine CodeOk.cutR (tl 26 [(0, .sl false false (a0.map encI)), (1, .sl false false (a1.map encI)), (5, V.int y35), (25, V.bool (e51 != e52))]) [] mix (by
   refine W.run D_ok 2 160 (by kernel_rfl) ?_
   refine W.ixD D_ok encI hx76 1 (by kernel_rfl) (by kernel_rfl) ?_
   refine W.run D_ok 3 160 (by kernel_rfl) ?_
   refine W.ixD D_ok encI hx77 1 (by kernel_rfl) (by kernel_rfl) ?_
   refine W.run D_ok 2 160 (by kernel_rfl) ?_
   exact W.fi (by kernel_rfl)
   ) ?_
  (revert h65; refine cond_rev (fun hc78 h65 => ?_) (fun hc78 h65 => ?_))
  ·refine CodeOk.ifT hc78 (by kernel_rfl) ?_
   refine cu D_ok mix 1 160 (tl 26 [(4, V.bool false)]) [] (by kernel_rfl) ?_
   refine CodeOk.ret ?_
   have h65 := Option.some.inj h65
   subst h65
   exact Ends.gen [] (.inr rfl) (RetV.one rfl (OneR.tmp (t := 4) (r := V.bool false) (by kernel_rfl))) (by kernel_rfl) (by kernel_rfl) (by kernel_rfl)
  refine CodeOk.ifF hc78 (by kernel_rfl) ?_
  refine CodeOk.skip ?_
  refine ce D_ok mix 3 160 (tl 26 [(0, .sl false false (a0.map encI)), (1, .sl false false (a1.map encI)), (5, V.int (IntKind.wrap .i64 (y35 + 1)))]) [] (by kernel_rfl) (fun st hw => ?_)
  exact ih66 (a0, a1, (IntKind.wrap .i64 (y35 + 1))) h65 _ (hw.trans (Weak.sel [] [0, 1, 5] (by kernel_rfl) (by kernel_rfl) (by kernel_rfl)))
 refine CodeOk.ifF hc68 (by kernel_rfl) ?_
 refine CodeOk.exit ?_
 refine cu D_ok mix 1 160 (tl 26 [(4, V.bool true)]) [] (by kernel_rfl) ?_
 refine CodeOk.ret ?_
 have h65 := Option.some.inj h65
 subst h65
 exact Ends.gen [] (.inr rfl) (RetV.one rfl (OneR.tmp (t := 4) (r := V.bool true) (by kernel_rfl))) (by kernel_rfl) (by kernel_rfl) (by kernel_rfl)

theorem m_spec_SameTree_ok (N : Nat) (a0 : List SNode) (a1 : List SNode) {r : Bool} (h : m_spec_SameTree N a0 a1 = some r) :
    AC Tryd.prog (GS []) 24 [.sl false false (a0.map (encSNode false)), .sl false false (a1.map (encSNode false))] [] (V.bool r) [] := by
 rw [m_spec_SameTree] at h
 refine AC.enter Tryd.func24 rfl ?_
 refine cu D_ok mix 1 100 (tl 81 [(0, .sl false false (a0.map (encSNode false))), (1, .sl false false (a1.map (encSNode false)))]) [] (by kernel_rfl) ?_
 refine CodeOk.seq' ?_
 refine CodeOk.cutR (tl 81 [(0, .sl false false (a0.map (encSNode false))), (1, .sl false false (a1.map (encSNode false))), (10, V.bool ((a0.length : Int) != (a1.length : Int)))]) [] mix (by
  refine W.run D_ok 1 100 (by kernel_rfl) ?_
  refine W.len D_ok (encSNode false) a0 [] (by kernel_rfl) (by kernel_rfl) ?_
  refine W.run D_ok 1 100 (by kernel_rfl) ?_
  refine W.len D_ok (encSNode false) a1 [] (by kernel_rfl) (by kernel_rfl) ?_
  refine W.run D_ok 1 100 (by kernel_rfl) ?_
  exact W.fi (by kernel_rfl)
  ) ?_
 (revert h; refine cond_rev (fun hc2 h => ?_) (fun hc2 h => ?_))
 ·refine CodeOk.ifT hc2 (by kernel_rfl) ?_
  refine cu D_ok mix 1 100 (tl 81 [(4, V.bool false)]) [] (by kernel_rfl) ?_
  refine CodeOk.ret ?_
  have h := Option.some.inj h
  subst h
  exact Ends.gen [] (.inr rfl) (RetV.one rfl (OneR.tmp (t := 4) (r := V.bool false) (by kernel_rfl))) (by kernel_rfl) (by kernel_rfl) (by kernel_rfl)
 refine CodeOk.ifF hc2 (by kernel_rfl) ?_
 refine CodeOk.skip ?_
 refine CodeOk.seq' ?_
 refine cu D_ok mix 1 100 (tl 81 [(0, .sl false false (a0.map (encSNode false))), (1, .sl false false (a1.map (encSNode false))), (5, V.int 0)]) [] (by kernel_rfl) ?_
 refine CodeOk.block' ?_
 refine CodeOk.loopJ (fun (⟨a0, a1, y187⟩ : ((List SNode) × (List SNode) × Int)) => ⟨tl 81 [(0, .sl false false (a0.map (encSNode false))), (1, .sl false false (a1.map (encSNode false))), (5, V.int y187)], []⟩) (fun n i => m_spec_SameTree_l1 N n i = some r) (n0 := N) (i0 := (a0, a1, 0)) (Weak.sel [] [0, 1, 5] (by kernel_rfl) (by kernel_rfl) (by kernel_rfl)) h (fun i h => by simp [m_spec_SameTree_l1] at h) ?_
 rintro n1 ⟨a0, a1, y187⟩ h335 ih336
 rw [m_spec_SameTree_l1] at h335
 refine CodeOk.seq' ?_
 refine CodeOk.cutR (tl 81 [(0, .sl false false (a0.map (encSNode false))), (1, .sl false false (a1.map (encSNode false))), (5, V.int y187), (14, V.bool (decide (y187 < (a0.length : Int))))]) [] mix (by
  refine W.run D_ok 2 160 (by kernel_rfl) ?_
  refine W.len D_ok (encSNode false) a0 [] (by kernel_rfl) (by kernel_rfl) ?_
  refine W.run D_ok 1 160 (by kernel_rfl) ?_
  exact W.fi (by kernel_rfl)
  ) ?_
 (revert h335; refine cond_rev (fun hc338 h335 => ?_) (fun hc338 h335 => ?_))
 ·refine CodeOk.ifT hc338 (by kernel_rfl) ?_
  refine CodeOk.skip ?_
  refine CodeOk.seq' ?_
  refine CodeOk.block' ?_
  (revert h335; refine bind_rev fun y269 hv386 h335 => ?_)
  refine CodeOk.cutR (tl 81 [(0, .sl false false (a0.map (encSNode false))), (1, .sl false false (a1.map (encSNode false))), (5, V.int y187), (80, V.bool y269)]) [] mix (by
   refine W.run D_ok 2 160 (by kernel_rfl) ?_
   (revert hv386; refine bind_rev fun e270 hx387 hv386 => ?_)
   refine W.ixD D_ok (encSNode false) hx387 5 (by kernel_rfl) (by kernel_rfl) ?_
   refine W.run D_ok 4 160 (by kernel_rfl) ?_
   (revert hv386; refine bind_rev fun e271 hx388 hv386 => ?_)
   refine W.ixD D_ok (encSNode false) hx388 5 (by kernel_rfl) (by kernel_rfl) ?_
   refine W.run D_ok 4 160 (by kernel_rfl) ?_
   (revert hv386; refine cond_rev (fun hc389 hv386 => ?_) (fun hc389 hv386 => ?_))
   ·refine W.is 28 hc389 (by kernel_rfl) ?_
    refine W.run D_ok 52 160 (by kernel_rfl) ?_
    have hv386 := Option.some.inj hv386
    subst hv386
    exact W.fs [] [0, 1, 5, 80] (by kernel_rfl)
   refine W.is 28 hc389 (by kernel_rfl) ?_
   refine W.run D_ok 2 160 (by kernel_rfl) ?_
   (revert hv386; refine bind_rev fun e272 hx390 hv386 => ?_)
   refine W.ixD D_ok (encSNode false) hx390 5 (by kernel_rfl) (by kernel_rfl) ?_
   refine W.run D_ok 4 160 (by kernel_rfl) ?_
   (revert hv386; refine bind_rev fun e273 hx391 hv386 => ?_)
   refine W.ixD D_ok (encSNode false) hx391 5 (by kernel_rfl) (by kernel_rfl) ?_
   refine W.run D_ok 5 160 (by kernel_rfl) ?_
   (revert hv386; refine cond_rev (fun hc392 hv386 => ?_) (fun hc392 hv386 => ?_))
   ·refine W.is 41 hc392 (by kernel_rfl) ?_
    refine W.run D_ok 39 160 (by kernel_rfl) ?_
    have hv386 := Option.some.inj hv386
    subst hv386
    exact W.fs [] [0, 1, 5, 80] (by kernel_rfl)
   refine W.is 41 hc392 (by kernel_rfl) ?_
   refine W.run D_ok 2 160 (by kernel_rfl) ?_
   (revert hv386; refine bind_rev fun e274 hx393 hv386 => ?_)
   refine W.ixD D_ok (encSNode false) hx393 5 (by kernel_rfl) (by kernel_rfl) ?_
   refine W.run D_ok 4 160 (by kernel_rfl) ?_
   (revert hv386; refine bind_rev fun e275 hx394 hv386 => ?_)
   refine W.ixD D_ok (encSNode false) hx394 5 (by kernel_rfl) (by kernel_rfl) ?_
   refine W.run D_ok 5 160 (by kernel_rfl) ?_
   (revert hv386; refine cond_rev (fun hc395 hv386 => ?_) (fun hc395 hv386 => ?_))
   ·refine W.is 54 hc395 (by kernel_rfl) ?_
    refine W.run D_ok 26 160 (by kernel_rfl) ?_
    have hv386 := Option.some.inj hv386
    subst hv386
    exact W.fs [] [0, 1, 5, 80] (by kernel_rfl)
   refine W.is 54 hc395 (by kernel_rfl) ?_
   refine W.run D_ok 2 160 (by kernel_rfl) ?_
   (revert hv386; refine bind_rev fun e276 hx396 hv386 => ?_)
   refine W.ixD D_ok (encSNode false) hx396 5 (by kernel_rfl) (by kernel_rfl) ?_
   refine W.run D_ok 4 160 (by kernel_rfl) ?_
   (revert hv386; refine bind_rev fun e277 hx397 hv386 => ?_)
   refine W.ixD D_ok (encSNode false) hx397 5 (by kernel_rfl) (by kernel_rfl) ?_
   refine W.run D_ok 5 160 (by kernel_rfl) ?_
   (revert hv386; refine cond_rev (fun hc398 hv386 => ?_) (fun hc398 hv386 => ?_))
   ·refine W.is 67 hc398 (by kernel_rfl) ?_
    refine W.run D_ok 13 160 (by kernel_rfl) ?_
    have hv386 := Option.some.inj hv386
    subst hv386
    exact W.fs [] [0, 1, 5, 80] (by kernel_rfl)
   refine W.is 67 hc398 (by kernel_rfl) ?_
   refine W.run D_ok 2 160 (by kernel_rfl) ?_
   (revert hv386; refine bind_rev fun e278 hx399 hv386 => ?_)
   refine W.ixD D_ok (encSNode false) hx399 5 (by kernel_rfl) (by kernel_rfl) ?_
   refine W.run D_ok 4 160 (by kernel_rfl) ?_
   (revert hv386; refine bind_rev fun e279 hx400 hv386 => ?_)
   refine W.ixD D_ok (encSNode false) hx400 5 (by kernel_rfl) (by kernel_rfl) ?_
   refine W.run D_ok 2 160 (by kernel_rfl) ?_
   (revert hv386; refine bind_rev fun r280 hx401 hv386 => ?_)
   refine W.call0 (m_spec_l6Ints_ok N e278.Kids e279.Kids hx401) cok51 rfl (by kernel_rfl) ?_
   refine W.run D_ok 2 160 (by kernel_rfl) ?_
   have hv386 := Option.some.inj hv386
   subst hv386
   exact W.fs [] [0, 1, 5, 80] (by kernel_rfl)
   ) ?_
  (revert h335; refine cond_rev (fun hc402 h335 => ?_) (fun hc402 h335 => ?_))
  ·refine CodeOk.ifT hc402 (by kernel_rfl) ?_
   refine cu D_ok mix 1 160 (tl 81 [(4, V.bool false)]) [] (by kernel_rfl) ?_
   refine CodeOk.ret ?_
   have h335 := Option.some.inj h335
   subst h335
   exact Ends.gen [] (.inr rfl) (RetV.one rfl (OneR.tmp (t := 4) (r := V.bool false) (by kernel_rfl))) (by kernel_rfl) (by kernel_rfl) (by kernel_rfl)
  refine CodeOk.ifF hc402 (by kernel_rfl) ?_
  refine CodeOk.skip ?_
  refine ce D_ok mix 3 160 (tl 81 [(0, .sl false false (a0.map (encSNode false))), (1, .sl false false (a1.map (encSNode false))), (5, V.int (IntKind.wrap .i64 (y187 + 1)))]) [] (by kernel_rfl) (fun st hw => ?_)
  exact ih336 (a0, a1, (IntKind.wrap .i64 (y187 + 1))) h335 _ (hw.trans (Weak.sel [] [0, 1, 5] (by kernel_rfl) (by kernel_rfl) (by kernel_rfl)))
 refine CodeOk.ifF hc338 (by kernel_rfl) ?_
 refine CodeOk.exit ?_
 refine cu D_ok mix 1 160 (tl 81 [(4, V.bool true)]) [] (by kernel_rfl) ?_
 refine CodeOk.ret ?_
 have h335 := Option.some.inj h335
 subst h335
 exact Ends.gen [] (.inr rfl) (RetV.one rfl (OneR.tmp (t := 4) (r := V.bool true) (by kernel_rfl))) (by kernel_rfl) (by kernel_rfl) (by kernel_rfl)

theorem m_laws_FnLevels_ok (N : Nat) (a0 : List UInt8) {r : Bool} (h : m_laws_FnLevels N a0 = some r) :
    AC Tryd.prog (GS [0, 1, 5]) 6 [.sl false false (a0.map byteRow)] [] (V.bool r) [] := by
 rw [m_laws_FnLevels] at h
 refine AC.enter Tryd.func6 rfl ?_
 refine cu D_ok mix 1 100 (tl 136 [(0, .sl false false (a0.map byteRow))]) [] (by kernel_rfl) ?_
 refine CodeOk.seq' ?_
 (revert h; refine bind_rev fun r4 hx5 h => ?_)
 refine CodeOk.cutR (tl 136 [(0, .sl false false (a0.map byteRow)), (16, V.bool r4)]) [] mix (by
  refine W.run D_ok 1 100 (by kernel_rfl) ?_
  refine W.call0 (AC.gs (m_laws_big_ok a0 hx5) (by decide)) cok8 rfl (by kernel_rfl) ?_
  exact W.fi (by kernel_rfl)
  ) ?_
 (revert h; refine cond_rev (fun hc6 h => ?_) (fun hc6 h => ?_))
 ·refine CodeOk.ifT hc6 (by kernel_rfl) ?_
  refine cu D_ok mix 1 100 (tl 136 [(2, V.bool true)]) [] (by kernel_rfl) ?_
  refine CodeOk.ret ?_
  have h := Option.some.inj h
  subst h
  exact Ends.gen [] (.inr rfl) (RetV.one rfl (OneR.tmp (t := 2) (r := V.bool true) (by kernel_rfl))) (by kernel_rfl) (by kernel_rfl) (by kernel_rfl)
 refine CodeOk.ifF hc6 (by kernel_rfl) ?_
 refine CodeOk.skip ?_
 refine cu D_ok mix 2 100 (tl 136 [(0, .sl false false (a0.map byteRow)), (3, .own 100)]) [(100, .vec false 3 1 ([60, 57, 58, 59, 55, 56, 63, 47, 49, 67, 46, 45, 44].map encI))] (by kernel_rfl) ?_
 (revert h; refine bind_rev fun r7 hx9 h => ?_)
 (revert h; refine bind_rev fun e8 hx10 h => ?_)
 refine CodeOk.cutR (tl 136 [(0, .sl false false (a0.map byteRow)), (3, .own 100), (4, V.int e8)]) [(100, .vec false 3 1 ([60, 57, 58, 59, 55, 56, 63, 47, 49, 67, 46, 45, 44].map encI))] mix (by
  refine W.run D_ok 2 101 (by kernel_rfl) ?_
  refine W.call0 (AC.gs (m_laws_at_ok a0 0 hx9) (by decide)) cok13 rfl (by kernel_rfl) ?_
  refine W.run D_ok 1 101 (by kernel_rfl) ?_
  refine W.len D_ok encI [60, 57, 58, 59, 55, 56, 63, 47, 49, 67, 46, 45, 44] [100] (by kernel_rfl) (by kernel_rfl) ?_
  refine W.run D_ok 1 101 (by kernel_rfl) ?_
  refine W.ixO D_ok encI hx10 100 1 (by kernel_rfl) ?_
  refine W.ldO D_ok encI hx10 3 100 0 (V.int e8) (by kernel_rfl) (by kernel_rfl) ?_
  refine W.run D_ok 1 101 (by kernel_rfl) ?_
  exact W.fi (by kernel_rfl)
  ) ?_
 (revert h; refine bind_rev fun r11 hx13 h => ?_)
 (revert h; refine bind_rev fun e12 hx14 h => ?_)
 refine CodeOk.cutR (tl 136 [(4, V.int e8), (5, V.int e12)]) [] mix (by
  refine W.run D_ok 2 101 (by kernel_rfl) ?_
  refine W.call0 (AC.gs (m_laws_at_ok a0 1 hx13) (by decide)) cok13 rfl (by kernel_rfl) ?_
  refine W.run D_ok 1 101 (by kernel_rfl) ?_
  refine W.len D_ok encI [60, 57, 58, 59, 55, 56, 63, 47, 49, 67, 46, 45, 44] [100] (by kernel_rfl) (by kernel_rfl) ?_
  refine W.run D_ok 1 101 (by kernel_rfl) ?_
  refine W.ixO D_ok encI hx14 100 1 (by kernel_rfl) ?_
  refine W.ldO D_ok encI hx14 3 100 0 (V.int e12) (by kernel_rfl) (by kernel_rfl) ?_
  refine W.run D_ok 1 101 (by kernel_rfl) ?_
  exact W.fi (by kernel_rfl)
  ) ?_
 (revert h; refine bind_rev fun r14 hx16 h => ?_)
 refine CodeOk.cutR (tl 136 [(4, V.int e8), (5, V.int e12), (6, V.int r14)]) [] mix (by
  refine W.run D_ok 1 101 (by kernel_rfl) ?_
  refine W.call0 (AC.gs (m_impl_OpLevel_ok e8 hx16) (by decide)) cok22 rfl (by kernel_rfl) ?_
  refine W.run D_ok 1 101 (by kernel_rfl) ?_
  exact W.fi (by kernel_rfl)
  ) ?_
 (revert h; refine bind_rev fun r16 hx18 h => ?_)
 refine CodeOk.cutR (tl 136 [(4, V.int e8), (5, V.int e12), (6, V.int r14), (7, V.int r16)]) [] mix (by
  refine W.run D_ok 1 101 (by kernel_rfl) ?_
  refine W.call0 (AC.gs (m_impl_OpLevel_ok e12 hx18) (by decide)) cok22 rfl (by kernel_rfl) ?_
  refine W.run D_ok 1 101 (by kernel_rfl) ?_
  exact W.fi (by kernel_rfl)
  ) ?_
 (revert h; refine bind_rev fun r23 hx25 h => ?_)
 (revert h; refine bind_rev fun s24 hx26 h => ?_)
 (revert h; refine bind_rev fun s25 hx27 h => ?_)
 (revert h; refine bind_rev fun r26 hx28 h => ?_)
 (revert h; refine bind_rev fun s27 hx29 h => ?_)
 (revert h; refine bind_rev fun s28 hx30 h => ?_)
 refine CodeOk.cutR (tl 136 [(4, V.int e8), (5, V.int e12), (6, V.int r14), (7, V.int r16), (8, V.str s28)]) [] mix (by
  refine W.run D_ok 1 101 (by kernel_rfl) ?_
  refine W.call0 (AC.gs (m_impl_OpSpell_ok e8 hx25) (by decide)) cok23 rfl (by kernel_rfl) ?_
  refine W.cat hx26 (by kernel_rfl) ?_
  refine W.cat hx27 (by kernel_rfl) ?_
  refine W.run D_ok 1 101 (by kernel_rfl) ?_
  refine W.call0 (AC.gs (m_impl_OpSpell_ok e12 hx28) (by decide)) cok23 rfl (by kernel_rfl) ?_
  refine W.cat hx29 (by kernel_rfl) ?_
  refine W.cat hx30 (by kernel_rfl) ?_
  refine W.run D_ok 1 101 (by kernel_rfl) ?_
  exact W.fi (by kernel_rfl)
  ) ?_
 (revert h; refine bind_rev fun r30 hx32 h => ?_)
 refine CodeOk.cutR (tl 136 [(4, V.int e8), (5, V.int e12), (6, V.int r14), (7, V.int r16), (9, .own 101), (10, .loc 102 0)]) [(102, .cells 40 [V.int r30.2.Kind, V.int r30.2.At]), (101, .vec false 45 5 (r30.1.map (encSNode true)))] mix (by
  refine W.run D_ok 1 101 (by kernel_rfl) ?_
  refine W.call (m_impl_ReadExpr_ok N s28 hx32) cok21 [] [(100, 101)] [101] (show LayOk _ [] from trivial) (by kernel_rfl) (by kernel_rfl) ?_
  refine W.run D_ok 6 102 (by kernel_rfl) ?_
  exact W.fi (by kernel_rfl)
  ) ?_
 refine CodeOk.seq' ?_
 (revert h; refine bind_rev fun y35 hv46 h => ?_)
 refine CodeOk.cutR (tl 136 [(4, V.int e8), (5, V.int e12), (6, V.int r14), (7, V.int r16), (9, .own 100), (10, .loc 101 0), (61, V.bool y35)]) [(100, .vec false 45 5 (r30.1.map (encSNode true))), (101, .cells 40 [V.int r30.2.Kind, V.int r30.2.At])] mix (by
  refine W.run D_ok 4 103 (by kernel_rfl) ?_
  (revert hv46; refine cond_rev (fun hc47 hv46 => ?_) (fun hc47 hv46 => ?_))
  ·refine W.is 54 hc47 (by kernel_rfl) ?_
   refine W.run D_ok 3 103 (by kernel_rfl) ?_
   (revert hv46; refine cond_rev (fun hc48 hv46 => ?_) (fun hc48 hv46 => ?_))
   ·refine W.is 57 hc48 (by kernel_rfl) ?_
    refine W.run D_ok 4 103 (by kernel_rfl) ?_
    have hv46 := Option.some.inj hv46
    subst hv46
    exact W.fs [(101, 100), (102, 101)] [4, 5, 6, 7, 9, 10, 61] (by kernel_rfl)
   refine W.is 57 hc48 (by kernel_rfl) ?_
   refine W.run D_ok 4 103 (by kernel_rfl) ?_
   have hv46 := Option.some.inj hv46
   subst hv46
   exact W.fs [(101, 100), (102, 101)] [4, 5, 6, 7, 9, 10, 61] (by kernel_rfl)
  refine W.is 54 hc47 (by kernel_rfl) ?_
  refine W.run D_ok 7 103 (by kernel_rfl) ?_
  have hv46 := Option.some.inj hv46
  subst hv46
  exact W.fs [(101, 100), (102, 101)] [4, 5, 6, 7, 9, 10, 61] (by kernel_rfl)
  ) ?_
 (revert h; refine cond_rev (fun hc49 h => ?_) (fun hc49 h => ?_))
 ·refine CodeOk.ifT hc49 (by kernel_rfl) ?_
  (revert h; refine bind_rev fun y37 hv52 h => ?_)
  refine CodeOk.cutR (tl 136 [(2, V.bool y37)]) [] mix (by
   refine W.run D_ok 2 103 (by kernel_rfl) ?_
   (revert hv52; refine bind_rev fun r38 hx53 hv52 => ?_)
   refine W.call0 (AC.gs (m_impl_OpSpell_ok e8 hx53) (by decide)) cok23 rfl (by kernel_rfl) ?_
   refine W.run D_ok 5 103 (by kernel_rfl) ?_
   (revert hv52; refine cond_rev (fun hc54 hv52 => ?_) (fun hc54 hv52 => ?_))
   ·refine W.is 69 hc54 (by kernel_rfl) ?_
    refine W.run D_ok 1 103 (by kernel_rfl) ?_
    refine W.len D_ok (encSNode true) r30.1 [100] (by kernel_rfl) (by kernel_rfl) ?_
    refine W.run D_ok 3 103 (by kernel_rfl) ?_
    have hv52 := Option.some.inj hv52
    subst hv52
    exact W.fs [] [2] (by kernel_rfl)
   refine W.is 69 hc54 (by kernel_rfl) ?_
   refine W.run D_ok 5 103 (by kernel_rfl) ?_
   have hv52 := Option.some.inj hv52
   subst hv52
   exact W.fs [] [2] (by kernel_rfl)
   ) ?_
  refine CodeOk.ret ?_
  have h := Option.some.inj h
  subst h
  exact Ends.gen [] (.inr rfl) (RetV.one rfl (OneR.tmp (t := 2) (r := V.bool y37) (by kernel_rfl))) (by kernel_rfl) (by kernel_rfl) (by kernel_rfl)
 refine CodeOk.ifF hc49 (by kernel_rfl) ?_
 refine CodeOk.skip ?_
 refine CodeOk.seq' ?_
 (revert h; refine bind_rev fun y40 hv60 h => ?_)
 refine CodeOk.cutR (tl 136 [(4, V.int e8), (5, V.int e12), (6, V.int r14), (7, V.int r16), (9, .own 100), (81, V.bool y40)]) [(100, .vec false 45 5 (r30.1.map (encSNode true)))] mix (by
  refine W.run D_ok 4 103 (by kernel_rfl) ?_
  (revert hv60; refine cond_rev (fun hc61 hv60 => ?_) (fun hc61 hv60 => ?_))
  ·refine W.is 77 hc61 (by kernel_rfl) ?_
   refine W.run D_ok 4 103 (by kernel_rfl) ?_
   have hv60 := Option.some.inj hv60
   subst hv60
   exact W.fs [(100, 100)] [4, 5, 6, 7, 9, 81] (by kernel_rfl)
  refine W.is 77 hc61 (by kernel_rfl) ?_
  refine W.run D_ok 1 103 (by kernel_rfl) ?_
  refine W.len D_ok (encSNode true) r30.1 [100] (by kernel_rfl) (by kernel_rfl) ?_
  refine W.run D_ok 2 103 (by kernel_rfl) ?_
  have hv60 := Option.some.inj hv60
  subst hv60
  exact W.fs [(100, 100)] [4, 5, 6, 7, 9, 81] (by kernel_rfl)
  ) ?_
 (revert h; refine cond_rev (fun hc62 h => ?_) (fun hc62 h => ?_))
 ·refine CodeOk.ifT hc62 (by kernel_rfl) ?_
  refine cu D_ok mix 1 103 (tl 136 [(2, V.bool false)]) [] (by kernel_rfl) ?_
  refine CodeOk.ret ?_
  have h := Option.some.inj h
  subst h
  exact Ends.gen [] (.inr rfl) (RetV.one rfl (OneR.tmp (t := 2) (r := V.bool false) (by kernel_rfl))) (by kernel_rfl) (by kernel_rfl) (by kernel_rfl)
 refine CodeOk.ifF hc62 (by kernel_rfl) ?_
 refine CodeOk.skip ?_
 (revert h; refine bind_rev fun r48 hx70 h => ?_)
 (revert h; refine bind_rev fun s49 hx71 h => ?_)
 (revert h; refine bind_rev fun s50 hx72 h => ?_)
 (revert h; refine bind_rev fun r51 hx73 h => ?_)
 (revert h; refine bind_rev fun s52 hx74 h => ?_)
 (revert h; refine bind_rev fun s53 hx75 h => ?_)
 (revert h; refine bind_rev fun r54 hx76 h => ?_)
 refine CodeOk.cutR (tl 136 [(4, V.int e8), (5, V.int e12), (6, V.int r14), (7, V.int r16), (9, .own 100), (11, .own 103)]) [(103, .vec false 45 5 (r54.1.map (encSNode true))), (100, .vec false 45 5 (r30.1.map (encSNode true)))] mix (by
  refine W.run D_ok 1 103 (by kernel_rfl) ?_
  refine W.call0 (AC.gs (m_impl_OpSpell_ok e8 hx70) (by decide)) cok23 rfl (by kernel_rfl) ?_
  refine W.cat hx71 (by kernel_rfl) ?_
  refine W.cat hx72 (by kernel_rfl) ?_
  refine W.run D_ok 1 103 (by kernel_rfl) ?_
  refine W.call0 (AC.gs (m_impl_OpSpell_ok e12 hx73) (by decide)) cok23 rfl (by kernel_rfl) ?_
  refine W.cat hx74 (by kernel_rfl) ?_
  refine W.cat hx75 (by kernel_rfl) ?_
  refine W.call (m_impl_ReadExpr_ok N s53 hx76) cok21 [] [(100, 103)] [103] (show LayOk _ [] from trivial) (by kernel_rfl) (by kernel_rfl) ?_
  refine W.run D_ok 6 104 (by kernel_rfl) ?_
  exact W.fi (by kernel_rfl)
  ) ?_
 (revert h; refine bind_rev fun r62 hx84 h => ?_)
 (revert h; refine bind_rev fun s63 hx85 h => ?_)
 (revert h; refine bind_rev fun s64 hx86 h => ?_)
 (revert h; refine bind_rev fun r65 hx87 h => ?_)
 (revert h; refine bind_rev fun s66 hx88 h => ?_)
 (revert h; refine bind_rev fun s67 hx89 h => ?_)
 (revert h; refine bind_rev fun r68 hx90 h => ?_)
 refine CodeOk.cutR (tl 136 [(4, V.int e8), (6, V.int r14), (7, V.int r16), (9, .own 100), (11, .own 103), (13, .own 105)]) [(105, .vec false 45 5 (r68.1.map (encSNode true))), (103, .vec false 45 5 (r54.1.map (encSNode true))), (100, .vec false 45 5 (r30.1.map (encSNode true)))] mix (by
  refine W.run D_ok 1 105 (by kernel_rfl) ?_
  refine W.call0 (AC.gs (m_impl_OpSpell_ok e8 hx84) (by decide)) cok23 rfl (by kernel_rfl) ?_
  refine W.cat hx85 (by kernel_rfl) ?_
  refine W.cat hx86 (by kernel_rfl) ?_
  refine W.run D_ok 1 105 (by kernel_rfl) ?_
  refine W.call0 (AC.gs (m_impl_OpSpell_ok e12 hx87) (by decide)) cok23 rfl (by kernel_rfl) ?_
  refine W.cat hx88 (by kernel_rfl) ?_
  refine W.cat hx89 (by kernel_rfl) ?_
  refine W.call (m_impl_ReadExpr_ok N s67 hx90) cok21 [] [(100, 105)] [105] (show LayOk _ [] from trivial) (by kernel_rfl) (by kernel_rfl) ?_
  refine W.run D_ok 6 106 (by kernel_rfl) ?_
  exact W.fi (by kernel_rfl)
  ) ?_
 refine CodeOk.seq' ?_
 (revert h; refine bind_rev fun y75 hv106 h => ?_)
 refine CodeOk.cutR (tl 136 [(9, .own 100), (11, .own 101), (13, .own 102), (117, V.bool y75)]) [(100, .vec false 45 5 (r30.1.map (encSNode true))), (101, .vec false 45 5 (r54.1.map (encSNode true))), (102, .vec false 45 5 (r68.1.map (encSNode true)))] mix (by
  refine W.run D_ok 4 107 (by kernel_rfl) ?_
  (revert hv106; refine cond_rev (fun hc107 hv106 => ?_) (fun hc107 hv106 => ?_))
  ·refine W.is 109 hc107 (by kernel_rfl) ?_
   refine W.run D_ok 8 107 (by kernel_rfl) ?_
   have hv106 := Option.some.inj hv106
   subst hv106
   exact W.fs [(100, 100), (103, 101), (105, 102)] [9, 11, 13, 117] (by kernel_rfl)
  refine W.is 109 hc107 (by kernel_rfl) ?_
  refine W.run D_ok 4 107 (by kernel_rfl) ?_
  (revert hv106; refine cond_rev (fun hc108 hv106 => ?_) (fun hc108 hv106 => ?_))
  ·refine W.is 113 hc108 (by kernel_rfl) ?_
   refine W.run D_ok 4 107 (by kernel_rfl) ?_
   have hv106 := Option.some.inj hv106
   subst hv106
   exact W.fs [(100, 100), (103, 101), (105, 102)] [9, 11, 13, 117] (by kernel_rfl)
  refine W.is 113 hc108 (by kernel_rfl) ?_
  refine W.run D_ok 4 107 (by kernel_rfl) ?_
  have hv106 := Option.some.inj hv106
  subst hv106
  exact W.fs [(100, 100), (103, 101), (105, 102)] [9, 11, 13, 117] (by kernel_rfl)
  ) ?_
 (revert h; refine cond_rev (fun hc109 h => ?_) (fun hc109 h => ?_))
 ·refine CodeOk.ifT hc109 (by kernel_rfl) ?_
  (revert h; refine bind_rev fun y78 hv113 h => ?_)
  refine CodeOk.cutR (tl 136 [(2, V.bool y78)]) [] mix (by
   refine W.run D_ok 2 107 (by kernel_rfl) ?_
   (revert hv113; refine bind_rev fun r79 hx114 hv113 => ?_)
   refine W.lend (AC.gs (m_spec_SameTree_ok N r30.1 r54.1 hx114) (by decide)) cok24 [] [] (LayOk.cons (j := 100) (encSNode true) (encSNode false) r30.1 (by kernel_rfl) (share_encSNode _) (LayOk.cons (j := 101) (encSNode true) (encSNode false) r54.1 (by kernel_rfl) (share_encSNode _) (show LayOk _ [] from trivial))) (.c _) .nil (by kernel_rfl) (by kernel_rfl) ?_
   refine W.run D_ok 1 107 (by kernel_rfl) ?_
   (revert hv113; refine cond_rev (fun hc115 hv113 => ?_) (fun hc115 hv113 => ?_))
   ·refine W.is 121 hc115 (by kernel_rfl) ?_
    refine W.run D_ok 2 107 (by kernel_rfl) ?_
    (revert hv113; refine bind_rev fun r80 hx116 hv113 => ?_)
    refine W.lend (AC.gs (m_spec_SameTree_ok N r30.1 r68.1 hx116) (by decide)) cok24 [] [] (LayOk.cons (j := 100) (encSNode true) (encSNode false) r30.1 (by kernel_rfl) (share_encSNode _) (LayOk.cons (j := 102) (encSNode true) (encSNode false) r68.1 (by kernel_rfl) (share_encSNode _) (show LayOk _ [] from trivial))) (.c _) .nil (by kernel_rfl) (by kernel_rfl) ?_
    refine W.run D_ok 3 107 (by kernel_rfl) ?_
    have hv113 := Option.some.inj hv113
    subst hv113
    exact W.fs [] [2] (by kernel_rfl)
   refine W.is 121 hc115 (by kernel_rfl) ?_
   refine W.run D_ok 6 107 (by kernel_rfl) ?_
   have hv113 := Option.some.inj hv113
   subst hv113
   exact W.fs [] [2] (by kernel_rfl)
   ) ?_
  refine CodeOk.ret ?_
  have h := Option.some.inj h
  subst h
  exact Ends.gen [] (.inr rfl) (RetV.one rfl (OneR.tmp (t := 2) (r := V.bool y78) (by kernel_rfl))) (by kernel_rfl) (by kernel_rfl) (by kernel_rfl)
 refine CodeOk.ifF hc109 (by kernel_rfl) ?_
 refine CodeOk.skip ?_
 (revert h; refine bind_rev fun y83 hv120 h => ?_)
 refine CodeOk.cutR (tl 136 [(2, V.bool y83)]) [] mix (by
  refine W.run D_ok 2 107 (by kernel_rfl) ?_
  (revert hv120; refine bind_rev fun r84 hx121 hv120 => ?_)
  refine W.lend (AC.gs (m_spec_SameTree_ok N r30.1 r68.1 hx121) (by decide)) cok24 [] [] (LayOk.cons (j := 100) (encSNode true) (encSNode false) r30.1 (by kernel_rfl) (share_encSNode _) (LayOk.cons (j := 102) (encSNode true) (encSNode false) r68.1 (by kernel_rfl) (share_encSNode _) (show LayOk _ [] from trivial))) (.c _) .nil (by kernel_rfl) (by kernel_rfl) ?_
  refine W.run D_ok 1 107 (by kernel_rfl) ?_
  (revert hv120; refine cond_rev (fun hc122 hv120 => ?_) (fun hc122 hv120 => ?_))
  ·refine W.is 130 hc122 (by kernel_rfl) ?_
   refine W.run D_ok 2 107 (by kernel_rfl) ?_
   (revert hv120; refine bind_rev fun r85 hx123 hv120 => ?_)
   refine W.lend (AC.gs (m_spec_SameTree_ok N r30.1 r54.1 hx123) (by decide)) cok24 [] [] (LayOk.cons (j := 100) (encSNode true) (encSNode false) r30.1 (by kernel_rfl) (share_encSNode _) (LayOk.cons (j := 101) (encSNode true) (encSNode false) r54.1 (by kernel_rfl) (share_encSNode _) (show LayOk _ [] from trivial))) (.c _) .nil (by kernel_rfl) (by kernel_rfl) ?_
   refine W.run D_ok 3 107 (by kernel_rfl) ?_
   have hv120 := Option.some.inj hv120
   subst hv120
   exact W.fs [] [2] (by kernel_rfl)
  refine W.is 130 hc122 (by kernel_rfl) ?_
  refine W.run D_ok 6 107 (by kernel_rfl) ?_
  have hv120 := Option.some.inj hv120
  subst hv120
  exact W.fs [] [2] (by kernel_rfl)
  ) ?_
 refine CodeOk.ret ?_
 have h := Option.some.inj h
 subst h
 exact Ends.gen [] (.inr rfl) (RetV.one rfl (OneR.tmp (t := 2) (r := V.bool y83) (by kernel_rfl))) (by kernel_rfl) (by kernel_rfl) (by kernel_rfl)

end Go.Proofs.Tryd
