/-
  The walks that show that the code computes the models, part 3.
-/
import Derived.Test.YtllanibkffnogaaGreatDoorReW2
namespace Go.Proofs.Tryz
open Go.Av
set_option maxRecDepth 100000
set_option maxHeartbeats 8000000
set_option linter.unusedSimpArgs false
set_option linter.unusedVariables false

theorem m_impl_stmtForm_ok (N : Nat) (a0 : SNode) {r : SForm} (h : m_impl_stmtForm N a0 = some r) :
    AC Tryz.prog (GS [0, 1, 2]) 107 [.agg [V.int a0.Kind, V.int a0.Op, V.str a0.Text, V.str a0.Other, .sl false false (a0.Kids.map encI)]] [] (.agg [V.bool r.op, V.bool r.text, V.bool r.other, V.int r.least, V.int r.most]) [] := by
 rw [m_impl_stmtForm] at h
 refine AC.enter Tryz.func107 rfl ?_
 refine cu D_ok mix 2 100 (tl 98 [(1, .loc 100 0), (2, .loc 101 0)]) [(101, .cells 114 [V.bool false, V.bool false, V.bool false, V.int 0, V.int 0]), (100, .cells 48 [V.int a0.Kind, V.int a0.Op, V.str a0.Text, V.str a0.Other, .sl false false (a0.Kids.map encI)])] (by kernel_rfl) ?_
 refine cu D_ok mix 12 102 (tl 98 [(1, .loc 100 0), (2, .loc 101 0), (3, .loc 102 0)]) [(102, .cells 114 [V.bool (a0.Op == 0), V.bool (a0.Text == []), V.bool (a0.Other == []), V.int 0, V.int 0]), (101, .cells 114 [V.bool false, V.bool false, V.bool false, V.int 0, V.int 0]), (100, .cells 48 [V.int a0.Kind, V.int a0.Op, V.str a0.Text, V.str a0.Other, .sl false false (a0.Kids.map encI)])] (by kernel_rfl) ?_
 refine CodeOk.join (fun (⟨y14, y15, y16, y17, y18⟩ : (Bool × Bool × Bool × Int × Int)) => ⟨tl 98 [(2, .loc 100 0), (3, .loc 101 0)], [(100, .cells 114 [V.bool false, V.bool false, V.bool false, V.int 0, V.int 0]), (101, .cells 114 [V.bool y14, V.bool y15, V.bool y16, V.int y17, V.int y18])]⟩) (fun i => m_impl_stmtForm_k1 N i = some r) ?_ ?_
 · rintro ⟨y14, y15, y16, y17, y18⟩ h33
   rw [m_impl_stmtForm_k1] at h33
   refine cu D_ok mix 2 104 (tl 98 [(2, .loc 100 0)]) [(100, .cells 114 [V.bool y14, V.bool y15, V.bool y16, V.int y17, V.int y18])] (by kernel_rfl) ?_
   refine CodeOk.ret ?_
   have h33 := Option.some.inj h33
   subst h33
   exact Ends.gen [] (.inr rfl) (RetV.one rfl (OneR.cell D_ok (r := .agg [V.bool y14, V.bool y15, V.bool y16, V.int y17, V.int y18]) (i := 100) (ety := 114) (cs := [V.bool y14, V.bool y15, V.bool y16, V.int y17, V.int y18]) (by kernel_rfl) (by kernel_rfl) (by kernel_rfl))) (by kernel_rfl) (by kernel_rfl) (by kernel_rfl)
 intro hk34
 refine cu D_ok mix 2 103 (tl 98 [(1, .loc 100 0), (2, .loc 101 0), (3, .loc 102 0), (15, V.int a0.Kind)]) [(102, .cells 114 [V.bool (a0.Op == 0), V.bool (a0.Text == []), V.bool (a0.Other == []), V.int 0, V.int 0]), (101, .cells 114 [V.bool false, V.bool false, V.bool false, V.int 0, V.int 0]), (100, .cells 48 [V.int a0.Kind, V.int a0.Op, V.str a0.Text, V.str a0.Other, .sl false false (a0.Kids.map encI)])] (by kernel_rfl) ?_
 refine CodeOk.block' ?_
 refine cu D_ok mix 2 103 (tl 98 [(1, .loc 100 0), (2, .loc 101 0), (3, .loc 102 0), (15, V.int a0.Kind), (16, V.bool (a0.Kind == 20))]) [(102, .cells 114 [V.bool (a0.Op == 0), V.bool (a0.Text == []), V.bool (a0.Other == []), V.int 0, V.int 0]), (101, .cells 114 [V.bool false, V.bool false, V.bool false, V.int 0, V.int 0]), (100, .cells 48 [V.int a0.Kind, V.int a0.Op, V.str a0.Text, V.str a0.Other, .sl false false (a0.Kids.map encI)])] (by kernel_rfl) ?_
 (revert h; refine cond_rev (fun hc35 h => ?_) (fun hc35 h => ?_))
 ·refine CodeOk.ifT hc35 (by kernel_rfl) ?_
  refine ce D_ok mix 4 103 (tl 98 [(2, .loc 101 0), (3, .loc 102 0)]) [(102, .cells 114 [V.bool (a0.Op == 0), V.bool (a0.Text == []), V.bool (a0.Other == []), V.int 1, V.int 1]), (101, .cells 114 [V.bool false, V.bool false, V.bool false, V.int 0, V.int 0])] (by kernel_rfl) (fun st hw => ?_)
  exact hk34 ((a0.Op == 0), (a0.Text == []), (a0.Other == []), 1, 1) h _ (hw.trans (Weak.sel [(101, 100), (102, 101)] [2, 3] (by kernel_rfl) (by kernel_rfl) (by kernel_rfl)))
 refine CodeOk.ifF hc35 (by kernel_rfl) ?_
 refine cu D_ok mix 2 103 (tl 98 [(1, .loc 100 0), (2, .loc 101 0), (3, .loc 102 0), (15, V.int a0.Kind), (20, V.bool (a0.Kind == 21))]) [(102, .cells 114 [V.bool (a0.Op == 0), V.bool (a0.Text == []), V.bool (a0.Other == []), V.int 0, V.int 0]), (101, .cells 114 [V.bool false, V.bool false, V.bool false, V.int 0, V.int 0]), (100, .cells 48 [V.int a0.Kind, V.int a0.Op, V.str a0.Text, V.str a0.Other, .sl false false (a0.Kids.map encI)])] (by kernel_rfl) ?_
 (revert h; refine cond_rev (fun hc36 h => ?_) (fun hc36 h => ?_))
 ·refine CodeOk.ifT hc36 (by kernel_rfl) ?_
  (revert h; refine bind_rev fun y19 hv38 h => ?_)
  refine CodeOk.cutR (tl 98 [(1, .loc 100 0), (2, .loc 101 0), (3, .loc 102 0)]) [(100, .cells 48 [V.int a0.Kind, V.int a0.Op, V.str a0.Text, V.str a0.Other, .sl false false (a0.Kids.map encI)]), (101, .cells 114 [V.bool false, V.bool false, V.bool false, V.int 0, V.int 0]), (102, .cells 114 [V.bool y19, V.bool (a0.Text == []), V.bool (a0.Other == []), V.int 0, V.int 0])] mix (by
   refine W.run D_ok 4 103 (by kernel_rfl) ?_
   (revert hv38; refine cond_rev (fun hc39 hv38 => ?_) (fun hc39 hv38 => ?_))
   ·refine W.is 25 hc39 (by kernel_rfl) ?_
    refine W.run D_ok 6 103 (by kernel_rfl) ?_
    have hv38 := Option.some.inj hv38
    subst hv38
    exact W.fs [(100, 100), (101, 101), (102, 102)] [1, 2, 3] (by kernel_rfl)
   refine W.is 25 hc39 (by kernel_rfl) ?_
   refine W.run D_ok 6 103 (by kernel_rfl) ?_
   have hv38 := Option.some.inj hv38
   subst hv38
   exact W.fs [(100, 100), (101, 101), (102, 102)] [1, 2, 3] (by kernel_rfl)
   ) ?_
  (revert h; refine bind_rev fun r21 hx41 h => ?_)
  refine CodeOk.cutR (tl 98 [(1, .loc 100 0), (2, .loc 101 0), (3, .loc 102 0)]) [(102, .cells 114 [V.bool y19, V.bool (a0.Text == []), V.bool r21, V.int 0, V.int 0]), (100, .cells 48 [V.int a0.Kind, V.int a0.Op, V.str a0.Text, V.str a0.Other, .sl false false (a0.Kids.map encI)]), (101, .cells 114 [V.bool false, V.bool false, V.bool false, V.int 0, V.int 0])] mix (by
   refine W.run D_ok 3 103 (by kernel_rfl) ?_
   refine W.lend (AC.gs (m_slices_Contains_string_ok N [[], [62], [62, 62], [124]] a0.Other hx41) (by decide)) cok126 [] [] (LayOk.cons (j := 103) encS encS ([[], [62], [62, 62], [124]] : List (List UInt8)) (by kernel_rfl) (fun _ => rfl) (show LayOk _ [] from trivial)) (.c _) .nil (by kernel_rfl) (by kernel_rfl) ?_
   refine W.run D_ok 2 104 (by kernel_rfl) ?_
   exact W.fi (by kernel_rfl)
   ) ?_
  refine cu D_ok mix 6 104 (tl 98 [(1, .loc 100 0), (2, .loc 101 0), (3, .loc 102 0)]) [(102, .cells 114 [V.bool y19, V.bool (a0.Text == []), V.bool r21, V.int a0.Op, V.int 6]), (100, .cells 48 [V.int a0.Kind, V.int a0.Op, V.str a0.Text, V.str a0.Other, .sl false false (a0.Kids.map encI)]), (101, .cells 114 [V.bool false, V.bool false, V.bool false, V.int 0, V.int 0])] (by kernel_rfl) ?_
  refine cu D_ok mix 3 104 (tl 98 [(2, .loc 101 0), (3, .loc 102 0), (42, V.bool (!(a0.Other == [])))]) [(102, .cells 114 [V.bool y19, V.bool (a0.Text == []), V.bool r21, V.int a0.Op, V.int 6]), (101, .cells 114 [V.bool false, V.bool false, V.bool false, V.int 0, V.int 0])] (by kernel_rfl) ?_
  (revert h; refine cond_rev (fun hc42 h => ?_) (fun hc42 h => ?_))
  ·refine CodeOk.ifT hc42 (by kernel_rfl) ?_
   refine ce D_ok mix 10 104 (tl 98 [(2, .loc 101 0), (3, .loc 102 0)]) [(102, .cells 114 [V.bool y19, V.bool (a0.Text == []), V.bool r21, V.int (IntKind.wrap .i64 (a0.Op + 1)), V.int 7]), (101, .cells 114 [V.bool false, V.bool false, V.bool false, V.int 0, V.int 0])] (by kernel_rfl) (fun st hw => ?_)
   exact hk34 (y19, (a0.Text == []), r21, (IntKind.wrap .i64 (a0.Op + 1)), 7) h _ (hw.trans (Weak.sel [(101, 100), (102, 101)] [2, 3] (by kernel_rfl) (by kernel_rfl) (by kernel_rfl)))
  refine CodeOk.ifF hc42 (by kernel_rfl) ?_
  refine CodeOk.skip ?_
  exact hk34 (y19, (a0.Text == []), r21, a0.Op, 6) h _ (Weak.sel [(101, 100), (102, 101)] [2, 3] (by kernel_rfl) (by kernel_rfl) (by kernel_rfl))
 refine CodeOk.ifF hc36 (by kernel_rfl) ?_
 refine CodeOk.join (fun (⟨a0, y22⟩ : (SNode × Bool)) => ⟨tl 98 [(1, .loc 100 0), (2, .loc 101 0), (3, .loc 102 0), (15, V.int a0.Kind), (51, V.bool y22)], [(100, .cells 48 [V.int a0.Kind, V.int a0.Op, V.str a0.Text, V.str a0.Other, .sl false false (a0.Kids.map encI)]), (101, .cells 114 [V.bool false, V.bool false, V.bool false, V.int 0, V.int 0]), (102, .cells 114 [V.bool (a0.Op == 0), V.bool (a0.Text == []), V.bool (a0.Other == []), V.int 0, V.int 0])]⟩) (fun i => m_impl_stmtForm_k2 N i = some r) ?_ ?_
 · rintro ⟨a0, y22⟩ h44
   rw [m_impl_stmtForm_k2] at h44
   (revert h44; refine cond_rev (fun hc45 h44 => ?_) (fun hc45 h44 => ?_))
   ·refine CodeOk.ifT hc45 (by kernel_rfl) ?_
    refine ce D_ok mix 2 103 (tl 98 [(2, .loc 101 0), (3, .loc 102 0)]) [(102, .cells 114 [V.bool (a0.Op == 0), V.bool (a0.Text == []), V.bool (a0.Other == []), V.int 0, V.int 1]), (101, .cells 114 [V.bool false, V.bool false, V.bool false, V.int 0, V.int 0])] (by kernel_rfl) (fun st hw => ?_)
    exact hk34 ((a0.Op == 0), (a0.Text == []), (a0.Other == []), 0, 1) h44 _ (hw.trans (Weak.sel [(101, 100), (102, 101)] [2, 3] (by kernel_rfl) (by kernel_rfl) (by kernel_rfl)))
   refine CodeOk.ifF hc45 (by kernel_rfl) ?_
   refine cu D_ok mix 2 103 (tl 98 [(1, .loc 100 0), (2, .loc 101 0), (3, .loc 102 0), (15, V.int a0.Kind), (55, V.bool (a0.Kind == 27))]) [(100, .cells 48 [V.int a0.Kind, V.int a0.Op, V.str a0.Text, V.str a0.Other, .sl false false (a0.Kids.map encI)]), (101, .cells 114 [V.bool false, V.bool false, V.bool false, V.int 0, V.int 0]), (102, .cells 114 [V.bool (a0.Op == 0), V.bool (a0.Text == []), V.bool (a0.Other == []), V.int 0, V.int 0])] (by kernel_rfl) ?_
   (revert h44; refine cond_rev (fun hc46 h44 => ?_) (fun hc46 h44 => ?_))
   ·refine CodeOk.ifT hc46 (by kernel_rfl) ?_
    (revert h44; refine bind_rev fun r24 hx48 h44 => ?_)
    refine CodeOk.endR (tl 98 [(2, .loc 101 0), (3, .loc 102 0)]) [(102, .cells 114 [V.bool (a0.Op == 0), V.bool r24, V.bool (a0.Other == []), V.int 0, V.int 6]), (101, .cells 114 [V.bool false, V.bool false, V.bool false, V.int 0, V.int 0])] mix (by
     refine W.run D_ok 2 103 (by kernel_rfl) ?_
     refine W.call0 (AC.gs (m_impl_NameOk_ok N a0.Text hx48) (by decide)) cok120 rfl (by kernel_rfl) ?_
     refine W.run D_ok 4 103 (by kernel_rfl) ?_
     exact W.fi (by kernel_rfl)
     ) (fun st hw => ?_)
    exact hk34 ((a0.Op == 0), r24, (a0.Other == []), 0, 6) h44 _ (hw.trans (Weak.sel [(101, 100), (102, 101)] [2, 3] (by kernel_rfl) (by kernel_rfl) (by kernel_rfl)))
   refine CodeOk.ifF hc46 (by kernel_rfl) ?_
   refine cu D_ok mix 2 103 (tl 98 [(1, .loc 100 0), (2, .loc 101 0), (3, .loc 102 0), (15, V.int a0.Kind), (62, V.bool (a0.Kind == 28))]) [(100, .cells 48 [V.int a0.Kind, V.int a0.Op, V.str a0.Text, V.str a0.Other, .sl false false (a0.Kids.map encI)]), (101, .cells 114 [V.bool false, V.bool false, V.bool false, V.int 0, V.int 0]), (102, .cells 114 [V.bool (a0.Op == 0), V.bool (a0.Text == []), V.bool (a0.Other == []), V.int 0, V.int 0])] (by kernel_rfl) ?_
   (revert h44; refine cond_rev (fun hc49 h44 => ?_) (fun hc49 h44 => ?_))
   ·refine CodeOk.ifT hc49 (by kernel_rfl) ?_
    refine ce D_ok mix 4 103 (tl 98 [(2, .loc 101 0), (3, .loc 102 0)]) [(102, .cells 114 [V.bool (a0.Op == 0), V.bool (a0.Text == []), V.bool (a0.Other == []), V.int 2, V.int 3]), (101, .cells 114 [V.bool false, V.bool false, V.bool false, V.int 0, V.int 0])] (by kernel_rfl) (fun st hw => ?_)
    exact hk34 ((a0.Op == 0), (a0.Text == []), (a0.Other == []), 2, 3) h44 _ (hw.trans (Weak.sel [(101, 100), (102, 101)] [2, 3] (by kernel_rfl) (by kernel_rfl) (by kernel_rfl)))
   refine CodeOk.ifF hc49 (by kernel_rfl) ?_
   refine CodeOk.join (fun (⟨a0, y25⟩ : (SNode × Bool)) => ⟨tl 98 [(1, .loc 100 0), (2, .loc 101 0), (3, .loc 102 0), (15, V.int a0.Kind), (66, V.bool y25)], [(100, .cells 48 [V.int a0.Kind, V.int a0.Op, V.str a0.Text, V.str a0.Other, .sl false false (a0.Kids.map encI)]), (101, .cells 114 [V.bool false, V.bool false, V.bool false, V.int 0, V.int 0]), (102, .cells 114 [V.bool (a0.Op == 0), V.bool (a0.Text == []), V.bool (a0.Other == []), V.int 0, V.int 0])]⟩) (fun i => m_impl_stmtForm_k3 N i = some r) ?_ ?_
   · rintro ⟨a0, y25⟩ h51
     rw [m_impl_stmtForm_k3] at h51
     (revert h51; refine cond_rev (fun hc52 h51 => ?_) (fun hc52 h51 => ?_))
     ·refine CodeOk.ifT hc52 (by kernel_rfl) ?_
      refine ce D_ok mix 4 103 (tl 98 [(2, .loc 101 0), (3, .loc 102 0)]) [(102, .cells 114 [V.bool (a0.Op == 0), V.bool (a0.Text == []), V.bool (a0.Other == []), V.int 2, V.int 2]), (101, .cells 114 [V.bool false, V.bool false, V.bool false, V.int 0, V.int 0])] (by kernel_rfl) (fun st hw => ?_)
      exact hk34 ((a0.Op == 0), (a0.Text == []), (a0.Other == []), 2, 2) h51 _ (hw.trans (Weak.sel [(101, 100), (102, 101)] [2, 3] (by kernel_rfl) (by kernel_rfl) (by kernel_rfl)))
     refine CodeOk.ifF hc52 (by kernel_rfl) ?_
     refine cu D_ok mix 2 103 (tl 98 [(1, .loc 100 0), (2, .loc 101 0), (3, .loc 102 0), (15, V.int a0.Kind), (71, V.bool (a0.Kind == 31))]) [(100, .cells 48 [V.int a0.Kind, V.int a0.Op, V.str a0.Text, V.str a0.Other, .sl false false (a0.Kids.map encI)]), (101, .cells 114 [V.bool false, V.bool false, V.bool false, V.int 0, V.int 0]), (102, .cells 114 [V.bool (a0.Op == 0), V.bool (a0.Text == []), V.bool (a0.Other == []), V.int 0, V.int 0])] (by kernel_rfl) ?_
     (revert h51; refine cond_rev (fun hc53 h51 => ?_) (fun hc53 h51 => ?_))
     ·refine CodeOk.ifT hc53 (by kernel_rfl) ?_
      refine ce D_ok mix 4 103 (tl 98 [(2, .loc 101 0), (3, .loc 102 0)]) [(102, .cells 114 [V.bool (a0.Op == 0), V.bool (a0.Text == []), V.bool (a0.Other == []), V.int 4, V.int 4]), (101, .cells 114 [V.bool false, V.bool false, V.bool false, V.int 0, V.int 0])] (by kernel_rfl) (fun st hw => ?_)
      exact hk34 ((a0.Op == 0), (a0.Text == []), (a0.Other == []), 4, 4) h51 _ (hw.trans (Weak.sel [(101, 100), (102, 101)] [2, 3] (by kernel_rfl) (by kernel_rfl) (by kernel_rfl)))
     refine CodeOk.ifF hc53 (by kernel_rfl) ?_
     refine cu D_ok mix 2 103 (tl 98 [(1, .loc 100 0), (2, .loc 101 0), (3, .loc 102 0), (15, V.int a0.Kind), (75, V.bool (a0.Kind == 32))]) [(100, .cells 48 [V.int a0.Kind, V.int a0.Op, V.str a0.Text, V.str a0.Other, .sl false false (a0.Kids.map encI)]), (101, .cells 114 [V.bool false, V.bool false, V.bool false, V.int 0, V.int 0]), (102, .cells 114 [V.bool (a0.Op == 0), V.bool (a0.Text == []), V.bool (a0.Other == []), V.int 0, V.int 0])] (by kernel_rfl) ?_
     (revert h51; refine cond_rev (fun hc54 h51 => ?_) (fun hc54 h51 => ?_))
     ·refine CodeOk.ifT hc54 (by kernel_rfl) ?_
      (revert h51; refine bind_rev fun r28 hx57 h51 => ?_)
      (revert h51; refine bind_rev fun r29 hx58 h51 => ?_)
      refine CodeOk.endR (tl 98 [(2, .loc 101 0), (3, .loc 102 0)]) [(102, .cells 114 [V.bool (a0.Op == 0), V.bool r28, V.bool r29, V.int 1, V.int 1]), (101, .cells 114 [V.bool false, V.bool false, V.bool false, V.int 0, V.int 0])] mix (by
       refine W.run D_ok 2 103 (by kernel_rfl) ?_
       refine W.call0 (AC.gs (m_impl_NameOk_ok N a0.Text hx57) (by decide)) cok120 rfl (by kernel_rfl) ?_
       refine W.run D_ok 2 103 (by kernel_rfl) ?_
       refine W.call0 (AC.gs (m_impl_NameOk_ok N a0.Other hx58) (by decide)) cok120 rfl (by kernel_rfl) ?_
       refine W.run D_ok 8 103 (by kernel_rfl) ?_
       exact W.fi (by kernel_rfl)
       ) (fun st hw => ?_)
      exact hk34 ((a0.Op == 0), r28, r29, 1, 1) h51 _ (hw.trans (Weak.sel [(101, 100), (102, 101)] [2, 3] (by kernel_rfl) (by kernel_rfl) (by kernel_rfl)))
     refine CodeOk.ifF hc54 (by kernel_rfl) ?_
     refine cu D_ok mix 2 103 (tl 98 [(1, .loc 100 0), (2, .loc 101 0), (3, .loc 102 0), (15, V.int a0.Kind), (87, V.bool (a0.Kind == 33))]) [(100, .cells 48 [V.int a0.Kind, V.int a0.Op, V.str a0.Text, V.str a0.Other, .sl false false (a0.Kids.map encI)]), (101, .cells 114 [V.bool false, V.bool false, V.bool false, V.int 0, V.int 0]), (102, .cells 114 [V.bool (a0.Op == 0), V.bool (a0.Text == []), V.bool (a0.Other == []), V.int 0, V.int 0])] (by kernel_rfl) ?_
     (revert h51; refine cond_rev (fun hc59 h51 => ?_) (fun hc59 h51 => ?_))
     ·refine CodeOk.ifT hc59 (by kernel_rfl) ?_
      refine ce D_ok mix 2 103 (tl 98 [(2, .loc 101 0), (3, .loc 102 0)]) [(102, .cells 114 [V.bool (a0.Op == 0), V.bool (a0.Text == []), V.bool (a0.Other == []), V.int 0, V.int 400]), (101, .cells 114 [V.bool false, V.bool false, V.bool false, V.int 0, V.int 0])] (by kernel_rfl) (fun st hw => ?_)
      exact hk34 ((a0.Op == 0), (a0.Text == []), (a0.Other == []), 0, 400) h51 _ (hw.trans (Weak.sel [(101, 100), (102, 101)] [2, 3] (by kernel_rfl) (by kernel_rfl) (by kernel_rfl)))
     refine CodeOk.ifF hc59 (by kernel_rfl) ?_
     refine cu D_ok mix 2 103 (tl 98 [(1, .loc 100 0), (2, .loc 101 0), (3, .loc 102 0), (90, V.bool (a0.Kind == 34))]) [(100, .cells 48 [V.int a0.Kind, V.int a0.Op, V.str a0.Text, V.str a0.Other, .sl false false (a0.Kids.map encI)]), (101, .cells 114 [V.bool false, V.bool false, V.bool false, V.int 0, V.int 0]), (102, .cells 114 [V.bool (a0.Op == 0), V.bool (a0.Text == []), V.bool (a0.Other == []), V.int 0, V.int 0])] (by kernel_rfl) ?_
     (revert h51; refine cond_rev (fun hc60 h51 => ?_) (fun hc60 h51 => ?_))
     ·refine CodeOk.ifT hc60 (by kernel_rfl) ?_
      (revert h51; refine bind_rev fun r31 hx62 h51 => ?_)
      refine CodeOk.endR (tl 98 [(2, .loc 101 0), (3, .loc 102 0)]) [(102, .cells 114 [V.bool (a0.Op == 0), V.bool r31, V.bool (a0.Other == []), V.int 0, V.int 0]), (101, .cells 114 [V.bool false, V.bool false, V.bool false, V.int 0, V.int 0])] mix (by
       refine W.run D_ok 3 103 (by kernel_rfl) ?_
       refine W.call0 (m_impl_TokenOk_ok N (⟨2, a0.Text, 0⟩ : SToken) hx62) cok121 rfl (by kernel_rfl) ?_
       refine W.run D_ok 2 103 (by kernel_rfl) ?_
       exact W.fi (by kernel_rfl)
       ) (fun st hw => ?_)
      exact hk34 ((a0.Op == 0), r31, (a0.Other == []), 0, 0) h51 _ (hw.trans (Weak.sel [(101, 100), (102, 101)] [2, 3] (by kernel_rfl) (by kernel_rfl) (by kernel_rfl)))
     refine CodeOk.ifF hc60 (by kernel_rfl) ?_
     refine CodeOk.skip ?_
     exact hk34 ((a0.Op == 0), (a0.Text == []), (a0.Other == []), 0, 0) h51 _ (Weak.sel [(101, 100), (102, 101)] [2, 3] (by kernel_rfl) (by kernel_rfl) (by kernel_rfl))
   intro hk63
   refine cu D_ok mix 2 103 (tl 98 [(1, .loc 100 0), (2, .loc 101 0), (3, .loc 102 0), (15, V.int a0.Kind), (66, V.bool (a0.Kind == 29))]) [(100, .cells 48 [V.int a0.Kind, V.int a0.Op, V.str a0.Text, V.str a0.Other, .sl false false (a0.Kids.map encI)]), (101, .cells 114 [V.bool false, V.bool false, V.bool false, V.int 0, V.int 0]), (102, .cells 114 [V.bool (a0.Op == 0), V.bool (a0.Text == []), V.bool (a0.Other == []), V.int 0, V.int 0])] (by kernel_rfl) ?_
   (revert h44; refine cond_rev (fun hc64 h44 => ?_) (fun hc64 h44 => ?_))
   ·refine CodeOk.ifT hc64 (by kernel_rfl) ?_
    refine CodeOk.skip ?_
    exact hk63 (a0, (a0.Kind == 29)) h44 _ (Weak.sel [(100, 100), (101, 101), (102, 102)] [1, 2, 3, 15, 66] (by kernel_rfl) (by kernel_rfl) (by kernel_rfl))
   refine CodeOk.ifF hc64 (by kernel_rfl) ?_
   refine ce D_ok mix 2 103 (tl 98 [(1, .loc 100 0), (2, .loc 101 0), (3, .loc 102 0), (15, V.int a0.Kind), (66, V.bool (a0.Kind == 30))]) [(100, .cells 48 [V.int a0.Kind, V.int a0.Op, V.str a0.Text, V.str a0.Other, .sl false false (a0.Kids.map encI)]), (101, .cells 114 [V.bool false, V.bool false, V.bool false, V.int 0, V.int 0]), (102, .cells 114 [V.bool (a0.Op == 0), V.bool (a0.Text == []), V.bool (a0.Other == []), V.int 0, V.int 0])] (by kernel_rfl) (fun st hw => ?_)
   exact hk63 (a0, (a0.Kind == 30)) h44 _ (hw.trans (Weak.sel [(100, 100), (101, 101), (102, 102)] [1, 2, 3, 15, 66] (by kernel_rfl) (by kernel_rfl) (by kernel_rfl)))
 intro hk65
 refine cu D_ok mix 2 103 (tl 98 [(1, .loc 100 0), (2, .loc 101 0), (3, .loc 102 0), (15, V.int a0.Kind), (51, V.bool (a0.Kind == 23))]) [(102, .cells 114 [V.bool (a0.Op == 0), V.bool (a0.Text == []), V.bool (a0.Other == []), V.int 0, V.int 0]), (101, .cells 114 [V.bool false, V.bool false, V.bool false, V.int 0, V.int 0]), (100, .cells 48 [V.int a0.Kind, V.int a0.Op, V.str a0.Text, V.str a0.Other, .sl false false (a0.Kids.map encI)])] (by kernel_rfl) ?_
 (revert h; refine cond_rev (fun hc66 h => ?_) (fun hc66 h => ?_))
 ·refine CodeOk.ifT hc66 (by kernel_rfl) ?_
  refine CodeOk.skip ?_
  exact hk65 (a0, (a0.Kind == 23)) h _ (Weak.sel [(100, 100), (101, 101), (102, 102)] [1, 2, 3, 15, 51] (by kernel_rfl) (by kernel_rfl) (by kernel_rfl))
 refine CodeOk.ifF hc66 (by kernel_rfl) ?_
 refine ce D_ok mix 2 103 (tl 98 [(1, .loc 100 0), (2, .loc 101 0), (3, .loc 102 0), (15, V.int a0.Kind), (51, V.bool (a0.Kind == 24))]) [(102, .cells 114 [V.bool (a0.Op == 0), V.bool (a0.Text == []), V.bool (a0.Other == []), V.int 0, V.int 0]), (101, .cells 114 [V.bool false, V.bool false, V.bool false, V.int 0, V.int 0]), (100, .cells 48 [V.int a0.Kind, V.int a0.Op, V.str a0.Text, V.str a0.Other, .sl false false (a0.Kids.map encI)])] (by kernel_rfl) (fun st hw => ?_)
 exact hk65 (a0, (a0.Kind == 24)) h _ (hw.trans (Weak.sel [(100, 100), (101, 101), (102, 102)] [1, 2, 3, 15, 51] (by kernel_rfl) (by kernel_rfl) (by kernel_rfl)))

theorem m_impl_itemForm_ok (N : Nat) (a0 : SNode) {r : SForm} (h : m_impl_itemForm N a0 = some r) :
    AC Tryz.prog (GS [0, 1]) 108 [.agg [V.int a0.Kind, V.int a0.Op, V.str a0.Text, V.str a0.Other, .sl false false (a0.Kids.map encI)]] [] (.agg [V.bool r.op, V.bool r.text, V.bool r.other, V.int r.least, V.int r.most]) [] := by
 rw [m_impl_itemForm] at h
 refine AC.enter Tryz.func108 rfl ?_
 refine cu D_ok mix 2 100 (tl 64 [(1, .loc 100 0), (2, .loc 101 0)]) [(101, .cells 114 [V.bool false, V.bool false, V.bool false, V.int 0, V.int 0]), (100, .cells 48 [V.int a0.Kind, V.int a0.Op, V.str a0.Text, V.str a0.Other, .sl false false (a0.Kids.map encI)])] (by kernel_rfl) ?_
 refine cu D_ok mix 12 102 (tl 64 [(1, .loc 100 0), (2, .loc 101 0), (3, .loc 102 0)]) [(102, .cells 114 [V.bool (a0.Op == 0), V.bool (a0.Text == []), V.bool (a0.Other == []), V.int 0, V.int 0]), (101, .cells 114 [V.bool false, V.bool false, V.bool false, V.int 0, V.int 0]), (100, .cells 48 [V.int a0.Kind, V.int a0.Op, V.str a0.Text, V.str a0.Other, .sl false false (a0.Kids.map encI)])] (by kernel_rfl) ?_
 refine CodeOk.join (fun (⟨a0, y9, y10, y11, y12⟩ : (SNode × Bool × Bool × Int × Int)) => ⟨tl 64 [(2, .loc 100 0), (3, .loc 101 0)], [(100, .cells 114 [V.bool false, V.bool false, V.bool false, V.int 0, V.int 0]), (101, .cells 114 [V.bool y9, V.bool y10, V.bool (a0.Other == []), V.int y11, V.int y12])]⟩) (fun i => m_impl_itemForm_k1 N i = some r) ?_ ?_
 · rintro ⟨a0, y9, y10, y11, y12⟩ h24
   rw [m_impl_itemForm_k1] at h24
   refine cu D_ok mix 2 103 (tl 64 [(2, .loc 100 0)]) [(100, .cells 114 [V.bool y9, V.bool y10, V.bool (a0.Other == []), V.int y11, V.int y12])] (by kernel_rfl) ?_
   refine CodeOk.ret ?_
   have h24 := Option.some.inj h24
   subst h24
   exact Ends.gen [] (.inr rfl) (RetV.one rfl (OneR.cell D_ok (r := .agg [V.bool y9, V.bool y10, V.bool (a0.Other == []), V.int y11, V.int y12]) (i := 100) (ety := 114) (cs := [V.bool y9, V.bool y10, V.bool (a0.Other == []), V.int y11, V.int y12]) (by kernel_rfl) (by kernel_rfl) (by kernel_rfl))) (by kernel_rfl) (by kernel_rfl) (by kernel_rfl)
 intro hk25
 refine cu D_ok mix 2 103 (tl 64 [(1, .loc 100 0), (2, .loc 101 0), (3, .loc 102 0), (15, V.int a0.Kind)]) [(102, .cells 114 [V.bool (a0.Op == 0), V.bool (a0.Text == []), V.bool (a0.Other == []), V.int 0, V.int 0]), (101, .cells 114 [V.bool false, V.bool false, V.bool false, V.int 0, V.int 0]), (100, .cells 48 [V.int a0.Kind, V.int a0.Op, V.str a0.Text, V.str a0.Other, .sl false false (a0.Kids.map encI)])] (by kernel_rfl) ?_
 refine CodeOk.block' ?_
 refine CodeOk.join (fun (⟨a0, y13⟩ : (SNode × Bool)) => ⟨tl 64 [(1, .loc 100 0), (2, .loc 101 0), (3, .loc 102 0), (15, V.int a0.Kind), (17, V.bool y13)], [(100, .cells 48 [V.int a0.Kind, V.int a0.Op, V.str a0.Text, V.str a0.Other, .sl false false (a0.Kids.map encI)]), (101, .cells 114 [V.bool false, V.bool false, V.bool false, V.int 0, V.int 0]), (102, .cells 114 [V.bool (a0.Op == 0), V.bool (a0.Text == []), V.bool (a0.Other == []), V.int 0, V.int 0])]⟩) (fun i => m_impl_itemForm_k2 N i = some r) ?_ ?_
 · rintro ⟨a0, y13⟩ h27
   rw [m_impl_itemForm_k2] at h27
   (revert h27; refine cond_rev (fun hc28 h27 => ?_) (fun hc28 h27 => ?_))
   ·refine CodeOk.ifT hc28 (by kernel_rfl) ?_
    refine ce D_ok mix 4 103 (tl 64 [(2, .loc 101 0), (3, .loc 102 0)]) [(102, .cells 114 [V.bool (a0.Op == 0), V.bool (a0.Text == []), V.bool (a0.Other == []), V.int 1, V.int 1]), (101, .cells 114 [V.bool false, V.bool false, V.bool false, V.int 0, V.int 0])] (by kernel_rfl) (fun st hw => ?_)
    exact hk25 (a0, (a0.Op == 0), (a0.Text == []), 1, 1) h27 _ (hw.trans (Weak.sel [(101, 100), (102, 101)] [2, 3] (by kernel_rfl) (by kernel_rfl) (by kernel_rfl)))
   refine CodeOk.ifF hc28 (by kernel_rfl) ?_
   refine cu D_ok mix 2 103 (tl 64 [(1, .loc 100 0), (2, .loc 101 0), (3, .loc 102 0), (15, V.int a0.Kind), (22, V.bool (a0.Kind == 42))]) [(100, .cells 48 [V.int a0.Kind, V.int a0.Op, V.str a0.Text, V.str a0.Other, .sl false false (a0.Kids.map encI)]), (101, .cells 114 [V.bool false, V.bool false, V.bool false, V.int 0, V.int 0]), (102, .cells 114 [V.bool (a0.Op == 0), V.bool (a0.Text == []), V.bool (a0.Other == []), V.int 0, V.int 0])] (by kernel_rfl) ?_
   (revert h27; refine cond_rev (fun hc29 h27 => ?_) (fun hc29 h27 => ?_))
   ·refine CodeOk.ifT hc29 (by kernel_rfl) ?_
    (revert h27; refine bind_rev fun r15 hx31 h27 => ?_)
    refine CodeOk.cutR (tl 64 [(1, .loc 100 0), (2, .loc 101 0), (3, .loc 102 0)]) [(102, .cells 114 [V.bool r15, V.bool (a0.Text == []), V.bool (a0.Other == []), V.int 1, V.int 0]), (100, .cells 48 [V.int a0.Kind, V.int a0.Op, V.str a0.Text, V.str a0.Other, .sl false false (a0.Kids.map encI)]), (101, .cells 114 [V.bool false, V.bool false, V.bool false, V.int 0, V.int 0])] mix (by
     refine W.run D_ok 2 103 (by kernel_rfl) ?_
     refine W.call0 (AC.gs (m_impl_within_ok a0.Op 1 3 hx31) (by decide)) cok55 rfl (by kernel_rfl) ?_
     refine W.run D_ok 4 103 (by kernel_rfl) ?_
     exact W.fi (by kernel_rfl)
     ) ?_
    refine CodeOk.join (fun (⟨r15, a0, y16⟩ : (Bool × SNode × Int)) => ⟨tl 64 [(2, .loc 100 0), (3, .loc 101 0)], [(100, .cells 114 [V.bool false, V.bool false, V.bool false, V.int 0, V.int 0]), (101, .cells 114 [V.bool r15, V.bool (a0.Text == []), V.bool (a0.Other == []), V.int y16, V.int 0])]⟩) (fun i => m_impl_itemForm_k3 N i = some r) ?_ ?_
    · rintro ⟨r15, a0, y16⟩ h33
      rw [m_impl_itemForm_k3] at h33
      refine ce D_ok mix 4 103 (tl 64 [(2, .loc 100 0), (3, .loc 101 0)]) [(101, .cells 114 [V.bool r15, V.bool (a0.Text == []), V.bool (a0.Other == []), V.int y16, V.int y16]), (100, .cells 114 [V.bool false, V.bool false, V.bool false, V.int 0, V.int 0])] (by kernel_rfl) (fun st hw => ?_)
      exact hk25 (a0, r15, (a0.Text == []), y16, y16) h33 _ (hw.trans (Weak.sel [(100, 100), (101, 101)] [2, 3] (by kernel_rfl) (by kernel_rfl) (by kernel_rfl)))
    intro hk34
    refine cu D_ok mix 3 103 (tl 64 [(2, .loc 101 0), (3, .loc 102 0), (31, V.bool (a0.Op == 3))]) [(102, .cells 114 [V.bool r15, V.bool (a0.Text == []), V.bool (a0.Other == []), V.int 1, V.int 0]), (101, .cells 114 [V.bool false, V.bool false, V.bool false, V.int 0, V.int 0])] (by kernel_rfl) ?_
    (revert h27; refine cond_rev (fun hc35 h27 => ?_) (fun hc35 h27 => ?_))
    ·refine CodeOk.ifT hc35 (by kernel_rfl) ?_
     refine ce D_ok mix 2 103 (tl 64 [(2, .loc 101 0), (3, .loc 102 0)]) [(102, .cells 114 [V.bool r15, V.bool (a0.Text == []), V.bool (a0.Other == []), V.int 2, V.int 0]), (101, .cells 114 [V.bool false, V.bool false, V.bool false, V.int 0, V.int 0])] (by kernel_rfl) (fun st hw => ?_)
     exact hk34 (r15, a0, 2) h27 _ (hw.trans (Weak.sel [(101, 100), (102, 101)] [2, 3] (by kernel_rfl) (by kernel_rfl) (by kernel_rfl)))
    refine CodeOk.ifF hc35 (by kernel_rfl) ?_
    refine CodeOk.skip ?_
    exact hk34 (r15, a0, 1) h27 _ (Weak.sel [(101, 100), (102, 101)] [2, 3] (by kernel_rfl) (by kernel_rfl) (by kernel_rfl))
   refine CodeOk.ifF hc29 (by kernel_rfl) ?_
   refine cu D_ok mix 2 103 (tl 64 [(1, .loc 100 0), (2, .loc 101 0), (3, .loc 102 0), (15, V.int a0.Kind), (36, V.bool (a0.Kind == 43))]) [(100, .cells 48 [V.int a0.Kind, V.int a0.Op, V.str a0.Text, V.str a0.Other, .sl false false (a0.Kids.map encI)]), (101, .cells 114 [V.bool false, V.bool false, V.bool false, V.int 0, V.int 0]), (102, .cells 114 [V.bool (a0.Op == 0), V.bool (a0.Text == []), V.bool (a0.Other == []), V.int 0, V.int 0])] (by kernel_rfl) ?_
   (revert h27; refine cond_rev (fun hc36 h27 => ?_) (fun hc36 h27 => ?_))
   ·refine CodeOk.ifT hc36 (by kernel_rfl) ?_
    (revert h27; refine bind_rev fun y17 hv38 h27 => ?_)
    refine CodeOk.cutR (tl 64 [(1, .loc 100 0), (2, .loc 101 0), (3, .loc 102 0)]) [(100, .cells 48 [V.int a0.Kind, V.int a0.Op, V.str a0.Text, V.str a0.Other, .sl false false (a0.Kids.map encI)]), (101, .cells 114 [V.bool false, V.bool false, V.bool false, V.int 0, V.int 0]), (102, .cells 114 [V.bool y17, V.bool (a0.Text == []), V.bool (a0.Other == []), V.int 2, V.int 0])] mix (by
     refine W.run D_ok 4 103 (by kernel_rfl) ?_
     (revert hv38; refine cond_rev (fun hc39 hv38 => ?_) (fun hc39 hv38 => ?_))
     ·refine W.is 41 hc39 (by kernel_rfl) ?_
      refine W.run D_ok 8 103 (by kernel_rfl) ?_
      have hv38 := Option.some.inj hv38
      subst hv38
      exact W.fs [(100, 100), (101, 101), (102, 102)] [1, 2, 3] (by kernel_rfl)
     refine W.is 41 hc39 (by kernel_rfl) ?_
     refine W.run D_ok 8 103 (by kernel_rfl) ?_
     have hv38 := Option.some.inj hv38
     subst hv38
     exact W.fs [(100, 100), (101, 101), (102, 102)] [1, 2, 3] (by kernel_rfl)
     ) ?_
    refine CodeOk.join (fun (⟨y17, a0, y18⟩ : (Bool × SNode × Int)) => ⟨tl 64 [(2, .loc 100 0), (3, .loc 101 0)], [(100, .cells 114 [V.bool false, V.bool false, V.bool false, V.int 0, V.int 0]), (101, .cells 114 [V.bool y17, V.bool (a0.Text == []), V.bool (a0.Other == []), V.int y18, V.int 0])]⟩) (fun i => m_impl_itemForm_k4 N i = some r) ?_ ?_
    · rintro ⟨y17, a0, y18⟩ h41
      rw [m_impl_itemForm_k4] at h41
      refine ce D_ok mix 4 103 (tl 64 [(2, .loc 100 0), (3, .loc 101 0)]) [(101, .cells 114 [V.bool y17, V.bool (a0.Text == []), V.bool (a0.Other == []), V.int y18, V.int y18]), (100, .cells 114 [V.bool false, V.bool false, V.bool false, V.int 0, V.int 0])] (by kernel_rfl) (fun st hw => ?_)
      exact hk25 (a0, y17, (a0.Text == []), y18, y18) h41 _ (hw.trans (Weak.sel [(100, 100), (101, 101)] [2, 3] (by kernel_rfl) (by kernel_rfl) (by kernel_rfl)))
    intro hk42
    refine cu D_ok mix 3 103 (tl 64 [(2, .loc 101 0), (3, .loc 102 0), (50, V.bool (a0.Op == 3))]) [(101, .cells 114 [V.bool false, V.bool false, V.bool false, V.int 0, V.int 0]), (102, .cells 114 [V.bool y17, V.bool (a0.Text == []), V.bool (a0.Other == []), V.int 2, V.int 0])] (by kernel_rfl) ?_
    (revert h27; refine cond_rev (fun hc43 h27 => ?_) (fun hc43 h27 => ?_))
    ·refine CodeOk.ifT hc43 (by kernel_rfl) ?_
     refine ce D_ok mix 2 103 (tl 64 [(2, .loc 101 0), (3, .loc 102 0)]) [(102, .cells 114 [V.bool y17, V.bool (a0.Text == []), V.bool (a0.Other == []), V.int 3, V.int 0]), (101, .cells 114 [V.bool false, V.bool false, V.bool false, V.int 0, V.int 0])] (by kernel_rfl) (fun st hw => ?_)
     exact hk42 (y17, a0, 3) h27 _ (hw.trans (Weak.sel [(101, 100), (102, 101)] [2, 3] (by kernel_rfl) (by kernel_rfl) (by kernel_rfl)))
    refine CodeOk.ifF hc43 (by kernel_rfl) ?_
    refine CodeOk.skip ?_
    exact hk42 (y17, a0, 2) h27 _ (Weak.sel [(101, 100), (102, 101)] [2, 3] (by kernel_rfl) (by kernel_rfl) (by kernel_rfl))
   refine CodeOk.ifF hc36 (by kernel_rfl) ?_
   refine cu D_ok mix 2 103 (tl 64 [(1, .loc 100 0), (2, .loc 101 0), (3, .loc 102 0), (55, V.bool (a0.Kind == 44))]) [(100, .cells 48 [V.int a0.Kind, V.int a0.Op, V.str a0.Text, V.str a0.Other, .sl false false (a0.Kids.map encI)]), (101, .cells 114 [V.bool false, V.bool false, V.bool false, V.int 0, V.int 0]), (102, .cells 114 [V.bool (a0.Op == 0), V.bool (a0.Text == []), V.bool (a0.Other == []), V.int 0, V.int 0])] (by kernel_rfl) ?_
   (revert h27; refine cond_rev (fun hc44 h27 => ?_) (fun hc44 h27 => ?_))
   ·refine CodeOk.ifT hc44 (by kernel_rfl) ?_
    (revert h27; refine bind_rev fun r20 hx46 h27 => ?_)
    refine CodeOk.endR (tl 64 [(2, .loc 101 0), (3, .loc 102 0)]) [(102, .cells 114 [V.bool (a0.Op == 0), V.bool r20, V.bool (a0.Other == []), V.int 1, V.int 7]), (101, .cells 114 [V.bool false, V.bool false, V.bool false, V.int 0, V.int 0])] mix (by
     refine W.run D_ok 2 103 (by kernel_rfl) ?_
     refine W.call0 (m_impl_NameOk_ok N a0.Text hx46) cok120 rfl (by kernel_rfl) ?_
     refine W.run D_ok 6 103 (by kernel_rfl) ?_
     exact W.fi (by kernel_rfl)
     ) (fun st hw => ?_)
    exact hk25 (a0, (a0.Op == 0), r20, 1, 7) h27 _ (hw.trans (Weak.sel [(101, 100), (102, 101)] [2, 3] (by kernel_rfl) (by kernel_rfl) (by kernel_rfl)))
   refine CodeOk.ifF hc44 (by kernel_rfl) ?_
   refine ce D_ok mix 2 103 (tl 64 [(2, .loc 101 0), (3, .loc 102 0)]) [(102, .cells 114 [V.bool (a0.Op == 0), V.bool (a0.Text == []), V.bool (a0.Other == []), V.int 0, V.int 400]), (101, .cells 114 [V.bool false, V.bool false, V.bool false, V.int 0, V.int 0])] (by kernel_rfl) (fun st hw => ?_)
   exact hk25 (a0, (a0.Op == 0), (a0.Text == []), 0, 400) h27 _ (hw.trans (Weak.sel [(101, 100), (102, 101)] [2, 3] (by kernel_rfl) (by kernel_rfl) (by kernel_rfl)))
 intro hk47
 refine cu D_ok mix 2 103 (tl 64 [(1, .loc 100 0), (2, .loc 101 0), (3, .loc 102 0), (15, V.int a0.Kind), (17, V.bool (a0.Kind == 40))]) [(102, .cells 114 [V.bool (a0.Op == 0), V.bool (a0.Text == []), V.bool (a0.Other == []), V.int 0, V.int 0]), (101, .cells 114 [V.bool false, V.bool false, V.bool false, V.int 0, V.int 0]), (100, .cells 48 [V.int a0.Kind, V.int a0.Op, V.str a0.Text, V.str a0.Other, .sl false false (a0.Kids.map encI)])] (by kernel_rfl) ?_
 (revert h; refine cond_rev (fun hc48 h => ?_) (fun hc48 h => ?_))
 ·refine CodeOk.ifT hc48 (by kernel_rfl) ?_
  refine CodeOk.skip ?_
  exact hk47 (a0, (a0.Kind == 40)) h _ (Weak.sel [(100, 100), (101, 101), (102, 102)] [1, 2, 3, 15, 17] (by kernel_rfl) (by kernel_rfl) (by kernel_rfl))
 refine CodeOk.ifF hc48 (by kernel_rfl) ?_
 refine ce D_ok mix 2 103 (tl 64 [(1, .loc 100 0), (2, .loc 101 0), (3, .loc 102 0), (15, V.int a0.Kind), (17, V.bool (a0.Kind == 41))]) [(102, .cells 114 [V.bool (a0.Op == 0), V.bool (a0.Text == []), V.bool (a0.Other == []), V.int 0, V.int 0]), (101, .cells 114 [V.bool false, V.bool false, V.bool false, V.int 0, V.int 0]), (100, .cells 48 [V.int a0.Kind, V.int a0.Op, V.str a0.Text, V.str a0.Other, .sl false false (a0.Kids.map encI)])] (by kernel_rfl) (fun st hw => ?_)
 exact hk47 (a0, (a0.Kind == 41)) h _ (hw.trans (Weak.sel [(100, 100), (101, 101), (102, 102)] [1, 2, 3, 15, 17] (by kernel_rfl) (by kernel_rfl) (by kernel_rfl)))

theorem m_impl_FieldsOk_ok (N : Nat) (a0 : SNode) {r : Bool} (h : m_impl_FieldsOk N a0 = some r) :
    AC Tryz.prog (GS [0, 1, 2]) 76 [.agg [V.int a0.Kind, V.int a0.Op, V.str a0.Text, V.str a0.Other, .sl false false (a0.Kids.map encI)]] [] (V.bool r) [] := by
 rw [m_impl_FieldsOk] at h
 refine AC.enter Tryz.func76 rfl ?_
 refine cu D_ok mix 2 100 (tl 61 [(1, .loc 100 0)]) [(100, .cells 48 [V.int a0.Kind, V.int a0.Op, V.str a0.Text, V.str a0.Other, .sl false false (a0.Kids.map encI)])] (by kernel_rfl) ?_
 refine cu D_ok mix 3 101 (tl 61 [(1, .loc 100 0), (3, .loc 101 0)]) [(101, .cells 114 [V.bool false, V.bool false, V.bool false, V.int 0, V.int 0]), (100, .cells 48 [V.int a0.Kind, V.int a0.Op, V.str a0.Text, V.str a0.Other, .sl false false (a0.Kids.map encI)])] (by kernel_rfl) ?_
 refine CodeOk.join (fun (⟨a0, y13, y14, y15, y16, y17⟩ : (SNode × Bool × Bool × Bool × Int × Int)) => ⟨tl 61 [(1, .loc 100 0), (3, .loc 101 0)], [(100, .cells 48 [V.int a0.Kind, V.int a0.Op, V.str a0.Text, V.str a0.Other, .sl false false (a0.Kids.map encI)]), (101, .cells 114 [V.bool y13, V.bool y14, V.bool y15, V.int y16, V.int y17])]⟩) (fun i => m_impl_FieldsOk_k1 N i = some r) ?_ ?_
 · rintro ⟨a0, y13, y14, y15, y16, y17⟩ h17
   rw [m_impl_FieldsOk_k1] at h17
   (revert h17; refine bind_rev fun y19 hv22 h17 => ?_)
   refine CodeOk.cutR (tl 61 [(2, V.bool y19)]) [] mix (by
    refine W.run D_ok 3 102 (by kernel_rfl) ?_
    (revert hv22; refine cond_rev (fun hc23 hv22 => ?_) (fun hc23 hv22 => ?_))
    ·refine W.is 43 hc23 (by kernel_rfl) ?_
     refine W.run D_ok 4 102 (by kernel_rfl) ?_
     (revert hv22; refine cond_rev (fun hc24 hv22 => ?_) (fun hc24 hv22 => ?_))
     ·refine W.is 47 hc24 (by kernel_rfl) ?_
      refine W.run D_ok 4 102 (by kernel_rfl) ?_
      (revert hv22; refine cond_rev (fun hc25 hv22 => ?_) (fun hc25 hv22 => ?_))
      ·refine W.is 51 hc25 (by kernel_rfl) ?_
       refine W.run D_ok 2 102 (by kernel_rfl) ?_
       refine W.len D_ok encI a0.Kids [] (by kernel_rfl) (by kernel_rfl) ?_
       refine W.run D_ok 4 102 (by kernel_rfl) ?_
       (revert hv22; refine bind_rev fun r20 hx26 hv22 => ?_)
       refine W.call0 (AC.gs (m_impl_within_ok (a0.Kids.length : Int) y16 y17 hx26) (by decide)) cok55 rfl (by kernel_rfl) ?_
       refine W.run D_ok 2 102 (by kernel_rfl) ?_
       have hv22 := Option.some.inj hv22
       subst hv22
       exact W.fs [] [2] (by kernel_rfl)
      refine W.is 51 hc25 (by kernel_rfl) ?_
      refine W.run D_ok 10 102 (by kernel_rfl) ?_
      have hv22 := Option.some.inj hv22
      subst hv22
      exact W.fs [] [2] (by kernel_rfl)
     refine W.is 47 hc24 (by kernel_rfl) ?_
     refine W.run D_ok 14 102 (by kernel_rfl) ?_
     have hv22 := Option.some.inj hv22
     subst hv22
     exact W.fs [] [2] (by kernel_rfl)
    refine W.is 43 hc23 (by kernel_rfl) ?_
    refine W.run D_ok 18 102 (by kernel_rfl) ?_
    have hv22 := Option.some.inj hv22
    subst hv22
    exact W.fs [] [2] (by kernel_rfl)
    ) ?_
   refine CodeOk.ret ?_
   have h17 := Option.some.inj h17
   subst h17
   exact Ends.gen [] (.inr rfl) (RetV.one rfl (OneR.tmp (t := 2) (r := V.bool y19) (by kernel_rfl))) (by kernel_rfl) (by kernel_rfl) (by kernel_rfl)
 intro hk27
 refine CodeOk.block' ?_
 (revert h; refine bind_rev fun r22 hx29 h => ?_)
 refine CodeOk.cutR (tl 61 [(1, .loc 100 0), (3, .loc 101 0), (5, V.bool r22)]) [(101, .cells 114 [V.bool false, V.bool false, V.bool false, V.int 0, V.int 0]), (100, .cells 48 [V.int a0.Kind, V.int a0.Op, V.str a0.Text, V.str a0.Other, .sl false false (a0.Kids.map encI)])] mix (by
  refine W.run D_ok 2 102 (by kernel_rfl) ?_
  refine W.call0 (AC.gs (m_impl_IsExpr_ok a0.Kind hx29) (by decide)) cok46 rfl (by kernel_rfl) ?_
  refine W.run D_ok 1 102 (by kernel_rfl) ?_
  exact W.fi (by kernel_rfl)
  ) ?_
 (revert h; refine cond_rev (fun hc30 h => ?_) (fun hc30 h => ?_))
 ·refine CodeOk.ifT hc30 (by kernel_rfl) ?_
  (revert h; refine bind_rev fun r24 hx32 h => ?_)
  refine CodeOk.cutR (tl 61 [(1, .loc 100 0), (3, .loc 101 0)]) [(101, .cells 114 [V.bool r24.op, V.bool r24.text, V.bool r24.other, V.int r24.least, V.int r24.most]), (100, .cells 48 [V.int a0.Kind, V.int a0.Op, V.str a0.Text, V.str a0.Other, .sl false false (a0.Kids.map encI)])] mix (by
   refine W.run D_ok 1 102 (by kernel_rfl) ?_
   refine W.call0 (m_impl_exprForm_ok N a0 hx32) cok105 rfl (by kernel_rfl) ?_
   refine W.run D_ok 1 102 (by kernel_rfl) ?_
   exact W.fi (by kernel_rfl)
   ) ?_
  refine ce D_ok mix 5 102 (tl 61 [(1, .loc 100 0), (3, .loc 101 0)]) [(101, .cells 114 [V.bool r24.op, V.bool r24.text, V.bool (a0.Other == []), V.int r24.least, V.int r24.most]), (100, .cells 48 [V.int a0.Kind, V.int a0.Op, V.str a0.Text, V.str a0.Other, .sl false false (a0.Kids.map encI)])] (by kernel_rfl) (fun st hw => ?_)
  exact hk27 (a0, r24.op, r24.text, (a0.Other == []), r24.least, r24.most) h _ (hw.trans (Weak.sel [(100, 100), (101, 101)] [1, 3] (by kernel_rfl) (by kernel_rfl) (by kernel_rfl)))
 refine CodeOk.ifF hc30 (by kernel_rfl) ?_
 refine cu D_ok mix 4 102 (tl 61 [(1, .loc 100 0), (3, .loc 101 0), (15, V.bool (a0.Kind == 16))]) [(101, .cells 114 [V.bool false, V.bool false, V.bool false, V.int 0, V.int 0]), (100, .cells 48 [V.int a0.Kind, V.int a0.Op, V.str a0.Text, V.str a0.Other, .sl false false (a0.Kids.map encI)])] (by kernel_rfl) ?_
 (revert h; refine cond_rev (fun hc33 h => ?_) (fun hc33 h => ?_))
 ·refine CodeOk.ifT hc33 (by kernel_rfl) ?_
  refine ce D_ok mix 11 102 (tl 61 [(1, .loc 100 0), (3, .loc 101 0)]) [(101, .cells 114 [V.bool (a0.Op == 0), V.bool (a0.Text == []), V.bool (a0.Other == []), V.int 0, V.int 0]), (100, .cells 48 [V.int a0.Kind, V.int a0.Op, V.str a0.Text, V.str a0.Other, .sl false false (a0.Kids.map encI)])] (by kernel_rfl) (fun st hw => ?_)
  exact hk27 (a0, (a0.Op == 0), (a0.Text == []), (a0.Other == []), 0, 0) h _ (hw.trans (Weak.sel [(100, 100), (101, 101)] [1, 3] (by kernel_rfl) (by kernel_rfl) (by kernel_rfl)))
 refine CodeOk.ifF hc33 (by kernel_rfl) ?_
 (revert h; refine bind_rev fun r26 hx35 h => ?_)
 refine CodeOk.cutR (tl 61 [(1, .loc 100 0), (3, .loc 101 0), (29, V.bool r26)]) [(101, .cells 114 [V.bool false, V.bool false, V.bool false, V.int 0, V.int 0]), (100, .cells 48 [V.int a0.Kind, V.int a0.Op, V.str a0.Text, V.str a0.Other, .sl false false (a0.Kids.map encI)])] mix (by
  refine W.run D_ok 2 102 (by kernel_rfl) ?_
  refine W.call0 (AC.gs (m_impl_IsStmt_ok a0.Kind hx35) (by decide)) cok106 rfl (by kernel_rfl) ?_
  refine W.run D_ok 1 102 (by kernel_rfl) ?_
  exact W.fi (by kernel_rfl)
  ) ?_
 (revert h; refine cond_rev (fun hc36 h => ?_) (fun hc36 h => ?_))
 ·refine CodeOk.ifT hc36 (by kernel_rfl) ?_
  (revert h; refine bind_rev fun r28 hx38 h => ?_)
  refine CodeOk.endR (tl 61 [(1, .loc 100 0), (3, .loc 101 0)]) [(101, .cells 114 [V.bool r28.op, V.bool r28.text, V.bool r28.other, V.int r28.least, V.int r28.most]), (100, .cells 48 [V.int a0.Kind, V.int a0.Op, V.str a0.Text, V.str a0.Other, .sl false false (a0.Kids.map encI)])] mix (by
   refine W.run D_ok 1 102 (by kernel_rfl) ?_
   refine W.call0 (m_impl_stmtForm_ok N a0 hx38) cok107 rfl (by kernel_rfl) ?_
   refine W.run D_ok 1 102 (by kernel_rfl) ?_
   exact W.fi (by kernel_rfl)
   ) (fun st hw => ?_)
  exact hk27 (a0, r28.op, r28.text, r28.other, r28.least, r28.most) h _ (hw.trans (Weak.sel [(100, 100), (101, 101)] [1, 3] (by kernel_rfl) (by kernel_rfl) (by kernel_rfl)))
 refine CodeOk.ifF hc36 (by kernel_rfl) ?_
 (revert h; refine bind_rev fun r30 hx40 h => ?_)
 refine CodeOk.cutR (tl 61 [(1, .loc 100 0), (3, .loc 101 0), (35, V.bool r30)]) [(101, .cells 114 [V.bool false, V.bool false, V.bool false, V.int 0, V.int 0]), (100, .cells 48 [V.int a0.Kind, V.int a0.Op, V.str a0.Text, V.str a0.Other, .sl false false (a0.Kids.map encI)])] mix (by
  refine W.run D_ok 2 102 (by kernel_rfl) ?_
  refine W.call0 (AC.gs (m_impl_within_ok a0.Kind 40 45 hx40) (by decide)) cok55 rfl (by kernel_rfl) ?_
  refine W.run D_ok 1 102 (by kernel_rfl) ?_
  exact W.fi (by kernel_rfl)
  ) ?_
 (revert h; refine cond_rev (fun hc41 h => ?_) (fun hc41 h => ?_))
 ·refine CodeOk.ifT hc41 (by kernel_rfl) ?_
  (revert h; refine bind_rev fun r32 hx43 h => ?_)
  refine CodeOk.endR (tl 61 [(1, .loc 100 0), (3, .loc 101 0)]) [(101, .cells 114 [V.bool r32.op, V.bool r32.text, V.bool r32.other, V.int r32.least, V.int r32.most]), (100, .cells 48 [V.int a0.Kind, V.int a0.Op, V.str a0.Text, V.str a0.Other, .sl false false (a0.Kids.map encI)])] mix (by
   refine W.run D_ok 1 102 (by kernel_rfl) ?_
   refine W.call0 (AC.gs (m_impl_itemForm_ok N a0 hx43) (by decide)) cok108 rfl (by kernel_rfl) ?_
   refine W.run D_ok 1 102 (by kernel_rfl) ?_
   exact W.fi (by kernel_rfl)
   ) (fun st hw => ?_)
  exact hk27 (a0, r32.op, r32.text, r32.other, r32.least, r32.most) h _ (hw.trans (Weak.sel [(100, 100), (101, 101)] [1, 3] (by kernel_rfl) (by kernel_rfl) (by kernel_rfl)))
 refine CodeOk.ifF hc41 (by kernel_rfl) ?_
 refine cu D_ok mix 1 102 (tl 61 [(2, V.bool false)]) [] (by kernel_rfl) ?_
 refine CodeOk.ret ?_
 have h := Option.some.inj h
 subst h
 exact Ends.gen [] (.inr rfl) (RetV.one rfl (OneR.tmp (t := 2) (r := V.bool false) (by kernel_rfl))) (by kernel_rfl) (by kernel_rfl) (by kernel_rfl)

theorem m_impl_IsLvalue_ok (a0 : Int) {r : Bool} (h : m_impl_IsLvalue a0 = some r) :
    AC Tryz.prog (GS []) 109 [V.int a0] [] (V.bool r) [] := by
 rw [m_impl_IsLvalue] at h
 refine AC.enter Tryz.func109 rfl ?_
 refine cu D_ok mix 1 100 (tl 13 [(0, V.int a0)]) [] (by kernel_rfl) ?_
 (revert h; refine bind_rev fun y1 hv3 h => ?_)
 refine CodeOk.cutR (tl 13 [(2, V.bool y1)]) [] mix (by
  refine W.run D_ok 3 100 (by kernel_rfl) ?_
  (revert hv3; refine cond_rev (fun hc4 hv3 => ?_) (fun hc4 hv3 => ?_))
  ·refine W.is 5 hc4 (by kernel_rfl) ?_
   refine W.run D_ok 8 100 (by kernel_rfl) ?_
   have hv3 := Option.some.inj hv3
   subst hv3
   exact W.fs [] [2] (by kernel_rfl)
  refine W.is 5 hc4 (by kernel_rfl) ?_
  refine W.run D_ok 4 100 (by kernel_rfl) ?_
  (revert hv3; refine cond_rev (fun hc5 hv3 => ?_) (fun hc5 hv3 => ?_))
  ·refine W.is 9 hc5 (by kernel_rfl) ?_
   refine W.run D_ok 4 100 (by kernel_rfl) ?_
   have hv3 := Option.some.inj hv3
   subst hv3
   exact W.fs [] [2] (by kernel_rfl)
  refine W.is 9 hc5 (by kernel_rfl) ?_
  refine W.run D_ok 4 100 (by kernel_rfl) ?_
  have hv3 := Option.some.inj hv3
  subst hv3
  exact W.fs [] [2] (by kernel_rfl)
  ) ?_
 refine CodeOk.ret ?_
 have h := Option.some.inj h
 subst h
 exact Ends.gen [] (.inr rfl) (RetV.one rfl (OneR.tmp (t := 2) (r := V.bool y1) (by kernel_rfl))) (by kernel_rfl) (by kernel_rfl) (by kernel_rfl)

theorem m_impl_isItem_ok (a0 : Int) {r : Bool} (h : m_impl_isItem a0 = some r) :
    AC Tryz.prog (GS []) 110 [V.int a0] [] (V.bool r) [] := by
 rw [m_impl_isItem] at h
 refine AC.enter Tryz.func110 rfl ?_
 refine cu D_ok mix 1 100 (tl 5 [(0, V.int a0)]) [] (by kernel_rfl) ?_
 (revert h; refine bind_rev fun r2 hx2 h => ?_)
 refine CodeOk.cutR (tl 5 [(2, V.bool r2)]) [] mix (by
  refine W.run D_ok 1 100 (by kernel_rfl) ?_
  refine W.call0 (m_impl_within_ok a0 40 44 hx2) cok55 rfl (by kernel_rfl) ?_
  refine W.run D_ok 1 100 (by kernel_rfl) ?_
  exact W.fi (by kernel_rfl)
  ) ?_
 refine CodeOk.ret ?_
 have h := Option.some.inj h
 subst h
 exact Ends.gen [] (.inr rfl) (RetV.one rfl (OneR.tmp (t := 2) (r := V.bool r2) (by kernel_rfl))) (by kernel_rfl) (by kernel_rfl) (by kernel_rfl)

theorem m_impl_kidOk_ok (a0 : SNode) (a1 : Int) (a2 : Int) {r : Bool} (h : m_impl_kidOk a0 a1 a2 = some r) :
    AC Tryz.prog (GS []) 77 [.agg [V.int a0.Kind, V.int a0.Op, V.str a0.Text, V.str a0.Other, .sl false false (a0.Kids.map encI)], V.int a1, V.int a2] [] (V.bool r) [] := by
 rw [m_impl_kidOk] at h
 refine AC.enter Tryz.func77 rfl ?_
 refine cu D_ok mix 2 100 (tl 99 [(1, V.int a1), (2, V.int a2), (3, .loc 100 0)]) [(100, .cells 48 [V.int a0.Kind, V.int a0.Op, V.str a0.Text, V.str a0.Other, .sl false false (a0.Kids.map encI)])] (by kernel_rfl) ?_
 refine CodeOk.cutR (tl 99 [(1, V.int a1), (2, V.int a2), (3, .loc 100 0), (7, V.bool (a1 == (IntKind.wrap .i64 ((a0.Kids.length : Int) - 1))))]) [(100, .cells 48 [V.int a0.Kind, V.int a0.Op, V.str a0.Text, V.str a0.Other, .sl false false (a0.Kids.map encI)])] mix (by
  refine W.run D_ok 3 101 (by kernel_rfl) ?_
  refine W.len D_ok encI a0.Kids [] (by kernel_rfl) (by kernel_rfl) ?_
  refine W.run D_ok 3 101 (by kernel_rfl) ?_
  exact W.fi (by kernel_rfl)
  ) ?_
 refine cu D_ok mix 1 101 (tl 99 [(1, V.int a1), (2, V.int a2), (3, .loc 100 0), (7, V.bool (a1 == (IntKind.wrap .i64 ((a0.Kids.length : Int) - 1)))), (8, V.bool false)]) [(100, .cells 48 [V.int a0.Kind, V.int a0.Op, V.str a0.Text, V.str a0.Other, .sl false false (a0.Kids.map encI)])] (by kernel_rfl) ?_
 refine CodeOk.join (fun (⟨a2, y22⟩ : (Int × Bool)) => ⟨tl 99 [(2, V.int a2), (8, V.bool y22)], []⟩) (fun i => m_impl_kidOk_k1 i = some r) ?_ ?_
 · rintro ⟨a2, y22⟩ h66
   rw [m_impl_kidOk_k1] at h66
   refine CodeOk.seq' ?_
   refine cu D_ok mix 1 101 (tl 99 [(2, V.int a2), (94, V.bool y22)]) [] (by kernel_rfl) ?_
   (revert h66; refine cond_rev (fun hc68 h66 => ?_) (fun hc68 h66 => ?_))
   ·refine CodeOk.ifT hc68 (by kernel_rfl) ?_
    refine cu D_ok mix 3 101 (tl 99 [(6, V.bool (a2 == 33))]) [] (by kernel_rfl) ?_
    refine CodeOk.ret ?_
    have h66 := Option.some.inj h66
    subst h66
    exact Ends.gen [] (.inr rfl) (RetV.one rfl (OneR.tmp (t := 6) (r := V.bool (a2 == 33)) (by kernel_rfl))) (by kernel_rfl) (by kernel_rfl) (by kernel_rfl)
   refine CodeOk.ifF hc68 (by kernel_rfl) ?_
   refine CodeOk.skip ?_
   (revert h66; refine bind_rev fun r24 hx70 h66 => ?_)
   refine CodeOk.cutR (tl 99 [(6, V.bool r24)]) [] mix (by
    refine W.run D_ok 1 101 (by kernel_rfl) ?_
    refine W.call0 (m_impl_IsExpr_ok a2 hx70) cok46 rfl (by kernel_rfl) ?_
    refine W.run D_ok 1 101 (by kernel_rfl) ?_
    exact W.fi (by kernel_rfl)
    ) ?_
   refine CodeOk.ret ?_
   have h66 := Option.some.inj h66
   subst h66
   exact Ends.gen [] (.inr rfl) (RetV.one rfl (OneR.tmp (t := 6) (r := V.bool r24) (by kernel_rfl))) (by kernel_rfl) (by kernel_rfl) (by kernel_rfl)
 intro hk71
 refine cu D_ok mix 2 101 (tl 99 [(1, V.int a1), (2, V.int a2), (3, .loc 100 0), (7, V.bool (a1 == (IntKind.wrap .i64 ((a0.Kids.length : Int) - 1)))), (8, V.bool false), (16, V.int a0.Kind)]) [(100, .cells 48 [V.int a0.Kind, V.int a0.Op, V.str a0.Text, V.str a0.Other, .sl false false (a0.Kids.map encI)])] (by kernel_rfl) ?_
 refine CodeOk.block' ?_
 refine CodeOk.join (fun (⟨a1, a2, a0, y25⟩ : (Int × Int × SNode × Bool)) => ⟨tl 99 [(1, V.int a1), (2, V.int a2), (3, .loc 100 0), (7, V.bool (a1 == (IntKind.wrap .i64 ((a0.Kids.length : Int) - 1)))), (8, V.bool false), (16, V.int a0.Kind), (17, V.bool y25)], [(100, .cells 48 [V.int a0.Kind, V.int a0.Op, V.str a0.Text, V.str a0.Other, .sl false false (a0.Kids.map encI)])]⟩) (fun i => m_impl_kidOk_k2 i = some r) ?_ ?_
 · rintro ⟨a1, a2, a0, y25⟩ h73
   rw [m_impl_kidOk_k2] at h73
   (revert h73; refine cond_rev (fun hc74 h73 => ?_) (fun hc74 h73 => ?_))
   ·refine CodeOk.ifT hc74 (by kernel_rfl) ?_
    (revert h73; refine bind_rev fun r27 hx76 h73 => ?_)
    refine CodeOk.cutR (tl 99 [(6, V.bool r27)]) [] mix (by
     refine W.run D_ok 1 101 (by kernel_rfl) ?_
     refine W.call0 (m_impl_IsLvalue_ok a2 hx76) cok109 rfl (by kernel_rfl) ?_
     refine W.run D_ok 1 101 (by kernel_rfl) ?_
     exact W.fi (by kernel_rfl)
     ) ?_
    refine CodeOk.ret ?_
    have h73 := Option.some.inj h73
    subst h73
    exact Ends.gen [] (.inr rfl) (RetV.one rfl (OneR.tmp (t := 6) (r := V.bool r27) (by kernel_rfl))) (by kernel_rfl) (by kernel_rfl) (by kernel_rfl)
   refine CodeOk.ifF hc74 (by kernel_rfl) ?_
   refine cu D_ok mix 2 101 (tl 99 [(1, V.int a1), (2, V.int a2), (3, .loc 100 0), (7, V.bool (a1 == (IntKind.wrap .i64 ((a0.Kids.length : Int) - 1)))), (8, V.bool false), (16, V.int a0.Kind), (22, V.bool (a0.Kind == 15))]) [(100, .cells 48 [V.int a0.Kind, V.int a0.Op, V.str a0.Text, V.str a0.Other, .sl false false (a0.Kids.map encI)])] (by kernel_rfl) ?_
   (revert h73; refine cond_rev (fun hc77 h73 => ?_) (fun hc77 h73 => ?_))
   ·refine CodeOk.ifT hc77 (by kernel_rfl) ?_
    (revert h73; refine bind_rev fun y31 hv85 h73 => ?_)
    refine CodeOk.cutR (tl 99 [(6, V.bool y31)]) [] mix (by
     refine W.run D_ok 3 101 (by kernel_rfl) ?_
     (revert hv85; refine cond_rev (fun hc86 hv85 => ?_) (fun hc86 hv85 => ?_))
     ·refine W.is 26 hc86 (by kernel_rfl) ?_
      refine W.run D_ok 1 101 (by kernel_rfl) ?_
      (revert hv85; refine bind_rev fun r32 hx87 hv85 => ?_)
      refine W.call0 (m_impl_IsLvalue_ok a2 hx87) cok109 rfl (by kernel_rfl) ?_
      refine W.run D_ok 2 101 (by kernel_rfl) ?_
      (revert hv85; refine cond_rev (fun hc88 hv85 => ?_) (fun hc88 hv85 => ?_))
      ·refine W.is 30 hc88 (by kernel_rfl) ?_
       refine W.run D_ok 8 101 (by kernel_rfl) ?_
       have hv85 := Option.some.inj hv85
       subst hv85
       exact W.fs [] [6] (by kernel_rfl)
      refine W.is 30 hc88 (by kernel_rfl) ?_
      refine W.run D_ok 3 101 (by kernel_rfl) ?_
      (revert hv85; refine cond_rev (fun hc89 hv85 => ?_) (fun hc89 hv85 => ?_))
      ·refine W.is 33 hc89 (by kernel_rfl) ?_
       refine W.run D_ok 1 101 (by kernel_rfl) ?_
       (revert hv85; refine bind_rev fun r33 hx90 hv85 => ?_)
       refine W.call0 (m_impl_IsExpr_ok a2 hx90) cok46 rfl (by kernel_rfl) ?_
       refine W.run D_ok 3 101 (by kernel_rfl) ?_
       have hv85 := Option.some.inj hv85
       subst hv85
       exact W.fs [] [6] (by kernel_rfl)
      refine W.is 33 hc89 (by kernel_rfl) ?_
      refine W.run D_ok 5 101 (by kernel_rfl) ?_
      have hv85 := Option.some.inj hv85
      subst hv85
      exact W.fs [] [6] (by kernel_rfl)
     refine W.is 26 hc86 (by kernel_rfl) ?_
     refine W.run D_ok 7 101 (by kernel_rfl) ?_
     (revert hv85; refine cond_rev (fun hc91 hv85 => ?_) (fun hc91 hv85 => ?_))
     ·refine W.is 33 hc91 (by kernel_rfl) ?_
      refine W.run D_ok 1 101 (by kernel_rfl) ?_
      (revert hv85; refine bind_rev fun r34 hx92 hv85 => ?_)
      refine W.call0 (m_impl_IsExpr_ok a2 hx92) cok46 rfl (by kernel_rfl) ?_
      refine W.run D_ok 3 101 (by kernel_rfl) ?_
      have hv85 := Option.some.inj hv85
      subst hv85
      exact W.fs [] [6] (by kernel_rfl)
     refine W.is 33 hc91 (by kernel_rfl) ?_
     refine W.run D_ok 5 101 (by kernel_rfl) ?_
     have hv85 := Option.some.inj hv85
     subst hv85
     exact W.fs [] [6] (by kernel_rfl)
     ) ?_
    refine CodeOk.ret ?_
    have h73 := Option.some.inj h73
    subst h73
    exact Ends.gen [] (.inr rfl) (RetV.one rfl (OneR.tmp (t := 6) (r := V.bool y31) (by kernel_rfl))) (by kernel_rfl) (by kernel_rfl) (by kernel_rfl)
   refine CodeOk.ifF hc77 (by kernel_rfl) ?_
   refine CodeOk.join (fun (⟨a1, a2, a0, y35⟩ : (Int × Int × SNode × Bool)) => ⟨tl 99 [(1, V.int a1), (2, V.int a2), (3, .loc 100 0), (7, V.bool (a1 == (IntKind.wrap .i64 ((a0.Kids.length : Int) - 1)))), (8, V.bool false), (16, V.int a0.Kind), (38, V.bool y35)], [(100, .cells 48 [V.int a0.Kind, V.int a0.Op, V.str a0.Text, V.str a0.Other, .sl false false (a0.Kids.map encI)])]⟩) (fun i => m_impl_kidOk_k3 i = some r) ?_ ?_
   · rintro ⟨a1, a2, a0, y35⟩ h94
     rw [m_impl_kidOk_k3] at h94
     (revert h94; refine cond_rev (fun hc95 h94 => ?_) (fun hc95 h94 => ?_))
     ·refine CodeOk.ifT hc95 (by kernel_rfl) ?_
      refine ce D_ok mix 3 101 (tl 99 [(2, V.int a2), (8, V.bool (decide (a1 > 0)))]) [] (by kernel_rfl) (fun st hw => ?_)
      exact hk71 (a2, (decide (a1 > 0))) h94 _ (hw.trans (Weak.sel [] [2, 8] (by kernel_rfl) (by kernel_rfl) (by kernel_rfl)))
     refine CodeOk.ifF hc95 (by kernel_rfl) ?_
     refine cu D_ok mix 2 101 (tl 99 [(1, V.int a1), (2, V.int a2), (3, .loc 100 0), (7, V.bool (a1 == (IntKind.wrap .i64 ((a0.Kids.length : Int) - 1)))), (8, V.bool false), (16, V.int a0.Kind), (43, V.bool (a0.Kind == 31))]) [(100, .cells 48 [V.int a0.Kind, V.int a0.Op, V.str a0.Text, V.str a0.Other, .sl false false (a0.Kids.map encI)])] (by kernel_rfl) ?_
     (revert h94; refine cond_rev (fun hc96 h94 => ?_) (fun hc96 h94 => ?_))
     ·refine CodeOk.ifT hc96 (by kernel_rfl) ?_
      refine CodeOk.seq' ?_
      (revert h94; refine bind_rev fun y37 hv102 h94 => ?_)
      refine CodeOk.cutR (tl 99 [(2, V.int a2), (7, V.bool (a1 == (IntKind.wrap .i64 ((a0.Kids.length : Int) - 1)))), (50, V.bool y37)]) [] mix (by
       refine W.run D_ok 3 101 (by kernel_rfl) ?_
       (revert hv102; refine cond_rev (fun hc103 hv102 => ?_) (fun hc103 hv102 => ?_))
       ·refine W.is 47 hc103 (by kernel_rfl) ?_
        refine W.run D_ok 3 101 (by kernel_rfl) ?_
        have hv102 := Option.some.inj hv102
        subst hv102
        exact W.fs [] [2, 7, 50] (by kernel_rfl)
       refine W.is 47 hc103 (by kernel_rfl) ?_
       refine W.run D_ok 3 101 (by kernel_rfl) ?_
       have hv102 := Option.some.inj hv102
       subst hv102
       exact W.fs [] [2, 7, 50] (by kernel_rfl)
       ) ?_
      (revert h94; refine cond_rev (fun hc104 h94 => ?_) (fun hc104 h94 => ?_))
      ·refine CodeOk.ifT hc104 (by kernel_rfl) ?_
       refine cu D_ok mix 1 101 (tl 99 [(6, V.bool true)]) [] (by kernel_rfl) ?_
       refine CodeOk.ret ?_
       have h94 := Option.some.inj h94
       subst h94
       exact Ends.gen [] (.inr rfl) (RetV.one rfl (OneR.tmp (t := 6) (r := V.bool true) (by kernel_rfl))) (by kernel_rfl) (by kernel_rfl) (by kernel_rfl)
      refine CodeOk.ifF hc104 (by kernel_rfl) ?_
      refine CodeOk.skip ?_
      refine ce D_ok mix 2 101 (tl 99 [(2, V.int a2), (8, V.bool (a1 == (IntKind.wrap .i64 ((a0.Kids.length : Int) - 1))))]) [] (by kernel_rfl) (fun st hw => ?_)
      exact hk71 (a2, (a1 == (IntKind.wrap .i64 ((a0.Kids.length : Int) - 1)))) h94 _ (hw.trans (Weak.sel [] [2, 8] (by kernel_rfl) (by kernel_rfl) (by kernel_rfl)))
     refine CodeOk.ifF hc96 (by kernel_rfl) ?_
     refine cu D_ok mix 2 101 (tl 99 [(1, V.int a1), (2, V.int a2), (3, .loc 100 0), (7, V.bool (a1 == (IntKind.wrap .i64 ((a0.Kids.length : Int) - 1)))), (8, V.bool false), (16, V.int a0.Kind), (52, V.bool (a0.Kind == 30))]) [(100, .cells 48 [V.int a0.Kind, V.int a0.Op, V.str a0.Text, V.str a0.Other, .sl false false (a0.Kids.map encI)])] (by kernel_rfl) ?_
     (revert h94; refine cond_rev (fun hc105 h94 => ?_) (fun hc105 h94 => ?_))
     ·refine CodeOk.ifT hc105 (by kernel_rfl) ?_
      refine ce D_ok mix 3 101 (tl 99 [(2, V.int a2), (8, V.bool (a1 == 0))]) [] (by kernel_rfl) (fun st hw => ?_)
      exact hk71 (a2, (a1 == 0)) h94 _ (hw.trans (Weak.sel [] [2, 8] (by kernel_rfl) (by kernel_rfl) (by kernel_rfl)))
     refine CodeOk.ifF hc105 (by kernel_rfl) ?_
     refine CodeOk.join (fun (⟨a2, a1, a0, y38⟩ : (Int × Int × SNode × Bool)) => ⟨tl 99 [(2, V.int a2), (3, .loc 100 0), (7, V.bool (a1 == (IntKind.wrap .i64 ((a0.Kids.length : Int) - 1)))), (8, V.bool false), (16, V.int a0.Kind), (56, V.bool y38)], [(100, .cells 48 [V.int a0.Kind, V.int a0.Op, V.str a0.Text, V.str a0.Other, .sl false false (a0.Kids.map encI)])]⟩) (fun i => m_impl_kidOk_k4 i = some r) ?_ ?_
     · rintro ⟨a2, a1, a0, y38⟩ h108
       rw [m_impl_kidOk_k4] at h108
       (revert h108; refine cond_rev (fun hc109 h108 => ?_) (fun hc109 h108 => ?_))
       ·refine CodeOk.ifT hc109 (by kernel_rfl) ?_
        refine ce D_ok mix 1 101 (tl 99 [(2, V.int a2), (8, V.bool true)]) [] (by kernel_rfl) (fun st hw => ?_)
        exact hk71 (a2, true) h108 _ (hw.trans (Weak.sel [] [2, 8] (by kernel_rfl) (by kernel_rfl) (by kernel_rfl)))
       refine CodeOk.ifF hc109 (by kernel_rfl) ?_
       refine cu D_ok mix 2 101 (tl 99 [(2, V.int a2), (3, .loc 100 0), (7, V.bool (a1 == (IntKind.wrap .i64 ((a0.Kids.length : Int) - 1)))), (8, V.bool false), (16, V.int a0.Kind), (60, V.bool (a0.Kind == 33))]) [(100, .cells 48 [V.int a0.Kind, V.int a0.Op, V.str a0.Text, V.str a0.Other, .sl false false (a0.Kids.map encI)])] (by kernel_rfl) ?_
       (revert h108; refine cond_rev (fun hc110 h108 => ?_) (fun hc110 h108 => ?_))
       ·refine CodeOk.ifT hc110 (by kernel_rfl) ?_
        (revert h108; refine bind_rev fun r40 hx112 h108 => ?_)
        refine CodeOk.cutR (tl 99 [(6, V.bool r40)]) [] mix (by
         refine W.run D_ok 1 101 (by kernel_rfl) ?_
         refine W.call0 (m_impl_IsStmt_ok a2 hx112) cok106 rfl (by kernel_rfl) ?_
         refine W.run D_ok 1 101 (by kernel_rfl) ?_
         exact W.fi (by kernel_rfl)
         ) ?_
        refine CodeOk.ret ?_
        have h108 := Option.some.inj h108
        subst h108
        exact Ends.gen [] (.inr rfl) (RetV.one rfl (OneR.tmp (t := 6) (r := V.bool r40) (by kernel_rfl))) (by kernel_rfl) (by kernel_rfl) (by kernel_rfl)
       refine CodeOk.ifF hc110 (by kernel_rfl) ?_
       refine cu D_ok mix 2 101 (tl 99 [(2, V.int a2), (3, .loc 100 0), (7, V.bool (a1 == (IntKind.wrap .i64 ((a0.Kids.length : Int) - 1)))), (8, V.bool false), (16, V.int a0.Kind), (64, V.bool (a0.Kind == 42))]) [(100, .cells 48 [V.int a0.Kind, V.int a0.Op, V.str a0.Text, V.str a0.Other, .sl false false (a0.Kids.map encI)])] (by kernel_rfl) ?_
       (revert h108; refine cond_rev (fun hc113 h108 => ?_) (fun hc113 h108 => ?_))
       ·refine CodeOk.ifT hc113 (by kernel_rfl) ?_
        (revert h108; refine bind_rev fun y41 hv115 h108 => ?_)
        refine CodeOk.endR (tl 99 [(2, V.int a2), (8, V.bool y41)]) [] mix (by
         refine W.run D_ok 2 101 (by kernel_rfl) ?_
         (revert hv115; refine cond_rev (fun hc116 hv115 => ?_) (fun hc116 hv115 => ?_))
         ·refine W.is 67 hc116 (by kernel_rfl) ?_
          refine W.run D_ok 5 101 (by kernel_rfl) ?_
          have hv115 := Option.some.inj hv115
          subst hv115
          exact W.fs [] [2, 8] (by kernel_rfl)
         refine W.is 67 hc116 (by kernel_rfl) ?_
         refine W.run D_ok 5 101 (by kernel_rfl) ?_
         have hv115 := Option.some.inj hv115
         subst hv115
         exact W.fs [] [2, 8] (by kernel_rfl)
         ) (fun st hw => ?_)
        exact hk71 (a2, y41) h108 _ (hw.trans (Weak.sel [] [2, 8] (by kernel_rfl) (by kernel_rfl) (by kernel_rfl)))
       refine CodeOk.ifF hc113 (by kernel_rfl) ?_
       refine cu D_ok mix 2 101 (tl 99 [(2, V.int a2), (3, .loc 100 0), (7, V.bool (a1 == (IntKind.wrap .i64 ((a0.Kids.length : Int) - 1)))), (8, V.bool false), (16, V.int a0.Kind), (72, V.bool (a0.Kind == 43))]) [(100, .cells 48 [V.int a0.Kind, V.int a0.Op, V.str a0.Text, V.str a0.Other, .sl false false (a0.Kids.map encI)])] (by kernel_rfl) ?_
       (revert h108; refine cond_rev (fun hc117 h108 => ?_) (fun hc117 h108 => ?_))
       ·refine CodeOk.ifT hc117 (by kernel_rfl) ?_
        (revert h108; refine bind_rev fun y42 hv119 h108 => ?_)
        refine CodeOk.endR (tl 99 [(2, V.int a2), (8, V.bool y42)]) [] mix (by
         refine W.run D_ok 2 101 (by kernel_rfl) ?_
         (revert hv119; refine cond_rev (fun hc120 hv119 => ?_) (fun hc120 hv119 => ?_))
         ·refine W.is 75 hc120 (by kernel_rfl) ?_
          refine W.run D_ok 5 101 (by kernel_rfl) ?_
          have hv119 := Option.some.inj hv119
          subst hv119
          exact W.fs [] [2, 8] (by kernel_rfl)
         refine W.is 75 hc120 (by kernel_rfl) ?_
         refine W.run D_ok 5 101 (by kernel_rfl) ?_
         have hv119 := Option.some.inj hv119
         subst hv119
         exact W.fs [] [2, 8] (by kernel_rfl)
         ) (fun st hw => ?_)
        exact hk71 (a2, y42) h108 _ (hw.trans (Weak.sel [] [2, 8] (by kernel_rfl) (by kernel_rfl) (by kernel_rfl)))
       refine CodeOk.ifF hc117 (by kernel_rfl) ?_
       refine cu D_ok mix 2 101 (tl 99 [(2, V.int a2), (7, V.bool (a1 == (IntKind.wrap .i64 ((a0.Kids.length : Int) - 1)))), (8, V.bool false), (16, V.int a0.Kind), (80, V.bool (a0.Kind == 44))]) [] (by kernel_rfl) ?_
       (revert h108; refine cond_rev (fun hc121 h108 => ?_) (fun hc121 h108 => ?_))
       ·refine CodeOk.ifT hc121 (by kernel_rfl) ?_
        refine CodeOk.seq' ?_
        refine cu D_ok mix 2 101 (tl 99 [(2, V.int a2), (83, V.bool (!(a1 == (IntKind.wrap .i64 ((a0.Kids.length : Int) - 1)))))]) [] (by kernel_rfl) ?_
        (revert h108; refine cond_rev (fun hc123 h108 => ?_) (fun hc123 h108 => ?_))
        ·refine CodeOk.ifT hc123 (by kernel_rfl) ?_
         refine cu D_ok mix 3 101 (tl 99 [(6, V.bool (a2 == 1))]) [] (by kernel_rfl) ?_
         refine CodeOk.ret ?_
         have h108 := Option.some.inj h108
         subst h108
         exact Ends.gen [] (.inr rfl) (RetV.one rfl (OneR.tmp (t := 6) (r := V.bool (a2 == 1)) (by kernel_rfl))) (by kernel_rfl) (by kernel_rfl) (by kernel_rfl)
        refine CodeOk.ifF hc123 (by kernel_rfl) ?_
        refine CodeOk.skip ?_
        refine ce D_ok mix 1 101 (tl 99 [(2, V.int a2), (8, V.bool true)]) [] (by kernel_rfl) (fun st hw => ?_)
        exact hk71 (a2, true) h108 _ (hw.trans (Weak.sel [] [2, 8] (by kernel_rfl) (by kernel_rfl) (by kernel_rfl)))
       refine CodeOk.ifF hc121 (by kernel_rfl) ?_
       refine cu D_ok mix 2 101 (tl 99 [(2, V.int a2), (8, V.bool false), (86, V.bool (a0.Kind == 45))]) [] (by kernel_rfl) ?_
       (revert h108; refine cond_rev (fun hc124 h108 => ?_) (fun hc124 h108 => ?_))
       ·refine CodeOk.ifT hc124 (by kernel_rfl) ?_
        (revert h108; refine bind_rev fun y44 hv127 h108 => ?_)
        refine CodeOk.cutR (tl 99 [(6, V.bool y44)]) [] mix (by
         refine W.run D_ok 1 101 (by kernel_rfl) ?_
         (revert hv127; refine bind_rev fun r45 hx128 hv127 => ?_)
         refine W.call0 (m_impl_isItem_ok a2 hx128) cok110 rfl (by kernel_rfl) ?_
         refine W.run D_ok 1 101 (by kernel_rfl) ?_
         (revert hv127; refine cond_rev (fun hc129 hv127 => ?_) (fun hc129 hv127 => ?_))
         ·refine W.is 90 hc129 (by kernel_rfl) ?_
          refine W.run D_ok 4 101 (by kernel_rfl) ?_
          have hv127 := Option.some.inj hv127
          subst hv127
          exact W.fs [] [6] (by kernel_rfl)
         refine W.is 90 hc129 (by kernel_rfl) ?_
         refine W.run D_ok 4 101 (by kernel_rfl) ?_
         have hv127 := Option.some.inj hv127
         subst hv127
         exact W.fs [] [6] (by kernel_rfl)
         ) ?_
        refine CodeOk.ret ?_
        have h108 := Option.some.inj h108
        subst h108
        exact Ends.gen [] (.inr rfl) (RetV.one rfl (OneR.tmp (t := 6) (r := V.bool y44) (by kernel_rfl))) (by kernel_rfl) (by kernel_rfl) (by kernel_rfl)
       refine CodeOk.ifF hc124 (by kernel_rfl) ?_
       refine CodeOk.skip ?_
       exact hk71 (a2, false) h108 _ (Weak.sel [] [2, 8] (by kernel_rfl) (by kernel_rfl) (by kernel_rfl))
     intro hk130
     refine cu D_ok mix 2 101 (tl 99 [(2, V.int a2), (3, .loc 100 0), (7, V.bool (a1 == (IntKind.wrap .i64 ((a0.Kids.length : Int) - 1)))), (8, V.bool false), (16, V.int a0.Kind), (56, V.bool (a0.Kind == 32))]) [(100, .cells 48 [V.int a0.Kind, V.int a0.Op, V.str a0.Text, V.str a0.Other, .sl false false (a0.Kids.map encI)])] (by kernel_rfl) ?_
     (revert h94; refine cond_rev (fun hc131 h94 => ?_) (fun hc131 h94 => ?_))
     ·refine CodeOk.ifT hc131 (by kernel_rfl) ?_
      refine CodeOk.skip ?_
      exact hk130 (a2, a1, a0, (a0.Kind == 32)) h94 _ (Weak.sel [(100, 100)] [2, 3, 7, 8, 16, 56] (by kernel_rfl) (by kernel_rfl) (by kernel_rfl))
     refine CodeOk.ifF hc131 (by kernel_rfl) ?_
     refine cu D_ok mix 2 101 (tl 99 [(2, V.int a2), (3, .loc 100 0), (7, V.bool (a1 == (IntKind.wrap .i64 ((a0.Kids.length : Int) - 1)))), (8, V.bool false), (16, V.int a0.Kind), (56, V.bool (a0.Kind == 40))]) [(100, .cells 48 [V.int a0.Kind, V.int a0.Op, V.str a0.Text, V.str a0.Other, .sl false false (a0.Kids.map encI)])] (by kernel_rfl) ?_
     (revert h94; refine cond_rev (fun hc132 h94 => ?_) (fun hc132 h94 => ?_))
     ·refine CodeOk.ifT hc132 (by kernel_rfl) ?_
      refine CodeOk.skip ?_
      exact hk130 (a2, a1, a0, (a0.Kind == 40)) h94 _ (Weak.sel [(100, 100)] [2, 3, 7, 8, 16, 56] (by kernel_rfl) (by kernel_rfl) (by kernel_rfl))
     refine CodeOk.ifF hc132 (by kernel_rfl) ?_
     refine ce D_ok mix 2 101 (tl 99 [(2, V.int a2), (3, .loc 100 0), (7, V.bool (a1 == (IntKind.wrap .i64 ((a0.Kids.length : Int) - 1)))), (8, V.bool false), (16, V.int a0.Kind), (56, V.bool (a0.Kind == 41))]) [(100, .cells 48 [V.int a0.Kind, V.int a0.Op, V.str a0.Text, V.str a0.Other, .sl false false (a0.Kids.map encI)])] (by kernel_rfl) (fun st hw => ?_)
     exact hk130 (a2, a1, a0, (a0.Kind == 41)) h94 _ (hw.trans (Weak.sel [(100, 100)] [2, 3, 7, 8, 16, 56] (by kernel_rfl) (by kernel_rfl) (by kernel_rfl)))
   intro hk133
   refine cu D_ok mix 2 101 (tl 99 [(1, V.int a1), (2, V.int a2), (3, .loc 100 0), (7, V.bool (a1 == (IntKind.wrap .i64 ((a0.Kids.length : Int) - 1)))), (8, V.bool false), (16, V.int a0.Kind), (38, V.bool (a0.Kind == 28))]) [(100, .cells 48 [V.int a0.Kind, V.int a0.Op, V.str a0.Text, V.str a0.Other, .sl false false (a0.Kids.map encI)])] (by kernel_rfl) ?_
   (revert h73; refine cond_rev (fun hc134 h73 => ?_) (fun hc134 h73 => ?_))
   ·refine CodeOk.ifT hc134 (by kernel_rfl) ?_
    refine CodeOk.skip ?_
    exact hk133 (a1, a2, a0, (a0.Kind == 28)) h73 _ (Weak.sel [(100, 100)] [1, 2, 3, 7, 8, 16, 38] (by kernel_rfl) (by kernel_rfl) (by kernel_rfl))
   refine CodeOk.ifF hc134 (by kernel_rfl) ?_
   refine ce D_ok mix 2 101 (tl 99 [(1, V.int a1), (2, V.int a2), (3, .loc 100 0), (7, V.bool (a1 == (IntKind.wrap .i64 ((a0.Kids.length : Int) - 1)))), (8, V.bool false), (16, V.int a0.Kind), (38, V.bool (a0.Kind == 29))]) [(100, .cells 48 [V.int a0.Kind, V.int a0.Op, V.str a0.Text, V.str a0.Other, .sl false false (a0.Kids.map encI)])] (by kernel_rfl) (fun st hw => ?_)
   exact hk133 (a1, a2, a0, (a0.Kind == 29)) h73 _ (hw.trans (Weak.sel [(100, 100)] [1, 2, 3, 7, 8, 16, 38] (by kernel_rfl) (by kernel_rfl) (by kernel_rfl)))
 intro hk135
 refine cu D_ok mix 2 101 (tl 99 [(1, V.int a1), (2, V.int a2), (3, .loc 100 0), (7, V.bool (a1 == (IntKind.wrap .i64 ((a0.Kids.length : Int) - 1)))), (8, V.bool false), (16, V.int a0.Kind), (17, V.bool (a0.Kind == 9))]) [(100, .cells 48 [V.int a0.Kind, V.int a0.Op, V.str a0.Text, V.str a0.Other, .sl false false (a0.Kids.map encI)])] (by kernel_rfl) ?_
 (revert h; refine cond_rev (fun hc136 h => ?_) (fun hc136 h => ?_))
 ·refine CodeOk.ifT hc136 (by kernel_rfl) ?_
  refine CodeOk.skip ?_
  exact hk135 (a1, a2, a0, (a0.Kind == 9)) h _ (Weak.sel [(100, 100)] [1, 2, 3, 7, 8, 16, 17] (by kernel_rfl) (by kernel_rfl) (by kernel_rfl))
 refine CodeOk.ifF hc136 (by kernel_rfl) ?_
 refine ce D_ok mix 2 101 (tl 99 [(1, V.int a1), (2, V.int a2), (3, .loc 100 0), (7, V.bool (a1 == (IntKind.wrap .i64 ((a0.Kids.length : Int) - 1)))), (8, V.bool false), (16, V.int a0.Kind), (17, V.bool (a0.Kind == 10))]) [(100, .cells 48 [V.int a0.Kind, V.int a0.Op, V.str a0.Text, V.str a0.Other, .sl false false (a0.Kids.map encI)])] (by kernel_rfl) (fun st hw => ?_)
 exact hk135 (a1, a2, a0, (a0.Kind == 10)) h _ (hw.trans (Weak.sel [(100, 100)] [1, 2, 3, 7, 8, 16, 17] (by kernel_rfl) (by kernel_rfl) (by kernel_rfl)))

structure RecOk1 (R : Rec1) : Prop where
  m_impl_treeAt : ∀ (a0 : List SNode) (a1 : Int) (r : STree), R.m_impl_treeAt a0 a1 = some r → AC Tryz.prog (GS []) 48 [.sl false false (a0.map (encSNode false)), V.int a1] [] (.agg [V.int r.kind, V.int r.op, V.str r.text, V.str r.other, .sl false false (r.kids.map encSTree)]) []

theorem m_impl_treeAt_F_ok (N : Nat) (R : Rec1) (HR : RecOk1 R) (a0 : List SNode) (a1 : Int) {r : STree} (h : m_impl_treeAt_F N R a0 a1 = some r) :
    AC Tryz.prog (GS []) 48 [.sl false false (a0.map (encSNode false)), V.int a1] [] (.agg [V.int r.kind, V.int r.op, V.str r.text, V.str r.other, .sl false false (r.kids.map encSTree)]) [] := by
 rw [m_impl_treeAt_F] at h
 refine AC.enter Tryz.func48 rfl ?_
 refine cu D_ok mix 1 100 (tl 39 [(0, .sl false false (a0.map (encSNode false))), (1, V.int a1), (4, .loc 100 0)]) [(100, .cells 68 [V.int 0, V.int 0, V.str [], V.str [], .c (.slice none 0 0)])] (by kernel_rfl) ?_
 (revert h; refine bind_rev fun e2 hx2 h => ?_)
 refine CodeOk.cutR (tl 39 [(0, .sl false false (a0.map (encSNode false))), (4, .loc 100 0), (5, .loc 101 0)]) [(101, .cells 48 [V.int e2.Kind, V.int e2.Op, V.str e2.Text, V.str e2.Other, .sl false false (e2.Kids.map encI)]), (100, .cells 68 [V.int 0, V.int 0, V.str [], V.str [], .c (.slice none 0 0)])] mix (by
  refine W.run D_ok 2 101 (by kernel_rfl) ?_
  refine W.ixD D_ok (encSNode false) hx2 5 (by kernel_rfl) (by kernel_rfl) ?_
  refine W.run D_ok 3 101 (by kernel_rfl) ?_
  exact W.fi (by kernel_rfl)
  ) ?_
 refine cu D_ok mix 11 102 (tl 39 [(0, .sl false false (a0.map (encSNode false))), (4, .loc 100 0), (5, .loc 101 0), (6, .loc 102 0)]) [(102, .cells 68 [V.int e2.Kind, V.int e2.Op, V.str e2.Text, V.str e2.Other, .c (.slice none 0 0)]), (101, .cells 48 [V.int e2.Kind, V.int e2.Op, V.str e2.Text, V.str e2.Other, .sl false false (e2.Kids.map encI)]), (100, .cells 68 [V.int 0, V.int 0, V.str [], V.str [], .c (.slice none 0 0)])] (by kernel_rfl) ?_
 refine CodeOk.seq' ?_
 refine CodeOk.cutR (tl 39 [(0, .sl false false (a0.map (encSNode false))), (4, .loc 100 0), (6, .loc 102 0), (23, .sl false false (e2.Kids.map encI)), (24, V.int (e2.Kids.length : Int)), (25, V.int 0)]) [(102, .cells 68 [V.int e2.Kind, V.int e2.Op, V.str e2.Text, V.str e2.Other, .c (.slice none 0 0)]), (100, .cells 68 [V.int 0, V.int 0, V.str [], V.str [], .c (.slice none 0 0)])] mix (by
  refine W.run D_ok 2 103 (by kernel_rfl) ?_
  refine W.len D_ok encI e2.Kids [] (by kernel_rfl) (by kernel_rfl) ?_
  refine W.run D_ok 1 103 (by kernel_rfl) ?_
  exact W.fi (by kernel_rfl)
  ) ?_
 refine CodeOk.block' ?_
 refine CodeOk.loopJ (fun (⟨a0, e2, y63, y64⟩ : ((List SNode) × SNode × Int × (List STree))) => ⟨tl 39 [(0, .sl false false (a0.map (encSNode false))), (4, .loc 100 0), (6, .loc 101 0), (23, .sl false false (e2.Kids.map encI)), (24, V.int (e2.Kids.length : Int)), (25, V.int y63)], [(100, .cells 68 [V.int 0, V.int 0, V.str [], V.str [], .c (.slice none 0 0)]), (101, .cells 68 [V.int e2.Kind, V.int e2.Op, V.str e2.Text, V.str e2.Other, .own 102]), (102, .vec false 68 5 (y64.map encSTree))]⟩) (fun n i => m_impl_treeAt_l1 N R n i = some r) (n0 := N) (i0 := (a0, e2, 0, [])) ((Weak.nilCell 102 4 103 68 5 (ety := 68) (cs := [V.int e2.Kind, V.int e2.Op, V.str e2.Text, V.str e2.Other, .c (.slice none 0 0)]) (by kernel_rfl) (by kernel_rfl) (by kernel_rfl)).trans (Weak.sel [(100, 100), (102, 101), (103, 102)] [0, 4, 6, 23, 24, 25] (by kernel_rfl) (by kernel_rfl) (by kernel_rfl))) h (fun i h => by simp [m_impl_treeAt_l1] at h) ?_
 rintro n1 ⟨a0, e2, y63, y64⟩ h83 ih84
 rw [m_impl_treeAt_l1] at h83
 refine cu D_ok mix 1 168 (tl 39 [(0, .sl false false (a0.map (encSNode false))), (4, .loc 100 0), (6, .loc 101 0), (23, .sl false false (e2.Kids.map encI)), (24, V.int (e2.Kids.length : Int)), (25, V.int y63), (26, V.bool (decide (y63 < (e2.Kids.length : Int))))]) [(100, .cells 68 [V.int 0, V.int 0, V.str [], V.str [], .c (.slice none 0 0)]), (101, .cells 68 [V.int e2.Kind, V.int e2.Op, V.str e2.Text, V.str e2.Other, .own 102]), (102, .vec false 68 5 (y64.map encSTree))] (by kernel_rfl) ?_
 refine CodeOk.seq' ?_
 (revert h83; refine cond_rev (fun hc86 h83 => ?_) (fun hc86 h83 => ?_))
 ·refine CodeOk.ifT hc86 (by kernel_rfl) ?_
  refine CodeOk.skip ?_
  refine CodeOk.seq' ?_
  refine CodeOk.block' ?_
  (revert h83; refine bind_rev fun e86 hx94 h83 => ?_)
  refine CodeOk.cutR (tl 39 [(0, .sl false false (a0.map (encSNode false))), (4, .loc 100 0), (6, .loc 101 0), (8, V.int e86), (23, .sl false false (e2.Kids.map encI)), (24, V.int (e2.Kids.length : Int)), (25, V.int y63)]) [(100, .cells 68 [V.int 0, V.int 0, V.str [], V.str [], .c (.slice none 0 0)]), (101, .cells 68 [V.int e2.Kind, V.int e2.Op, V.str e2.Text, V.str e2.Other, .own 102]), (102, .vec false 68 5 (y64.map encSTree))] mix (by
   refine W.ixD D_ok encI hx94 1 (by kernel_rfl) (by kernel_rfl) ?_
   refine W.run D_ok 2 168 (by kernel_rfl) ?_
   exact W.fi (by kernel_rfl)
   ) ?_
  (revert h83; refine bind_rev fun r89 hx97 h83 => ?_)
  (revert h83; refine bind_rev fun x90 hx98 h83 => ?_)
  refine CodeOk.endR (tl 39 [(0, .sl false false (a0.map (encSNode false))), (4, .loc 100 0), (6, .loc 101 0), (23, .sl false false (e2.Kids.map encI)), (24, V.int (e2.Kids.length : Int)), (25, V.int y63)]) [(101, .cells 68 [V.int e2.Kind, V.int e2.Op, V.str e2.Text, V.str e2.Other, .own 169]), (169, .vec false 68 5 (x90.map encSTree)), (100, .cells 68 [V.int 0, V.int 0, V.str [], V.str [], .c (.slice none 0 0)])] mix (by
   refine W.run D_ok 4 168 (by kernel_rfl) ?_
   refine W.call0 (HR.m_impl_treeAt a0 e86 _ hx97) cok48 rfl (by kernel_rfl) ?_
   refine W.layop D_ok (show LayOk _ [] from trivial) (by kernel_rfl) 168 { v := .own 168, R := [], new := [(168, .vec true 68 5 [[V.int r89.kind, V.int r89.op, V.str r89.text, V.str r89.other, .sl false false (r89.kids.map encSTree)]])], N := [168] } (by kernel_rfl) ?_
   refine W.vecEq 168 (nn := true) (e := 68) (k := 5) (rows := [[V.int r89.kind, V.int r89.op, V.str r89.text, V.str r89.other, .sl false false (r89.kids.map encSTree)]]) (rows' := [r89].map encSTree) (by kernel_rfl) (by simp only [List.map_cons, List.map_nil, encSTree_eq]) ?_
   refine W.appO D_ok encSTree (a := 102) (c := 168) (el := 68) (sz := 5) 72 hx98 rfl 169 (by kernel_rfl) ?_
   refine W.run D_ok 2 170 (by kernel_rfl) ?_
   exact W.fi (by kernel_rfl)
   ) (fun st hw => ?_)
  refine CodeOk.weak hw ?_
  refine ce D_ok mix 2 170 (tl 39 [(0, .sl false false (a0.map (encSNode false))), (4, .loc 100 0), (6, .loc 101 0), (23, .sl false false (e2.Kids.map encI)), (24, V.int (e2.Kids.length : Int)), (25, V.int (IntKind.wrap .i64 (y63 + 1)))]) [(101, .cells 68 [V.int e2.Kind, V.int e2.Op, V.str e2.Text, V.str e2.Other, .own 169]), (169, .vec false 68 5 (x90.map encSTree)), (100, .cells 68 [V.int 0, V.int 0, V.str [], V.str [], .c (.slice none 0 0)])] (by kernel_rfl) (fun st hw => ?_)
  exact ih84 (a0, e2, (IntKind.wrap .i64 (y63 + 1)), x90) h83 _ (hw.trans (Weak.sel [(100, 100), (101, 101), (169, 102)] [0, 4, 6, 23, 24, 25] (by kernel_rfl) (by kernel_rfl) (by kernel_rfl)))
 refine CodeOk.ifF hc86 (by kernel_rfl) ?_
 refine CodeOk.exit ?_
 refine cu D_ok mix 2 168 (tl 39 [(4, .loc 100 0)]) [(100, .cells 68 [V.int e2.Kind, V.int e2.Op, V.str e2.Text, V.str e2.Other, .own 102]), (102, .vec false 68 5 (y64.map encSTree))] (by kernel_rfl) ?_
 refine CodeOk.lay (tl 39 [(4, .loc 100 0)]) [(100, .cells 68 [V.int e2.Kind, V.int e2.Op, V.str e2.Text, V.str e2.Other, .sl false false (y64.map encSTree)])] (LayOk.cons (j := 102) encSTree encSTree y64 (by kernel_rfl) (share_encSTree) (show LayOk _ [] from trivial)) (by kernel_rfl) (by kernel_rfl) (by kernel_rfl) ?_
 refine CodeOk.ret ?_
 have h83 := Option.some.inj h83
 subst h83
 exact Ends.gen [] (.inr rfl) (RetV.one rfl (OneR.cell D_ok (r := .agg [V.int e2.Kind, V.int e2.Op, V.str e2.Text, V.str e2.Other, .sl false false (y64.map encSTree)]) (i := 100) (ety := 68) (cs := [V.int e2.Kind, V.int e2.Op, V.str e2.Text, V.str e2.Other, .sl false false (y64.map encSTree)]) (by kernel_rfl) (by kernel_rfl) (by kernel_rfl))) (by kernel_rfl) (by kernel_rfl) (by kernel_rfl)

theorem scc1_ok : ∀ N, RecOk1 (scc1 N)
  | 0 => ⟨fun _ _ _ h => (by cases h)⟩
  | N + 1 => ⟨fun a0 a1 _ h => m_impl_treeAt_F_ok N (scc1 N) (scc1_ok N) a0 a1 h⟩

theorem m_impl_treeAt_ok (N : Nat) (a0 : List SNode) (a1 : Int) {r : STree} (h : m_impl_treeAt N a0 a1 = some r) :
    AC Tryz.prog (GS []) 48 [.sl false false (a0.map (encSNode false)), V.int a1] [] (.agg [V.int r.kind, V.int r.op, V.str r.text, V.str r.other, .sl false false (r.kids.map encSTree)]) [] :=
  (scc1_ok N).m_impl_treeAt a0 a1 r h

theorem m_impl_rootOf_ok (N : Nat) (a0 : List SNode) {r : STree} (h : m_impl_rootOf N a0 = some r) :
    AC Tryz.prog (GS []) 45 [.sl false false (a0.map (encSNode false))] [] (.agg [V.int r.kind, V.int r.op, V.str r.text, V.str r.other, .sl false false (r.kids.map encSTree)]) [] := by
 rw [m_impl_rootOf] at h
 refine AC.enter Tryz.func45 rfl ?_
 refine cu D_ok mix 1 100 (tl 8 [(0, .sl false false (a0.map (encSNode false))), (2, .loc 100 0)]) [(100, .cells 68 [V.int 0, V.int 0, V.str [], V.str [], .c (.slice none 0 0)])] (by kernel_rfl) ?_
 (revert h; refine bind_rev fun r2 hx2 h => ?_)
 refine CodeOk.cutR (tl 8 [(2, .loc 100 0)]) [(100, .cells 68 [V.int r2.kind, V.int r2.op, V.str r2.text, V.str r2.other, .sl false false (r2.kids.map encSTree)])] mix (by
  refine W.run D_ok 2 101 (by kernel_rfl) ?_
  refine W.len D_ok (encSNode false) a0 [] (by kernel_rfl) (by kernel_rfl) ?_
  refine W.run D_ok 1 101 (by kernel_rfl) ?_
  refine W.call0 (m_impl_treeAt_ok N a0 (IntKind.wrap .i64 ((a0.length : Int) - 1)) hx2) cok48 rfl (by kernel_rfl) ?_
  refine W.run D_ok 1 101 (by kernel_rfl) ?_
  exact W.fi (by kernel_rfl)
  ) ?_
 refine CodeOk.ret ?_
 have h := Option.some.inj h
 subst h
 exact Ends.gen [] (.inr rfl) (RetV.one rfl (OneR.cell D_ok (r := .agg [V.int r2.kind, V.int r2.op, V.str r2.text, V.str r2.other, .sl false false (r2.kids.map encSTree)]) (i := 100) (ety := 68) (cs := [V.int r2.kind, V.int r2.op, V.str r2.text, V.str r2.other, .sl false false (r2.kids.map encSTree)]) (by kernel_rfl) (by kernel_rfl) (by kernel_rfl))) (by kernel_rfl) (by kernel_rfl) (by kernel_rfl)

structure RecOk2 (R : Rec2) : Prop where
  m_impl_tree__depth : ∀ (a0 : STree) (r : Int), R.m_impl_tree__depth a0 = some r → AC Tryz.prog (GS []) 78 [.agg [V.int a0.kind, V.int a0.op, V.str a0.text, V.str a0.other, .sl false false (a0.kids.map encSTree)]] [] (V.int r) []

theorem m_impl_tree__depth_F_ok (N : Nat) (R : Rec2) (HR : RecOk2 R) (a0 : STree) {r : Int} (h : m_impl_tree__depth_F N R a0 = some r) :
    AC Tryz.prog (GS []) 78 [.agg [V.int a0.kind, V.int a0.op, V.str a0.text, V.str a0.other, .sl false false (a0.kids.map encSTree)]] [] (V.int r) [] := by
 rw [m_impl_tree__depth_F] at h
 refine AC.enter Tryz.func78 rfl ?_
 refine cu D_ok mix 2 100 (tl 20 [(1, .loc 100 0)]) [(100, .cells 68 [V.int a0.kind, V.int a0.op, V.str a0.text, V.str a0.other, .sl false false (a0.kids.map encSTree)])] (by kernel_rfl) ?_
 refine cu D_ok mix 1 101 (tl 20 [(1, .loc 100 0), (3, V.int 0)]) [(100, .cells 68 [V.int a0.kind, V.int a0.op, V.str a0.text, V.str a0.other, .sl false false (a0.kids.map encSTree)])] (by kernel_rfl) ?_
 refine CodeOk.seq' ?_
 refine CodeOk.cutR (tl 20 [(3, V.int 0), (7, .sl false false (a0.kids.map encSTree)), (8, V.int (a0.kids.length : Int)), (9, V.int 0)]) [] mix (by
  refine W.run D_ok 2 101 (by kernel_rfl) ?_
  refine W.len D_ok encSTree a0.kids [] (by kernel_rfl) (by kernel_rfl) ?_
  refine W.run D_ok 1 101 (by kernel_rfl) ?_
  exact W.fi (by kernel_rfl)
  ) ?_
 refine CodeOk.block' ?_
 refine CodeOk.loopJ (fun (⟨a0, y37, y38⟩ : (STree × Int × Int)) => ⟨tl 20 [(3, V.int y37), (7, .sl false false (a0.kids.map encSTree)), (8, V.int (a0.kids.length : Int)), (9, V.int y38)], []⟩) (fun n i => m_impl_tree__depth_l1 N R n i = some r) (n0 := N) (i0 := (a0, 0, 0)) (Weak.sel [] [3, 7, 8, 9] (by kernel_rfl) (by kernel_rfl) (by kernel_rfl)) h (fun i h => by simp [m_impl_tree__depth_l1] at h) ?_
 rintro n1 ⟨a0, y37, y38⟩ h53 ih54
 rw [m_impl_tree__depth_l1] at h53
 refine cu D_ok mix 1 163 (tl 20 [(3, V.int y37), (7, .sl false false (a0.kids.map encSTree)), (8, V.int (a0.kids.length : Int)), (9, V.int y38), (10, V.bool (decide (y38 < (a0.kids.length : Int))))]) [] (by kernel_rfl) ?_
 refine CodeOk.seq' ?_
 (revert h53; refine cond_rev (fun hc56 h53 => ?_) (fun hc56 h53 => ?_))
 ·refine CodeOk.ifT hc56 (by kernel_rfl) ?_
  refine CodeOk.skip ?_
  refine CodeOk.seq' ?_
  refine CodeOk.block' ?_
  (revert h53; refine bind_rev fun e54 hx62 h53 => ?_)
  refine CodeOk.cutR (tl 20 [(3, V.int y37), (5, .loc 163 0), (7, .sl false false (a0.kids.map encSTree)), (8, V.int (a0.kids.length : Int)), (9, V.int y38)]) [(163, .cells 68 [V.int e54.kind, V.int e54.op, V.str e54.text, V.str e54.other, .sl false false (e54.kids.map encSTree)])] mix (by
   refine W.ixDr D_ok encSTree hx62 5 (by kernel_rfl) (encSTree_eq e54) (by kernel_rfl) ?_
   refine W.run D_ok 3 163 (by kernel_rfl) ?_
   exact W.fi (by kernel_rfl)
   ) ?_
  (revert h53; refine bind_rev fun r56 hx64 h53 => ?_)
  refine CodeOk.endR (tl 20 [(3, V.int (if r56 > y37 then r56 else y37)), (7, .sl false false (a0.kids.map encSTree)), (8, V.int (a0.kids.length : Int)), (9, V.int y38)]) [] mix (by
   refine W.run D_ok 2 164 (by kernel_rfl) ?_
   refine W.call0 (HR.m_impl_tree__depth e54 _ hx64) cok78 rfl (by kernel_rfl) ?_
   refine W.run D_ok 2 164 (by kernel_rfl) ?_
   exact W.fi (by kernel_rfl)
   ) (fun st hw => ?_)
  refine CodeOk.weak hw ?_
  refine ce D_ok mix 2 164 (tl 20 [(3, V.int (if r56 > y37 then r56 else y37)), (7, .sl false false (a0.kids.map encSTree)), (8, V.int (a0.kids.length : Int)), (9, V.int (IntKind.wrap .i64 (y38 + 1)))]) [] (by kernel_rfl) (fun st hw => ?_)
  exact ih54 (a0, (if r56 > y37 then r56 else y37), (IntKind.wrap .i64 (y38 + 1))) h53 _ (hw.trans (Weak.sel [] [3, 7, 8, 9] (by kernel_rfl) (by kernel_rfl) (by kernel_rfl)))
 refine CodeOk.ifF hc56 (by kernel_rfl) ?_
 refine CodeOk.exit ?_
 refine cu D_ok mix 3 163 (tl 20 [(2, V.int (IntKind.wrap .i64 (y37 + 1)))]) [] (by kernel_rfl) ?_
 refine CodeOk.ret ?_
 have h53 := Option.some.inj h53
 subst h53
 exact Ends.gen [] (.inr rfl) (RetV.one rfl (OneR.tmp (t := 2) (r := V.int (IntKind.wrap .i64 (y37 + 1))) (by kernel_rfl))) (by kernel_rfl) (by kernel_rfl) (by kernel_rfl)

theorem scc2_ok : ∀ N, RecOk2 (scc2 N)
  | 0 => ⟨fun _ _ h => (by cases h)⟩
  | N + 1 => ⟨fun a0 _ h => m_impl_tree__depth_F_ok N (scc2 N) (scc2_ok N) a0 h⟩

theorem m_impl_tree__depth_ok (N : Nat) (a0 : STree) {r : Int} (h : m_impl_tree__depth N a0 = some r) :
    AC Tryz.prog (GS []) 78 [.agg [V.int a0.kind, V.int a0.op, V.str a0.text, V.str a0.other, .sl false false (a0.kids.map encSTree)]] [] (V.int r) [] :=
  (scc2_ok N).m_impl_tree__depth a0 r h

theorem m_impl_TreeOk_ok (N : Nat) (a0 : List SNode) {r : Bool} (h : m_impl_TreeOk N a0 = some r) :
    AC Tryz.prog (GS [0, 1, 2]) 36 [.sl false false (a0.map (encSNode false))] [] (V.bool r) [] := by
 rw [m_impl_TreeOk] at h
 refine AC.enter Tryz.func36 rfl ?_
 refine cu D_ok mix 1 100 (tl 42 [(0, .sl false false (a0.map (encSNode false)))]) [] (by kernel_rfl) ?_
 refine CodeOk.seq' ?_
 (revert h; refine bind_rev fun r4 hx5 h => ?_)
 refine CodeOk.cutR (tl 42 [(0, .sl false false (a0.map (encSNode false))), (9, V.bool (!r4))]) [] mix (by
  refine W.run D_ok 1 100 (by kernel_rfl) ?_
  refine W.call0 (AC.gs (m_impl_ShapeOk_ok N a0 hx5) (by decide)) cok75 rfl (by kernel_rfl) ?_
  refine W.run D_ok 1 100 (by kernel_rfl) ?_
  exact W.fi (by kernel_rfl)
  ) ?_
 (revert h; refine cond_rev (fun hc6 h => ?_) (fun hc6 h => ?_))
 ·refine CodeOk.ifT hc6 (by kernel_rfl) ?_
  refine cu D_ok mix 1 100 (tl 42 [(2, V.bool false)]) [] (by kernel_rfl) ?_
  refine CodeOk.ret ?_
  have h := Option.some.inj h
  subst h
  exact Ends.gen [] (.inr rfl) (RetV.one rfl (OneR.tmp (t := 2) (r := V.bool false) (by kernel_rfl))) (by kernel_rfl) (by kernel_rfl) (by kernel_rfl)
 refine CodeOk.ifF hc6 (by kernel_rfl) ?_
 refine CodeOk.skip ?_
 refine CodeOk.seq' ?_
 refine CodeOk.cutR (tl 42 [(0, .sl false false (a0.map (encSNode false))), (10, .sl false false (a0.map (encSNode false))), (11, V.int (a0.length : Int)), (12, V.int 0)]) [] mix (by
  refine W.run D_ok 1 100 (by kernel_rfl) ?_
  refine W.len D_ok (encSNode false) a0 [] (by kernel_rfl) (by kernel_rfl) ?_
  refine W.run D_ok 1 100 (by kernel_rfl) ?_
  exact W.fi (by kernel_rfl)
  ) ?_
 refine CodeOk.block' ?_
 refine CodeOk.loopJ (fun (⟨a0, y359⟩ : ((List SNode) × Int)) => ⟨tl 42 [(0, .sl false false (a0.map (encSNode false))), (10, .sl false false (a0.map (encSNode false))), (11, V.int (a0.length : Int)), (12, V.int y359)], []⟩) (fun n i => m_impl_TreeOk_l1 N n i = some r) (n0 := N) (i0 := (a0, 0)) (Weak.sel [] [0, 10, 11, 12] (by kernel_rfl) (by kernel_rfl) (by kernel_rfl)) h (fun i h => by simp [m_impl_TreeOk_l1] at h) ?_
 rintro n1 ⟨a0, y359⟩ h599 ih600
 rw [m_impl_TreeOk_l1] at h599
 refine cu D_ok mix 1 282 (tl 42 [(0, .sl false false (a0.map (encSNode false))), (10, .sl false false (a0.map (encSNode false))), (11, V.int (a0.length : Int)), (12, V.int y359), (13, V.bool (decide (y359 < (a0.length : Int))))]) [] (by kernel_rfl) ?_
 refine CodeOk.seq' ?_
 (revert h599; refine cond_rev (fun hc602 h599 => ?_) (fun hc602 h599 => ?_))
 ·refine CodeOk.ifT hc602 (by kernel_rfl) ?_
  refine CodeOk.skip ?_
  refine CodeOk.seq' ?_
  refine CodeOk.block' ?_
  (revert h599; refine bind_rev fun e494 hx662 h599 => ?_)
  refine CodeOk.cutR (tl 42 [(0, .sl false false (a0.map (encSNode false))), (4, .loc 282 0), (10, .sl false false (a0.map (encSNode false))), (11, V.int (a0.length : Int)), (12, V.int y359)]) [(282, .cells 48 [V.int e494.Kind, V.int e494.Op, V.str e494.Text, V.str e494.Other, .sl false false (e494.Kids.map encI)])] mix (by
   refine W.ixD D_ok (encSNode false) hx662 5 (by kernel_rfl) (by kernel_rfl) ?_
   refine W.run D_ok 3 282 (by kernel_rfl) ?_
   exact W.fi (by kernel_rfl)
   ) ?_
  refine CodeOk.seq' ?_
  (revert h599; refine bind_rev fun r498 hx667 h599 => ?_)
  refine CodeOk.cutR (tl 42 [(0, .sl false false (a0.map (encSNode false))), (4, .loc 282 0), (10, .sl false false (a0.map (encSNode false))), (11, V.int (a0.length : Int)), (12, V.int y359), (18, V.bool (!r498))]) [(282, .cells 48 [V.int e494.Kind, V.int e494.Op, V.str e494.Text, V.str e494.Other, .sl false false (e494.Kids.map encI)])] mix (by
   refine W.run D_ok 1 283 (by kernel_rfl) ?_
   refine W.call0 (m_impl_FieldsOk_ok N e494 hx667) cok76 rfl (by kernel_rfl) ?_
   refine W.run D_ok 1 283 (by kernel_rfl) ?_
   exact W.fi (by kernel_rfl)
   ) ?_
  (revert h599; refine cond_rev (fun hc668 h599 => ?_) (fun hc668 h599 => ?_))
  ·refine CodeOk.ifT hc668 (by kernel_rfl) ?_
   refine cu D_ok mix 1 283 (tl 42 [(2, V.bool false)]) [] (by kernel_rfl) ?_
   refine CodeOk.ret ?_
   have h599 := Option.some.inj h599
   subst h599
   exact Ends.gen [] (.inr rfl) (RetV.one rfl (OneR.tmp (t := 2) (r := V.bool false) (by kernel_rfl))) (by kernel_rfl) (by kernel_rfl) (by kernel_rfl)
  refine CodeOk.ifF hc668 (by kernel_rfl) ?_
  refine CodeOk.skip ?_
  refine CodeOk.cutR (tl 42 [(0, .sl false false (a0.map (encSNode false))), (4, .loc 282 0), (10, .sl false false (a0.map (encSNode false))), (11, V.int (a0.length : Int)), (12, V.int y359), (20, .sl false false (e494.Kids.map encI)), (21, V.int (e494.Kids.length : Int)), (22, V.int 0)]) [(282, .cells 48 [V.int e494.Kind, V.int e494.Op, V.str e494.Text, V.str e494.Other, .sl false false (e494.Kids.map encI)])] mix (by
   refine W.run D_ok 2 283 (by kernel_rfl) ?_
   refine W.len D_ok encI e494.Kids [] (by kernel_rfl) (by kernel_rfl) ?_
   refine W.run D_ok 1 283 (by kernel_rfl) ?_
   exact W.fi (by kernel_rfl)
   ) ?_
  refine CodeOk.block' ?_
  refine CodeOk.loopJ (fun (⟨a0, y359, e494, y511⟩ : ((List SNode) × Int × SNode × Int)) => ⟨tl 42 [(0, .sl false false (a0.map (encSNode false))), (4, .loc 100 0), (10, .sl false false (a0.map (encSNode false))), (11, V.int (a0.length : Int)), (12, V.int y359), (20, .sl false false (e494.Kids.map encI)), (21, V.int (e494.Kids.length : Int)), (22, V.int y511)], [(100, .cells 48 [V.int e494.Kind, V.int e494.Op, V.str e494.Text, V.str e494.Other, .sl false false (e494.Kids.map encI)])]⟩) (fun n i => m_impl_TreeOk_l2 N (m_impl_TreeOk_l1 N n1) n i = some r) (n0 := N) (i0 := (a0, y359, e494, 0)) (Weak.sel [(282, 100)] [0, 4, 10, 11, 12, 20, 21, 22] (by kernel_rfl) (by kernel_rfl) (by kernel_rfl)) h599 (fun i h => by simp [m_impl_TreeOk_l2] at h) ?_
  rintro n2 ⟨a0, y359, e494, y511⟩ h701 ih702
  rw [m_impl_TreeOk_l2] at h701
  refine cu D_ok mix 1 343 (tl 42 [(0, .sl false false (a0.map (encSNode false))), (4, .loc 100 0), (10, .sl false false (a0.map (encSNode false))), (11, V.int (a0.length : Int)), (12, V.int y359), (20, .sl false false (e494.Kids.map encI)), (21, V.int (e494.Kids.length : Int)), (22, V.int y511), (23, V.bool (decide (y511 < (e494.Kids.length : Int))))]) [(100, .cells 48 [V.int e494.Kind, V.int e494.Op, V.str e494.Text, V.str e494.Other, .sl false false (e494.Kids.map encI)])] (by kernel_rfl) ?_
  refine CodeOk.seq' ?_
  (revert h701; refine cond_rev (fun hc704 h701 => ?_) (fun hc704 h701 => ?_))
  ·refine CodeOk.ifT hc704 (by kernel_rfl) ?_
   refine CodeOk.skip ?_
   refine CodeOk.seq' ?_
   refine CodeOk.block' ?_
   (revert h701; refine bind_rev fun e532 hx713 h701 => ?_)
   refine CodeOk.cutR (tl 42 [(0, .sl false false (a0.map (encSNode false))), (4, .loc 100 0), (5, V.int y511), (6, V.int e532), (10, .sl false false (a0.map (encSNode false))), (11, V.int (a0.length : Int)), (12, V.int y359), (20, .sl false false (e494.Kids.map encI)), (21, V.int (e494.Kids.length : Int)), (22, V.int y511)]) [(100, .cells 48 [V.int e494.Kind, V.int e494.Op, V.str e494.Text, V.str e494.Other, .sl false false (e494.Kids.map encI)])] mix (by
    refine W.run D_ok 1 343 (by kernel_rfl) ?_
    refine W.ixD D_ok encI hx713 1 (by kernel_rfl) (by kernel_rfl) ?_
    refine W.run D_ok 3 343 (by kernel_rfl) ?_
    exact W.fi (by kernel_rfl)
    ) ?_
   (revert h701; refine bind_rev fun e535 hx716 h701 => ?_)
   (revert h701; refine bind_rev fun r536 hx717 h701 => ?_)
   refine CodeOk.cutR (tl 42 [(0, .sl false false (a0.map (encSNode false))), (4, .loc 100 0), (10, .sl false false (a0.map (encSNode false))), (11, V.int (a0.length : Int)), (12, V.int y359), (20, .sl false false (e494.Kids.map encI)), (21, V.int (e494.Kids.length : Int)), (22, V.int y511), (35, V.bool (!r536))]) [(100, .cells 48 [V.int e494.Kind, V.int e494.Op, V.str e494.Text, V.str e494.Other, .sl false false (e494.Kids.map encI)])] mix (by
    refine W.run D_ok 4 343 (by kernel_rfl) ?_
    refine W.ixD D_ok (encSNode false) hx716 5 (by kernel_rfl) (by kernel_rfl) ?_
    refine W.run D_ok 2 343 (by kernel_rfl) ?_
    refine W.call0 (AC.gs (m_impl_kidOk_ok e494 y511 e535.Kind hx717) (by decide)) cok77 rfl (by kernel_rfl) ?_
    refine W.run D_ok 1 343 (by kernel_rfl) ?_
    exact W.fi (by kernel_rfl)
    ) ?_
   (revert h701; refine cond_rev (fun hc718 h701 => ?_) (fun hc718 h701 => ?_))
   ·refine CodeOk.ifT hc718 (by kernel_rfl) ?_
    refine cu D_ok mix 1 343 (tl 42 [(2, V.bool false)]) [] (by kernel_rfl) ?_
    refine CodeOk.ret ?_
    have h701 := Option.some.inj h701
    subst h701
    exact Ends.gen [] (.inr rfl) (RetV.one rfl (OneR.tmp (t := 2) (r := V.bool false) (by kernel_rfl))) (by kernel_rfl) (by kernel_rfl) (by kernel_rfl)
   refine CodeOk.ifF hc718 (by kernel_rfl) ?_
   refine CodeOk.skip ?_
   refine ce D_ok mix 2 343 (tl 42 [(0, .sl false false (a0.map (encSNode false))), (4, .loc 100 0), (10, .sl false false (a0.map (encSNode false))), (11, V.int (a0.length : Int)), (12, V.int y359), (20, .sl false false (e494.Kids.map encI)), (21, V.int (e494.Kids.length : Int)), (22, V.int (IntKind.wrap .i64 (y511 + 1)))]) [(100, .cells 48 [V.int e494.Kind, V.int e494.Op, V.str e494.Text, V.str e494.Other, .sl false false (e494.Kids.map encI)])] (by kernel_rfl) (fun st hw => ?_)
   exact ih702 (a0, y359, e494, (IntKind.wrap .i64 (y511 + 1))) h701 _ (hw.trans (Weak.sel [(100, 100)] [0, 4, 10, 11, 12, 20, 21, 22] (by kernel_rfl) (by kernel_rfl) (by kernel_rfl)))
  refine CodeOk.ifF hc704 (by kernel_rfl) ?_
  refine CodeOk.exit ?_
  refine ce D_ok mix 2 343 (tl 42 [(0, .sl false false (a0.map (encSNode false))), (10, .sl false false (a0.map (encSNode false))), (11, V.int (a0.length : Int)), (12, V.int (IntKind.wrap .i64 (y359 + 1)))]) [] (by kernel_rfl) (fun st hw => ?_)
  exact ih600 (a0, (IntKind.wrap .i64 (y359 + 1))) h701 _ (hw.trans (Weak.sel [] [0, 10, 11, 12] (by kernel_rfl) (by kernel_rfl) (by kernel_rfl)))
 refine CodeOk.ifF hc602 (by kernel_rfl) ?_
 refine CodeOk.exit ?_
 (revert h599; refine bind_rev fun r539 hx721 h599 => ?_)
 (revert h599; refine bind_rev fun r540 hx722 h599 => ?_)
 refine CodeOk.cutR (tl 42 [(2, V.bool (decide (r540 ≤ 40)))]) [] mix (by
  refine W.run D_ok 1 282 (by kernel_rfl) ?_
  refine W.call0 (AC.gs (m_impl_rootOf_ok N a0 hx721) (by decide)) cok45 rfl (by kernel_rfl) ?_
  refine W.call0 (AC.gs (m_impl_tree__depth_ok N r539 hx722) (by decide)) cok78 rfl (by kernel_rfl) ?_
  refine W.run D_ok 2 282 (by kernel_rfl) ?_
  exact W.fi (by kernel_rfl)
  ) ?_
 refine CodeOk.ret ?_
 have h599 := Option.some.inj h599
 subst h599
 exact Ends.gen [] (.inr rfl) (RetV.one rfl (OneR.tmp (t := 2) (r := V.bool (decide (r540 ≤ 40))) (by kernel_rfl))) (by kernel_rfl) (by kernel_rfl) (by kernel_rfl)

theorem m_impl_Var_ok (N : Nat) (a0 : Int) {r : (List UInt8)} (h : m_impl_Var N a0 = some r) :
    AC Tryz.prog (GS []) 79 [V.int a0] [] (V.str r) [] := by
 rw [m_impl_Var] at h
 refine AC.enter Tryz.func79 rfl ?_
 refine cu D_ok mix 1 100 (tl 25 [(0, V.int a0)]) [] (by kernel_rfl) ?_
 refine CodeOk.seq' ?_
 (revert h; refine bind_rev fun r4 hx5 h => ?_)
 refine CodeOk.cutR (tl 25 [(0, V.int a0), (6, V.bool (!r4))]) [] mix (by
  refine W.run D_ok 1 100 (by kernel_rfl) ?_
  refine W.call0 (m_impl_within_ok a0 0 562949953421311 hx5) cok55 rfl (by kernel_rfl) ?_
  refine W.run D_ok 1 100 (by kernel_rfl) ?_
  exact W.fi (by kernel_rfl)
  ) ?_
 (revert h; refine cond_rev (fun hc6 h => ?_) (fun hc6 h => ?_))
 ·refine CodeOk.ifT hc6 (by kernel_rfl) ?_
  refine cu D_ok mix 1 100 (tl 25 [(2, V.str [])]) [] (by kernel_rfl) ?_
  refine CodeOk.ret ?_
  have h := Option.some.inj h
  subst h
  exact Ends.gen [] (.inr rfl) (RetV.one rfl (OneR.tmp (t := 2) (r := V.str []) (by kernel_rfl))) (by kernel_rfl) (by kernel_rfl) (by kernel_rfl)
 refine CodeOk.ifF hc6 (by kernel_rfl) ?_
 refine CodeOk.skip ?_
 refine cu D_ok mix 2 100 (tl 25 [(0, V.int a0), (3, .own 100)]) [(100, .vec false 5 1 ([].map byteRow))] (by kernel_rfl) ?_
 refine CodeOk.seq' ?_
 refine CodeOk.block' ?_
 refine CodeOk.loopJ (fun (⟨y17, y18⟩ : (Int × (List UInt8))) => ⟨tl 25 [(0, V.int y17), (3, .own 100)], [(100, .vec false 5 1 (y18.map byteRow))]⟩) (fun n i => m_impl_Var_l1 N n i = some r) (n0 := N) (i0 := (a0, [])) (Weak.sel [(100, 100)] [0, 3] (by kernel_rfl) (by kernel_rfl) (by kernel_rfl)) h (fun i h => by simp [m_impl_Var_l1] at h) ?_
 rintro n1 ⟨y17, y18⟩ h29 ih30
 rw [m_impl_Var_l1] at h29
 refine CodeOk.seq' ?_
 refine cu D_ok mix 2 165 (tl 25 [(0, V.int y17), (3, .own 100), (9, V.bool (decide (y17 > 127)))]) [(100, .vec false 5 1 (y18.map byteRow))] (by kernel_rfl) ?_
 (revert h29; refine cond_rev (fun hc32 h29 => ?_) (fun hc32 h29 => ?_))
 ·refine CodeOk.ifT hc32 (by kernel_rfl) ?_
  refine CodeOk.skip ?_
  refine CodeOk.block' ?_
  (revert h29; refine bind_rev fun x24 hx34 h29 => ?_)
  refine CodeOk.cutR (tl 25 [(0, V.int y17), (3, .own 166)]) [(166, .vec false 5 1 (x24.map byteRow))] mix (by
   refine W.run D_ok 5 165 (by kernel_rfl) ?_
   refine W.run D_ok 1 165 (by kernel_rfl) ?_
   refine W.vecEq 165 (nn := true) (e := 5) (k := 1) (rows := [[.c (.int .u8 (IntKind.wrap .u8 (bits .or .i64 (bits .and .i64 y17 127) 128)))]]) (rows' := [(bytI (bits .or .i64 (bits .and .i64 y17 127) 128))].map byteRow) (by kernel_rfl) (by first | (simp only [List.map_cons, List.map_nil, ← bytI_row]; done) | (simp only [List.map_cons, List.map_nil, ← bytI_row]; rfl)) ?_
   refine W.appO D_ok byteRow (a := 100) (c := 165) (el := 5) (sz := 1) 1 hx34 rfl 166 (by kernel_rfl) ?_
   refine W.run D_ok 1 167 (by kernel_rfl) ?_
   exact W.fi (by kernel_rfl)
   ) ?_
  refine ce D_ok mix 3 167 (tl 25 [(0, V.int (Int.fdiv y17 (2 ^ (min 7 64)))), (3, .own 166)]) [(166, .vec false 5 1 (x24.map byteRow))] (by kernel_rfl) (fun st hw => ?_)
  exact ih30 ((Int.fdiv y17 (2 ^ (min 7 64))), x24) h29 _ (hw.trans (Weak.sel [(166, 100)] [0, 3] (by kernel_rfl) (by kernel_rfl) (by kernel_rfl)))
 refine CodeOk.ifF hc32 (by kernel_rfl) ?_
 refine CodeOk.exit ?_
 (revert h29; refine bind_rev fun x26 hx36 h29 => ?_)
 refine CodeOk.cutR (tl 25 [(2, V.str x26)]) [] mix (by
  refine W.run D_ok 3 165 (by kernel_rfl) ?_
  refine W.run D_ok 1 165 (by kernel_rfl) ?_
  refine W.vecEq 165 (nn := true) (e := 5) (k := 1) (rows := [[.c (.int .u8 (IntKind.wrap .u8 y17))]]) (rows' := [(bytI y17)].map byteRow) (by kernel_rfl) (by first | (simp only [List.map_cons, List.map_nil, ← bytI_row]; done) | (simp only [List.map_cons, List.map_nil, ← bytI_row]; rfl)) ?_
  refine W.appO D_ok byteRow (a := 100) (c := 165) (el := 5) (sz := 1) 1 hx36 rfl 166 (by kernel_rfl) ?_
  refine W.strO D_ok x26 (a := 166) (by kernel_rfl) ?_
  refine W.run D_ok 1 167 (by kernel_rfl) ?_
  exact W.fi (by kernel_rfl)
  ) ?_
 refine CodeOk.ret ?_
 have h29 := Option.some.inj h29
 subst h29
 exact Ends.gen [] (.inr rfl) (RetV.one rfl (OneR.tmp (t := 2) (r := V.str x26) (by kernel_rfl))) (by kernel_rfl) (by kernel_rfl) (by kernel_rfl)

theorem m_impl_ShowTree_ok (N : Nat) (a0 : List SNode) {r : (List UInt8)} (h : m_impl_ShowTree N a0 = some r) :
    AC Tryz.prog (GS [0, 1, 2]) 37 [.sl false false (a0.map (encSNode false))] [] (V.str r) [] := by
 rw [m_impl_ShowTree] at h
 refine AC.enter Tryz.func37 rfl ?_
 refine cu D_ok mix 1 100 (tl 50 [(0, .sl false false (a0.map (encSNode false)))]) [] (by kernel_rfl) ?_
 refine CodeOk.seq' ?_
 (revert h; refine bind_rev fun r4 hx5 h => ?_)
 refine CodeOk.cutR (tl 50 [(0, .sl false false (a0.map (encSNode false))), (8, V.bool (!r4))]) [] mix (by
  refine W.run D_ok 1 100 (by kernel_rfl) ?_
  refine W.call0 (m_impl_TreeOk_ok N a0 hx5) cok36 rfl (by kernel_rfl) ?_
  refine W.run D_ok 1 100 (by kernel_rfl) ?_
  exact W.fi (by kernel_rfl)
  ) ?_
 (revert h; refine cond_rev (fun hc6 h => ?_) (fun hc6 h => ?_))
 ·refine CodeOk.ifT hc6 (by kernel_rfl) ?_
  refine cu D_ok mix 1 100 (tl 50 [(2, V.str [])]) [] (by kernel_rfl) ?_
  refine CodeOk.ret ?_
  have h := Option.some.inj h
  subst h
  exact Ends.gen [] (.inr rfl) (RetV.one rfl (OneR.tmp (t := 2) (r := V.str []) (by kernel_rfl))) (by kernel_rfl) (by kernel_rfl) (by kernel_rfl)
 refine CodeOk.ifF hc6 (by kernel_rfl) ?_
 refine CodeOk.skip ?_
 (revert h; refine bind_rev fun r6 hx8 h => ?_)
 refine CodeOk.cutR (tl 50 [(0, .sl false false (a0.map (encSNode false))), (3, V.str r6)]) [] mix (by
  refine W.run D_ok 1 100 (by kernel_rfl) ?_
  refine W.len D_ok (encSNode false) a0 [] (by kernel_rfl) (by kernel_rfl) ?_
  refine W.call0 (AC.gs (m_impl_Var_ok N (a0.length : Int) hx8) (by decide)) cok79 rfl (by kernel_rfl) ?_
  refine W.run D_ok 1 100 (by kernel_rfl) ?_
  exact W.fi (by kernel_rfl)
  ) ?_
 refine CodeOk.seq' ?_
 refine CodeOk.cutR (tl 50 [(3, V.str r6), (12, .sl false false (a0.map (encSNode false))), (13, V.int (a0.length : Int)), (14, V.int 0)]) [] mix (by
  refine W.run D_ok 1 100 (by kernel_rfl) ?_
  refine W.len D_ok (encSNode false) a0 [] (by kernel_rfl) (by kernel_rfl) ?_
  refine W.run D_ok 1 100 (by kernel_rfl) ?_
  exact W.fi (by kernel_rfl)
  ) ?_
 refine CodeOk.block' ?_
 refine CodeOk.loopJ (fun (⟨a0, y219, y220⟩ : ((List SNode) × (List UInt8) × Int)) => ⟨tl 50 [(3, V.str y219), (12, .sl false false (a0.map (encSNode false))), (13, V.int (a0.length : Int)), (14, V.int y220)], []⟩) (fun n i => m_impl_ShowTree_l1 N n i = some r) (n0 := N) (i0 := (a0, r6, 0)) (Weak.sel [] [3, 12, 13, 14] (by kernel_rfl) (by kernel_rfl) (by kernel_rfl)) h (fun i h => by simp [m_impl_ShowTree_l1] at h) ?_
 rintro n1 ⟨a0, y219, y220⟩ h281 ih282
 rw [m_impl_ShowTree_l1] at h281
 refine cu D_ok mix 1 162 (tl 50 [(3, V.str y219), (12, .sl false false (a0.map (encSNode false))), (13, V.int (a0.length : Int)), (14, V.int y220), (15, V.bool (decide (y220 < (a0.length : Int))))]) [] (by kernel_rfl) ?_
 refine CodeOk.seq' ?_
 (revert h281; refine cond_rev (fun hc284 h281 => ?_) (fun hc284 h281 => ?_))
 ·refine CodeOk.ifT hc284 (by kernel_rfl) ?_
  refine CodeOk.skip ?_
  refine CodeOk.seq' ?_
  refine CodeOk.block' ?_
  (revert h281; refine bind_rev fun e302 hx312 h281 => ?_)
  refine CodeOk.cutR (tl 50 [(3, V.str y219), (5, .loc 162 0), (12, .sl false false (a0.map (encSNode false))), (13, V.int (a0.length : Int)), (14, V.int y220)]) [(162, .cells 48 [V.int e302.Kind, V.int e302.Op, V.str e302.Text, V.str e302.Other, .sl false false (e302.Kids.map encI)])] mix (by
   refine W.ixD D_ok (encSNode false) hx312 5 (by kernel_rfl) (by kernel_rfl) ?_
   refine W.run D_ok 3 162 (by kernel_rfl) ?_
   exact W.fi (by kernel_rfl)
   ) ?_
  (revert h281; refine bind_rev fun r315 hx325 h281 => ?_)
  (revert h281; refine bind_rev fun r316 hx326 h281 => ?_)
  (revert h281; refine bind_rev fun s317 hx327 h281 => ?_)
  (revert h281; refine bind_rev fun r318 hx328 h281 => ?_)
  (revert h281; refine bind_rev fun s319 hx329 h281 => ?_)
  (revert h281; refine bind_rev fun s320 hx330 h281 => ?_)
  (revert h281; refine bind_rev fun r321 hx331 h281 => ?_)
  (revert h281; refine bind_rev fun s322 hx332 h281 => ?_)
  (revert h281; refine bind_rev fun s323 hx333 h281 => ?_)
  (revert h281; refine bind_rev fun r324 hx334 h281 => ?_)
  (revert h281; refine bind_rev fun s325 hx335 h281 => ?_)
  (revert h281; refine bind_rev fun s326 hx336 h281 => ?_)
  refine CodeOk.endR (tl 50 [(3, V.str s326), (12, .sl false false (a0.map (encSNode false))), (13, V.int (a0.length : Int)), (14, V.int y220)]) [] mix (by
   refine W.run D_ok 3 163 (by kernel_rfl) ?_
   refine W.call0 (AC.gs (m_impl_Var_ok N e302.Kind hx325) (by decide)) cok79 rfl (by kernel_rfl) ?_
   refine W.run D_ok 2 163 (by kernel_rfl) ?_
   refine W.call0 (AC.gs (m_impl_Var_ok N e302.Op hx326) (by decide)) cok79 rfl (by kernel_rfl) ?_
   refine W.cat hx327 (by kernel_rfl) ?_
   refine W.run D_ok 3 163 (by kernel_rfl) ?_
   refine W.call0 (AC.gs (m_impl_Var_ok N (e302.Text.length : Int) hx328) (by decide)) cok79 rfl (by kernel_rfl) ?_
   refine W.cat hx329 (by kernel_rfl) ?_
   refine W.run D_ok 2 163 (by kernel_rfl) ?_
   refine W.cat hx330 (by kernel_rfl) ?_
   refine W.run D_ok 3 163 (by kernel_rfl) ?_
   refine W.call0 (AC.gs (m_impl_Var_ok N (e302.Other.length : Int) hx331) (by decide)) cok79 rfl (by kernel_rfl) ?_
   refine W.cat hx332 (by kernel_rfl) ?_
   refine W.run D_ok 2 163 (by kernel_rfl) ?_
   refine W.cat hx333 (by kernel_rfl) ?_
   refine W.run D_ok 2 163 (by kernel_rfl) ?_
   refine W.len D_ok encI e302.Kids [] (by kernel_rfl) (by kernel_rfl) ?_
   refine W.call0 (AC.gs (m_impl_Var_ok N (e302.Kids.length : Int) hx334) (by decide)) cok79 rfl (by kernel_rfl) ?_
   refine W.cat hx335 (by kernel_rfl) ?_
   refine W.cat hx336 (by kernel_rfl) ?_
   refine W.run D_ok 1 163 (by kernel_rfl) ?_
   exact W.fi (by kernel_rfl)
   ) (fun st hw => ?_)
  refine CodeOk.weak hw ?_
  refine ce D_ok mix 2 163 (tl 50 [(3, V.str s326), (12, .sl false false (a0.map (encSNode false))), (13, V.int (a0.length : Int)), (14, V.int (IntKind.wrap .i64 (y220 + 1)))]) [] (by kernel_rfl) (fun st hw => ?_)
  exact ih282 (a0, s326, (IntKind.wrap .i64 (y220 + 1))) h281 _ (hw.trans (Weak.sel [] [3, 12, 13, 14] (by kernel_rfl) (by kernel_rfl) (by kernel_rfl)))
 refine CodeOk.ifF hc284 (by kernel_rfl) ?_
 refine CodeOk.exit ?_
 refine cu D_ok mix 2 162 (tl 50 [(2, V.str y219)]) [] (by kernel_rfl) ?_
 refine CodeOk.ret ?_
 have h281 := Option.some.inj h281
 subst h281
 exact Ends.gen [] (.inr rfl) (RetV.one rfl (OneR.tmp (t := 2) (r := V.str y219) (by kernel_rfl))) (by kernel_rfl) (by kernel_rfl) (by kernel_rfl)

theorem m_impl_ReadTree_ok (N : Nat) (a0 : List UInt8) {r : ((List SNode) × Bool)} (h : m_impl_ReadTree N a0 = some r) :
    AC Tryz.prog (GS [0, 1, 2]) 9 [V.str a0] [] (.tup [.own 100, V.bool r.2]) [(100, .vec false 48 5 (r.1.map (encSNode true)))] := by
 rw [m_impl_ReadTree] at h
 refine AC.enter Tryz.func9 rfl ?_
 refine cu D_ok mix 2 100 (tl 85 [(0, V.str a0)]) [] (by kernel_rfl) ?_
 refine cu D_ok mix 4 100 (tl 85 [(0, V.str a0), (4, .loc 100 0)]) [(100, .cells 57 [V.str a0, V.bool false])] (by kernel_rfl) ?_
 (revert h; refine bind_rev fun r2 hx2 h => ?_)
 refine CodeOk.cutR (tl 85 [(0, V.str a0), (4, .loc 100 0), (5, V.int r2.1)]) [(100, .cells 57 [V.str r2.2.1, V.bool r2.2.2])] mix (by
  refine W.run D_ok 1 101 (by kernel_rfl) ?_
  refine W.call (AC.gs (m_impl_byteReader__number_ok N a0 false hx2) (by decide)) cok34 [(100, 0)] [(0, 100)] [] (show LayOk _ [] from trivial) (by kernel_rfl) (by kernel_rfl) ?_
  refine W.run D_ok 1 101 (by kernel_rfl) ?_
  exact W.fi (by kernel_rfl)
  ) ?_
 refine CodeOk.seq' ?_
 refine cu D_ok mix 2 101 (tl 85 [(0, V.str a0), (4, .loc 100 0), (5, V.int r2.1), (18, V.bool (decide (r2.1 > 400)))]) [(100, .cells 57 [V.str r2.2.1, V.bool r2.2.2])] (by kernel_rfl) ?_
 (revert h; refine cond_rev (fun hc4 h => ?_) (fun hc4 h => ?_))
 ·refine CodeOk.ifT hc4 (by kernel_rfl) ?_
  refine cu D_ok mix 2 101 (tl 85 [(2, .c (.slice none 0 0)), (3, V.bool false)]) [] (by kernel_rfl) ?_
  refine CodeOk.weak (Weak.nil 2 101 48 5 (by kernel_rfl) (by kernel_rfl)) ?_
  refine CodeOk.ret ?_
  have h := Option.some.inj h
  subst h
  exact Ends.gen [(101, 100)] (.inr rfl) (RetV.two rfl (OneR.tmp (t := 2) (r := .own 101) (by kernel_rfl)) (OneR.tmp (t := 3) (r := V.bool false) (by kernel_rfl))) (by kernel_rfl) (by kernel_rfl) (by kernel_rfl)
 refine CodeOk.ifF hc4 (by kernel_rfl) ?_
 refine CodeOk.skip ?_
 refine cu D_ok mix 4 101 (tl 85 [(0, V.str a0), (4, .loc 100 0), (5, V.int r2.1), (6, .own 101), (7, .own 102)]) [(102, .vec false 3 1 ([].map encI)), (101, .vec false 48 5 ([].map (encSNode true))), (100, .cells 57 [V.str r2.2.1, V.bool r2.2.2])] (by kernel_rfl) ?_
 refine CodeOk.seq' ?_
 refine cu D_ok mix 2 103 (tl 85 [(0, V.str a0), (4, .loc 100 0), (6, .own 101), (7, .own 102), (21, V.int r2.1), (22, V.int 0)]) [(102, .vec false 3 1 ([].map encI)), (101, .vec false 48 5 ([].map (encSNode true))), (100, .cells 57 [V.str r2.2.1, V.bool r2.2.2])] (by kernel_rfl) ?_
 refine CodeOk.block' ?_
 refine CodeOk.loopJ (fun (⟨a0, r2, y189, y190, y191, y192, y193⟩ : ((List UInt8) × (Int × (List UInt8) × Bool) × Int × (List UInt8) × Bool × (List SNode) × (List Int))) => ⟨tl 85 [(0, V.str a0), (4, .loc 100 0), (6, .own 101), (7, .own 102), (21, V.int r2.1), (22, V.int y189)], [(100, .cells 57 [V.str y190, V.bool y191]), (101, .vec false 48 5 (y192.map (encSNode true))), (102, .vec false 3 1 (y193.map encI))]⟩) (fun n i => m_impl_ReadTree_l1 N n i = some r) (n0 := N) (i0 := (a0, r2, 0, r2.2.1, r2.2.2, [], [])) (Weak.sel [(100, 100), (101, 101), (102, 102)] [0, 4, 6, 7, 21, 22] (by kernel_rfl) (by kernel_rfl) (by kernel_rfl)) h (fun i h => by simp [m_impl_ReadTree_l1] at h) ?_
 rintro n1 ⟨a0, r2, y189, y190, y191, y192, y193⟩ h297 ih298
 rw [m_impl_ReadTree_l1] at h297
 refine cu D_ok mix 1 179 (tl 85 [(0, V.str a0), (4, .loc 100 0), (6, .own 101), (7, .own 102), (21, V.int r2.1), (22, V.int y189), (23, V.bool (decide (y189 < r2.1)))]) [(100, .cells 57 [V.str y190, V.bool y191]), (101, .vec false 48 5 (y192.map (encSNode true))), (102, .vec false 3 1 (y193.map encI))] (by kernel_rfl) ?_
 refine CodeOk.seq' ?_
 (revert h297; refine cond_rev (fun hc300 h297 => ?_) (fun hc300 h297 => ?_))
 ·refine CodeOk.ifT hc300 (by kernel_rfl) ?_
  refine CodeOk.skip ?_
  refine CodeOk.seq' ?_
  refine CodeOk.block' ?_
  refine cu D_ok mix 2 179 (tl 85 [(0, V.str a0), (4, .loc 100 0), (6, .own 101), (7, .own 102), (8, V.int y189), (21, V.int r2.1), (22, V.int y189)]) [(100, .cells 57 [V.str y190, V.bool y191]), (101, .vec false 48 5 (y192.map (encSNode true))), (102, .vec false 3 1 (y193.map encI))] (by kernel_rfl) ?_
  (revert h297; refine bind_rev fun r267 hx331 h297 => ?_)
  (revert h297; refine bind_rev fun r268 hx332 h297 => ?_)
  refine CodeOk.cutR (tl 85 [(0, V.str a0), (4, .loc 100 0), (6, .own 101), (7, .own 102), (8, V.int y189), (9, .loc 179 0), (21, V.int r2.1), (22, V.int y189)]) [(179, .cells 48 [V.int r267.1, V.int r268.1, V.str [], V.str [], .c (.slice none 0 0)]), (100, .cells 57 [V.str r268.2.1, V.bool r268.2.2]), (101, .vec false 48 5 (y192.map (encSNode true))), (102, .vec false 3 1 (y193.map encI))] mix (by
   refine W.run D_ok 1 179 (by kernel_rfl) ?_
   refine W.call (AC.gs (m_impl_byteReader__number_ok N y190 y191 hx331) (by decide)) cok34 [(100, 0)] [(0, 100)] [] (show LayOk _ [] from trivial) (by kernel_rfl) (by kernel_rfl) ?_
   refine W.run D_ok 1 179 (by kernel_rfl) ?_
   refine W.call (AC.gs (m_impl_byteReader__number_ok N r267.2.1 r267.2.2 hx332) (by decide)) cok34 [(100, 0)] [(0, 100)] [] (show LayOk _ [] from trivial) (by kernel_rfl) (by kernel_rfl) ?_
   refine W.run D_ok 3 179 (by kernel_rfl) ?_
   exact W.fi (by kernel_rfl)
   ) ?_
  (revert h297; refine bind_rev fun r271 hx335 h297 => ?_)
  (revert h297; refine bind_rev fun r272 hx336 h297 => ?_)
  refine CodeOk.cutR (tl 85 [(0, V.str a0), (4, .loc 100 0), (6, .own 101), (7, .own 102), (8, V.int y189), (9, .loc 179 0), (21, V.int r2.1), (22, V.int y189)]) [(179, .cells 48 [V.int r267.1, V.int r268.1, V.str r271.1, V.str r272.1, .c (.slice none 0 0)]), (100, .cells 57 [V.str r272.2.1, V.bool r272.2.2]), (101, .vec false 48 5 (y192.map (encSNode true))), (102, .vec false 3 1 (y193.map encI))] mix (by
   refine W.run D_ok 1 180 (by kernel_rfl) ?_
   refine W.call (AC.gs (m_impl_byteReader__text_ok N r268.2.1 r268.2.2 hx335) (by decide)) cok35 [(100, 0)] [(0, 100)] [] (show LayOk _ [] from trivial) (by kernel_rfl) (by kernel_rfl) ?_
   refine W.run D_ok 1 180 (by kernel_rfl) ?_
   refine W.call (AC.gs (m_impl_byteReader__text_ok N r271.2.1 r271.2.2 hx336) (by decide)) cok35 [(100, 0)] [(0, 100)] [] (show LayOk _ [] from trivial) (by kernel_rfl) (by kernel_rfl) ?_
   refine W.run D_ok 4 180 (by kernel_rfl) ?_
   exact W.fi (by kernel_rfl)
   ) ?_
  (revert h297; refine bind_rev fun r274 hx338 h297 => ?_)
  refine CodeOk.cutR (tl 85 [(0, V.str a0), (4, .loc 100 0), (6, .own 101), (7, .own 102), (8, V.int y189), (9, .loc 179 0), (10, V.int r274.1), (21, V.int r2.1), (22, V.int y189)]) [(179, .cells 48 [V.int r267.1, V.int r268.1, V.str r271.1, V.str r272.1, .c (.slice none 0 0)]), (100, .cells 57 [V.str r274.2.1, V.bool r274.2.2]), (101, .vec false 48 5 (y192.map (encSNode true))), (102, .vec false 3 1 (y193.map encI))] mix (by
   refine W.run D_ok 1 180 (by kernel_rfl) ?_
   refine W.call (AC.gs (m_impl_byteReader__number_ok N r272.2.1 r272.2.2 hx338) (by decide)) cok34 [(100, 0)] [(0, 100)] [] (show LayOk _ [] from trivial) (by kernel_rfl) (by kernel_rfl) ?_
   refine W.run D_ok 1 180 (by kernel_rfl) ?_
   exact W.fi (by kernel_rfl)
   ) ?_
  refine CodeOk.seq' ?_
  (revert h297; refine bind_rev fun y276 hv344 h297 => ?_)
  refine CodeOk.cutR (tl 85 [(0, V.str a0), (4, .loc 100 0), (6, .own 101), (7, .own 102), (8, V.int y189), (9, .loc 103 0), (10, V.int r274.1), (21, V.int r2.1), (22, V.int y189), (47, V.bool y276)]) [(100, .cells 57 [V.str r274.2.1, V.bool r274.2.2]), (101, .vec false 48 5 (y192.map (encSNode true))), (102, .vec false 3 1 (y193.map encI)), (103, .cells 48 [V.int r267.1, V.int r268.1, V.str r271.1, V.str r272.1, .c (.slice none 0 0)])] mix (by
   refine W.run D_ok 5 180 (by kernel_rfl) ?_
   (revert hv344; refine cond_rev (fun hc345 hv344 => ?_) (fun hc345 hv344 => ?_))
   ·refine W.is 42 hc345 (by kernel_rfl) ?_
    refine W.run D_ok 5 180 (by kernel_rfl) ?_
    have hv344 := Option.some.inj hv344
    subst hv344
    exact W.fs [(100, 100), (101, 101), (102, 102), (179, 103)] [0, 4, 6, 7, 8, 9, 10, 21, 22, 47] (by kernel_rfl)
   refine W.is 42 hc345 (by kernel_rfl) ?_
   refine W.run D_ok 2 180 (by kernel_rfl) ?_
   refine W.len D_ok encI y193 [102] (by kernel_rfl) (by kernel_rfl) ?_
   refine W.run D_ok 2 180 (by kernel_rfl) ?_
   have hv344 := Option.some.inj hv344
   subst hv344
   exact W.fs [(100, 100), (101, 101), (102, 102), (179, 103)] [0, 4, 6, 7, 8, 9, 10, 21, 22, 47] (by kernel_rfl)
   ) ?_
  (revert h297; refine cond_rev (fun hc346 h297 => ?_) (fun hc346 h297 => ?_))
  ·refine CodeOk.ifT hc346 (by kernel_rfl) ?_
   refine cu D_ok mix 2 180 (tl 85 [(2, .c (.slice none 0 0)), (3, V.bool false)]) [] (by kernel_rfl) ?_
   refine CodeOk.weak (Weak.nil 2 180 48 5 (by kernel_rfl) (by kernel_rfl)) ?_
   refine CodeOk.ret ?_
   have h297 := Option.some.inj h297
   subst h297
   exact Ends.gen [(180, 100)] (.inr rfl) (RetV.two rfl (OneR.tmp (t := 2) (r := .own 180) (by kernel_rfl)) (OneR.tmp (t := 3) (r := V.bool false) (by kernel_rfl))) (by kernel_rfl) (by kernel_rfl) (by kernel_rfl)
  refine CodeOk.ifF hc346 (by kernel_rfl) ?_
  refine CodeOk.skip ?_
  refine CodeOk.cutR (tl 85 [(0, V.str a0), (4, .loc 100 0), (6, .own 101), (7, .own 102), (8, V.int y189), (9, .loc 103 0), (11, V.int (IntKind.wrap .i64 ((y193.length : Int) - r274.1))), (21, V.int r2.1), (22, V.int y189)]) [(100, .cells 57 [V.str r274.2.1, V.bool r274.2.2]), (101, .vec false 48 5 (y192.map (encSNode true))), (102, .vec false 3 1 (y193.map encI)), (103, .cells 48 [V.int r267.1, V.int r268.1, V.str r271.1, V.str r272.1, .c (.slice none 0 0)])] mix (by
   refine W.run D_ok 1 180 (by kernel_rfl) ?_
   refine W.len D_ok encI y193 [102] (by kernel_rfl) (by kernel_rfl) ?_
   refine W.run D_ok 3 180 (by kernel_rfl) ?_
   exact W.fi (by kernel_rfl)
   ) ?_
  (revert h297; refine bind_rev fun l279 hx349 h297 => ?_)
  (revert h297; refine bind_rev fun x280 hx350 h297 => ?_)
  refine CodeOk.cutR (tl 85 [(0, V.str a0), (4, .loc 100 0), (6, .own 101), (7, .own 102), (8, V.int y189), (9, .loc 103 0), (11, V.int (IntKind.wrap .i64 ((y193.length : Int) - r274.1))), (21, V.int r2.1), (22, V.int y189)]) [(103, .cells 48 [V.int r267.1, V.int r268.1, V.str r271.1, V.str r272.1, .own 181]), (181, .vec false 3 1 (x280.map encI)), (100, .cells 57 [V.str r274.2.1, V.bool r274.2.2]), (101, .vec false 48 5 (y192.map (encSNode true))), (102, .vec false 3 1 (y193.map encI))] mix (by
   refine W.run D_ok 3 180 (by kernel_rfl) ?_
   refine W.viewO D_ok encI hx349 102 1 (by kernel_rfl) ?_
   refine W.appV D_ok encI hx349 8 hx350 rfl flat_encI (a := 180) (c := 102) (el := 3) (sz := 1) 181 (by kernel_rfl) ?_
   refine W.run D_ok 2 182 (by kernel_rfl) ?_
   exact W.fi (by kernel_rfl)
   ) ?_
  (revert h297; refine bind_rev fun l283 hx353 h297 => ?_)
  (revert h297; refine bind_rev fun x284 hx354 h297 => ?_)
  refine CodeOk.cutR (tl 85 [(0, V.str a0), (4, .loc 100 0), (6, .own 101), (7, .own 184), (9, .loc 103 0), (21, V.int r2.1), (22, V.int y189)]) [(184, .vec false 3 1 (x284.map encI)), (103, .cells 48 [V.int r267.1, V.int r268.1, V.str r271.1, V.str r272.1, .own 181]), (181, .vec false 3 1 (x280.map encI)), (100, .cells 57 [V.str r274.2.1, V.bool r274.2.2]), (101, .vec false 48 5 (y192.map (encSNode true)))] mix (by
   refine W.run D_ok 2 182 (by kernel_rfl) ?_
   refine W.cutO D_ok encI hx353 182 (j := 102) (el := 3) (sz := 1) (by kernel_rfl) ?_
   refine W.run D_ok 2 183 (by kernel_rfl) ?_
   refine W.appO D_ok encI (a := 182) (c := 183) (el := 3) (sz := 1) 8 hx354 rfl 184 (by kernel_rfl) ?_
   refine W.run D_ok 1 185 (by kernel_rfl) ?_
   exact W.fi (by kernel_rfl)
   ) ?_
  (revert h297; refine bind_rev fun x286 hx356 h297 => ?_)
  refine CodeOk.endR (tl 85 [(0, V.str a0), (4, .loc 100 0), (6, .own 186), (7, .own 184), (21, V.int r2.1), (22, V.int y189)]) [(186, .vec false 48 5 (x286.map (encSNode true))), (184, .vec false 3 1 (x284.map encI)), (100, .cells 57 [V.str r274.2.1, V.bool r274.2.2])] mix (by
   refine W.run D_ok 3 185 (by kernel_rfl) ?_
   refine W.appO D_ok (encSNode true) (a := 101) (c := 185) (el := 48) (sz := 5) 72 hx356 rfl 186 (by kernel_rfl) ?_
   refine W.run D_ok 1 187 (by kernel_rfl) ?_
   exact W.fi (by kernel_rfl)
   ) (fun st hw => ?_)
  refine CodeOk.weak hw ?_
  refine ce D_ok mix 2 187 (tl 85 [(0, V.str a0), (4, .loc 100 0), (6, .own 186), (7, .own 184), (21, V.int r2.1), (22, V.int (IntKind.wrap .i64 (y189 + 1)))]) [(186, .vec false 48 5 (x286.map (encSNode true))), (184, .vec false 3 1 (x284.map encI)), (100, .cells 57 [V.str r274.2.1, V.bool r274.2.2])] (by kernel_rfl) (fun st hw => ?_)
  exact ih298 (a0, r2, (IntKind.wrap .i64 (y189 + 1)), r274.2.1, r274.2.2, x286, x284) h297 _ (hw.trans (Weak.sel [(100, 100), (186, 101), (184, 102)] [0, 4, 6, 7, 21, 22] (by kernel_rfl) (by kernel_rfl) (by kernel_rfl)))
 refine CodeOk.ifF hc300 (by kernel_rfl) ?_
 refine CodeOk.exit ?_
 refine CodeOk.seq' ?_
 (revert h297; refine bind_rev fun y294 hv371 h297 => ?_)
 refine CodeOk.cutR (tl 85 [(6, .own 100), (83, V.bool y294)]) [(100, .vec false 48 5 (y192.map (encSNode true)))] mix (by
  refine W.run D_ok 5 179 (by kernel_rfl) ?_
  (revert hv371; refine cond_rev (fun hc372 hv371 => ?_) (fun hc372 hv371 => ?_))
  ·refine W.is 73 hc372 (by kernel_rfl) ?_
   refine W.run D_ok 10 179 (by kernel_rfl) ?_
   have hv371 := Option.some.inj hv371
   subst hv371
   exact W.fs [(101, 100)] [6, 83] (by kernel_rfl)
  refine W.is 73 hc372 (by kernel_rfl) ?_
  refine W.run D_ok 1 179 (by kernel_rfl) ?_
  (revert hv371; refine bind_rev fun r295 hx373 hv371 => ?_)
  refine W.lend (m_impl_TreeOk_ok N y192 hx373) cok36 [] [] (LayOk.cons (j := 101) (encSNode true) (encSNode false) y192 (by kernel_rfl) (share_encSNode _) (show LayOk _ [] from trivial)) (.c _) .nil (by kernel_rfl) (by kernel_rfl) ?_
  refine W.run D_ok 3 179 (by kernel_rfl) ?_
  (revert hv371; refine cond_rev (fun hc374 hv371 => ?_) (fun hc374 hv371 => ?_))
  ·refine W.is 78 hc374 (by kernel_rfl) ?_
   refine W.run D_ok 5 179 (by kernel_rfl) ?_
   have hv371 := Option.some.inj hv371
   subst hv371
   exact W.fs [(101, 100)] [6, 83] (by kernel_rfl)
  refine W.is 78 hc374 (by kernel_rfl) ?_
  refine W.run D_ok 1 179 (by kernel_rfl) ?_
  (revert hv371; refine bind_rev fun r296 hx375 hv371 => ?_)
  refine W.lend (m_impl_ShowTree_ok N y192 hx375) cok37 [] [] (LayOk.cons (j := 101) (encSNode true) (encSNode false) y192 (by kernel_rfl) (share_encSNode _) (show LayOk _ [] from trivial)) (.c _) .nil (by kernel_rfl) (by kernel_rfl) ?_
  refine W.run D_ok 3 179 (by kernel_rfl) ?_
  have hv371 := Option.some.inj hv371
  subst hv371
  exact W.fs [(101, 100)] [6, 83] (by kernel_rfl)
  ) ?_
 (revert h297; refine cond_rev (fun hc376 h297 => ?_) (fun hc376 h297 => ?_))
 ·refine CodeOk.ifT hc376 (by kernel_rfl) ?_
  refine cu D_ok mix 2 179 (tl 85 [(2, .c (.slice none 0 0)), (3, V.bool false)]) [] (by kernel_rfl) ?_
  refine CodeOk.weak (Weak.nil 2 179 48 5 (by kernel_rfl) (by kernel_rfl)) ?_
  refine CodeOk.ret ?_
  have h297 := Option.some.inj h297
  subst h297
  exact Ends.gen [(179, 100)] (.inr rfl) (RetV.two rfl (OneR.tmp (t := 2) (r := .own 179) (by kernel_rfl)) (OneR.tmp (t := 3) (r := V.bool false) (by kernel_rfl))) (by kernel_rfl) (by kernel_rfl) (by kernel_rfl)
 refine CodeOk.ifF hc376 (by kernel_rfl) ?_
 refine CodeOk.skip ?_
 refine cu D_ok mix 3 179 (tl 85 [(2, .own 100), (3, V.bool true)]) [(100, .vec false 48 5 (y192.map (encSNode true)))] (by kernel_rfl) ?_
 refine CodeOk.ret ?_
 have h297 := Option.some.inj h297
 subst h297
 exact Ends.gen [(100, 100)] (.inr rfl) (RetV.two rfl (OneR.tmp (t := 2) (r := .own 100) (by kernel_rfl)) (OneR.tmp (t := 3) (r := V.bool true) (by kernel_rfl))) (by kernel_rfl) (by kernel_rfl) (by kernel_rfl)

theorem m_laws_eqIntS_ok (N : Nat) (a0 : List Int) (a1 : List Int) {r : Bool} (h : m_laws_eqIntS N a0 a1 = some r) :
    AC Tryz.prog (GS []) 17 [.sl false false (a0.map encI), .sl false false (a1.map encI)] [] (V.bool r) [] := by
 rw [m_laws_eqIntS] at h
 refine AC.enter Tryz.func17 rfl ?_
 refine cu D_ok mix 1 100 (tl 26 [(0, .sl false false (a0.map encI)), (1, .sl false false (a1.map encI))]) [] (by kernel_rfl) ?_
 refine CodeOk.seq' ?_
 refine CodeOk.cutR (tl 26 [(0, .sl false false (a0.map encI)), (1, .sl false false (a1.map encI)), (10, V.bool ((a0.length : Int) != (a1.length : Int)))]) [] mix (by
  refine W.run D_ok 1 100 (by kernel_rfl) ?_
  refine W.len D_ok encI a0 [] (by kernel_rfl) (by kernel_rfl) ?_
  refine W.run D_ok 1 100 (by kernel_rfl) ?_
  refine W.len D_ok encI a1 [] (by kernel_rfl) (by kernel_rfl) ?_
  refine W.run D_ok 1 100 (by kernel_rfl) ?_
  exact W.fi (by kernel_rfl)
  ) ?_
 (revert h; refine cond_rev (fun hc2 h => ?_) (fun hc2 h => ?_))
 ·refine CodeOk.ifT hc2 (by kernel_rfl) ?_
  refine cu D_ok mix 1 100 (tl 26 [(4, V.bool false)]) [] (by kernel_rfl) ?_
  refine CodeOk.ret ?_
  have h := Option.some.inj h
  subst h
  exact Ends.gen [] (.inr rfl) (RetV.one rfl (OneR.tmp (t := 4) (r := V.bool false) (by kernel_rfl))) (by kernel_rfl) (by kernel_rfl) (by kernel_rfl)
 refine CodeOk.ifF hc2 (by kernel_rfl) ?_
 refine CodeOk.skip ?_
 refine CodeOk.seq' ?_
 refine cu D_ok mix 1 100 (tl 26 [(0, .sl false false (a0.map encI)), (1, .sl false false (a1.map encI)), (5, V.int 0)]) [] (by kernel_rfl) ?_
 refine CodeOk.block' ?_
 refine CodeOk.loopJ (fun (⟨a0, a1, y35⟩ : ((List Int) × (List Int) × Int)) => ⟨tl 26 [(0, .sl false false (a0.map encI)), (1, .sl false false (a1.map encI)), (5, V.int y35)], []⟩) (fun n i => m_laws_eqIntS_l1 N n i = some r) (n0 := N) (i0 := (a0, a1, 0)) (Weak.sel [] [0, 1, 5] (by kernel_rfl) (by kernel_rfl) (by kernel_rfl)) h (fun i h => by simp [m_laws_eqIntS_l1] at h) ?_
 rintro n1 ⟨a0, a1, y35⟩ h65 ih66
 rw [m_laws_eqIntS_l1] at h65
 refine CodeOk.seq' ?_
 refine CodeOk.cutR (tl 26 [(0, .sl false false (a0.map encI)), (1, .sl false false (a1.map encI)), (5, V.int y35), (14, V.bool (decide (y35 < (a0.length : Int))))]) [] mix (by
  refine W.run D_ok 2 160 (by kernel_rfl) ?_
  refine W.len D_ok encI a0 [] (by kernel_rfl) (by kernel_rfl) ?_
  refine W.run D_ok 1 160 (by kernel_rfl) ?_
  exact W.fi (by kernel_rfl)
  ) ?_
 (revert h65; refine cond_rev (fun hc68 h65 => ?_) (fun hc68 h65 => ?_))
 ·refine CodeOk.ifT hc68 (by kernel_rfl) ?_
  refine CodeOk.skip ?_
  refine CodeOk.seq' ?_
  refine CodeOk.block' ?_
  (revert h65; refine bind_rev fun e51 hx76 h65 => ?_)
  (revert h65; refine bind_rev fun e52 hx77 h65 => ?_)
  refine CodeOk.cutR (tl 26 [(0, .sl false false (a0.map encI)), (1, .sl false false (a1.map encI)), (5, V.int y35), (25, V.bool (e51 != e52))]) [] mix (by
   refine W.run D_ok 2 160 (by kernel_rfl) ?_
   refine W.ixD D_ok encI hx76 1 (by kernel_rfl) (by kernel_rfl) ?_
   refine W.run D_ok 3 160 (by kernel_rfl) ?_
   refine W.ixD D_ok encI hx77 1 (by kernel_rfl) (by kernel_rfl) ?_
   refine W.run D_ok 2 160 (by kernel_rfl) ?_
   exact W.fi (by kernel_rfl)
   ) ?_
  (revert h65; refine cond_rev (fun hc78 h65 => ?_) (fun hc78 h65 => ?_))
  ·refine CodeOk.ifT hc78 (by kernel_rfl) ?_
   refine cu D_ok mix 1 160 (tl 26 [(4, V.bool false)]) [] (by kernel_rfl) ?_
   refine CodeOk.ret ?_
   have h65 := Option.some.inj h65
   subst h65
   exact Ends.gen [] (.inr rfl) (RetV.one rfl (OneR.tmp (t := 4) (r := V.bool false) (by kernel_rfl))) (by kernel_rfl) (by kernel_rfl) (by kernel_rfl)
  refine CodeOk.ifF hc78 (by kernel_rfl) ?_
  refine CodeOk.skip ?_
  refine ce D_ok mix 3 160 (tl 26 [(0, .sl false false (a0.map encI)), (1, .sl false false (a1.map encI)), (5, V.int (IntKind.wrap .i64 (y35 + 1)))]) [] (by kernel_rfl) (fun st hw => ?_)
  exact ih66 (a0, a1, (IntKind.wrap .i64 (y35 + 1))) h65 _ (hw.trans (Weak.sel [] [0, 1, 5] (by kernel_rfl) (by kernel_rfl) (by kernel_rfl)))
 refine CodeOk.ifF hc68 (by kernel_rfl) ?_
 refine CodeOk.exit ?_
 refine cu D_ok mix 1 160 (tl 26 [(4, V.bool true)]) [] (by kernel_rfl) ?_
 refine CodeOk.ret ?_
 have h65 := Option.some.inj h65
 subst h65
 exact Ends.gen [] (.inr rfl) (RetV.one rfl (OneR.tmp (t := 4) (r := V.bool true) (by kernel_rfl))) (by kernel_rfl) (by kernel_rfl) (by kernel_rfl)

theorem m_laws_eqNode_ok (N : Nat) (a0 : SNode) (a1 : SNode) {r : Bool} (h : m_laws_eqNode N a0 a1 = some r) :
    AC Tryz.prog (GS []) 38 [.agg [V.int a0.Kind, V.int a0.Op, V.str a0.Text, V.str a0.Other, .sl false false (a0.Kids.map encI)], .agg [V.int a1.Kind, V.int a1.Op, V.str a1.Text, V.str a1.Other, .sl false false (a1.Kids.map encI)]] [] (V.bool r) [] := by
 rw [m_laws_eqNode] at h
 refine AC.enter Tryz.func38 rfl ?_
 refine cu D_ok mix 3 100 (tl 31 [(2, .loc 100 0), (3, .loc 101 0)]) [(101, .cells 48 [V.int a1.Kind, V.int a1.Op, V.str a1.Text, V.str a1.Other, .sl false false (a1.Kids.map encI)]), (100, .cells 48 [V.int a0.Kind, V.int a0.Op, V.str a0.Text, V.str a0.Other, .sl false false (a0.Kids.map encI)])] (by kernel_rfl) ?_
 refine CodeOk.seq' ?_
 refine cu D_ok mix 5 102 (tl 31 [(2, .loc 100 0), (3, .loc 101 0), (9, V.bool (a0.Kind != a1.Kind))]) [(101, .cells 48 [V.int a1.Kind, V.int a1.Op, V.str a1.Text, V.str a1.Other, .sl false false (a1.Kids.map encI)]), (100, .cells 48 [V.int a0.Kind, V.int a0.Op, V.str a0.Text, V.str a0.Other, .sl false false (a0.Kids.map encI)])] (by kernel_rfl) ?_
 (revert h; refine cond_rev (fun hc2 h => ?_) (fun hc2 h => ?_))
 ·refine CodeOk.ifT hc2 (by kernel_rfl) ?_
  refine cu D_ok mix 1 102 (tl 31 [(4, V.bool false)]) [] (by kernel_rfl) ?_
  refine CodeOk.ret ?_
  have h := Option.some.inj h
  subst h
  exact Ends.gen [] (.inr rfl) (RetV.one rfl (OneR.tmp (t := 4) (r := V.bool false) (by kernel_rfl))) (by kernel_rfl) (by kernel_rfl) (by kernel_rfl)
 refine CodeOk.ifF hc2 (by kernel_rfl) ?_
 refine CodeOk.skip ?_
 refine CodeOk.seq' ?_
 refine cu D_ok mix 5 102 (tl 31 [(2, .loc 100 0), (3, .loc 101 0), (14, V.bool (a0.Op != a1.Op))]) [(101, .cells 48 [V.int a1.Kind, V.int a1.Op, V.str a1.Text, V.str a1.Other, .sl false false (a1.Kids.map encI)]), (100, .cells 48 [V.int a0.Kind, V.int a0.Op, V.str a0.Text, V.str a0.Other, .sl false false (a0.Kids.map encI)])] (by kernel_rfl) ?_
 (revert h; refine cond_rev (fun hc4 h => ?_) (fun hc4 h => ?_))
 ·refine CodeOk.ifT hc4 (by kernel_rfl) ?_
  refine cu D_ok mix 1 102 (tl 31 [(4, V.bool false)]) [] (by kernel_rfl) ?_
  refine CodeOk.ret ?_
  have h := Option.some.inj h
  subst h
  exact Ends.gen [] (.inr rfl) (RetV.one rfl (OneR.tmp (t := 4) (r := V.bool false) (by kernel_rfl))) (by kernel_rfl) (by kernel_rfl) (by kernel_rfl)
 refine CodeOk.ifF hc4 (by kernel_rfl) ?_
 refine CodeOk.skip ?_
 refine CodeOk.seq' ?_
 refine cu D_ok mix 5 102 (tl 31 [(2, .loc 100 0), (3, .loc 101 0), (19, V.bool (!(a0.Text == a1.Text)))]) [(101, .cells 48 [V.int a1.Kind, V.int a1.Op, V.str a1.Text, V.str a1.Other, .sl false false (a1.Kids.map encI)]), (100, .cells 48 [V.int a0.Kind, V.int a0.Op, V.str a0.Text, V.str a0.Other, .sl false false (a0.Kids.map encI)])] (by kernel_rfl) ?_
 (revert h; refine cond_rev (fun hc6 h => ?_) (fun hc6 h => ?_))
 ·refine CodeOk.ifT hc6 (by kernel_rfl) ?_
  refine cu D_ok mix 1 102 (tl 31 [(4, V.bool false)]) [] (by kernel_rfl) ?_
  refine CodeOk.ret ?_
  have h := Option.some.inj h
  subst h
  exact Ends.gen [] (.inr rfl) (RetV.one rfl (OneR.tmp (t := 4) (r := V.bool false) (by kernel_rfl))) (by kernel_rfl) (by kernel_rfl) (by kernel_rfl)
 refine CodeOk.ifF hc6 (by kernel_rfl) ?_
 refine CodeOk.skip ?_
 refine CodeOk.seq' ?_
 refine cu D_ok mix 5 102 (tl 31 [(2, .loc 100 0), (3, .loc 101 0), (24, V.bool (!(a0.Other == a1.Other)))]) [(101, .cells 48 [V.int a1.Kind, V.int a1.Op, V.str a1.Text, V.str a1.Other, .sl false false (a1.Kids.map encI)]), (100, .cells 48 [V.int a0.Kind, V.int a0.Op, V.str a0.Text, V.str a0.Other, .sl false false (a0.Kids.map encI)])] (by kernel_rfl) ?_
 (revert h; refine cond_rev (fun hc8 h => ?_) (fun hc8 h => ?_))
 ·refine CodeOk.ifT hc8 (by kernel_rfl) ?_
  refine cu D_ok mix 1 102 (tl 31 [(4, V.bool false)]) [] (by kernel_rfl) ?_
  refine CodeOk.ret ?_
  have h := Option.some.inj h
  subst h
  exact Ends.gen [] (.inr rfl) (RetV.one rfl (OneR.tmp (t := 4) (r := V.bool false) (by kernel_rfl))) (by kernel_rfl) (by kernel_rfl) (by kernel_rfl)
 refine CodeOk.ifF hc8 (by kernel_rfl) ?_
 refine CodeOk.skip ?_
 refine CodeOk.seq' ?_
 (revert h; refine bind_rev fun r4 hx13 h => ?_)
 refine CodeOk.cutR (tl 31 [(30, V.bool (!r4))]) [] mix (by
  refine W.run D_ok 4 102 (by kernel_rfl) ?_
  refine W.call0 (m_laws_eqIntS_ok N a0.Kids a1.Kids hx13) cok17 rfl (by kernel_rfl) ?_
  refine W.run D_ok 1 102 (by kernel_rfl) ?_
  exact W.fi (by kernel_rfl)
  ) ?_
 (revert h; refine cond_rev (fun hc14 h => ?_) (fun hc14 h => ?_))
 ·refine CodeOk.ifT hc14 (by kernel_rfl) ?_
  refine cu D_ok mix 1 102 (tl 31 [(4, V.bool false)]) [] (by kernel_rfl) ?_
  refine CodeOk.ret ?_
  have h := Option.some.inj h
  subst h
  exact Ends.gen [] (.inr rfl) (RetV.one rfl (OneR.tmp (t := 4) (r := V.bool false) (by kernel_rfl))) (by kernel_rfl) (by kernel_rfl) (by kernel_rfl)
 refine CodeOk.ifF hc14 (by kernel_rfl) ?_
 refine CodeOk.skip ?_
 refine cu D_ok mix 1 102 (tl 31 [(4, V.bool true)]) [] (by kernel_rfl) ?_
 refine CodeOk.ret ?_
 have h := Option.some.inj h
 subst h
 exact Ends.gen [] (.inr rfl) (RetV.one rfl (OneR.tmp (t := 4) (r := V.bool true) (by kernel_rfl))) (by kernel_rfl) (by kernel_rfl) (by kernel_rfl)

theorem m_laws_eqNodeS_ok (N : Nat) (a0 : List SNode) (a1 : List SNode) {r : Bool} (h : m_laws_eqNodeS N a0 a1 = some r) :
    AC Tryz.prog (GS []) 10 [.sl false false (a0.map (encSNode false)), .sl false false (a1.map (encSNode false))] [] (V.bool r) [] := by
 rw [m_laws_eqNodeS] at h
 refine AC.enter Tryz.func10 rfl ?_
 refine cu D_ok mix 1 100 (tl 27 [(0, .sl false false (a0.map (encSNode false))), (1, .sl false false (a1.map (encSNode false)))]) [] (by kernel_rfl) ?_
 refine CodeOk.seq' ?_
 refine CodeOk.cutR (tl 27 [(0, .sl false false (a0.map (encSNode false))), (1, .sl false false (a1.map (encSNode false))), (10, V.bool ((a0.length : Int) != (a1.length : Int)))]) [] mix (by
  refine W.run D_ok 1 100 (by kernel_rfl) ?_
  refine W.len D_ok (encSNode false) a0 [] (by kernel_rfl) (by kernel_rfl) ?_
  refine W.run D_ok 1 100 (by kernel_rfl) ?_
  refine W.len D_ok (encSNode false) a1 [] (by kernel_rfl) (by kernel_rfl) ?_
  refine W.run D_ok 1 100 (by kernel_rfl) ?_
  exact W.fi (by kernel_rfl)
  ) ?_
 (revert h; refine cond_rev (fun hc2 h => ?_) (fun hc2 h => ?_))
 ·refine CodeOk.ifT hc2 (by kernel_rfl) ?_
  refine cu D_ok mix 1 100 (tl 27 [(4, V.bool false)]) [] (by kernel_rfl) ?_
  refine CodeOk.ret ?_
  have h := Option.some.inj h
  subst h
  exact Ends.gen [] (.inr rfl) (RetV.one rfl (OneR.tmp (t := 4) (r := V.bool false) (by kernel_rfl))) (by kernel_rfl) (by kernel_rfl) (by kernel_rfl)
 refine CodeOk.ifF hc2 (by kernel_rfl) ?_
 refine CodeOk.skip ?_
 refine CodeOk.seq' ?_
 refine cu D_ok mix 1 100 (tl 27 [(0, .sl false false (a0.map (encSNode false))), (1, .sl false false (a1.map (encSNode false))), (5, V.int 0)]) [] (by kernel_rfl) ?_
 refine CodeOk.block' ?_
 refine CodeOk.loopJ (fun (⟨a0, a1, y51⟩ : ((List SNode) × (List SNode) × Int)) => ⟨tl 27 [(0, .sl false false (a0.map (encSNode false))), (1, .sl false false (a1.map (encSNode false))), (5, V.int y51)], []⟩) (fun n i => m_laws_eqNodeS_l1 N n i = some r) (n0 := N) (i0 := (a0, a1, 0)) (Weak.sel [] [0, 1, 5] (by kernel_rfl) (by kernel_rfl) (by kernel_rfl)) h (fun i h => by simp [m_laws_eqNodeS_l1] at h) ?_
 rintro n1 ⟨a0, a1, y51⟩ h85 ih86
 rw [m_laws_eqNodeS_l1] at h85
 refine CodeOk.seq' ?_
 refine CodeOk.cutR (tl 27 [(0, .sl false false (a0.map (encSNode false))), (1, .sl false false (a1.map (encSNode false))), (5, V.int y51), (14, V.bool (decide (y51 < (a0.length : Int))))]) [] mix (by
  refine W.run D_ok 2 160 (by kernel_rfl) ?_
  refine W.len D_ok (encSNode false) a0 [] (by kernel_rfl) (by kernel_rfl) ?_
  refine W.run D_ok 1 160 (by kernel_rfl) ?_
  exact W.fi (by kernel_rfl)
  ) ?_
 (revert h85; refine cond_rev (fun hc88 h85 => ?_) (fun hc88 h85 => ?_))
 ·refine CodeOk.ifT hc88 (by kernel_rfl) ?_
  refine CodeOk.skip ?_
  refine CodeOk.seq' ?_
  refine CodeOk.block' ?_
  (revert h85; refine bind_rev fun e74 hx99 h85 => ?_)
  (revert h85; refine bind_rev fun e75 hx100 h85 => ?_)
  (revert h85; refine bind_rev fun r76 hx101 h85 => ?_)
  refine CodeOk.cutR (tl 27 [(0, .sl false false (a0.map (encSNode false))), (1, .sl false false (a1.map (encSNode false))), (5, V.int y51), (26, V.bool (!r76))]) [] mix (by
   refine W.run D_ok 2 160 (by kernel_rfl) ?_
   refine W.ixD D_ok (encSNode false) hx99 5 (by kernel_rfl) (by kernel_rfl) ?_
   refine W.run D_ok 3 160 (by kernel_rfl) ?_
   refine W.ixD D_ok (encSNode false) hx100 5 (by kernel_rfl) (by kernel_rfl) ?_
   refine W.run D_ok 1 160 (by kernel_rfl) ?_
   refine W.call0 (m_laws_eqNode_ok N e74 e75 hx101) cok38 rfl (by kernel_rfl) ?_
   refine W.run D_ok 1 160 (by kernel_rfl) ?_
   exact W.fi (by kernel_rfl)
   ) ?_
  (revert h85; refine cond_rev (fun hc102 h85 => ?_) (fun hc102 h85 => ?_))
  ·refine CodeOk.ifT hc102 (by kernel_rfl) ?_
   refine cu D_ok mix 1 160 (tl 27 [(4, V.bool false)]) [] (by kernel_rfl) ?_
   refine CodeOk.ret ?_
   have h85 := Option.some.inj h85
   subst h85
   exact Ends.gen [] (.inr rfl) (RetV.one rfl (OneR.tmp (t := 4) (r := V.bool false) (by kernel_rfl))) (by kernel_rfl) (by kernel_rfl) (by kernel_rfl)
  refine CodeOk.ifF hc102 (by kernel_rfl) ?_
  refine CodeOk.skip ?_
  refine ce D_ok mix 3 160 (tl 27 [(0, .sl false false (a0.map (encSNode false))), (1, .sl false false (a1.map (encSNode false))), (5, V.int (IntKind.wrap .i64 (y51 + 1)))]) [] (by kernel_rfl) (fun st hw => ?_)
  exact ih86 (a0, a1, (IntKind.wrap .i64 (y51 + 1))) h85 _ (hw.trans (Weak.sel [] [0, 1, 5] (by kernel_rfl) (by kernel_rfl) (by kernel_rfl)))
 refine CodeOk.ifF hc88 (by kernel_rfl) ?_
 refine CodeOk.exit ?_
 refine cu D_ok mix 1 160 (tl 27 [(4, V.bool true)]) [] (by kernel_rfl) ?_
 refine CodeOk.ret ?_
 have h85 := Option.some.inj h85
 subst h85
 exact Ends.gen [] (.inr rfl) (RetV.one rfl (OneR.tmp (t := 4) (r := V.bool true) (by kernel_rfl))) (by kernel_rfl) (by kernel_rfl) (by kernel_rfl)

theorem m_laws_markText_ok (N : Nat) (a0 : Int) {r : (List UInt8)} (h : m_laws_markText N a0 = some r) :
    AC Tryz.prog (GS []) 39 [V.int a0] [] (V.str r) [] := by
 rw [m_laws_markText] at h
 refine AC.enter Tryz.func39 rfl ?_
 refine cu D_ok mix 1 100 (tl 20 [(0, V.int a0)]) [] (by kernel_rfl) ?_
 refine CodeOk.seq' ?_
 refine cu D_ok mix 2 100 (tl 20 [(0, V.int a0), (5, V.bool (decide (a0 ≤ 0)))]) [] (by kernel_rfl) ?_
 (revert h; refine cond_rev (fun hc2 h => ?_) (fun hc2 h => ?_))
 ·refine CodeOk.ifT hc2 (by kernel_rfl) ?_
  refine cu D_ok mix 1 100 (tl 20 [(2, V.str [109, 48])]) [] (by kernel_rfl) ?_
  refine CodeOk.ret ?_
  have h := Option.some.inj h
  subst h
  exact Ends.gen [] (.inr rfl) (RetV.one rfl (OneR.tmp (t := 2) (r := V.str [109, 48]) (by kernel_rfl))) (by kernel_rfl) (by kernel_rfl) (by kernel_rfl)
 refine CodeOk.ifF hc2 (by kernel_rfl) ?_
 refine CodeOk.skip ?_
 refine cu D_ok mix 1 100 (tl 20 [(0, V.int a0), (3, V.str [])]) [] (by kernel_rfl) ?_
 refine CodeOk.seq' ?_
 refine CodeOk.block' ?_
 refine CodeOk.loopJ (fun (⟨y13, y14⟩ : (Int × (List UInt8))) => ⟨tl 20 [(0, V.int y13), (3, V.str y14)], []⟩) (fun n i => m_laws_markText_l1 N n i = some r) (n0 := N) (i0 := (a0, [])) (Weak.sel [] [0, 3] (by kernel_rfl) (by kernel_rfl) (by kernel_rfl)) h (fun i h => by simp [m_laws_markText_l1] at h) ?_
 rintro n1 ⟨y13, y14⟩ h25 ih26
 rw [m_laws_markText_l1] at h25
 refine CodeOk.seq' ?_
 refine cu D_ok mix 2 162 (tl 20 [(0, V.int y13), (3, V.str y14), (7, V.bool (decide (y13 > 0)))]) [] (by kernel_rfl) ?_
 (revert h25; refine cond_rev (fun hc28 h25 => ?_) (fun hc28 h25 => ?_))
 ·refine CodeOk.ifT hc28 (by kernel_rfl) ?_
  refine CodeOk.skip ?_
  refine CodeOk.block' ?_
  (revert h25; refine bind_rev fun s20 hx30 h25 => ?_)
  refine CodeOk.cutR (tl 20 [(0, V.int y13), (3, V.str s20)]) [] mix (by
   refine W.run D_ok 4 162 (by kernel_rfl) ?_
   refine W.run D_ok 1 162 (by kernel_rfl) ?_
   refine W.vecEq 162 (nn := true) (e := 5) (k := 1) (rows := [[.c (.int .u8 (IntKind.wrap .u8 (IntKind.wrap .i64 (48 + (Int.tmod y13 10)))))]]) (rows' := [(bytI (IntKind.wrap .i64 (48 + (Int.tmod y13 10))))].map byteRow) (by kernel_rfl) (by first | (simp only [List.map_cons, List.map_nil, ← bytI_row]; done) | (simp only [List.map_cons, List.map_nil, ← bytI_row]; rfl)) ?_
   refine W.strO D_ok ([(bytI (IntKind.wrap .i64 (48 + (Int.tmod y13 10))))] : List UInt8) (a := 162) (by kernel_rfl) ?_
   refine W.run D_ok 1 163 (by kernel_rfl) ?_
   refine W.cat hx30 (by kernel_rfl) ?_
   refine W.run D_ok 1 163 (by kernel_rfl) ?_
   exact W.fi (by kernel_rfl)
   ) ?_
  refine ce D_ok mix 3 163 (tl 20 [(0, V.int (IntKind.wrap .i64 (Int.tdiv y13 10))), (3, V.str s20)]) [] (by kernel_rfl) (fun st hw => ?_)
  exact ih26 ((IntKind.wrap .i64 (Int.tdiv y13 10)), s20) h25 _ (hw.trans (Weak.sel [] [0, 3] (by kernel_rfl) (by kernel_rfl) (by kernel_rfl)))
 refine CodeOk.ifF hc28 (by kernel_rfl) ?_
 refine CodeOk.exit ?_
 (revert h25; refine bind_rev fun s22 hx32 h25 => ?_)
 refine CodeOk.cutR (tl 20 [(2, V.str s22)]) [] mix (by
  refine W.run D_ok 1 162 (by kernel_rfl) ?_
  refine W.cat hx32 (by kernel_rfl) ?_
  refine W.run D_ok 1 162 (by kernel_rfl) ?_
  exact W.fi (by kernel_rfl)
  ) ?_
 refine CodeOk.ret ?_
 have h25 := Option.some.inj h25
 subst h25
 exact Ends.gen [] (.inr rfl) (RetV.one rfl (OneR.tmp (t := 2) (r := V.str s22) (by kernel_rfl))) (by kernel_rfl) (by kernel_rfl) (by kernel_rfl)

theorem m_laws_markIntS_ok (e0 : TypeId) (N : Nat) (a1 : Int) (p0 : List Int) {r : (Int × (List Int))} (h : m_laws_markIntS N a1 p0 = some r) :
    AC Tryz.prog (GS []) 18 [.own 0, V.int a1] [(0, .vec false e0 1 (p0.map encI))] (V.int r.1) [(0, .vec false e0 1 (r.2.map encI))] := by
 rw [m_laws_markIntS] at h
 refine AC.enter Tryz.func18 rfl ?_
 refine cu D_ok mix 1 100 (tl 19 [(0, .own 0), (1, V.int a1)]) [(0, .vec false e0 1 (p0.map encI))] (by kernel_rfl) ?_
 refine CodeOk.seq' ?_
 refine cu D_ok mix 1 100 (tl 19 [(0, .own 0), (1, V.int a1), (5, V.int 0)]) [(0, .vec false e0 1 (p0.map encI))] (by kernel_rfl) ?_
 refine CodeOk.block' ?_
 refine CodeOk.loopJ (fun (⟨y39, y40, y41⟩ : (Int × Int × (List Int))) => ⟨tl 19 [(0, .own 0), (1, V.int y39), (5, V.int y40)], [(0, .vec false e0 1 (y41.map encI))]⟩) (fun n i => m_laws_markIntS_l1 N n i = some r) (n0 := N) (i0 := (a1, 0, p0)) (Weak.sel [(0, 0)] [0, 1, 5] (by kernel_rfl) (by kernel_rfl) (by kernel_rfl)) h (fun i h => by simp [m_laws_markIntS_l1] at h) ?_
 rintro n1 ⟨y39, y40, y41⟩ h53 ih54
 rw [m_laws_markIntS_l1] at h53
 refine CodeOk.seq' ?_
 refine CodeOk.cutR (tl 19 [(0, .own 0), (1, V.int y39), (5, V.int y40), (9, V.bool (decide (y40 < (y41.length : Int))))]) [(0, .vec false e0 1 (y41.map encI))] mix (by
  refine W.run D_ok 2 160 (by kernel_rfl) ?_
  refine W.len D_ok encI y41 [0] (by kernel_rfl) (by kernel_rfl) ?_
  refine W.run D_ok 1 160 (by kernel_rfl) ?_
  exact W.fi (by kernel_rfl)
  ) ?_
 (revert h53; refine cond_rev (fun hc56 h53 => ?_) (fun hc56 h53 => ?_))
 ·refine CodeOk.ifT hc56 (by kernel_rfl) ?_
  refine CodeOk.skip ?_
  refine CodeOk.seq' ?_
  refine CodeOk.block' ?_
  (revert h53; refine bind_rev fun e59 hx63 h53 => ?_)
  (revert h53; refine bind_rev fun x60 hu64 h53 => ?_)
  refine CodeOk.cutR (tl 19 [(0, .own 0), (1, V.int y39), (5, V.int y40)]) [(0, .vec false e0 1 (x60.map encI))] mix (by
   refine W.run D_ok 3 160 (by kernel_rfl) ?_
   refine W.ixO D_ok encI hx63 0 1 (by kernel_rfl) ?_
   refine W.stO D_ok encI (x' := y39) hx63 hu64 (j := 0) (nn := false) (ety := e0) (sz := 1) (b := 0) (ys := [V.int y39]) (C := []) (R := []) (by kernel_rfl) (by kernel_rfl) ?_
   exact W.fi (by kernel_rfl)
   ) ?_
  refine ce D_ok mix 3 160 (tl 19 [(0, .own 0), (1, V.int (IntKind.wrap .i64 (y39 + 1))), (5, V.int y40)]) [(0, .vec false e0 1 (x60.map encI))] (by kernel_rfl) (fun st hw => ?_)
  refine CodeOk.weak hw ?_
  refine ce D_ok mix 3 160 (tl 19 [(0, .own 0), (1, V.int (IntKind.wrap .i64 (y39 + 1))), (5, V.int (IntKind.wrap .i64 (y40 + 1)))]) [(0, .vec false e0 1 (x60.map encI))] (by kernel_rfl) (fun st hw => ?_)
  exact ih54 ((IntKind.wrap .i64 (y39 + 1)), (IntKind.wrap .i64 (y40 + 1)), x60) h53 _ (hw.trans (Weak.sel [(0, 0)] [0, 1, 5] (by kernel_rfl) (by kernel_rfl) (by kernel_rfl)))
 refine CodeOk.ifF hc56 (by kernel_rfl) ?_
 refine CodeOk.exit ?_
 refine cu D_ok mix 2 160 (tl 19 [(4, V.int y39)]) [(0, .vec false e0 1 (y41.map encI))] (by kernel_rfl) ?_
 refine CodeOk.ret ?_
 have h53 := Option.some.inj h53
 subst h53
 exact Ends.gen [(0, 0)] (.inr rfl) (RetV.one rfl (OneR.tmp (t := 4) (r := V.int y39) (by kernel_rfl))) (by kernel_rfl) (by kernel_rfl) (by kernel_rfl)

theorem m_laws_markIntS_v2_ok (N : Nat) (a1 : Int) {r : Int} (h : m_laws_markIntS_v2 N a1 = some r) :
    AC Tryz.prog (GS []) 18 [.sl false false ([].map encI), V.int a1] [] (V.int r) [] := by
 rw [m_laws_markIntS_v2] at h
 refine AC.enter Tryz.func18 rfl ?_
 refine cu D_ok mix 1 100 (tl 19 [(0, .sl false false ([].map encI)), (1, V.int a1)]) [] (by kernel_rfl) ?_
 refine CodeOk.seq' ?_
 refine cu D_ok mix 1 100 (tl 19 [(0, .sl false false ([].map encI)), (1, V.int a1), (5, V.int 0)]) [] (by kernel_rfl) ?_
 refine CodeOk.block' ?_
 refine CodeOk.loopJ (fun (a1 : Int) => ⟨tl 19 [(0, .sl false false ([].map encI)), (1, V.int a1), (5, V.int 0)], []⟩) (fun n i => m_laws_markIntS_v2_l1 N n i = some r) (n0 := N) (i0 := a1) (Weak.sel [] [0, 1, 5] (by kernel_rfl) (by kernel_rfl) (by kernel_rfl)) h (fun i h => by simp [m_laws_markIntS_v2_l1] at h) ?_
 rintro n1 a1 h3 ih4
 rw [m_laws_markIntS_v2_l1] at h3
 refine CodeOk.seq' ?_
 refine CodeOk.cutR (tl 19 [(0, .sl false false ([].map encI)), (1, V.int a1), (5, V.int 0), (9, V.bool false)]) [] mix (by
  refine W.run D_ok 2 120 (by kernel_rfl) ?_
  refine W.len D_ok encI [] [] (by kernel_rfl) (by kernel_rfl) ?_
  refine W.run D_ok 1 120 (by kernel_rfl) ?_
  exact W.fi (by kernel_rfl)
  ) ?_
 refine CodeOk.ifF (c := false) rfl (by kernel_rfl) ?_
 refine CodeOk.exit ?_
 refine cu D_ok mix 2 120 (tl 19 [(4, V.int a1)]) [] (by kernel_rfl) ?_
 refine CodeOk.ret ?_
 have h3 := Option.some.inj h3
 subst h3
 exact Ends.gen [] (.inr rfl) (RetV.one rfl (OneR.tmp (t := 4) (r := V.int a1) (by kernel_rfl))) (by kernel_rfl) (by kernel_rfl) (by kernel_rfl)

theorem m_laws_markIntS_nil (N : Nat) (k : Int) (l : List Int) {r : (Int × (List Int))} (h : m_laws_markIntS N k l = some r) (hl : l = []) :
    r.2.map encI = [] ∧ AC Tryz.prog (GS []) 18 [.sl false false [], V.int k] [] (V.int r.1) [] := by
  subst hl
  have h2 : r.2 = [] ∧ m_laws_markIntS_v2 N k = some r.1 := by
    cases N with
    | zero => simp [m_laws_markIntS_l1, m_laws_markIntS] at h
    | succ N =>
      simp [m_laws_markIntS_l1, m_laws_markIntS] at h
      subst h
      simp [m_laws_markIntS_v2_l1, m_laws_markIntS_v2]
  exact ⟨by rw [h2.1]; rfl, m_laws_markIntS_v2_ok N k h2.2⟩

theorem m_laws_markNodeS_ok (e0 : TypeId) (N : Nat) (a1 : Int) (p0 : List SNode) {r : (Int × (List SNode))} (h : m_laws_markNodeS N a1 p0 = some r) :
    AC Tryz.prog (GS []) 11 [.own 0, V.int a1] [(0, .vec false e0 5 (p0.map (encSNode true)))] (V.int r.1) [(0, .vec false e0 5 (r.2.map (encSNode true)))] := by
 rw [m_laws_markNodeS] at h
 refine AC.enter Tryz.func11 rfl ?_
 refine cu D_ok mix 1 100 (tl 50 [(0, .own 0), (1, V.int a1)]) [(0, .vec false e0 5 (p0.map (encSNode true)))] (by kernel_rfl) ?_
 refine CodeOk.seq' ?_
 refine cu D_ok mix 1 100 (tl 50 [(0, .own 0), (1, V.int a1), (5, V.int 0)]) [(0, .vec false e0 5 (p0.map (encSNode true)))] (by kernel_rfl) ?_
 refine CodeOk.block' ?_
 refine CodeOk.loopJ (fun (⟨y191, y192, y193⟩ : (Int × Int × (List SNode))) => ⟨tl 50 [(0, .own 0), (1, V.int y191), (5, V.int y192)], [(0, .vec false e0 5 (y193.map (encSNode true)))]⟩) (fun n i => m_laws_markNodeS_l1 N n i = some r) (n0 := N) (i0 := (a1, 0, p0)) (Weak.sel [(0, 0)] [0, 1, 5] (by kernel_rfl) (by kernel_rfl) (by kernel_rfl)) h (fun i h => by simp [m_laws_markNodeS_l1] at h) ?_
 rintro n1 ⟨y191, y192, y193⟩ h243 ih244
 rw [m_laws_markNodeS_l1] at h243
 refine CodeOk.seq' ?_
 refine CodeOk.cutR (tl 50 [(0, .own 0), (1, V.int y191), (5, V.int y192), (9, V.bool (decide (y192 < (y193.length : Int))))]) [(0, .vec false e0 5 (y193.map (encSNode true)))] mix (by
  refine W.run D_ok 2 160 (by kernel_rfl) ?_
  refine W.len D_ok (encSNode true) y193 [0] (by kernel_rfl) (by kernel_rfl) ?_
  refine W.run D_ok 1 160 (by kernel_rfl) ?_
  exact W.fi (by kernel_rfl)
  ) ?_
 (revert h243; refine cond_rev (fun hc246 h243 => ?_) (fun hc246 h243 => ?_))
 ·refine CodeOk.ifT hc246 (by kernel_rfl) ?_
  refine CodeOk.skip ?_
  refine CodeOk.seq' ?_
  refine CodeOk.block' ?_
  (revert h243; refine bind_rev fun e268 hx272 h243 => ?_)
  (revert h243; refine bind_rev fun x269 hu273 h243 => ?_)
  refine CodeOk.cutR (tl 50 [(0, .own 0), (1, V.int y191), (5, V.int y192)]) [(0, .vec false e0 5 (x269.map (encSNode true)))] mix (by
   refine W.run D_ok 3 160 (by kernel_rfl) ?_
   refine W.ixO D_ok (encSNode true) hx272 0 5 (by kernel_rfl) ?_
   refine W.run D_ok 1 160 (by kernel_rfl) ?_
   refine W.stO D_ok (encSNode true) (x' := (⟨y191, e268.Op, e268.Text, e268.Other, e268.Kids⟩ : SNode)) hx272 hu273 (j := 0) (nn := false) (ety := e0) (sz := 5) (b := 0) (ys := [V.int y191]) (C := []) (R := []) (by kernel_rfl) (by kernel_rfl) ?_
   exact W.fi (by kernel_rfl)
   ) ?_
  refine cu D_ok mix 3 160 (tl 50 [(0, .own 0), (1, V.int (IntKind.wrap .i64 (y191 + 1))), (5, V.int y192)]) [(0, .vec false e0 5 (x269.map (encSNode true)))] (by kernel_rfl) ?_
  (revert h243; refine bind_rev fun e272 hx276 h243 => ?_)
  (revert h243; refine bind_rev fun x273 hu277 h243 => ?_)
  refine CodeOk.cutR (tl 50 [(0, .own 0), (1, V.int (IntKind.wrap .i64 (y191 + 1))), (5, V.int y192)]) [(0, .vec false e0 5 (x273.map (encSNode true)))] mix (by
   refine W.run D_ok 3 160 (by kernel_rfl) ?_
   refine W.ixO D_ok (encSNode true) hx276 0 5 (by kernel_rfl) ?_
   refine W.run D_ok 1 160 (by kernel_rfl) ?_
   refine W.stO D_ok (encSNode true) (x' := (⟨e272.Kind, (IntKind.wrap .i64 (y191 + 1)), e272.Text, e272.Other, e272.Kids⟩ : SNode)) hx276 hu277 (j := 0) (nn := false) (ety := e0) (sz := 5) (b := 1) (ys := [V.int (IntKind.wrap .i64 (y191 + 1))]) (C := []) (R := []) (by kernel_rfl) (by kernel_rfl) ?_
   exact W.fi (by kernel_rfl)
   ) ?_
  refine cu D_ok mix 3 160 (tl 50 [(0, .own 0), (1, V.int (IntKind.wrap .i64 ((IntKind.wrap .i64 (y191 + 1)) + 1))), (5, V.int y192)]) [(0, .vec false e0 5 (x273.map (encSNode true)))] (by kernel_rfl) ?_
  (revert h243; refine bind_rev fun r277 hx281 h243 => ?_)
  (revert h243; refine bind_rev fun e278 hx282 h243 => ?_)
  (revert h243; refine bind_rev fun x279 hu283 h243 => ?_)
  refine CodeOk.cutR (tl 50 [(0, .own 0), (1, V.int (IntKind.wrap .i64 ((IntKind.wrap .i64 (y191 + 1)) + 1))), (5, V.int y192)]) [(0, .vec false e0 5 (x279.map (encSNode true)))] mix (by
   refine W.run D_ok 3 160 (by kernel_rfl) ?_
   refine W.call0 (m_laws_markText_ok N (IntKind.wrap .i64 ((IntKind.wrap .i64 (y191 + 1)) + 1)) hx281) cok39 rfl (by kernel_rfl) ?_
   refine W.ixO D_ok (encSNode true) hx282 0 5 (by kernel_rfl) ?_
   refine W.run D_ok 1 160 (by kernel_rfl) ?_
   refine W.stO D_ok (encSNode true) (x' := (⟨e278.Kind, e278.Op, r277, e278.Other, e278.Kids⟩ : SNode)) hx282 hu283 (j := 0) (nn := false) (ety := e0) (sz := 5) (b := 2) (ys := [V.str r277]) (C := []) (R := []) (by kernel_rfl) (by kernel_rfl) ?_
   exact W.fi (by kernel_rfl)
   ) ?_
  refine cu D_ok mix 3 160 (tl 50 [(0, .own 0), (1, V.int (IntKind.wrap .i64 ((IntKind.wrap .i64 ((IntKind.wrap .i64 (y191 + 1)) + 1)) + 1))), (5, V.int y192)]) [(0, .vec false e0 5 (x279.map (encSNode true)))] (by kernel_rfl) ?_
  (revert h243; refine bind_rev fun r283 hx287 h243 => ?_)
  (revert h243; refine bind_rev fun e284 hx288 h243 => ?_)
  (revert h243; refine bind_rev fun x285 hu289 h243 => ?_)
  refine CodeOk.cutR (tl 50 [(0, .own 0), (1, V.int (IntKind.wrap .i64 ((IntKind.wrap .i64 ((IntKind.wrap .i64 (y191 + 1)) + 1)) + 1))), (5, V.int y192)]) [(0, .vec false e0 5 (x285.map (encSNode true)))] mix (by
   refine W.run D_ok 3 160 (by kernel_rfl) ?_
   refine W.call0 (m_laws_markText_ok N (IntKind.wrap .i64 ((IntKind.wrap .i64 ((IntKind.wrap .i64 (y191 + 1)) + 1)) + 1)) hx287) cok39 rfl (by kernel_rfl) ?_
   refine W.ixO D_ok (encSNode true) hx288 0 5 (by kernel_rfl) ?_
   refine W.run D_ok 1 160 (by kernel_rfl) ?_
   refine W.stO D_ok (encSNode true) (x' := (⟨e284.Kind, e284.Op, e284.Text, r283, e284.Kids⟩ : SNode)) hx288 hu289 (j := 0) (nn := false) (ety := e0) (sz := 5) (b := 3) (ys := [V.str r283]) (C := []) (R := []) (by kernel_rfl) (by kernel_rfl) ?_
   exact W.fi (by kernel_rfl)
   ) ?_
  refine cu D_ok mix 3 160 (tl 50 [(0, .own 0), (1, V.int (IntKind.wrap .i64 ((IntKind.wrap .i64 ((IntKind.wrap .i64 ((IntKind.wrap .i64 (y191 + 1)) + 1)) + 1)) + 1))), (5, V.int y192)]) [(0, .vec false e0 5 (x285.map (encSNode true)))] (by kernel_rfl) ?_
  (revert h243; refine bind_rev fun e286 hx290 h243 => ?_)
  (revert h243; refine bind_rev fun r287 hx291 h243 => ?_)
  (revert h243; refine bind_rev fun x288 hu292 h243 => ?_)
  refine CodeOk.nestEnd D_ok 4 (tl 50 [(0, .own 0), (1, V.int (IntKind.wrap .i64 ((IntKind.wrap .i64 ((IntKind.wrap .i64 ((IntKind.wrap .i64 (y191 + 1)) + 1)) + 1)) + 1))), (5, V.int y192), (45, .vp 0 5 y192.toNat 4)]) [(0, .vec false e0 5 (x285.map (encSNode true)))] (tl 50 [(0, .own 0), (1, V.int r287.1), (5, V.int y192)]) [(0, .vec false e0 5 (x288.map (encSNode true)))] (by kernel_rfl) (by
      refine W.run D_ok 2 160 (by kernel_rfl) ?_
      refine W.ixO D_ok (encSNode true) hx290 0 5 (by kernel_rfl) ?_
      refine W.run D_ok 1 160 (by kernel_rfl) ?_
      exact W.fin (by decide) (by kernel_rfl) (Weak.sel [(0, 0)] [0, 1, 5, 45] (by kernel_rfl) (by kernel_rfl) (by kernel_rfl))
      ) ⟨_, rfl, rfl, rfl⟩ ⟨_, rfl, rfl, rfl⟩ ⟨_, rfl, rfl, rfl⟩ cok18 (by kernel_rfl) (by kernel_rfl) (i := 0) (k := 5) (m := y192.toNat) (b := 4) (u := .int .i64 (IntKind.wrap .i64 ((IntKind.wrap .i64 ((IntKind.wrap .i64 ((IntKind.wrap .i64 (y191 + 1)) + 1)) + 1)) + 1))) (by kernel_rfl) (by kernel_rfl) (nn := false) (nn2 := false) (ety := e0) (encSNode true) (x' := (⟨e286.Kind, e286.Op, e286.Text, e286.Other, r287.2⟩ : SNode)) hx290 hu292 rfl (by kernel_rfl) (srows := e286.Kids.map encI) (srows' := r287.2.map encI) (by kernel_rfl) (by kernel_rfl) (u' := .int .i64 r287.1) (k2 := 1) (fun _ e => m_laws_markIntS_ok e N (IntKind.wrap .i64 ((IntKind.wrap .i64 ((IntKind.wrap .i64 ((IntKind.wrap .i64 (y191 + 1)) + 1)) + 1)) + 1)) e286.Kids hx291) (fun h0 => m_laws_markIntS_nil N (IntKind.wrap .i64 ((IntKind.wrap .i64 ((IntKind.wrap .i64 ((IntKind.wrap .i64 (y191 + 1)) + 1)) + 1)) + 1)) e286.Kids hx291 (List.map_eq_nil_iff.1 h0)) (fun r hr => by obtain ⟨a, _, rfl⟩ := List.mem_map.1 hr; rfl) (by
      refine W.run D_ok 1 160 (by kernel_rfl) ?_
      exact W.fin (by decide) (by kernel_rfl) (Weak.sel [(0, 0)] [0, 1, 5] (by kernel_rfl) (by kernel_rfl) (by kernel_rfl))
   ) (fun st hw => ?_)
  refine CodeOk.weak hw ?_
  refine ce D_ok mix 3 160 (tl 50 [(0, .own 0), (1, V.int r287.1), (5, V.int (IntKind.wrap .i64 (y192 + 1)))]) [(0, .vec false e0 5 (x288.map (encSNode true)))] (by kernel_rfl) (fun st hw => ?_)
  exact ih244 (r287.1, (IntKind.wrap .i64 (y192 + 1)), x288) h243 _ (hw.trans (Weak.sel [(0, 0)] [0, 1, 5] (by kernel_rfl) (by kernel_rfl) (by kernel_rfl)))
 refine CodeOk.ifF hc246 (by kernel_rfl) ?_
 refine CodeOk.exit ?_
 refine cu D_ok mix 2 160 (tl 50 [(4, V.int y191)]) [(0, .vec false e0 5 (y193.map (encSNode true)))] (by kernel_rfl) ?_
 refine CodeOk.ret ?_
 have h243 := Option.some.inj h243
 subst h243
 exact Ends.gen [(0, 0)] (.inr rfl) (RetV.one rfl (OneR.tmp (t := 4) (r := V.int y191) (by kernel_rfl))) (by kernel_rfl) (by kernel_rfl) (by kernel_rfl)

theorem m_laws_heldIntS_ok (N : Nat) (a0 : List Int) (a1 : Int) {r : Int} (h : m_laws_heldIntS N a0 a1 = some r) :
    AC Tryz.prog (GS []) 19 [.sl false false (a0.map encI), V.int a1] [] (V.int r) [] := by
 rw [m_laws_heldIntS] at h
 refine AC.enter Tryz.func19 rfl ?_
 refine cu D_ok mix 1 100 (tl 21 [(0, .sl false false (a0.map encI)), (1, V.int a1)]) [] (by kernel_rfl) ?_
 refine CodeOk.seq' ?_
 refine cu D_ok mix 1 100 (tl 21 [(0, .sl false false (a0.map encI)), (1, V.int a1), (5, V.int 0)]) [] (by kernel_rfl) ?_
 refine CodeOk.block' ?_
 refine CodeOk.loopJ (fun (⟨a0, y37, y38⟩ : ((List Int) × Int × Int)) => ⟨tl 21 [(0, .sl false false (a0.map encI)), (1, V.int y37), (5, V.int y38)], []⟩) (fun n i => m_laws_heldIntS_l1 N n i = some r) (n0 := N) (i0 := (a0, a1, 0)) (Weak.sel [] [0, 1, 5] (by kernel_rfl) (by kernel_rfl) (by kernel_rfl)) h (fun i h => by simp [m_laws_heldIntS_l1] at h) ?_
 rintro n1 ⟨a0, y37, y38⟩ h73 ih74
 rw [m_laws_heldIntS_l1] at h73
 refine CodeOk.seq' ?_
 refine CodeOk.cutR (tl 21 [(0, .sl false false (a0.map encI)), (1, V.int y37), (5, V.int y38), (9, V.bool (decide (y38 < (a0.length : Int))))]) [] mix (by
  refine W.run D_ok 2 160 (by kernel_rfl) ?_
  refine W.len D_ok encI a0 [] (by kernel_rfl) (by kernel_rfl) ?_
  refine W.run D_ok 1 160 (by kernel_rfl) ?_
  exact W.fi (by kernel_rfl)
  ) ?_
 (revert h73; refine cond_rev (fun hc76 h73 => ?_) (fun hc76 h73 => ?_))
 ·refine CodeOk.ifT hc76 (by kernel_rfl) ?_
  refine CodeOk.skip ?_
  refine CodeOk.seq' ?_
  refine CodeOk.block' ?_
  refine CodeOk.seq' ?_
  (revert h73; refine bind_rev fun e56 hx87 h73 => ?_)
  refine CodeOk.cutR (tl 21 [(0, .sl false false (a0.map encI)), (1, V.int y37), (5, V.int y38), (17, V.bool (e56 != y37))]) [] mix (by
   refine W.run D_ok 2 160 (by kernel_rfl) ?_
   refine W.ixD D_ok encI hx87 1 (by kernel_rfl) (by kernel_rfl) ?_
   refine W.run D_ok 3 160 (by kernel_rfl) ?_
   exact W.fi (by kernel_rfl)
   ) ?_
  (revert h73; refine cond_rev (fun hc88 h73 => ?_) (fun hc88 h73 => ?_))
  ·refine CodeOk.ifT hc88 (by kernel_rfl) ?_
   refine cu D_ok mix 1 160 (tl 21 [(4, V.int (-1))]) [] (by kernel_rfl) ?_
   refine CodeOk.ret ?_
   have h73 := Option.some.inj h73
   subst h73
   exact Ends.gen [] (.inr rfl) (RetV.one rfl (OneR.tmp (t := 4) (r := V.int (-1)) (by kernel_rfl))) (by kernel_rfl) (by kernel_rfl) (by kernel_rfl)
  refine CodeOk.ifF hc88 (by kernel_rfl) ?_
  refine CodeOk.skip ?_
  refine ce D_ok mix 3 160 (tl 21 [(0, .sl false false (a0.map encI)), (1, V.int (IntKind.wrap .i64 (y37 + 1))), (5, V.int y38)]) [] (by kernel_rfl) (fun st hw => ?_)
  refine CodeOk.weak hw ?_
  refine ce D_ok mix 3 160 (tl 21 [(0, .sl false false (a0.map encI)), (1, V.int (IntKind.wrap .i64 (y37 + 1))), (5, V.int (IntKind.wrap .i64 (y38 + 1)))]) [] (by kernel_rfl) (fun st hw => ?_)
  exact ih74 (a0, (IntKind.wrap .i64 (y37 + 1)), (IntKind.wrap .i64 (y38 + 1))) h73 _ (hw.trans (Weak.sel [] [0, 1, 5] (by kernel_rfl) (by kernel_rfl) (by kernel_rfl)))
 refine CodeOk.ifF hc76 (by kernel_rfl) ?_
 refine CodeOk.exit ?_
 refine cu D_ok mix 2 160 (tl 21 [(4, V.int y37)]) [] (by kernel_rfl) ?_
 refine CodeOk.ret ?_
 have h73 := Option.some.inj h73
 subst h73
 exact Ends.gen [] (.inr rfl) (RetV.one rfl (OneR.tmp (t := 4) (r := V.int y37) (by kernel_rfl))) (by kernel_rfl) (by kernel_rfl) (by kernel_rfl)

theorem m_laws_heldNodeS_ok (N : Nat) (a0 : List SNode) (a1 : Int) {r : Int} (h : m_laws_heldNodeS N a0 a1 = some r) :
    AC Tryz.prog (GS []) 12 [.sl false false (a0.map (encSNode false)), V.int a1] [] (V.int r) [] := by
 rw [m_laws_heldNodeS] at h
 refine AC.enter Tryz.func12 rfl ?_
 refine cu D_ok mix 1 100 (tl 60 [(0, .sl false false (a0.map (encSNode false))), (1, V.int a1)]) [] (by kernel_rfl) ?_
 refine CodeOk.seq' ?_
 refine cu D_ok mix 1 100 (tl 60 [(0, .sl false false (a0.map (encSNode false))), (1, V.int a1), (5, V.int 0)]) [] (by kernel_rfl) ?_
 refine CodeOk.block' ?_
 refine CodeOk.loopJ (fun (⟨a0, y229, y230⟩ : ((List SNode) × Int × Int)) => ⟨tl 60 [(0, .sl false false (a0.map (encSNode false))), (1, V.int y229), (5, V.int y230)], []⟩) (fun n i => m_laws_heldNodeS_l1 N n i = some r) (n0 := N) (i0 := (a0, a1, 0)) (Weak.sel [] [0, 1, 5] (by kernel_rfl) (by kernel_rfl) (by kernel_rfl)) h (fun i h => by simp [m_laws_heldNodeS_l1] at h) ?_
 rintro n1 ⟨a0, y229, y230⟩ h383 ih384
 rw [m_laws_heldNodeS_l1] at h383
 refine CodeOk.seq' ?_
 refine CodeOk.cutR (tl 60 [(0, .sl false false (a0.map (encSNode false))), (1, V.int y229), (5, V.int y230), (9, V.bool (decide (y230 < (a0.length : Int))))]) [] mix (by
  refine W.run D_ok 2 160 (by kernel_rfl) ?_
  refine W.len D_ok (encSNode false) a0 [] (by kernel_rfl) (by kernel_rfl) ?_
  refine W.run D_ok 1 160 (by kernel_rfl) ?_
  exact W.fi (by kernel_rfl)
  ) ?_
 (revert h383; refine cond_rev (fun hc386 h383 => ?_) (fun hc386 h383 => ?_))
 ·refine CodeOk.ifT hc386 (by kernel_rfl) ?_
  refine CodeOk.skip ?_
  refine CodeOk.seq' ?_
  refine CodeOk.block' ?_
  refine CodeOk.seq' ?_
  (revert h383; refine bind_rev fun e320 hx428 h383 => ?_)
  refine CodeOk.cutR (tl 60 [(0, .sl false false (a0.map (encSNode false))), (1, V.int y229), (5, V.int y230), (18, V.bool (e320.Kind != y229))]) [] mix (by
   refine W.run D_ok 2 160 (by kernel_rfl) ?_
   refine W.ixD D_ok (encSNode false) hx428 5 (by kernel_rfl) (by kernel_rfl) ?_
   refine W.run D_ok 4 160 (by kernel_rfl) ?_
   exact W.fi (by kernel_rfl)
   ) ?_
  (revert h383; refine cond_rev (fun hc429 h383 => ?_) (fun hc429 h383 => ?_))
  ·refine CodeOk.ifT hc429 (by kernel_rfl) ?_
   refine cu D_ok mix 1 160 (tl 60 [(4, V.int (-1))]) [] (by kernel_rfl) ?_
   refine CodeOk.ret ?_
   have h383 := Option.some.inj h383
   subst h383
   exact Ends.gen [] (.inr rfl) (RetV.one rfl (OneR.tmp (t := 4) (r := V.int (-1)) (by kernel_rfl))) (by kernel_rfl) (by kernel_rfl) (by kernel_rfl)
  refine CodeOk.ifF hc429 (by kernel_rfl) ?_
  refine CodeOk.skip ?_
  refine cu D_ok mix 3 160 (tl 60 [(0, .sl false false (a0.map (encSNode false))), (1, V.int (IntKind.wrap .i64 (y229 + 1))), (5, V.int y230)]) [] (by kernel_rfl) ?_
  refine CodeOk.seq' ?_
  (revert h383; refine bind_rev fun e324 hx434 h383 => ?_)
  refine CodeOk.cutR (tl 60 [(0, .sl false false (a0.map (encSNode false))), (1, V.int (IntKind.wrap .i64 (y229 + 1))), (5, V.int y230), (27, V.bool (e324.Op != (IntKind.wrap .i64 (y229 + 1))))]) [] mix (by
   refine W.run D_ok 2 160 (by kernel_rfl) ?_
   refine W.ixD D_ok (encSNode false) hx434 5 (by kernel_rfl) (by kernel_rfl) ?_
   refine W.run D_ok 4 160 (by kernel_rfl) ?_
   exact W.fi (by kernel_rfl)
   ) ?_
  (revert h383; refine cond_rev (fun hc435 h383 => ?_) (fun hc435 h383 => ?_))
  ·refine CodeOk.ifT hc435 (by kernel_rfl) ?_
   refine cu D_ok mix 1 160 (tl 60 [(4, V.int (-1))]) [] (by kernel_rfl) ?_
   refine CodeOk.ret ?_
   have h383 := Option.some.inj h383
   subst h383
   exact Ends.gen [] (.inr rfl) (RetV.one rfl (OneR.tmp (t := 4) (r := V.int (-1)) (by kernel_rfl))) (by kernel_rfl) (by kernel_rfl) (by kernel_rfl)
  refine CodeOk.ifF hc435 (by kernel_rfl) ?_
  refine CodeOk.skip ?_
  refine cu D_ok mix 3 160 (tl 60 [(0, .sl false false (a0.map (encSNode false))), (1, V.int (IntKind.wrap .i64 ((IntKind.wrap .i64 (y229 + 1)) + 1))), (5, V.int y230)]) [] (by kernel_rfl) ?_
  refine CodeOk.seq' ?_
  (revert h383; refine bind_rev fun e331 hx443 h383 => ?_)
  (revert h383; refine bind_rev fun r332 hx444 h383 => ?_)
  refine CodeOk.cutR (tl 60 [(0, .sl false false (a0.map (encSNode false))), (1, V.int (IntKind.wrap .i64 ((IntKind.wrap .i64 (y229 + 1)) + 1))), (5, V.int y230), (37, V.bool (!(e331.Text == r332)))]) [] mix (by
   refine W.run D_ok 2 160 (by kernel_rfl) ?_
   refine W.ixD D_ok (encSNode false) hx443 5 (by kernel_rfl) (by kernel_rfl) ?_
   refine W.run D_ok 3 160 (by kernel_rfl) ?_
   refine W.call0 (m_laws_markText_ok N (IntKind.wrap .i64 ((IntKind.wrap .i64 (y229 + 1)) + 1)) hx444) cok39 rfl (by kernel_rfl) ?_
   refine W.run D_ok 1 160 (by kernel_rfl) ?_
   exact W.fi (by kernel_rfl)
   ) ?_
  (revert h383; refine cond_rev (fun hc445 h383 => ?_) (fun hc445 h383 => ?_))
  ·refine CodeOk.ifT hc445 (by kernel_rfl) ?_
   refine cu D_ok mix 1 160 (tl 60 [(4, V.int (-1))]) [] (by kernel_rfl) ?_
   refine CodeOk.ret ?_
   have h383 := Option.some.inj h383
   subst h383
   exact Ends.gen [] (.inr rfl) (RetV.one rfl (OneR.tmp (t := 4) (r := V.int (-1)) (by kernel_rfl))) (by kernel_rfl) (by kernel_rfl) (by kernel_rfl)
  refine CodeOk.ifF hc445 (by kernel_rfl) ?_
  refine CodeOk.skip ?_
  refine cu D_ok mix 3 160 (tl 60 [(0, .sl false false (a0.map (encSNode false))), (1, V.int (IntKind.wrap .i64 ((IntKind.wrap .i64 ((IntKind.wrap .i64 (y229 + 1)) + 1)) + 1))), (5, V.int y230)]) [] (by kernel_rfl) ?_
  refine CodeOk.seq' ?_
  (revert h383; refine bind_rev fun e339 hx453 h383 => ?_)
  (revert h383; refine bind_rev fun r340 hx454 h383 => ?_)
  refine CodeOk.cutR (tl 60 [(0, .sl false false (a0.map (encSNode false))), (1, V.int (IntKind.wrap .i64 ((IntKind.wrap .i64 ((IntKind.wrap .i64 (y229 + 1)) + 1)) + 1))), (5, V.int y230), (47, V.bool (!(e339.Other == r340)))]) [] mix (by
   refine W.run D_ok 2 160 (by kernel_rfl) ?_
   refine W.ixD D_ok (encSNode false) hx453 5 (by kernel_rfl) (by kernel_rfl) ?_
   refine W.run D_ok 3 160 (by kernel_rfl) ?_
   refine W.call0 (m_laws_markText_ok N (IntKind.wrap .i64 ((IntKind.wrap .i64 ((IntKind.wrap .i64 (y229 + 1)) + 1)) + 1)) hx454) cok39 rfl (by kernel_rfl) ?_
   refine W.run D_ok 1 160 (by kernel_rfl) ?_
   exact W.fi (by kernel_rfl)
   ) ?_
  (revert h383; refine cond_rev (fun hc455 h383 => ?_) (fun hc455 h383 => ?_))
  ·refine CodeOk.ifT hc455 (by kernel_rfl) ?_
   refine cu D_ok mix 1 160 (tl 60 [(4, V.int (-1))]) [] (by kernel_rfl) ?_
   refine CodeOk.ret ?_
   have h383 := Option.some.inj h383
   subst h383
   exact Ends.gen [] (.inr rfl) (RetV.one rfl (OneR.tmp (t := 4) (r := V.int (-1)) (by kernel_rfl))) (by kernel_rfl) (by kernel_rfl) (by kernel_rfl)
  refine CodeOk.ifF hc455 (by kernel_rfl) ?_
  refine CodeOk.skip ?_
  refine cu D_ok mix 3 160 (tl 60 [(0, .sl false false (a0.map (encSNode false))), (1, V.int (IntKind.wrap .i64 ((IntKind.wrap .i64 ((IntKind.wrap .i64 ((IntKind.wrap .i64 (y229 + 1)) + 1)) + 1)) + 1))), (5, V.int y230)]) [] (by kernel_rfl) ?_
  (revert h383; refine bind_rev fun e343 hx458 h383 => ?_)
  (revert h383; refine bind_rev fun r344 hx459 h383 => ?_)
  refine CodeOk.cutR (tl 60 [(0, .sl false false (a0.map (encSNode false))), (1, V.int r344), (5, V.int y230)]) [] mix (by
   refine W.run D_ok 2 160 (by kernel_rfl) ?_
   refine W.ixD D_ok (encSNode false) hx458 5 (by kernel_rfl) (by kernel_rfl) ?_
   refine W.run D_ok 3 160 (by kernel_rfl) ?_
   refine W.call0 (m_laws_heldIntS_ok N e343.Kids (IntKind.wrap .i64 ((IntKind.wrap .i64 ((IntKind.wrap .i64 ((IntKind.wrap .i64 (y229 + 1)) + 1)) + 1)) + 1)) hx459) cok19 rfl (by kernel_rfl) ?_
   refine W.run D_ok 1 160 (by kernel_rfl) ?_
   exact W.fi (by kernel_rfl)
   ) ?_
  refine cu D_ok mix 2 160 (tl 60 [(0, .sl false false (a0.map (encSNode false))), (1, V.int r344), (5, V.int y230), (58, V.bool (decide (r344 < 0)))]) [] (by kernel_rfl) ?_
  (revert h383; refine cond_rev (fun hc460 h383 => ?_) (fun hc460 h383 => ?_))
  ·refine CodeOk.ifT hc460 (by kernel_rfl) ?_
   refine cu D_ok mix 1 160 (tl 60 [(4, V.int (-1))]) [] (by kernel_rfl) ?_
   refine CodeOk.ret ?_
   have h383 := Option.some.inj h383
   subst h383
   exact Ends.gen [] (.inr rfl) (RetV.one rfl (OneR.tmp (t := 4) (r := V.int (-1)) (by kernel_rfl))) (by kernel_rfl) (by kernel_rfl) (by kernel_rfl)
  refine CodeOk.ifF hc460 (by kernel_rfl) ?_
  refine CodeOk.skip ?_
  refine ce D_ok mix 3 160 (tl 60 [(0, .sl false false (a0.map (encSNode false))), (1, V.int r344), (5, V.int (IntKind.wrap .i64 (y230 + 1)))]) [] (by kernel_rfl) (fun st hw => ?_)
  exact ih384 (a0, r344, (IntKind.wrap .i64 (y230 + 1))) h383 _ (hw.trans (Weak.sel [] [0, 1, 5] (by kernel_rfl) (by kernel_rfl) (by kernel_rfl)))
 refine CodeOk.ifF hc386 (by kernel_rfl) ?_
 refine CodeOk.exit ?_
 refine cu D_ok mix 2 160 (tl 60 [(4, V.int y229)]) [] (by kernel_rfl) ?_
 refine CodeOk.ret ?_
 have h383 := Option.some.inj h383
 subst h383
 exact Ends.gen [] (.inr rfl) (RetV.one rfl (OneR.tmp (t := 4) (r := V.int y229) (by kernel_rfl))) (by kernel_rfl) (by kernel_rfl) (by kernel_rfl)

theorem m_laws_FnExactReadTree_ok (N : Nat) (a0 : List UInt8) {r : Bool} (h : m_laws_FnExactReadTree N a0 = some r) :
    AC Tryz.prog (GS [0, 1, 2]) 3 [V.str a0] [] (V.bool r) [] := by
 rw [m_laws_FnExactReadTree] at h
 refine AC.enter Tryz.func3 rfl ?_
 refine cu D_ok mix 1 100 (tl 66 [(0, V.str a0)]) [] (by kernel_rfl) ?_
 refine CodeOk.seq' ?_
 refine cu D_ok mix 3 100 (tl 66 [(0, V.str a0), (13, V.bool (decide ((a0.length : Int) > 1048576)))]) [] (by kernel_rfl) ?_
 (revert h; refine cond_rev (fun hc2 h => ?_) (fun hc2 h => ?_))
 ·refine CodeOk.ifT hc2 (by kernel_rfl) ?_
  refine cu D_ok mix 1 100 (tl 66 [(2, V.bool true)]) [] (by kernel_rfl) ?_
  refine CodeOk.ret ?_
  have h := Option.some.inj h
  subst h
  exact Ends.gen [] (.inr rfl) (RetV.one rfl (OneR.tmp (t := 2) (r := V.bool true) (by kernel_rfl))) (by kernel_rfl) (by kernel_rfl) (by kernel_rfl)
 refine CodeOk.ifF hc2 (by kernel_rfl) ?_
 refine CodeOk.skip ?_
 (revert h; refine bind_rev fun r2 hx4 h => ?_)
 refine CodeOk.cutR (tl 66 [(0, V.str a0), (3, .own 100), (4, V.bool r2.2)]) [(100, .vec false 48 5 (r2.1.map (encSNode true)))] mix (by
  refine W.run D_ok 1 100 (by kernel_rfl) ?_
  refine W.call (AC.gs (m_spec_ReadTree_ok N a0 hx4) (by decide)) cok8 [] [(100, 100)] [100] (show LayOk _ [] from trivial) (by kernel_rfl) (by kernel_rfl) ?_
  refine W.run D_ok 5 101 (by kernel_rfl) ?_
  exact W.fi (by kernel_rfl)
  ) ?_
 (revert h; refine bind_rev fun r4 hx6 h => ?_)
 refine CodeOk.cutR (tl 66 [(0, V.str a0), (3, .own 100), (4, V.bool r2.2), (5, .own 101), (6, V.bool r4.2)]) [(101, .vec false 48 5 (r4.1.map (encSNode true))), (100, .vec false 48 5 (r2.1.map (encSNode true)))] mix (by
  refine W.run D_ok 1 101 (by kernel_rfl) ?_
  refine W.call (m_impl_ReadTree_ok N a0 hx6) cok9 [] [(100, 101)] [101] (show LayOk _ [] from trivial) (by kernel_rfl) (by kernel_rfl) ?_
  refine W.run D_ok 5 102 (by kernel_rfl) ?_
  exact W.fi (by kernel_rfl)
  ) ?_
 refine CodeOk.seq' ?_
 (revert h; refine bind_rev fun y9 hv15 h => ?_)
 refine CodeOk.cutR (tl 66 [(0, V.str a0), (3, .own 100), (4, V.bool r2.2), (5, .own 101), (32, V.bool y9)]) [(100, .vec false 48 5 (r2.1.map (encSNode true))), (101, .vec false 48 5 (r4.1.map (encSNode true)))] mix (by
  refine W.run D_ok 2 102 (by kernel_rfl) ?_
  (revert hv15; refine bind_rev fun r10 hx16 hv15 => ?_)
  refine W.lend (AC.gs (m_laws_eqNodeS_ok N r4.1 r2.1 hx16) (by decide)) cok10 [] [] (LayOk.cons (j := 101) (encSNode true) (encSNode false) r4.1 (by kernel_rfl) (share_encSNode _) (LayOk.cons (j := 100) (encSNode true) (encSNode false) r2.1 (by kernel_rfl) (share_encSNode _) (show LayOk _ [] from trivial))) (.c _) .nil (by kernel_rfl) (by kernel_rfl) ?_
  refine W.run D_ok 2 102 (by kernel_rfl) ?_
  (revert hv15; refine cond_rev (fun hc17 hv15 => ?_) (fun hc17 hv15 => ?_))
  ·refine W.is 28 hc17 (by kernel_rfl) ?_
   refine W.run D_ok 4 102 (by kernel_rfl) ?_
   have hv15 := Option.some.inj hv15
   subst hv15
   exact W.fs [(100, 100), (101, 101)] [0, 3, 4, 5, 32] (by kernel_rfl)
  refine W.is 28 hc17 (by kernel_rfl) ?_
  refine W.run D_ok 4 102 (by kernel_rfl) ?_
  have hv15 := Option.some.inj hv15
  subst hv15
  exact W.fs [(100, 100), (101, 101)] [0, 3, 4, 5, 32] (by kernel_rfl)
  ) ?_
 (revert h; refine cond_rev (fun hc18 h => ?_) (fun hc18 h => ?_))
 ·refine CodeOk.ifT hc18 (by kernel_rfl) ?_
  refine cu D_ok mix 1 102 (tl 66 [(2, V.bool false)]) [] (by kernel_rfl) ?_
  refine CodeOk.ret ?_
  have h := Option.some.inj h
  subst h
  exact Ends.gen [] (.inr rfl) (RetV.one rfl (OneR.tmp (t := 2) (r := V.bool false) (by kernel_rfl))) (by kernel_rfl) (by kernel_rfl) (by kernel_rfl)
 refine CodeOk.ifF hc18 (by kernel_rfl) ?_
 refine CodeOk.skip ?_
 refine cu D_ok mix 1 102 (tl 66 [(0, V.str a0), (3, .own 100), (4, V.bool r2.2), (5, .own 101), (7, V.int 1)]) [(100, .vec false 48 5 (r2.1.map (encSNode true))), (101, .vec false 48 5 (r4.1.map (encSNode true)))] (by kernel_rfl) ?_
 (revert h; refine bind_rev fun r12 hx20 h => ?_)
 refine CodeOk.cutR (tl 66 [(0, V.str a0), (3, .own 100), (4, V.bool r2.2), (5, .own 101), (7, V.int r12.1)]) [(100, .vec false 48 5 (r2.1.map (encSNode true))), (101, .vec false 48 5 (r12.2.map (encSNode true)))] mix (by
  refine W.run D_ok 2 102 (by kernel_rfl) ?_
  refine W.call (AC.gs (m_laws_markNodeS_ok 48 N 1 r4.1 hx20) (by decide)) cok11 [(101, 0)] [(0, 101)] [] (show LayOk _ [] from trivial) (by kernel_rfl) (by kernel_rfl) ?_
  refine W.run D_ok 1 102 (by kernel_rfl) ?_
  exact W.fi (by kernel_rfl)
  ) ?_
 refine cu D_ok mix 1 102 (tl 66 [(0, V.str a0), (3, .own 100), (4, V.bool r2.2), (5, .own 101), (7, V.int r12.1), (8, V.int 1)]) [(100, .vec false 48 5 (r2.1.map (encSNode true))), (101, .vec false 48 5 (r12.2.map (encSNode true)))] (by kernel_rfl) ?_
 (revert h; refine bind_rev fun r14 hx22 h => ?_)
 refine CodeOk.cutR (tl 66 [(0, V.str a0), (3, .own 100), (4, V.bool r2.2), (5, .own 101), (7, V.int r12.1), (8, V.int r14)]) [(100, .vec false 48 5 (r2.1.map (encSNode true))), (101, .vec false 48 5 (r12.2.map (encSNode true)))] mix (by
  refine W.run D_ok 2 102 (by kernel_rfl) ?_
  refine W.lend (AC.gs (m_laws_heldNodeS_ok N r12.2 1 hx22) (by decide)) cok12 [] [] (LayOk.cons (j := 101) (encSNode true) (encSNode false) r12.2 (by kernel_rfl) (share_encSNode _) (show LayOk _ [] from trivial)) (.c _) .nil (by kernel_rfl) (by kernel_rfl) ?_
  refine W.run D_ok 1 102 (by kernel_rfl) ?_
  exact W.fi (by kernel_rfl)
  ) ?_
 refine CodeOk.seq' ?_
 refine cu D_ok mix 2 102 (tl 66 [(0, V.str a0), (3, .own 100), (4, V.bool r2.2), (5, .own 101), (7, V.int r12.1), (8, V.int r14), (40, V.bool (decide (r14 < 0)))]) [(100, .vec false 48 5 (r2.1.map (encSNode true))), (101, .vec false 48 5 (r12.2.map (encSNode true)))] (by kernel_rfl) ?_
 (revert h; refine cond_rev (fun hc24 h => ?_) (fun hc24 h => ?_))
 ·refine CodeOk.ifT hc24 (by kernel_rfl) ?_
  refine cu D_ok mix 1 102 (tl 66 [(2, V.bool false)]) [] (by kernel_rfl) ?_
  refine CodeOk.ret ?_
  have h := Option.some.inj h
  subst h
  exact Ends.gen [] (.inr rfl) (RetV.one rfl (OneR.tmp (t := 2) (r := V.bool false) (by kernel_rfl))) (by kernel_rfl) (by kernel_rfl) (by kernel_rfl)
 refine CodeOk.ifF hc24 (by kernel_rfl) ?_
 refine CodeOk.skip ?_
 refine CodeOk.seq' ?_
 refine cu D_ok mix 3 102 (tl 66 [(0, V.str a0), (3, .own 100), (4, V.bool r2.2), (5, .own 101), (7, V.int r12.1), (43, V.bool (r14 != r12.1))]) [(100, .vec false 48 5 (r2.1.map (encSNode true))), (101, .vec false 48 5 (r12.2.map (encSNode true)))] (by kernel_rfl) ?_
 (revert h; refine cond_rev (fun hc26 h => ?_) (fun hc26 h => ?_))
 ·refine CodeOk.ifT hc26 (by kernel_rfl) ?_
  refine cu D_ok mix 1 102 (tl 66 [(2, V.bool false)]) [] (by kernel_rfl) ?_
  refine CodeOk.ret ?_
  have h := Option.some.inj h
  subst h
  exact Ends.gen [] (.inr rfl) (RetV.one rfl (OneR.tmp (t := 2) (r := V.bool false) (by kernel_rfl))) (by kernel_rfl) (by kernel_rfl) (by kernel_rfl)
 refine CodeOk.ifF hc26 (by kernel_rfl) ?_
 refine CodeOk.skip ?_
 (revert h; refine bind_rev fun r16 hx28 h => ?_)
 refine CodeOk.cutR (tl 66 [(3, .own 100), (4, V.bool r2.2), (5, .own 101), (7, V.int r12.1), (9, .own 102), (10, V.bool r16.2)]) [(102, .vec false 48 5 (r16.1.map (encSNode true))), (100, .vec false 48 5 (r2.1.map (encSNode true))), (101, .vec false 48 5 (r12.2.map (encSNode true)))] mix (by
  refine W.run D_ok 1 102 (by kernel_rfl) ?_
  refine W.call (m_impl_ReadTree_ok N a0 hx28) cok9 [] [(100, 102)] [102] (show LayOk _ [] from trivial) (by kernel_rfl) (by kernel_rfl) ?_
  refine W.run D_ok 5 103 (by kernel_rfl) ?_
  exact W.fi (by kernel_rfl)
  ) ?_
 refine CodeOk.seq' ?_
 (revert h; refine bind_rev fun y21 hv37 h => ?_)
 refine CodeOk.cutR (tl 66 [(5, .own 100), (7, V.int r12.1), (57, V.bool y21)]) [(100, .vec false 48 5 (r12.2.map (encSNode true)))] mix (by
  refine W.run D_ok 2 103 (by kernel_rfl) ?_
  (revert hv37; refine bind_rev fun r22 hx38 hv37 => ?_)
  refine W.lend (AC.gs (m_laws_eqNodeS_ok N r16.1 r2.1 hx38) (by decide)) cok10 [] [] (LayOk.cons (j := 102) (encSNode true) (encSNode false) r16.1 (by kernel_rfl) (share_encSNode _) (LayOk.cons (j := 100) (encSNode true) (encSNode false) r2.1 (by kernel_rfl) (share_encSNode _) (show LayOk _ [] from trivial))) (.c _) .nil (by kernel_rfl) (by kernel_rfl) ?_
  refine W.run D_ok 2 103 (by kernel_rfl) ?_
  (revert hv37; refine cond_rev (fun hc39 hv37 => ?_) (fun hc39 hv37 => ?_))
  ·refine W.is 53 hc39 (by kernel_rfl) ?_
   refine W.run D_ok 4 103 (by kernel_rfl) ?_
   have hv37 := Option.some.inj hv37
   subst hv37
   exact W.fs [(101, 100)] [5, 7, 57] (by kernel_rfl)
  refine W.is 53 hc39 (by kernel_rfl) ?_
  refine W.run D_ok 4 103 (by kernel_rfl) ?_
  have hv37 := Option.some.inj hv37
  subst hv37
  exact W.fs [(101, 100)] [5, 7, 57] (by kernel_rfl)
  ) ?_
 (revert h; refine cond_rev (fun hc40 h => ?_) (fun hc40 h => ?_))
 ·refine CodeOk.ifT hc40 (by kernel_rfl) ?_
  refine cu D_ok mix 1 103 (tl 66 [(2, V.bool false)]) [] (by kernel_rfl) ?_
  refine CodeOk.ret ?_
  have h := Option.some.inj h
  subst h
  exact Ends.gen [] (.inr rfl) (RetV.one rfl (OneR.tmp (t := 2) (r := V.bool false) (by kernel_rfl))) (by kernel_rfl) (by kernel_rfl) (by kernel_rfl)
 refine CodeOk.ifF hc40 (by kernel_rfl) ?_
 refine CodeOk.skip ?_
 refine cu D_ok mix 1 103 (tl 66 [(5, .own 100), (7, V.int r12.1), (8, V.int 1)]) [(100, .vec false 48 5 (r12.2.map (encSNode true)))] (by kernel_rfl) ?_
 (revert h; refine bind_rev fun r24 hx42 h => ?_)
 refine CodeOk.cutR (tl 66 [(7, V.int r12.1), (8, V.int r24)]) [] mix (by
  refine W.run D_ok 2 103 (by kernel_rfl) ?_
  refine W.lend (AC.gs (m_laws_heldNodeS_ok N r12.2 1 hx42) (by decide)) cok12 [] [] (LayOk.cons (j := 100) (encSNode true) (encSNode false) r12.2 (by kernel_rfl) (share_encSNode _) (show LayOk _ [] from trivial)) (.c _) .nil (by kernel_rfl) (by kernel_rfl) ?_
  refine W.run D_ok 1 103 (by kernel_rfl) ?_
  exact W.fi (by kernel_rfl)
  ) ?_
 refine CodeOk.seq' ?_
 refine cu D_ok mix 2 103 (tl 66 [(7, V.int r12.1), (8, V.int r24), (62, V.bool (decide (r24 < 0)))]) [] (by kernel_rfl) ?_
 (revert h; refine cond_rev (fun hc44 h => ?_) (fun hc44 h => ?_))
 ·refine CodeOk.ifT hc44 (by kernel_rfl) ?_
  refine cu D_ok mix 1 103 (tl 66 [(2, V.bool false)]) [] (by kernel_rfl) ?_
  refine CodeOk.ret ?_
  have h := Option.some.inj h
  subst h
  exact Ends.gen [] (.inr rfl) (RetV.one rfl (OneR.tmp (t := 2) (r := V.bool false) (by kernel_rfl))) (by kernel_rfl) (by kernel_rfl) (by kernel_rfl)
 refine CodeOk.ifF hc44 (by kernel_rfl) ?_
 refine CodeOk.skip ?_
 refine CodeOk.seq' ?_
 refine cu D_ok mix 3 103 (tl 66 [(65, V.bool (r24 != r12.1))]) [] (by kernel_rfl) ?_
 (revert h; refine cond_rev (fun hc46 h => ?_) (fun hc46 h => ?_))
 ·refine CodeOk.ifT hc46 (by kernel_rfl) ?_
  refine cu D_ok mix 1 103 (tl 66 [(2, V.bool false)]) [] (by kernel_rfl) ?_
  refine CodeOk.ret ?_
  have h := Option.some.inj h
  subst h
  exact Ends.gen [] (.inr rfl) (RetV.one rfl (OneR.tmp (t := 2) (r := V.bool false) (by kernel_rfl))) (by kernel_rfl) (by kernel_rfl) (by kernel_rfl)
 refine CodeOk.ifF hc46 (by kernel_rfl) ?_
 refine CodeOk.skip ?_
 refine cu D_ok mix 1 103 (tl 66 [(2, V.bool true)]) [] (by kernel_rfl) ?_
 refine CodeOk.ret ?_
 have h := Option.some.inj h
 subst h
 exact Ends.gen [] (.inr rfl) (RetV.one rfl (OneR.tmp (t := 2) (r := V.bool true) (by kernel_rfl))) (by kernel_rfl) (by kernel_rfl) (by kernel_rfl)

end Go.Proofs.Tryz
