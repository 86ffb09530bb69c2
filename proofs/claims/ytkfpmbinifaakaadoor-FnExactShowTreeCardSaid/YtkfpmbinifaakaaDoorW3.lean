/-
  The walks that show that the code computes the models, part 3.
-/
import Derived.Test.YtkfpmbinifaakaaDoorW2
namespace Go.Proofs.Tryd
open Go.Av
set_option maxRecDepth 100000
set_option maxHeartbeats 8000000

theorem m_impl_itemForm_ok (N : Nat) (a0 : SNode) {r : SForm} (h : m_impl_itemForm N a0 = some r) :
    AC Tryd.prog (GS [0, 1]) 107 [.agg [V.int a0.Kind, V.int a0.Op, V.str a0.Text, V.str a0.Other, .sl false false (a0.Kids.map encI)]] [] (.agg [V.bool r.op, V.bool r.text, V.bool r.other, V.int r.least, V.int r.most]) [] := by
 rw [m_impl_itemForm] at h
 refine AC.enter Tryd.func107 rfl ?_
 refine cu D_ok mix 2 100 (tl 64 [(1, .loc 100 0), (2, .loc 101 0)]) [(101, .cells 92 [V.bool false, V.bool false, V.bool false, V.int 0, V.int 0]), (100, .cells 60 [V.int a0.Kind, V.int a0.Op, V.str a0.Text, V.str a0.Other, .sl false false (a0.Kids.map encI)])] (by kernel_rfl) ?_
 refine cu D_ok mix 12 102 (tl 64 [(1, .loc 100 0), (2, .loc 101 0), (3, .loc 102 0)]) [(102, .cells 92 [V.bool (a0.Op == 0), V.bool (a0.Text == []), V.bool (a0.Other == []), V.int 0, V.int 0]), (101, .cells 92 [V.bool false, V.bool false, V.bool false, V.int 0, V.int 0]), (100, .cells 60 [V.int a0.Kind, V.int a0.Op, V.str a0.Text, V.str a0.Other, .sl false false (a0.Kids.map encI)])] (by kernel_rfl) ?_
 refine CodeOk.join (fun (⟨a0, y9, y10, y11, y12⟩ : (SNode × Bool × Bool × Int × Int)) => ⟨tl 64 [(2, .loc 100 0), (3, .loc 101 0)], [(100, .cells 92 [V.bool false, V.bool false, V.bool false, V.int 0, V.int 0]), (101, .cells 92 [V.bool y9, V.bool y10, V.bool (a0.Other == []), V.int y11, V.int y12])]⟩) (fun i => m_impl_itemForm_k1 N i = some r) ?_ ?_
 · rintro ⟨a0, y9, y10, y11, y12⟩ h24
   rw [m_impl_itemForm_k1] at h24
   refine cu D_ok mix 2 103 (tl 64 [(2, .loc 100 0)]) [(100, .cells 92 [V.bool y9, V.bool y10, V.bool (a0.Other == []), V.int y11, V.int y12])] (by kernel_rfl) ?_
   refine CodeOk.ret ?_
   have h24 := Option.some.inj h24
   subst h24
   exact Ends.gen [] (.inr rfl) (RetV.one rfl (OneR.cell D_ok (r := .agg [V.bool y9, V.bool y10, V.bool (a0.Other == []), V.int y11, V.int y12]) (i := 100) (ety := 92) (cs := [V.bool y9, V.bool y10, V.bool (a0.Other == []), V.int y11, V.int y12]) (by kernel_rfl) (by kernel_rfl) (by kernel_rfl))) (by kernel_rfl) (by kernel_rfl) (by kernel_rfl)
 intro hk25
 refine cu D_ok mix 2 103 (tl 64 [(1, .loc 100 0), (2, .loc 101 0), (3, .loc 102 0), (15, V.int a0.Kind)]) [(102, .cells 92 [V.bool (a0.Op == 0), V.bool (a0.Text == []), V.bool (a0.Other == []), V.int 0, V.int 0]), (101, .cells 92 [V.bool false, V.bool false, V.bool false, V.int 0, V.int 0]), (100, .cells 60 [V.int a0.Kind, V.int a0.Op, V.str a0.Text, V.str a0.Other, .sl false false (a0.Kids.map encI)])] (by kernel_rfl) ?_
 refine CodeOk.block' ?_
 refine CodeOk.join (fun (⟨a0, y13⟩ : (SNode × Bool)) => ⟨tl 64 [(1, .loc 100 0), (2, .loc 101 0), (3, .loc 102 0), (15, V.int a0.Kind), (17, V.bool y13)], [(100, .cells 60 [V.int a0.Kind, V.int a0.Op, V.str a0.Text, V.str a0.Other, .sl false false (a0.Kids.map encI)]), (101, .cells 92 [V.bool false, V.bool false, V.bool false, V.int 0, V.int 0]), (102, .cells 92 [V.bool (a0.Op == 0), V.bool (a0.Text == []), V.bool (a0.Other == []), V.int 0, V.int 0])]⟩) (fun i => m_impl_itemForm_k2 N i = some r) ?_ ?_
 · rintro ⟨a0, y13⟩ h27
   rw [m_impl_itemForm_k2] at h27
   rcases cond_some h27 with ⟨hc28, h27⟩ | ⟨hc28, h27⟩
   ·refine CodeOk.ifT hc28 (by kernel_rfl) ?_
    refine ce D_ok mix 4 103 (tl 64 [(2, .loc 101 0), (3, .loc 102 0)]) [(102, .cells 92 [V.bool (a0.Op == 0), V.bool (a0.Text == []), V.bool (a0.Other == []), V.int 1, V.int 1]), (101, .cells 92 [V.bool false, V.bool false, V.bool false, V.int 0, V.int 0])] (by kernel_rfl) (fun st hw => ?_)
    exact hk25 (a0, (a0.Op == 0), (a0.Text == []), 1, 1) h27 _ (hw.trans (Weak.sel [(101, 100), (102, 101)] [2, 3] (by kernel_rfl) (by kernel_rfl) (by kernel_rfl)))
   refine CodeOk.ifF hc28 (by kernel_rfl) ?_
   refine cu D_ok mix 2 103 (tl 64 [(1, .loc 100 0), (2, .loc 101 0), (3, .loc 102 0), (15, V.int a0.Kind), (22, V.bool (a0.Kind == 42))]) [(100, .cells 60 [V.int a0.Kind, V.int a0.Op, V.str a0.Text, V.str a0.Other, .sl false false (a0.Kids.map encI)]), (101, .cells 92 [V.bool false, V.bool false, V.bool false, V.int 0, V.int 0]), (102, .cells 92 [V.bool (a0.Op == 0), V.bool (a0.Text == []), V.bool (a0.Other == []), V.int 0, V.int 0])] (by kernel_rfl) ?_
   rcases cond_some h27 with ⟨hc29, h27⟩ | ⟨hc29, h27⟩
   ·refine CodeOk.ifT hc29 (by kernel_rfl) ?_
    obtain ⟨r15, hx31, h27⟩ := bind_some h27
    refine CodeOk.cutR (tl 64 [(1, .loc 100 0), (2, .loc 101 0), (3, .loc 102 0)]) [(102, .cells 92 [V.bool r15, V.bool (a0.Text == []), V.bool (a0.Other == []), V.int 1, V.int 0]), (100, .cells 60 [V.int a0.Kind, V.int a0.Op, V.str a0.Text, V.str a0.Other, .sl false false (a0.Kids.map encI)]), (101, .cells 92 [V.bool false, V.bool false, V.bool false, V.int 0, V.int 0])] mix (by
     refine W.run D_ok 2 103 (by kernel_rfl) ?_
     refine W.call0 (AC.gs (m_impl_within_ok a0.Op 1 3 hx31) (by decide)) cok52 rfl (by kernel_rfl) ?_
     refine W.run D_ok 4 103 (by kernel_rfl) ?_
     exact W.fi (by kernel_rfl)
     ) ?_
    refine CodeOk.join (fun (⟨r15, a0, y16⟩ : (Bool × SNode × Int)) => ⟨tl 64 [(2, .loc 100 0), (3, .loc 101 0)], [(100, .cells 92 [V.bool false, V.bool false, V.bool false, V.int 0, V.int 0]), (101, .cells 92 [V.bool r15, V.bool (a0.Text == []), V.bool (a0.Other == []), V.int y16, V.int 0])]⟩) (fun i => m_impl_itemForm_k3 N i = some r) ?_ ?_
    · rintro ⟨r15, a0, y16⟩ h33
      rw [m_impl_itemForm_k3] at h33
      refine ce D_ok mix 4 103 (tl 64 [(2, .loc 100 0), (3, .loc 101 0)]) [(101, .cells 92 [V.bool r15, V.bool (a0.Text == []), V.bool (a0.Other == []), V.int y16, V.int y16]), (100, .cells 92 [V.bool false, V.bool false, V.bool false, V.int 0, V.int 0])] (by kernel_rfl) (fun st hw => ?_)
      exact hk25 (a0, r15, (a0.Text == []), y16, y16) h33 _ (hw.trans (Weak.sel [(100, 100), (101, 101)] [2, 3] (by kernel_rfl) (by kernel_rfl) (by kernel_rfl)))
    intro hk34
    refine cu D_ok mix 3 103 (tl 64 [(2, .loc 101 0), (3, .loc 102 0), (31, V.bool (a0.Op == 3))]) [(102, .cells 92 [V.bool r15, V.bool (a0.Text == []), V.bool (a0.Other == []), V.int 1, V.int 0]), (101, .cells 92 [V.bool false, V.bool false, V.bool false, V.int 0, V.int 0])] (by kernel_rfl) ?_
    rcases cond_some h27 with ⟨hc35, h27⟩ | ⟨hc35, h27⟩
    ·refine CodeOk.ifT hc35 (by kernel_rfl) ?_
     refine ce D_ok mix 2 103 (tl 64 [(2, .loc 101 0), (3, .loc 102 0)]) [(102, .cells 92 [V.bool r15, V.bool (a0.Text == []), V.bool (a0.Other == []), V.int 2, V.int 0]), (101, .cells 92 [V.bool false, V.bool false, V.bool false, V.int 0, V.int 0])] (by kernel_rfl) (fun st hw => ?_)
     exact hk34 (r15, a0, 2) h27 _ (hw.trans (Weak.sel [(101, 100), (102, 101)] [2, 3] (by kernel_rfl) (by kernel_rfl) (by kernel_rfl)))
    refine CodeOk.ifF hc35 (by kernel_rfl) ?_
    refine CodeOk.skip ?_
    exact hk34 (r15, a0, 1) h27 _ (Weak.sel [(101, 100), (102, 101)] [2, 3] (by kernel_rfl) (by kernel_rfl) (by kernel_rfl))
   refine CodeOk.ifF hc29 (by kernel_rfl) ?_
   refine cu D_ok mix 2 103 (tl 64 [(1, .loc 100 0), (2, .loc 101 0), (3, .loc 102 0), (15, V.int a0.Kind), (36, V.bool (a0.Kind == 43))]) [(100, .cells 60 [V.int a0.Kind, V.int a0.Op, V.str a0.Text, V.str a0.Other, .sl false false (a0.Kids.map encI)]), (101, .cells 92 [V.bool false, V.bool false, V.bool false, V.int 0, V.int 0]), (102, .cells 92 [V.bool (a0.Op == 0), V.bool (a0.Text == []), V.bool (a0.Other == []), V.int 0, V.int 0])] (by kernel_rfl) ?_
   rcases cond_some h27 with ⟨hc36, h27⟩ | ⟨hc36, h27⟩
   ·refine CodeOk.ifT hc36 (by kernel_rfl) ?_
    obtain ⟨y17, hv38, h27⟩ := bind_some h27
    refine CodeOk.cutR (tl 64 [(1, .loc 100 0), (2, .loc 101 0), (3, .loc 102 0)]) [(100, .cells 60 [V.int a0.Kind, V.int a0.Op, V.str a0.Text, V.str a0.Other, .sl false false (a0.Kids.map encI)]), (101, .cells 92 [V.bool false, V.bool false, V.bool false, V.int 0, V.int 0]), (102, .cells 92 [V.bool y17, V.bool (a0.Text == []), V.bool (a0.Other == []), V.int 2, V.int 0])] mix (by
     refine W.run D_ok 4 103 (by kernel_rfl) ?_
     rcases cond_some hv38 with ⟨hc39, hv38⟩ | ⟨hc39, hv38⟩
     ·refine W.is 41 hc39 (by kernel_rfl) ?_
      refine W.run D_ok 8 103 (by kernel_rfl) ?_
      have hv38 := Option.some.inj hv38
      subst hv38
      exact W.fs [(100, 100), (101, 101), (102, 102)] [1, 2, 3] (by kernel_rfl)
     refine W.is 41 hc39 (by kernel_rfl) ?_
     refine W.run D_ok 8 103 (by kernel_rfl) ?_
     have hv38 := Option.some.inj hv38
     subst hv38
     exact W.fs [(100, 100), (101, 101), (102, 102)] [1, 2, 3] (by kernel_rfl)
     ) ?_
    refine CodeOk.join (fun (⟨y17, a0, y18⟩ : (Bool × SNode × Int)) => ⟨tl 64 [(2, .loc 100 0), (3, .loc 101 0)], [(100, .cells 92 [V.bool false, V.bool false, V.bool false, V.int 0, V.int 0]), (101, .cells 92 [V.bool y17, V.bool (a0.Text == []), V.bool (a0.Other == []), V.int y18, V.int 0])]⟩) (fun i => m_impl_itemForm_k4 N i = some r) ?_ ?_
    · rintro ⟨y17, a0, y18⟩ h41
      rw [m_impl_itemForm_k4] at h41
      refine ce D_ok mix 4 103 (tl 64 [(2, .loc 100 0), (3, .loc 101 0)]) [(101, .cells 92 [V.bool y17, V.bool (a0.Text == []), V.bool (a0.Other == []), V.int y18, V.int y18]), (100, .cells 92 [V.bool false, V.bool false, V.bool false, V.int 0, V.int 0])] (by kernel_rfl) (fun st hw => ?_)
      exact hk25 (a0, y17, (a0.Text == []), y18, y18) h41 _ (hw.trans (Weak.sel [(100, 100), (101, 101)] [2, 3] (by kernel_rfl) (by kernel_rfl) (by kernel_rfl)))
    intro hk42
    refine cu D_ok mix 3 103 (tl 64 [(2, .loc 101 0), (3, .loc 102 0), (50, V.bool (a0.Op == 3))]) [(101, .cells 92 [V.bool false, V.bool false, V.bool false, V.int 0, V.int 0]), (102, .cells 92 [V.bool y17, V.bool (a0.Text == []), V.bool (a0.Other == []), V.int 2, V.int 0])] (by kernel_rfl) ?_
    rcases cond_some h27 with ⟨hc43, h27⟩ | ⟨hc43, h27⟩
    ·refine CodeOk.ifT hc43 (by kernel_rfl) ?_
     refine ce D_ok mix 2 103 (tl 64 [(2, .loc 101 0), (3, .loc 102 0)]) [(102, .cells 92 [V.bool y17, V.bool (a0.Text == []), V.bool (a0.Other == []), V.int 3, V.int 0]), (101, .cells 92 [V.bool false, V.bool false, V.bool false, V.int 0, V.int 0])] (by kernel_rfl) (fun st hw => ?_)
     exact hk42 (y17, a0, 3) h27 _ (hw.trans (Weak.sel [(101, 100), (102, 101)] [2, 3] (by kernel_rfl) (by kernel_rfl) (by kernel_rfl)))
    refine CodeOk.ifF hc43 (by kernel_rfl) ?_
    refine CodeOk.skip ?_
    exact hk42 (y17, a0, 2) h27 _ (Weak.sel [(101, 100), (102, 101)] [2, 3] (by kernel_rfl) (by kernel_rfl) (by kernel_rfl))
   refine CodeOk.ifF hc36 (by kernel_rfl) ?_
   refine cu D_ok mix 2 103 (tl 64 [(1, .loc 100 0), (2, .loc 101 0), (3, .loc 102 0), (55, V.bool (a0.Kind == 44))]) [(100, .cells 60 [V.int a0.Kind, V.int a0.Op, V.str a0.Text, V.str a0.Other, .sl false false (a0.Kids.map encI)]), (101, .cells 92 [V.bool false, V.bool false, V.bool false, V.int 0, V.int 0]), (102, .cells 92 [V.bool (a0.Op == 0), V.bool (a0.Text == []), V.bool (a0.Other == []), V.int 0, V.int 0])] (by kernel_rfl) ?_
   rcases cond_some h27 with ⟨hc44, h27⟩ | ⟨hc44, h27⟩
   ·refine CodeOk.ifT hc44 (by kernel_rfl) ?_
    obtain ⟨r20, hx46, h27⟩ := bind_some h27
    refine CodeOk.endR (tl 64 [(2, .loc 101 0), (3, .loc 102 0)]) [(102, .cells 92 [V.bool (a0.Op == 0), V.bool r20, V.bool (a0.Other == []), V.int 1, V.int 7]), (101, .cells 92 [V.bool false, V.bool false, V.bool false, V.int 0, V.int 0])] mix (by
     refine W.run D_ok 2 103 (by kernel_rfl) ?_
     refine W.call0 (m_impl_NameOk_ok N a0.Text hx46) cok79 rfl (by kernel_rfl) ?_
     refine W.run D_ok 6 103 (by kernel_rfl) ?_
     exact W.fi (by kernel_rfl)
     ) (fun st hw => ?_)
    exact hk25 (a0, (a0.Op == 0), r20, 1, 7) h27 _ (hw.trans (Weak.sel [(101, 100), (102, 101)] [2, 3] (by kernel_rfl) (by kernel_rfl) (by kernel_rfl)))
   refine CodeOk.ifF hc44 (by kernel_rfl) ?_
   refine ce D_ok mix 2 103 (tl 64 [(2, .loc 101 0), (3, .loc 102 0)]) [(102, .cells 92 [V.bool (a0.Op == 0), V.bool (a0.Text == []), V.bool (a0.Other == []), V.int 0, V.int 400]), (101, .cells 92 [V.bool false, V.bool false, V.bool false, V.int 0, V.int 0])] (by kernel_rfl) (fun st hw => ?_)
   exact hk25 (a0, (a0.Op == 0), (a0.Text == []), 0, 400) h27 _ (hw.trans (Weak.sel [(101, 100), (102, 101)] [2, 3] (by kernel_rfl) (by kernel_rfl) (by kernel_rfl)))
 intro hk47
 refine cu D_ok mix 2 103 (tl 64 [(1, .loc 100 0), (2, .loc 101 0), (3, .loc 102 0), (15, V.int a0.Kind), (17, V.bool (a0.Kind == 40))]) [(102, .cells 92 [V.bool (a0.Op == 0), V.bool (a0.Text == []), V.bool (a0.Other == []), V.int 0, V.int 0]), (101, .cells 92 [V.bool false, V.bool false, V.bool false, V.int 0, V.int 0]), (100, .cells 60 [V.int a0.Kind, V.int a0.Op, V.str a0.Text, V.str a0.Other, .sl false false (a0.Kids.map encI)])] (by kernel_rfl) ?_
 rcases cond_some h with ⟨hc48, h⟩ | ⟨hc48, h⟩
 ·refine CodeOk.ifT hc48 (by kernel_rfl) ?_
  refine CodeOk.skip ?_
  exact hk47 (a0, (a0.Kind == 40)) h _ (Weak.sel [(100, 100), (101, 101), (102, 102)] [1, 2, 3, 15, 17] (by kernel_rfl) (by kernel_rfl) (by kernel_rfl))
 refine CodeOk.ifF hc48 (by kernel_rfl) ?_
 refine ce D_ok mix 2 103 (tl 64 [(1, .loc 100 0), (2, .loc 101 0), (3, .loc 102 0), (15, V.int a0.Kind), (17, V.bool (a0.Kind == 41))]) [(102, .cells 92 [V.bool (a0.Op == 0), V.bool (a0.Text == []), V.bool (a0.Other == []), V.int 0, V.int 0]), (101, .cells 92 [V.bool false, V.bool false, V.bool false, V.int 0, V.int 0]), (100, .cells 60 [V.int a0.Kind, V.int a0.Op, V.str a0.Text, V.str a0.Other, .sl false false (a0.Kids.map encI)])] (by kernel_rfl) (fun st hw => ?_)
 exact hk47 (a0, (a0.Kind == 41)) h _ (hw.trans (Weak.sel [(100, 100), (101, 101), (102, 102)] [1, 2, 3, 15, 17] (by kernel_rfl) (by kernel_rfl) (by kernel_rfl)))

theorem m_impl_FieldsOk_ok (N : Nat) (a0 : SNode) {r : Bool} (h : m_impl_FieldsOk N a0 = some r) :
    AC Tryd.prog (GS [0, 1, 2]) 63 [.agg [V.int a0.Kind, V.int a0.Op, V.str a0.Text, V.str a0.Other, .sl false false (a0.Kids.map encI)]] [] (V.bool r) [] := by
 rw [m_impl_FieldsOk] at h
 refine AC.enter Tryd.func63 rfl ?_
 refine cu D_ok mix 2 100 (tl 61 [(1, .loc 100 0)]) [(100, .cells 60 [V.int a0.Kind, V.int a0.Op, V.str a0.Text, V.str a0.Other, .sl false false (a0.Kids.map encI)])] (by kernel_rfl) ?_
 refine cu D_ok mix 3 101 (tl 61 [(1, .loc 100 0), (3, .loc 101 0)]) [(101, .cells 92 [V.bool false, V.bool false, V.bool false, V.int 0, V.int 0]), (100, .cells 60 [V.int a0.Kind, V.int a0.Op, V.str a0.Text, V.str a0.Other, .sl false false (a0.Kids.map encI)])] (by kernel_rfl) ?_
 refine CodeOk.join (fun (⟨a0, y13, y14, y15, y16, y17⟩ : (SNode × Bool × Bool × Bool × Int × Int)) => ⟨tl 61 [(1, .loc 100 0), (3, .loc 101 0)], [(100, .cells 60 [V.int a0.Kind, V.int a0.Op, V.str a0.Text, V.str a0.Other, .sl false false (a0.Kids.map encI)]), (101, .cells 92 [V.bool y13, V.bool y14, V.bool y15, V.int y16, V.int y17])]⟩) (fun i => m_impl_FieldsOk_k1 N i = some r) ?_ ?_
 · rintro ⟨a0, y13, y14, y15, y16, y17⟩ h17
   rw [m_impl_FieldsOk_k1] at h17
   obtain ⟨y19, hv22, h17⟩ := bind_some h17
   refine CodeOk.cutR (tl 61 [(2, V.bool y19)]) [] mix (by
    refine W.run D_ok 3 102 (by kernel_rfl) ?_
    rcases cond_some hv22 with ⟨hc23, hv22⟩ | ⟨hc23, hv22⟩
    ·refine W.is 43 hc23 (by kernel_rfl) ?_
     refine W.run D_ok 4 102 (by kernel_rfl) ?_
     rcases cond_some hv22 with ⟨hc24, hv22⟩ | ⟨hc24, hv22⟩
     ·refine W.is 47 hc24 (by kernel_rfl) ?_
      refine W.run D_ok 4 102 (by kernel_rfl) ?_
      rcases cond_some hv22 with ⟨hc25, hv22⟩ | ⟨hc25, hv22⟩
      ·refine W.is 51 hc25 (by kernel_rfl) ?_
       refine W.run D_ok 2 102 (by kernel_rfl) ?_
       refine W.len D_ok encI a0.Kids [] (by kernel_rfl) (by kernel_rfl) ?_
       refine W.run D_ok 4 102 (by kernel_rfl) ?_
       obtain ⟨r20, hx26, hv22⟩ := bind_some hv22
       refine W.call0 (AC.gs (m_impl_within_ok (a0.Kids.length : Int) y16 y17 hx26) (by decide)) cok52 rfl (by kernel_rfl) ?_
       refine W.run D_ok 2 102 (by kernel_rfl) ?_
       have hv22 := Option.some.inj hv22
       subst hv22
       exact W.fs [] [2] (by kernel_rfl)
      refine W.is 51 hc25 (by kernel_rfl) ?_
      refine W.run D_ok 10 102 (by kernel_rfl) ?_
      have hv22 := Option.some.inj hv22
      subst hv22
      exact W.fs [] [2] (by kernel_rfl)
     refine W.is 47 hc24 (by kernel_rfl) ?_
     refine W.run D_ok 14 102 (by kernel_rfl) ?_
     have hv22 := Option.some.inj hv22
     subst hv22
     exact W.fs [] [2] (by kernel_rfl)
    refine W.is 43 hc23 (by kernel_rfl) ?_
    refine W.run D_ok 18 102 (by kernel_rfl) ?_
    have hv22 := Option.some.inj hv22
    subst hv22
    exact W.fs [] [2] (by kernel_rfl)
    ) ?_
   refine CodeOk.ret ?_
   have h17 := Option.some.inj h17
   subst h17
   exact Ends.gen [] (.inr rfl) (RetV.one rfl (OneR.tmp (t := 2) (r := V.bool y19) (by kernel_rfl))) (by kernel_rfl) (by kernel_rfl) (by kernel_rfl)
 intro hk27
 refine CodeOk.block' ?_
 obtain ⟨r22, hx29, h⟩ := bind_some h
 refine CodeOk.cutR (tl 61 [(1, .loc 100 0), (3, .loc 101 0), (5, V.bool r22)]) [(101, .cells 92 [V.bool false, V.bool false, V.bool false, V.int 0, V.int 0]), (100, .cells 60 [V.int a0.Kind, V.int a0.Op, V.str a0.Text, V.str a0.Other, .sl false false (a0.Kids.map encI)])] mix (by
  refine W.run D_ok 2 102 (by kernel_rfl) ?_
  refine W.call0 (AC.gs (m_impl_IsExpr_ok a0.Kind hx29) (by decide)) cok103 rfl (by kernel_rfl) ?_
  refine W.run D_ok 1 102 (by kernel_rfl) ?_
  exact W.fi (by kernel_rfl)
  ) ?_
 rcases cond_some h with ⟨hc30, h⟩ | ⟨hc30, h⟩
 ·refine CodeOk.ifT hc30 (by kernel_rfl) ?_
  obtain ⟨r24, hx32, h⟩ := bind_some h
  refine CodeOk.cutR (tl 61 [(1, .loc 100 0), (3, .loc 101 0)]) [(101, .cells 92 [V.bool r24.op, V.bool r24.text, V.bool r24.other, V.int r24.least, V.int r24.most]), (100, .cells 60 [V.int a0.Kind, V.int a0.Op, V.str a0.Text, V.str a0.Other, .sl false false (a0.Kids.map encI)])] mix (by
   refine W.run D_ok 1 102 (by kernel_rfl) ?_
   refine W.call0 (m_impl_exprForm_ok N a0 hx32) cok104 rfl (by kernel_rfl) ?_
   refine W.run D_ok 1 102 (by kernel_rfl) ?_
   exact W.fi (by kernel_rfl)
   ) ?_
  refine ce D_ok mix 5 102 (tl 61 [(1, .loc 100 0), (3, .loc 101 0)]) [(101, .cells 92 [V.bool r24.op, V.bool r24.text, V.bool (a0.Other == []), V.int r24.least, V.int r24.most]), (100, .cells 60 [V.int a0.Kind, V.int a0.Op, V.str a0.Text, V.str a0.Other, .sl false false (a0.Kids.map encI)])] (by kernel_rfl) (fun st hw => ?_)
  exact hk27 (a0, r24.op, r24.text, (a0.Other == []), r24.least, r24.most) h _ (hw.trans (Weak.sel [(100, 100), (101, 101)] [1, 3] (by kernel_rfl) (by kernel_rfl) (by kernel_rfl)))
 refine CodeOk.ifF hc30 (by kernel_rfl) ?_
 refine cu D_ok mix 4 102 (tl 61 [(1, .loc 100 0), (3, .loc 101 0), (15, V.bool (a0.Kind == 16))]) [(101, .cells 92 [V.bool false, V.bool false, V.bool false, V.int 0, V.int 0]), (100, .cells 60 [V.int a0.Kind, V.int a0.Op, V.str a0.Text, V.str a0.Other, .sl false false (a0.Kids.map encI)])] (by kernel_rfl) ?_
 rcases cond_some h with ⟨hc33, h⟩ | ⟨hc33, h⟩
 ·refine CodeOk.ifT hc33 (by kernel_rfl) ?_
  refine ce D_ok mix 11 102 (tl 61 [(1, .loc 100 0), (3, .loc 101 0)]) [(101, .cells 92 [V.bool (a0.Op == 0), V.bool (a0.Text == []), V.bool (a0.Other == []), V.int 0, V.int 0]), (100, .cells 60 [V.int a0.Kind, V.int a0.Op, V.str a0.Text, V.str a0.Other, .sl false false (a0.Kids.map encI)])] (by kernel_rfl) (fun st hw => ?_)
  exact hk27 (a0, (a0.Op == 0), (a0.Text == []), (a0.Other == []), 0, 0) h _ (hw.trans (Weak.sel [(100, 100), (101, 101)] [1, 3] (by kernel_rfl) (by kernel_rfl) (by kernel_rfl)))
 refine CodeOk.ifF hc33 (by kernel_rfl) ?_
 obtain ⟨r26, hx35, h⟩ := bind_some h
 refine CodeOk.cutR (tl 61 [(1, .loc 100 0), (3, .loc 101 0), (29, V.bool r26)]) [(101, .cells 92 [V.bool false, V.bool false, V.bool false, V.int 0, V.int 0]), (100, .cells 60 [V.int a0.Kind, V.int a0.Op, V.str a0.Text, V.str a0.Other, .sl false false (a0.Kids.map encI)])] mix (by
  refine W.run D_ok 2 102 (by kernel_rfl) ?_
  refine W.call0 (AC.gs (m_impl_IsStmt_ok a0.Kind hx35) (by decide)) cok105 rfl (by kernel_rfl) ?_
  refine W.run D_ok 1 102 (by kernel_rfl) ?_
  exact W.fi (by kernel_rfl)
  ) ?_
 rcases cond_some h with ⟨hc36, h⟩ | ⟨hc36, h⟩
 ·refine CodeOk.ifT hc36 (by kernel_rfl) ?_
  obtain ⟨r28, hx38, h⟩ := bind_some h
  refine CodeOk.endR (tl 61 [(1, .loc 100 0), (3, .loc 101 0)]) [(101, .cells 92 [V.bool r28.op, V.bool r28.text, V.bool r28.other, V.int r28.least, V.int r28.most]), (100, .cells 60 [V.int a0.Kind, V.int a0.Op, V.str a0.Text, V.str a0.Other, .sl false false (a0.Kids.map encI)])] mix (by
   refine W.run D_ok 1 102 (by kernel_rfl) ?_
   refine W.call0 (m_impl_stmtForm_ok N a0 hx38) cok106 rfl (by kernel_rfl) ?_
   refine W.run D_ok 1 102 (by kernel_rfl) ?_
   exact W.fi (by kernel_rfl)
   ) (fun st hw => ?_)
  exact hk27 (a0, r28.op, r28.text, r28.other, r28.least, r28.most) h _ (hw.trans (Weak.sel [(100, 100), (101, 101)] [1, 3] (by kernel_rfl) (by kernel_rfl) (by kernel_rfl)))
 refine CodeOk.ifF hc36 (by kernel_rfl) ?_
 obtain ⟨r30, hx40, h⟩ := bind_some h
 refine CodeOk.cutR (tl 61 [(1, .loc 100 0), (3, .loc 101 0), (35, V.bool r30)]) [(101, .cells 92 [V.bool false, V.bool false, V.bool false, V.int 0, V.int 0]), (100, .cells 60 [V.int a0.Kind, V.int a0.Op, V.str a0.Text, V.str a0.Other, .sl false false (a0.Kids.map encI)])] mix (by
  refine W.run D_ok 2 102 (by kernel_rfl) ?_
  refine W.call0 (AC.gs (m_impl_within_ok a0.Kind 40 45 hx40) (by decide)) cok52 rfl (by kernel_rfl) ?_
  refine W.run D_ok 1 102 (by kernel_rfl) ?_
  exact W.fi (by kernel_rfl)
  ) ?_
 rcases cond_some h with ⟨hc41, h⟩ | ⟨hc41, h⟩
 ·refine CodeOk.ifT hc41 (by kernel_rfl) ?_
  obtain ⟨r32, hx43, h⟩ := bind_some h
  refine CodeOk.endR (tl 61 [(1, .loc 100 0), (3, .loc 101 0)]) [(101, .cells 92 [V.bool r32.op, V.bool r32.text, V.bool r32.other, V.int r32.least, V.int r32.most]), (100, .cells 60 [V.int a0.Kind, V.int a0.Op, V.str a0.Text, V.str a0.Other, .sl false false (a0.Kids.map encI)])] mix (by
   refine W.run D_ok 1 102 (by kernel_rfl) ?_
   refine W.call0 (AC.gs (m_impl_itemForm_ok N a0 hx43) (by decide)) cok107 rfl (by kernel_rfl) ?_
   refine W.run D_ok 1 102 (by kernel_rfl) ?_
   exact W.fi (by kernel_rfl)
   ) (fun st hw => ?_)
  exact hk27 (a0, r32.op, r32.text, r32.other, r32.least, r32.most) h _ (hw.trans (Weak.sel [(100, 100), (101, 101)] [1, 3] (by kernel_rfl) (by kernel_rfl) (by kernel_rfl)))
 refine CodeOk.ifF hc41 (by kernel_rfl) ?_
 refine cu D_ok mix 1 102 (tl 61 [(2, V.bool false)]) [] (by kernel_rfl) ?_
 refine CodeOk.ret ?_
 have h := Option.some.inj h
 subst h
 exact Ends.gen [] (.inr rfl) (RetV.one rfl (OneR.tmp (t := 2) (r := V.bool false) (by kernel_rfl))) (by kernel_rfl) (by kernel_rfl) (by kernel_rfl)

theorem m_impl_IsLvalue_ok (a0 : Int) {r : Bool} (h : m_impl_IsLvalue a0 = some r) :
    AC Tryd.prog (GS []) 108 [V.int a0] [] (V.bool r) [] := by
 rw [m_impl_IsLvalue] at h
 refine AC.enter Tryd.func108 rfl ?_
 refine cu D_ok mix 1 100 (tl 13 [(0, V.int a0)]) [] (by kernel_rfl) ?_
 obtain ⟨y1, hv3, h⟩ := bind_some h
 refine CodeOk.cutR (tl 13 [(2, V.bool y1)]) [] mix (by
  refine W.run D_ok 3 100 (by kernel_rfl) ?_
  rcases cond_some hv3 with ⟨hc4, hv3⟩ | ⟨hc4, hv3⟩
  ·refine W.is 5 hc4 (by kernel_rfl) ?_
   refine W.run D_ok 8 100 (by kernel_rfl) ?_
   have hv3 := Option.some.inj hv3
   subst hv3
   exact W.fs [] [2] (by kernel_rfl)
  refine W.is 5 hc4 (by kernel_rfl) ?_
  refine W.run D_ok 4 100 (by kernel_rfl) ?_
  rcases cond_some hv3 with ⟨hc5, hv3⟩ | ⟨hc5, hv3⟩
  ·refine W.is 9 hc5 (by kernel_rfl) ?_
   refine W.run D_ok 4 100 (by kernel_rfl) ?_
   have hv3 := Option.some.inj hv3
   subst hv3
   exact W.fs [] [2] (by kernel_rfl)
  refine W.is 9 hc5 (by kernel_rfl) ?_
  refine W.run D_ok 4 100 (by kernel_rfl) ?_
  have hv3 := Option.some.inj hv3
  subst hv3
  exact W.fs [] [2] (by kernel_rfl)
  ) ?_
 refine CodeOk.ret ?_
 have h := Option.some.inj h
 subst h
 exact Ends.gen [] (.inr rfl) (RetV.one rfl (OneR.tmp (t := 2) (r := V.bool y1) (by kernel_rfl))) (by kernel_rfl) (by kernel_rfl) (by kernel_rfl)

theorem m_impl_isItem_ok (a0 : Int) {r : Bool} (h : m_impl_isItem a0 = some r) :
    AC Tryd.prog (GS []) 109 [V.int a0] [] (V.bool r) [] := by
 rw [m_impl_isItem] at h
 refine AC.enter Tryd.func109 rfl ?_
 refine cu D_ok mix 1 100 (tl 5 [(0, V.int a0)]) [] (by kernel_rfl) ?_
 obtain ⟨r2, hx2, h⟩ := bind_some h
 refine CodeOk.cutR (tl 5 [(2, V.bool r2)]) [] mix (by
  refine W.run D_ok 1 100 (by kernel_rfl) ?_
  refine W.call0 (m_impl_within_ok a0 40 44 hx2) cok52 rfl (by kernel_rfl) ?_
  refine W.run D_ok 1 100 (by kernel_rfl) ?_
  exact W.fi (by kernel_rfl)
  ) ?_
 refine CodeOk.ret ?_
 have h := Option.some.inj h
 subst h
 exact Ends.gen [] (.inr rfl) (RetV.one rfl (OneR.tmp (t := 2) (r := V.bool r2) (by kernel_rfl))) (by kernel_rfl) (by kernel_rfl) (by kernel_rfl)

theorem m_impl_kidOk_ok (a0 : SNode) (a1 : Int) (a2 : Int) {r : Bool} (h : m_impl_kidOk a0 a1 a2 = some r) :
    AC Tryd.prog (GS []) 64 [.agg [V.int a0.Kind, V.int a0.Op, V.str a0.Text, V.str a0.Other, .sl false false (a0.Kids.map encI)], V.int a1, V.int a2] [] (V.bool r) [] := by
 rw [m_impl_kidOk] at h
 refine AC.enter Tryd.func64 rfl ?_
 refine cu D_ok mix 2 100 (tl 99 [(1, V.int a1), (2, V.int a2), (3, .loc 100 0)]) [(100, .cells 60 [V.int a0.Kind, V.int a0.Op, V.str a0.Text, V.str a0.Other, .sl false false (a0.Kids.map encI)])] (by kernel_rfl) ?_
 refine CodeOk.cutR (tl 99 [(1, V.int a1), (2, V.int a2), (3, .loc 100 0), (7, V.bool (a1 == (IntKind.wrap .i64 ((a0.Kids.length : Int) - 1))))]) [(100, .cells 60 [V.int a0.Kind, V.int a0.Op, V.str a0.Text, V.str a0.Other, .sl false false (a0.Kids.map encI)])] mix (by
  refine W.run D_ok 3 101 (by kernel_rfl) ?_
  refine W.len D_ok encI a0.Kids [] (by kernel_rfl) (by kernel_rfl) ?_
  refine W.run D_ok 3 101 (by kernel_rfl) ?_
  exact W.fi (by kernel_rfl)
  ) ?_
 refine cu D_ok mix 1 101 (tl 99 [(1, V.int a1), (2, V.int a2), (3, .loc 100 0), (7, V.bool (a1 == (IntKind.wrap .i64 ((a0.Kids.length : Int) - 1)))), (8, V.bool false)]) [(100, .cells 60 [V.int a0.Kind, V.int a0.Op, V.str a0.Text, V.str a0.Other, .sl false false (a0.Kids.map encI)])] (by kernel_rfl) ?_
 refine CodeOk.join (fun (⟨a2, y22⟩ : (Int × Bool)) => ⟨tl 99 [(2, V.int a2), (8, V.bool y22)], []⟩) (fun i => m_impl_kidOk_k1 i = some r) ?_ ?_
 · rintro ⟨a2, y22⟩ h66
   rw [m_impl_kidOk_k1] at h66
   refine CodeOk.seq' ?_
   refine cu D_ok mix 1 101 (tl 99 [(2, V.int a2), (94, V.bool y22)]) [] (by kernel_rfl) ?_
   rcases cond_some h66 with ⟨hc68, h66⟩ | ⟨hc68, h66⟩
   ·refine CodeOk.ifT hc68 (by kernel_rfl) ?_
    refine cu D_ok mix 3 101 (tl 99 [(6, V.bool (a2 == 33))]) [] (by kernel_rfl) ?_
    refine CodeOk.ret ?_
    have h66 := Option.some.inj h66
    subst h66
    exact Ends.gen [] (.inr rfl) (RetV.one rfl (OneR.tmp (t := 6) (r := V.bool (a2 == 33)) (by kernel_rfl))) (by kernel_rfl) (by kernel_rfl) (by kernel_rfl)
   refine CodeOk.ifF hc68 (by kernel_rfl) ?_
   refine CodeOk.skip ?_
   obtain ⟨r24, hx70, h66⟩ := bind_some h66
   refine CodeOk.cutR (tl 99 [(6, V.bool r24)]) [] mix (by
    refine W.run D_ok 1 101 (by kernel_rfl) ?_
    refine W.call0 (m_impl_IsExpr_ok a2 hx70) cok103 rfl (by kernel_rfl) ?_
    refine W.run D_ok 1 101 (by kernel_rfl) ?_
    exact W.fi (by kernel_rfl)
    ) ?_
   refine CodeOk.ret ?_
   have h66 := Option.some.inj h66
   subst h66
   exact Ends.gen [] (.inr rfl) (RetV.one rfl (OneR.tmp (t := 6) (r := V.bool r24) (by kernel_rfl))) (by kernel_rfl) (by kernel_rfl) (by kernel_rfl)
 intro hk71
 refine cu D_ok mix 2 101 (tl 99 [(1, V.int a1), (2, V.int a2), (3, .loc 100 0), (7, V.bool (a1 == (IntKind.wrap .i64 ((a0.Kids.length : Int) - 1)))), (8, V.bool false), (16, V.int a0.Kind)]) [(100, .cells 60 [V.int a0.Kind, V.int a0.Op, V.str a0.Text, V.str a0.Other, .sl false false (a0.Kids.map encI)])] (by kernel_rfl) ?_
 refine CodeOk.block' ?_
 refine CodeOk.join (fun (⟨a1, a2, a0, y25⟩ : (Int × Int × SNode × Bool)) => ⟨tl 99 [(1, V.int a1), (2, V.int a2), (3, .loc 100 0), (7, V.bool (a1 == (IntKind.wrap .i64 ((a0.Kids.length : Int) - 1)))), (8, V.bool false), (16, V.int a0.Kind), (17, V.bool y25)], [(100, .cells 60 [V.int a0.Kind, V.int a0.Op, V.str a0.Text, V.str a0.Other, .sl false false (a0.Kids.map encI)])]⟩) (fun i => m_impl_kidOk_k2 i = some r) ?_ ?_
 · rintro ⟨a1, a2, a0, y25⟩ h73
   rw [m_impl_kidOk_k2] at h73
   rcases cond_some h73 with ⟨hc74, h73⟩ | ⟨hc74, h73⟩
   ·refine CodeOk.ifT hc74 (by kernel_rfl) ?_
    obtain ⟨r27, hx76, h73⟩ := bind_some h73
    refine CodeOk.cutR (tl 99 [(6, V.bool r27)]) [] mix (by
     refine W.run D_ok 1 101 (by kernel_rfl) ?_
     refine W.call0 (m_impl_IsLvalue_ok a2 hx76) cok108 rfl (by kernel_rfl) ?_
     refine W.run D_ok 1 101 (by kernel_rfl) ?_
     exact W.fi (by kernel_rfl)
     ) ?_
    refine CodeOk.ret ?_
    have h73 := Option.some.inj h73
    subst h73
    exact Ends.gen [] (.inr rfl) (RetV.one rfl (OneR.tmp (t := 6) (r := V.bool r27) (by kernel_rfl))) (by kernel_rfl) (by kernel_rfl) (by kernel_rfl)
   refine CodeOk.ifF hc74 (by kernel_rfl) ?_
   refine cu D_ok mix 2 101 (tl 99 [(1, V.int a1), (2, V.int a2), (3, .loc 100 0), (7, V.bool (a1 == (IntKind.wrap .i64 ((a0.Kids.length : Int) - 1)))), (8, V.bool false), (16, V.int a0.Kind), (22, V.bool (a0.Kind == 15))]) [(100, .cells 60 [V.int a0.Kind, V.int a0.Op, V.str a0.Text, V.str a0.Other, .sl false false (a0.Kids.map encI)])] (by kernel_rfl) ?_
   rcases cond_some h73 with ⟨hc77, h73⟩ | ⟨hc77, h73⟩
   ·refine CodeOk.ifT hc77 (by kernel_rfl) ?_
    obtain ⟨y31, hv85, h73⟩ := bind_some h73
    refine CodeOk.cutR (tl 99 [(6, V.bool y31)]) [] mix (by
     refine W.run D_ok 3 101 (by kernel_rfl) ?_
     rcases cond_some hv85 with ⟨hc86, hv85⟩ | ⟨hc86, hv85⟩
     ·refine W.is 26 hc86 (by kernel_rfl) ?_
      refine W.run D_ok 1 101 (by kernel_rfl) ?_
      obtain ⟨r32, hx87, hv85⟩ := bind_some hv85
      refine W.call0 (m_impl_IsLvalue_ok a2 hx87) cok108 rfl (by kernel_rfl) ?_
      refine W.run D_ok 2 101 (by kernel_rfl) ?_
      rcases cond_some hv85 with ⟨hc88, hv85⟩ | ⟨hc88, hv85⟩
      ·refine W.is 30 hc88 (by kernel_rfl) ?_
       refine W.run D_ok 8 101 (by kernel_rfl) ?_
       have hv85 := Option.some.inj hv85
       subst hv85
       exact W.fs [] [6] (by kernel_rfl)
      refine W.is 30 hc88 (by kernel_rfl) ?_
      refine W.run D_ok 3 101 (by kernel_rfl) ?_
      rcases cond_some hv85 with ⟨hc89, hv85⟩ | ⟨hc89, hv85⟩
      ·refine W.is 33 hc89 (by kernel_rfl) ?_
       refine W.run D_ok 1 101 (by kernel_rfl) ?_
       obtain ⟨r33, hx90, hv85⟩ := bind_some hv85
       refine W.call0 (m_impl_IsExpr_ok a2 hx90) cok103 rfl (by kernel_rfl) ?_
       refine W.run D_ok 3 101 (by kernel_rfl) ?_
       have hv85 := Option.some.inj hv85
       subst hv85
       exact W.fs [] [6] (by kernel_rfl)
      refine W.is 33 hc89 (by kernel_rfl) ?_
      refine W.run D_ok 5 101 (by kernel_rfl) ?_
      have hv85 := Option.some.inj hv85
      subst hv85
      exact W.fs [] [6] (by kernel_rfl)
     refine W.is 26 hc86 (by kernel_rfl) ?_
     refine W.run D_ok 7 101 (by kernel_rfl) ?_
     rcases cond_some hv85 with ⟨hc91, hv85⟩ | ⟨hc91, hv85⟩
     ·refine W.is 33 hc91 (by kernel_rfl) ?_
      refine W.run D_ok 1 101 (by kernel_rfl) ?_
      obtain ⟨r34, hx92, hv85⟩ := bind_some hv85
      refine W.call0 (m_impl_IsExpr_ok a2 hx92) cok103 rfl (by kernel_rfl) ?_
      refine W.run D_ok 3 101 (by kernel_rfl) ?_
      have hv85 := Option.some.inj hv85
      subst hv85
      exact W.fs [] [6] (by kernel_rfl)
     refine W.is 33 hc91 (by kernel_rfl) ?_
     refine W.run D_ok 5 101 (by kernel_rfl) ?_
     have hv85 := Option.some.inj hv85
     subst hv85
     exact W.fs [] [6] (by kernel_rfl)
     ) ?_
    refine CodeOk.ret ?_
    have h73 := Option.some.inj h73
    subst h73
    exact Ends.gen [] (.inr rfl) (RetV.one rfl (OneR.tmp (t := 6) (r := V.bool y31) (by kernel_rfl))) (by kernel_rfl) (by kernel_rfl) (by kernel_rfl)
   refine CodeOk.ifF hc77 (by kernel_rfl) ?_
   refine CodeOk.join (fun (⟨a1, a2, a0, y35⟩ : (Int × Int × SNode × Bool)) => ⟨tl 99 [(1, V.int a1), (2, V.int a2), (3, .loc 100 0), (7, V.bool (a1 == (IntKind.wrap .i64 ((a0.Kids.length : Int) - 1)))), (8, V.bool false), (16, V.int a0.Kind), (38, V.bool y35)], [(100, .cells 60 [V.int a0.Kind, V.int a0.Op, V.str a0.Text, V.str a0.Other, .sl false false (a0.Kids.map encI)])]⟩) (fun i => m_impl_kidOk_k3 i = some r) ?_ ?_
   · rintro ⟨a1, a2, a0, y35⟩ h94
     rw [m_impl_kidOk_k3] at h94
     rcases cond_some h94 with ⟨hc95, h94⟩ | ⟨hc95, h94⟩
     ·refine CodeOk.ifT hc95 (by kernel_rfl) ?_
      refine ce D_ok mix 3 101 (tl 99 [(2, V.int a2), (8, V.bool (decide (a1 > 0)))]) [] (by kernel_rfl) (fun st hw => ?_)
      exact hk71 (a2, (decide (a1 > 0))) h94 _ (hw.trans (Weak.sel [] [2, 8] (by kernel_rfl) (by kernel_rfl) (by kernel_rfl)))
     refine CodeOk.ifF hc95 (by kernel_rfl) ?_
     refine cu D_ok mix 2 101 (tl 99 [(1, V.int a1), (2, V.int a2), (3, .loc 100 0), (7, V.bool (a1 == (IntKind.wrap .i64 ((a0.Kids.length : Int) - 1)))), (8, V.bool false), (16, V.int a0.Kind), (43, V.bool (a0.Kind == 31))]) [(100, .cells 60 [V.int a0.Kind, V.int a0.Op, V.str a0.Text, V.str a0.Other, .sl false false (a0.Kids.map encI)])] (by kernel_rfl) ?_
     rcases cond_some h94 with ⟨hc96, h94⟩ | ⟨hc96, h94⟩
     ·refine CodeOk.ifT hc96 (by kernel_rfl) ?_
      refine CodeOk.seq' ?_
      obtain ⟨y37, hv102, h94⟩ := bind_some h94
      refine CodeOk.cutR (tl 99 [(2, V.int a2), (7, V.bool (a1 == (IntKind.wrap .i64 ((a0.Kids.length : Int) - 1)))), (50, V.bool y37)]) [] mix (by
       refine W.run D_ok 3 101 (by kernel_rfl) ?_
       rcases cond_some hv102 with ⟨hc103, hv102⟩ | ⟨hc103, hv102⟩
       ·refine W.is 47 hc103 (by kernel_rfl) ?_
        refine W.run D_ok 3 101 (by kernel_rfl) ?_
        have hv102 := Option.some.inj hv102
        subst hv102
        exact W.fs [] [2, 7, 50] (by kernel_rfl)
       refine W.is 47 hc103 (by kernel_rfl) ?_
       refine W.run D_ok 3 101 (by kernel_rfl) ?_
       have hv102 := Option.some.inj hv102
       subst hv102
       exact W.fs [] [2, 7, 50] (by kernel_rfl)
       ) ?_
      rcases cond_some h94 with ⟨hc104, h94⟩ | ⟨hc104, h94⟩
      ·refine CodeOk.ifT hc104 (by kernel_rfl) ?_
       refine cu D_ok mix 1 101 (tl 99 [(6, V.bool true)]) [] (by kernel_rfl) ?_
       refine CodeOk.ret ?_
       have h94 := Option.some.inj h94
       subst h94
       exact Ends.gen [] (.inr rfl) (RetV.one rfl (OneR.tmp (t := 6) (r := V.bool true) (by kernel_rfl))) (by kernel_rfl) (by kernel_rfl) (by kernel_rfl)
      refine CodeOk.ifF hc104 (by kernel_rfl) ?_
      refine CodeOk.skip ?_
      refine ce D_ok mix 2 101 (tl 99 [(2, V.int a2), (8, V.bool (a1 == (IntKind.wrap .i64 ((a0.Kids.length : Int) - 1))))]) [] (by kernel_rfl) (fun st hw => ?_)
      exact hk71 (a2, (a1 == (IntKind.wrap .i64 ((a0.Kids.length : Int) - 1)))) h94 _ (hw.trans (Weak.sel [] [2, 8] (by kernel_rfl) (by kernel_rfl) (by kernel_rfl)))
     refine CodeOk.ifF hc96 (by kernel_rfl) ?_
     refine cu D_ok mix 2 101 (tl 99 [(1, V.int a1), (2, V.int a2), (3, .loc 100 0), (7, V.bool (a1 == (IntKind.wrap .i64 ((a0.Kids.length : Int) - 1)))), (8, V.bool false), (16, V.int a0.Kind), (52, V.bool (a0.Kind == 30))]) [(100, .cells 60 [V.int a0.Kind, V.int a0.Op, V.str a0.Text, V.str a0.Other, .sl false false (a0.Kids.map encI)])] (by kernel_rfl) ?_
     rcases cond_some h94 with ⟨hc105, h94⟩ | ⟨hc105, h94⟩
     ·refine CodeOk.ifT hc105 (by kernel_rfl) ?_
      refine ce D_ok mix 3 101 (tl 99 [(2, V.int a2), (8, V.bool (a1 == 0))]) [] (by kernel_rfl) (fun st hw => ?_)
      exact hk71 (a2, (a1 == 0)) h94 _ (hw.trans (Weak.sel [] [2, 8] (by kernel_rfl) (by kernel_rfl) (by kernel_rfl)))
     refine CodeOk.ifF hc105 (by kernel_rfl) ?_
     refine CodeOk.join (fun (⟨a2, a1, a0, y38⟩ : (Int × Int × SNode × Bool)) => ⟨tl 99 [(2, V.int a2), (3, .loc 100 0), (7, V.bool (a1 == (IntKind.wrap .i64 ((a0.Kids.length : Int) - 1)))), (8, V.bool false), (16, V.int a0.Kind), (56, V.bool y38)], [(100, .cells 60 [V.int a0.Kind, V.int a0.Op, V.str a0.Text, V.str a0.Other, .sl false false (a0.Kids.map encI)])]⟩) (fun i => m_impl_kidOk_k4 i = some r) ?_ ?_
     · rintro ⟨a2, a1, a0, y38⟩ h108
       rw [m_impl_kidOk_k4] at h108
       rcases cond_some h108 with ⟨hc109, h108⟩ | ⟨hc109, h108⟩
       ·refine CodeOk.ifT hc109 (by kernel_rfl) ?_
        refine ce D_ok mix 1 101 (tl 99 [(2, V.int a2), (8, V.bool true)]) [] (by kernel_rfl) (fun st hw => ?_)
        exact hk71 (a2, true) h108 _ (hw.trans (Weak.sel [] [2, 8] (by kernel_rfl) (by kernel_rfl) (by kernel_rfl)))
       refine CodeOk.ifF hc109 (by kernel_rfl) ?_
       refine cu D_ok mix 2 101 (tl 99 [(2, V.int a2), (3, .loc 100 0), (7, V.bool (a1 == (IntKind.wrap .i64 ((a0.Kids.length : Int) - 1)))), (8, V.bool false), (16, V.int a0.Kind), (60, V.bool (a0.Kind == 33))]) [(100, .cells 60 [V.int a0.Kind, V.int a0.Op, V.str a0.Text, V.str a0.Other, .sl false false (a0.Kids.map encI)])] (by kernel_rfl) ?_
       rcases cond_some h108 with ⟨hc110, h108⟩ | ⟨hc110, h108⟩
       ·refine CodeOk.ifT hc110 (by kernel_rfl) ?_
        obtain ⟨r40, hx112, h108⟩ := bind_some h108
        refine CodeOk.cutR (tl 99 [(6, V.bool r40)]) [] mix (by
         refine W.run D_ok 1 101 (by kernel_rfl) ?_
         refine W.call0 (m_impl_IsStmt_ok a2 hx112) cok105 rfl (by kernel_rfl) ?_
         refine W.run D_ok 1 101 (by kernel_rfl) ?_
         exact W.fi (by kernel_rfl)
         ) ?_
        refine CodeOk.ret ?_
        have h108 := Option.some.inj h108
        subst h108
        exact Ends.gen [] (.inr rfl) (RetV.one rfl (OneR.tmp (t := 6) (r := V.bool r40) (by kernel_rfl))) (by kernel_rfl) (by kernel_rfl) (by kernel_rfl)
       refine CodeOk.ifF hc110 (by kernel_rfl) ?_
       refine cu D_ok mix 2 101 (tl 99 [(2, V.int a2), (3, .loc 100 0), (7, V.bool (a1 == (IntKind.wrap .i64 ((a0.Kids.length : Int) - 1)))), (8, V.bool false), (16, V.int a0.Kind), (64, V.bool (a0.Kind == 42))]) [(100, .cells 60 [V.int a0.Kind, V.int a0.Op, V.str a0.Text, V.str a0.Other, .sl false false (a0.Kids.map encI)])] (by kernel_rfl) ?_
       rcases cond_some h108 with ⟨hc113, h108⟩ | ⟨hc113, h108⟩
       ·refine CodeOk.ifT hc113 (by kernel_rfl) ?_
        obtain ⟨y41, hv115, h108⟩ := bind_some h108
        refine CodeOk.endR (tl 99 [(2, V.int a2), (8, V.bool y41)]) [] mix (by
         refine W.run D_ok 2 101 (by kernel_rfl) ?_
         rcases cond_some hv115 with ⟨hc116, hv115⟩ | ⟨hc116, hv115⟩
         ·refine W.is 67 hc116 (by kernel_rfl) ?_
          refine W.run D_ok 5 101 (by kernel_rfl) ?_
          have hv115 := Option.some.inj hv115
          subst hv115
          exact W.fs [] [2, 8] (by kernel_rfl)
         refine W.is 67 hc116 (by kernel_rfl) ?_
         refine W.run D_ok 5 101 (by kernel_rfl) ?_
         have hv115 := Option.some.inj hv115
         subst hv115
         exact W.fs [] [2, 8] (by kernel_rfl)
         ) (fun st hw => ?_)
        exact hk71 (a2, y41) h108 _ (hw.trans (Weak.sel [] [2, 8] (by kernel_rfl) (by kernel_rfl) (by kernel_rfl)))
       refine CodeOk.ifF hc113 (by kernel_rfl) ?_
       refine cu D_ok mix 2 101 (tl 99 [(2, V.int a2), (3, .loc 100 0), (7, V.bool (a1 == (IntKind.wrap .i64 ((a0.Kids.length : Int) - 1)))), (8, V.bool false), (16, V.int a0.Kind), (72, V.bool (a0.Kind == 43))]) [(100, .cells 60 [V.int a0.Kind, V.int a0.Op, V.str a0.Text, V.str a0.Other, .sl false false (a0.Kids.map encI)])] (by kernel_rfl) ?_
       rcases cond_some h108 with ⟨hc117, h108⟩ | ⟨hc117, h108⟩
       ·refine CodeOk.ifT hc117 (by kernel_rfl) ?_
        obtain ⟨y42, hv119, h108⟩ := bind_some h108
        refine CodeOk.endR (tl 99 [(2, V.int a2), (8, V.bool y42)]) [] mix (by
         refine W.run D_ok 2 101 (by kernel_rfl) ?_
         rcases cond_some hv119 with ⟨hc120, hv119⟩ | ⟨hc120, hv119⟩
         ·refine W.is 75 hc120 (by kernel_rfl) ?_
          refine W.run D_ok 5 101 (by kernel_rfl) ?_
          have hv119 := Option.some.inj hv119
          subst hv119
          exact W.fs [] [2, 8] (by kernel_rfl)
         refine W.is 75 hc120 (by kernel_rfl) ?_
         refine W.run D_ok 5 101 (by kernel_rfl) ?_
         have hv119 := Option.some.inj hv119
         subst hv119
         exact W.fs [] [2, 8] (by kernel_rfl)
         ) (fun st hw => ?_)
        exact hk71 (a2, y42) h108 _ (hw.trans (Weak.sel [] [2, 8] (by kernel_rfl) (by kernel_rfl) (by kernel_rfl)))
       refine CodeOk.ifF hc117 (by kernel_rfl) ?_
       refine cu D_ok mix 2 101 (tl 99 [(2, V.int a2), (7, V.bool (a1 == (IntKind.wrap .i64 ((a0.Kids.length : Int) - 1)))), (8, V.bool false), (16, V.int a0.Kind), (80, V.bool (a0.Kind == 44))]) [] (by kernel_rfl) ?_
       rcases cond_some h108 with ⟨hc121, h108⟩ | ⟨hc121, h108⟩
       ·refine CodeOk.ifT hc121 (by kernel_rfl) ?_
        refine CodeOk.seq' ?_
        refine cu D_ok mix 2 101 (tl 99 [(2, V.int a2), (83, V.bool (!(a1 == (IntKind.wrap .i64 ((a0.Kids.length : Int) - 1)))))]) [] (by kernel_rfl) ?_
        rcases cond_some h108 with ⟨hc123, h108⟩ | ⟨hc123, h108⟩
        ·refine CodeOk.ifT hc123 (by kernel_rfl) ?_
         refine cu D_ok mix 3 101 (tl 99 [(6, V.bool (a2 == 1))]) [] (by kernel_rfl) ?_
         refine CodeOk.ret ?_
         have h108 := Option.some.inj h108
         subst h108
         exact Ends.gen [] (.inr rfl) (RetV.one rfl (OneR.tmp (t := 6) (r := V.bool (a2 == 1)) (by kernel_rfl))) (by kernel_rfl) (by kernel_rfl) (by kernel_rfl)
        refine CodeOk.ifF hc123 (by kernel_rfl) ?_
        refine CodeOk.skip ?_
        refine ce D_ok mix 1 101 (tl 99 [(2, V.int a2), (8, V.bool true)]) [] (by kernel_rfl) (fun st hw => ?_)
        exact hk71 (a2, true) h108 _ (hw.trans (Weak.sel [] [2, 8] (by kernel_rfl) (by kernel_rfl) (by kernel_rfl)))
       refine CodeOk.ifF hc121 (by kernel_rfl) ?_
       refine cu D_ok mix 2 101 (tl 99 [(2, V.int a2), (8, V.bool false), (86, V.bool (a0.Kind == 45))]) [] (by kernel_rfl) ?_
       rcases cond_some h108 with ⟨hc124, h108⟩ | ⟨hc124, h108⟩
       ·refine CodeOk.ifT hc124 (by kernel_rfl) ?_
        obtain ⟨y44, hv127, h108⟩ := bind_some h108
        refine CodeOk.cutR (tl 99 [(6, V.bool y44)]) [] mix (by
         refine W.run D_ok 1 101 (by kernel_rfl) ?_
         obtain ⟨r45, hx128, hv127⟩ := bind_some hv127
         refine W.call0 (m_impl_isItem_ok a2 hx128) cok109 rfl (by kernel_rfl) ?_
         refine W.run D_ok 1 101 (by kernel_rfl) ?_
         rcases cond_some hv127 with ⟨hc129, hv127⟩ | ⟨hc129, hv127⟩
         ·refine W.is 90 hc129 (by kernel_rfl) ?_
          refine W.run D_ok 4 101 (by kernel_rfl) ?_
          have hv127 := Option.some.inj hv127
          subst hv127
          exact W.fs [] [6] (by kernel_rfl)
         refine W.is 90 hc129 (by kernel_rfl) ?_
         refine W.run D_ok 4 101 (by kernel_rfl) ?_
         have hv127 := Option.some.inj hv127
         subst hv127
         exact W.fs [] [6] (by kernel_rfl)
         ) ?_
        refine CodeOk.ret ?_
        have h108 := Option.some.inj h108
        subst h108
        exact Ends.gen [] (.inr rfl) (RetV.one rfl (OneR.tmp (t := 6) (r := V.bool y44) (by kernel_rfl))) (by kernel_rfl) (by kernel_rfl) (by kernel_rfl)
       refine CodeOk.ifF hc124 (by kernel_rfl) ?_
       refine CodeOk.skip ?_
       exact hk71 (a2, false) h108 _ (Weak.sel [] [2, 8] (by kernel_rfl) (by kernel_rfl) (by kernel_rfl))
     intro hk130
     refine cu D_ok mix 2 101 (tl 99 [(2, V.int a2), (3, .loc 100 0), (7, V.bool (a1 == (IntKind.wrap .i64 ((a0.Kids.length : Int) - 1)))), (8, V.bool false), (16, V.int a0.Kind), (56, V.bool (a0.Kind == 32))]) [(100, .cells 60 [V.int a0.Kind, V.int a0.Op, V.str a0.Text, V.str a0.Other, .sl false false (a0.Kids.map encI)])] (by kernel_rfl) ?_
     rcases cond_some h94 with ⟨hc131, h94⟩ | ⟨hc131, h94⟩
     ·refine CodeOk.ifT hc131 (by kernel_rfl) ?_
      refine CodeOk.skip ?_
      exact hk130 (a2, a1, a0, (a0.Kind == 32)) h94 _ (Weak.sel [(100, 100)] [2, 3, 7, 8, 16, 56] (by kernel_rfl) (by kernel_rfl) (by kernel_rfl))
     refine CodeOk.ifF hc131 (by kernel_rfl) ?_
     refine cu D_ok mix 2 101 (tl 99 [(2, V.int a2), (3, .loc 100 0), (7, V.bool (a1 == (IntKind.wrap .i64 ((a0.Kids.length : Int) - 1)))), (8, V.bool false), (16, V.int a0.Kind), (56, V.bool (a0.Kind == 40))]) [(100, .cells 60 [V.int a0.Kind, V.int a0.Op, V.str a0.Text, V.str a0.Other, .sl false false (a0.Kids.map encI)])] (by kernel_rfl) ?_
     rcases cond_some h94 with ⟨hc132, h94⟩ | ⟨hc132, h94⟩
     ·refine CodeOk.ifT hc132 (by kernel_rfl) ?_
      refine CodeOk.skip ?_
      exact hk130 (a2, a1, a0, (a0.Kind == 40)) h94 _ (Weak.sel [(100, 100)] [2, 3, 7, 8, 16, 56] (by kernel_rfl) (by kernel_rfl) (by kernel_rfl))
     refine CodeOk.ifF hc132 (by kernel_rfl) ?_
     refine ce D_ok mix 2 101 (tl 99 [(2, V.int a2), (3, .loc 100 0), (7, V.bool (a1 == (IntKind.wrap .i64 ((a0.Kids.length : Int) - 1)))), (8, V.bool false), (16, V.int a0.Kind), (56, V.bool (a0.Kind == 41))]) [(100, .cells 60 [V.int a0.Kind, V.int a0.Op, V.str a0.Text, V.str a0.Other, .sl false false (a0.Kids.map encI)])] (by kernel_rfl) (fun st hw => ?_)
     exact hk130 (a2, a1, a0, (a0.Kind == 41)) h94 _ (hw.trans (Weak.sel [(100, 100)] [2, 3, 7, 8, 16, 56] (by kernel_rfl) (by kernel_rfl) (by kernel_rfl)))
   intro hk133
   refine cu D_ok mix 2 101 (tl 99 [(1, V.int a1), (2, V.int a2), (3, .loc 100 0), (7, V.bool (a1 == (IntKind.wrap .i64 ((a0.Kids.length : Int) - 1)))), (8, V.bool false), (16, V.int a0.Kind), (38, V.bool (a0.Kind == 28))]) [(100, .cells 60 [V.int a0.Kind, V.int a0.Op, V.str a0.Text, V.str a0.Other, .sl false false (a0.Kids.map encI)])] (by kernel_rfl) ?_
   rcases cond_some h73 with ⟨hc134, h73⟩ | ⟨hc134, h73⟩
   ·refine CodeOk.ifT hc134 (by kernel_rfl) ?_
    refine CodeOk.skip ?_
    exact hk133 (a1, a2, a0, (a0.Kind == 28)) h73 _ (Weak.sel [(100, 100)] [1, 2, 3, 7, 8, 16, 38] (by kernel_rfl) (by kernel_rfl) (by kernel_rfl))
   refine CodeOk.ifF hc134 (by kernel_rfl) ?_
   refine ce D_ok mix 2 101 (tl 99 [(1, V.int a1), (2, V.int a2), (3, .loc 100 0), (7, V.bool (a1 == (IntKind.wrap .i64 ((a0.Kids.length : Int) - 1)))), (8, V.bool false), (16, V.int a0.Kind), (38, V.bool (a0.Kind == 29))]) [(100, .cells 60 [V.int a0.Kind, V.int a0.Op, V.str a0.Text, V.str a0.Other, .sl false false (a0.Kids.map encI)])] (by kernel_rfl) (fun st hw => ?_)
   exact hk133 (a1, a2, a0, (a0.Kind == 29)) h73 _ (hw.trans (Weak.sel [(100, 100)] [1, 2, 3, 7, 8, 16, 38] (by kernel_rfl) (by kernel_rfl) (by kernel_rfl)))
 intro hk135
 refine cu D_ok mix 2 101 (tl 99 [(1, V.int a1), (2, V.int a2), (3, .loc 100 0), (7, V.bool (a1 == (IntKind.wrap .i64 ((a0.Kids.length : Int) - 1)))), (8, V.bool false), (16, V.int a0.Kind), (17, V.bool (a0.Kind == 9))]) [(100, .cells 60 [V.int a0.Kind, V.int a0.Op, V.str a0.Text, V.str a0.Other, .sl false false (a0.Kids.map encI)])] (by kernel_rfl) ?_
 rcases cond_some h with ⟨hc136, h⟩ | ⟨hc136, h⟩
 ·refine CodeOk.ifT hc136 (by kernel_rfl) ?_
  refine CodeOk.skip ?_
  exact hk135 (a1, a2, a0, (a0.Kind == 9)) h _ (Weak.sel [(100, 100)] [1, 2, 3, 7, 8, 16, 17] (by kernel_rfl) (by kernel_rfl) (by kernel_rfl))
 refine CodeOk.ifF hc136 (by kernel_rfl) ?_
 refine ce D_ok mix 2 101 (tl 99 [(1, V.int a1), (2, V.int a2), (3, .loc 100 0), (7, V.bool (a1 == (IntKind.wrap .i64 ((a0.Kids.length : Int) - 1)))), (8, V.bool false), (16, V.int a0.Kind), (17, V.bool (a0.Kind == 10))]) [(100, .cells 60 [V.int a0.Kind, V.int a0.Op, V.str a0.Text, V.str a0.Other, .sl false false (a0.Kids.map encI)])] (by kernel_rfl) (fun st hw => ?_)
 exact hk135 (a1, a2, a0, (a0.Kind == 10)) h _ (hw.trans (Weak.sel [(100, 100)] [1, 2, 3, 7, 8, 16, 17] (by kernel_rfl) (by kernel_rfl) (by kernel_rfl)))

structure RecOk1 (R : Rec1) : Prop where
  m_impl_treeAt : ∀ (a0 : List SNode) (a1 : Int) (r : STree), R.m_impl_treeAt a0 a1 = some r → AC Tryd.prog (GS []) 110 [.sl false false (a0.map (encSNode false)), V.int a1] [] (.agg [V.int r.kind, V.int r.op, V.str r.text, V.str r.other, .sl false false (r.kids.map encSTree)]) []

theorem m_impl_treeAt_F_ok (N : Nat) (R : Rec1) (HR : RecOk1 R) (a0 : List SNode) (a1 : Int) {r : STree} (h : m_impl_treeAt_F N R a0 a1 = some r) :
    AC Tryd.prog (GS []) 110 [.sl false false (a0.map (encSNode false)), V.int a1] [] (.agg [V.int r.kind, V.int r.op, V.str r.text, V.str r.other, .sl false false (r.kids.map encSTree)]) [] := by
 rw [m_impl_treeAt_F] at h
 refine AC.enter Tryd.func110 rfl ?_
 refine cu D_ok mix 1 100 (tl 39 [(0, .sl false false (a0.map (encSNode false))), (1, V.int a1), (4, .loc 100 0)]) [(100, .cells 78 [V.int 0, V.int 0, V.str [], V.str [], .c (.slice none 0 0)])] (by kernel_rfl) ?_
 obtain ⟨e2, hx2, h⟩ := bind_some h
 refine CodeOk.cutR (tl 39 [(0, .sl false false (a0.map (encSNode false))), (4, .loc 100 0), (5, .loc 101 0)]) [(101, .cells 60 [V.int e2.Kind, V.int e2.Op, V.str e2.Text, V.str e2.Other, .sl false false (e2.Kids.map encI)]), (100, .cells 78 [V.int 0, V.int 0, V.str [], V.str [], .c (.slice none 0 0)])] mix (by
  refine W.run D_ok 2 101 (by kernel_rfl) ?_
  refine W.ixD D_ok (encSNode false) hx2 5 (by kernel_rfl) (by kernel_rfl) ?_
  refine W.run D_ok 3 101 (by kernel_rfl) ?_
  exact W.fi (by kernel_rfl)
  ) ?_
 refine cu D_ok mix 11 102 (tl 39 [(0, .sl false false (a0.map (encSNode false))), (4, .loc 100 0), (5, .loc 101 0), (6, .loc 102 0)]) [(102, .cells 78 [V.int e2.Kind, V.int e2.Op, V.str e2.Text, V.str e2.Other, .c (.slice none 0 0)]), (101, .cells 60 [V.int e2.Kind, V.int e2.Op, V.str e2.Text, V.str e2.Other, .sl false false (e2.Kids.map encI)]), (100, .cells 78 [V.int 0, V.int 0, V.str [], V.str [], .c (.slice none 0 0)])] (by kernel_rfl) ?_
 refine CodeOk.seq' ?_
 refine CodeOk.cutR (tl 39 [(0, .sl false false (a0.map (encSNode false))), (4, .loc 100 0), (6, .loc 102 0), (23, .sl false false (e2.Kids.map encI)), (24, V.int (e2.Kids.length : Int)), (25, V.int 0)]) [(102, .cells 78 [V.int e2.Kind, V.int e2.Op, V.str e2.Text, V.str e2.Other, .c (.slice none 0 0)]), (100, .cells 78 [V.int 0, V.int 0, V.str [], V.str [], .c (.slice none 0 0)])] mix (by
  refine W.run D_ok 2 103 (by kernel_rfl) ?_
  refine W.len D_ok encI e2.Kids [] (by kernel_rfl) (by kernel_rfl) ?_
  refine W.run D_ok 1 103 (by kernel_rfl) ?_
  exact W.fi (by kernel_rfl)
  ) ?_
 refine CodeOk.block' ?_
 refine CodeOk.loopJ (fun (⟨a0, e2, y63, y64⟩ : ((List SNode) × SNode × Int × (List STree))) => ⟨tl 39 [(0, .sl false false (a0.map (encSNode false))), (4, .loc 100 0), (6, .loc 101 0), (23, .sl false false (e2.Kids.map encI)), (24, V.int (e2.Kids.length : Int)), (25, V.int y63)], [(100, .cells 78 [V.int 0, V.int 0, V.str [], V.str [], .c (.slice none 0 0)]), (101, .cells 78 [V.int e2.Kind, V.int e2.Op, V.str e2.Text, V.str e2.Other, .own 102]), (102, .vec false 78 5 (y64.map encSTree))]⟩) (fun n i => m_impl_treeAt_l1 N R n i = some r) (n0 := N) (i0 := (a0, e2, 0, [])) ((Weak.nilCell 102 4 103 78 5 (ety := 78) (cs := [V.int e2.Kind, V.int e2.Op, V.str e2.Text, V.str e2.Other, .c (.slice none 0 0)]) (by kernel_rfl) (by kernel_rfl) (by kernel_rfl)).trans (Weak.sel [(100, 100), (102, 101), (103, 102)] [0, 4, 6, 23, 24, 25] (by kernel_rfl) (by kernel_rfl) (by kernel_rfl))) h (fun i h => by simp [m_impl_treeAt_l1] at h) ?_
 rintro n1 ⟨a0, e2, y63, y64⟩ h83 ih84
 rw [m_impl_treeAt_l1] at h83
 refine cu D_ok mix 1 168 (tl 39 [(0, .sl false false (a0.map (encSNode false))), (4, .loc 100 0), (6, .loc 101 0), (23, .sl false false (e2.Kids.map encI)), (24, V.int (e2.Kids.length : Int)), (25, V.int y63), (26, V.bool (decide (y63 < (e2.Kids.length : Int))))]) [(100, .cells 78 [V.int 0, V.int 0, V.str [], V.str [], .c (.slice none 0 0)]), (101, .cells 78 [V.int e2.Kind, V.int e2.Op, V.str e2.Text, V.str e2.Other, .own 102]), (102, .vec false 78 5 (y64.map encSTree))] (by kernel_rfl) ?_
 refine CodeOk.seq' ?_
 rcases cond_some h83 with ⟨hc86, h83⟩ | ⟨hc86, h83⟩
 ·refine CodeOk.ifT hc86 (by kernel_rfl) ?_
  refine CodeOk.skip ?_
  refine CodeOk.seq' ?_
  refine CodeOk.block' ?_
  obtain ⟨e86, hx94, h83⟩ := bind_some h83
  refine CodeOk.cutR (tl 39 [(0, .sl false false (a0.map (encSNode false))), (4, .loc 100 0), (6, .loc 101 0), (8, V.int e86), (23, .sl false false (e2.Kids.map encI)), (24, V.int (e2.Kids.length : Int)), (25, V.int y63)]) [(100, .cells 78 [V.int 0, V.int 0, V.str [], V.str [], .c (.slice none 0 0)]), (101, .cells 78 [V.int e2.Kind, V.int e2.Op, V.str e2.Text, V.str e2.Other, .own 102]), (102, .vec false 78 5 (y64.map encSTree))] mix (by
   refine W.ixD D_ok encI hx94 1 (by kernel_rfl) (by kernel_rfl) ?_
   refine W.run D_ok 2 168 (by kernel_rfl) ?_
   exact W.fi (by kernel_rfl)
   ) ?_
  obtain ⟨r89, hx97, h83⟩ := bind_some h83
  obtain ⟨x90, hx98, h83⟩ := bind_some h83
  refine CodeOk.endR (tl 39 [(0, .sl false false (a0.map (encSNode false))), (4, .loc 100 0), (6, .loc 101 0), (23, .sl false false (e2.Kids.map encI)), (24, V.int (e2.Kids.length : Int)), (25, V.int y63)]) [(101, .cells 78 [V.int e2.Kind, V.int e2.Op, V.str e2.Text, V.str e2.Other, .own 169]), (169, .vec false 78 5 (x90.map encSTree)), (100, .cells 78 [V.int 0, V.int 0, V.str [], V.str [], .c (.slice none 0 0)])] mix (by
   refine W.run D_ok 4 168 (by kernel_rfl) ?_
   refine W.call0 (HR.m_impl_treeAt a0 e86 _ hx97) cok110 rfl (by kernel_rfl) ?_
   refine W.layop D_ok (show LayOk _ [] from trivial) (by kernel_rfl) 168 { v := .own 168, R := [], new := [(168, .vec true 78 5 [[V.int r89.kind, V.int r89.op, V.str r89.text, V.str r89.other, .sl false false (r89.kids.map encSTree)]])], N := [168] } (by kernel_rfl) ?_
   refine W.vecEq 168 (nn := true) (e := 78) (k := 5) (rows := [[V.int r89.kind, V.int r89.op, V.str r89.text, V.str r89.other, .sl false false (r89.kids.map encSTree)]]) (rows' := [r89].map encSTree) (by kernel_rfl) (by simp only [List.map_cons, List.map_nil, encSTree_eq]) ?_
   refine W.appO D_ok encSTree (a := 102) (c := 168) (el := 78) (sz := 5) 72 hx98 rfl 169 (by kernel_rfl) ?_
   refine W.run D_ok 2 170 (by kernel_rfl) ?_
   exact W.fi (by kernel_rfl)
   ) (fun st hw => ?_)
  refine CodeOk.weak hw ?_
  refine ce D_ok mix 2 170 (tl 39 [(0, .sl false false (a0.map (encSNode false))), (4, .loc 100 0), (6, .loc 101 0), (23, .sl false false (e2.Kids.map encI)), (24, V.int (e2.Kids.length : Int)), (25, V.int (IntKind.wrap .i64 (y63 + 1)))]) [(101, .cells 78 [V.int e2.Kind, V.int e2.Op, V.str e2.Text, V.str e2.Other, .own 169]), (169, .vec false 78 5 (x90.map encSTree)), (100, .cells 78 [V.int 0, V.int 0, V.str [], V.str [], .c (.slice none 0 0)])] (by kernel_rfl) (fun st hw => ?_)
  exact ih84 (a0, e2, (IntKind.wrap .i64 (y63 + 1)), x90) h83 _ (hw.trans (Weak.sel [(100, 100), (101, 101), (169, 102)] [0, 4, 6, 23, 24, 25] (by kernel_rfl) (by kernel_rfl) (by kernel_rfl)))
 refine CodeOk.ifF hc86 (by kernel_rfl) ?_
 refine CodeOk.exit ?_
 refine cu D_ok mix 2 168 (tl 39 [(4, .loc 100 0)]) [(100, .cells 78 [V.int e2.Kind, V.int e2.Op, V.str e2.Text, V.str e2.Other, .own 102]), (102, .vec false 78 5 (y64.map encSTree))] (by kernel_rfl) ?_
 refine CodeOk.lay (tl 39 [(4, .loc 100 0)]) [(100, .cells 78 [V.int e2.Kind, V.int e2.Op, V.str e2.Text, V.str e2.Other, .sl false false (y64.map encSTree)])] (LayOk.cons (j := 102) encSTree encSTree y64 (by kernel_rfl) (share_encSTree) (show LayOk _ [] from trivial)) (by kernel_rfl) (by kernel_rfl) (by kernel_rfl) ?_
 refine CodeOk.ret ?_
 have h83 := Option.some.inj h83
 subst h83
 exact Ends.gen [] (.inr rfl) (RetV.one rfl (OneR.cell D_ok (r := .agg [V.int e2.Kind, V.int e2.Op, V.str e2.Text, V.str e2.Other, .sl false false (y64.map encSTree)]) (i := 100) (ety := 78) (cs := [V.int e2.Kind, V.int e2.Op, V.str e2.Text, V.str e2.Other, .sl false false (y64.map encSTree)]) (by kernel_rfl) (by kernel_rfl) (by kernel_rfl))) (by kernel_rfl) (by kernel_rfl) (by kernel_rfl)

theorem scc1_ok : ∀ N, RecOk1 (scc1 N)
  | 0 => ⟨fun _ _ _ h => by cases h⟩
  | N + 1 => ⟨fun a0 a1 _ h => m_impl_treeAt_F_ok N (scc1 N) (scc1_ok N) a0 a1 h⟩

theorem m_impl_treeAt_ok (N : Nat) (a0 : List SNode) (a1 : Int) {r : STree} (h : m_impl_treeAt N a0 a1 = some r) :
    AC Tryd.prog (GS []) 110 [.sl false false (a0.map (encSNode false)), V.int a1] [] (.agg [V.int r.kind, V.int r.op, V.str r.text, V.str r.other, .sl false false (r.kids.map encSTree)]) [] :=
  (scc1_ok N).m_impl_treeAt a0 a1 r h

theorem m_impl_rootOf_ok (N : Nat) (a0 : List SNode) {r : STree} (h : m_impl_rootOf N a0 = some r) :
    AC Tryd.prog (GS []) 65 [.sl false false (a0.map (encSNode false))] [] (.agg [V.int r.kind, V.int r.op, V.str r.text, V.str r.other, .sl false false (r.kids.map encSTree)]) [] := by
 rw [m_impl_rootOf] at h
 refine AC.enter Tryd.func65 rfl ?_
 refine cu D_ok mix 1 100 (tl 8 [(0, .sl false false (a0.map (encSNode false))), (2, .loc 100 0)]) [(100, .cells 78 [V.int 0, V.int 0, V.str [], V.str [], .c (.slice none 0 0)])] (by kernel_rfl) ?_
 obtain ⟨r2, hx2, h⟩ := bind_some h
 refine CodeOk.cutR (tl 8 [(2, .loc 100 0)]) [(100, .cells 78 [V.int r2.kind, V.int r2.op, V.str r2.text, V.str r2.other, .sl false false (r2.kids.map encSTree)])] mix (by
  refine W.run D_ok 2 101 (by kernel_rfl) ?_
  refine W.len D_ok (encSNode false) a0 [] (by kernel_rfl) (by kernel_rfl) ?_
  refine W.run D_ok 1 101 (by kernel_rfl) ?_
  refine W.call0 (m_impl_treeAt_ok N a0 (IntKind.wrap .i64 ((a0.length : Int) - 1)) hx2) cok110 rfl (by kernel_rfl) ?_
  refine W.run D_ok 1 101 (by kernel_rfl) ?_
  exact W.fi (by kernel_rfl)
  ) ?_
 refine CodeOk.ret ?_
 have h := Option.some.inj h
 subst h
 exact Ends.gen [] (.inr rfl) (RetV.one rfl (OneR.cell D_ok (r := .agg [V.int r2.kind, V.int r2.op, V.str r2.text, V.str r2.other, .sl false false (r2.kids.map encSTree)]) (i := 100) (ety := 78) (cs := [V.int r2.kind, V.int r2.op, V.str r2.text, V.str r2.other, .sl false false (r2.kids.map encSTree)]) (by kernel_rfl) (by kernel_rfl) (by kernel_rfl))) (by kernel_rfl) (by kernel_rfl) (by kernel_rfl)

structure RecOk2 (R : Rec2) : Prop where
  m_impl_tree__depth : ∀ (a0 : STree) (r : Int), R.m_impl_tree__depth a0 = some r → AC Tryd.prog (GS []) 66 [.agg [V.int a0.kind, V.int a0.op, V.str a0.text, V.str a0.other, .sl false false (a0.kids.map encSTree)]] [] (V.int r) []

theorem m_impl_tree__depth_F_ok (N : Nat) (R : Rec2) (HR : RecOk2 R) (a0 : STree) {r : Int} (h : m_impl_tree__depth_F N R a0 = some r) :
    AC Tryd.prog (GS []) 66 [.agg [V.int a0.kind, V.int a0.op, V.str a0.text, V.str a0.other, .sl false false (a0.kids.map encSTree)]] [] (V.int r) [] := by
 rw [m_impl_tree__depth_F] at h
 refine AC.enter Tryd.func66 rfl ?_
 refine cu D_ok mix 2 100 (tl 20 [(1, .loc 100 0)]) [(100, .cells 78 [V.int a0.kind, V.int a0.op, V.str a0.text, V.str a0.other, .sl false false (a0.kids.map encSTree)])] (by kernel_rfl) ?_
 refine cu D_ok mix 1 101 (tl 20 [(1, .loc 100 0), (3, V.int 0)]) [(100, .cells 78 [V.int a0.kind, V.int a0.op, V.str a0.text, V.str a0.other, .sl false false (a0.kids.map encSTree)])] (by kernel_rfl) ?_
 refine CodeOk.seq' ?_
 refine CodeOk.cutR (tl 20 [(3, V.int 0), (7, .sl false false (a0.kids.map encSTree)), (8, V.int (a0.kids.length : Int)), (9, V.int 0)]) [] mix (by
  refine W.run D_ok 2 101 (by kernel_rfl) ?_
  refine W.len D_ok encSTree a0.kids [] (by kernel_rfl) (by kernel_rfl) ?_
  refine W.run D_ok 1 101 (by kernel_rfl) ?_
  exact W.fi (by kernel_rfl)
  ) ?_
 refine CodeOk.block' ?_
 refine CodeOk.loopJ (fun (⟨a0, y37, y38⟩ : (STree × Int × Int)) => ⟨tl 20 [(3, V.int y37), (7, .sl false false (a0.kids.map encSTree)), (8, V.int (a0.kids.length : Int)), (9, V.int y38)], []⟩) (fun n i => m_impl_tree__depth_l1 N R n i = some r) (n0 := N) (i0 := (a0, 0, 0)) (Weak.sel [] [3, 7, 8, 9] (by kernel_rfl) (by kernel_rfl) (by kernel_rfl)) h (fun i h => by simp [m_impl_tree__depth_l1] at h) ?_
 rintro n1 ⟨a0, y37, y38⟩ h53 ih54
 rw [m_impl_tree__depth_l1] at h53
 refine cu D_ok mix 1 163 (tl 20 [(3, V.int y37), (7, .sl false false (a0.kids.map encSTree)), (8, V.int (a0.kids.length : Int)), (9, V.int y38), (10, V.bool (decide (y38 < (a0.kids.length : Int))))]) [] (by kernel_rfl) ?_
 refine CodeOk.seq' ?_
 rcases cond_some h53 with ⟨hc56, h53⟩ | ⟨hc56, h53⟩
 ·refine CodeOk.ifT hc56 (by kernel_rfl) ?_
  refine CodeOk.skip ?_
  refine CodeOk.seq' ?_
  refine CodeOk.block' ?_
  obtain ⟨e54, hx62, h53⟩ := bind_some h53
  refine CodeOk.cutR (tl 20 [(3, V.int y37), (5, .loc 163 0), (7, .sl false false (a0.kids.map encSTree)), (8, V.int (a0.kids.length : Int)), (9, V.int y38)]) [(163, .cells 78 [V.int e54.kind, V.int e54.op, V.str e54.text, V.str e54.other, .sl false false (e54.kids.map encSTree)])] mix (by
   refine W.ixDr D_ok encSTree hx62 5 (by kernel_rfl) (encSTree_eq e54) (by kernel_rfl) ?_
   refine W.run D_ok 3 163 (by kernel_rfl) ?_
   exact W.fi (by kernel_rfl)
   ) ?_
  obtain ⟨r56, hx64, h53⟩ := bind_some h53
  refine CodeOk.endR (tl 20 [(3, V.int (if r56 > y37 then r56 else y37)), (7, .sl false false (a0.kids.map encSTree)), (8, V.int (a0.kids.length : Int)), (9, V.int y38)]) [] mix (by
   refine W.run D_ok 2 164 (by kernel_rfl) ?_
   refine W.call0 (HR.m_impl_tree__depth e54 _ hx64) cok66 rfl (by kernel_rfl) ?_
   refine W.run D_ok 2 164 (by kernel_rfl) ?_
   exact W.fi (by kernel_rfl)
   ) (fun st hw => ?_)
  refine CodeOk.weak hw ?_
  refine ce D_ok mix 2 164 (tl 20 [(3, V.int (if r56 > y37 then r56 else y37)), (7, .sl false false (a0.kids.map encSTree)), (8, V.int (a0.kids.length : Int)), (9, V.int (IntKind.wrap .i64 (y38 + 1)))]) [] (by kernel_rfl) (fun st hw => ?_)
  exact ih54 (a0, (if r56 > y37 then r56 else y37), (IntKind.wrap .i64 (y38 + 1))) h53 _ (hw.trans (Weak.sel [] [3, 7, 8, 9] (by kernel_rfl) (by kernel_rfl) (by kernel_rfl)))
 refine CodeOk.ifF hc56 (by kernel_rfl) ?_
 refine CodeOk.exit ?_
 refine cu D_ok mix 3 163 (tl 20 [(2, V.int (IntKind.wrap .i64 (y37 + 1)))]) [] (by kernel_rfl) ?_
 refine CodeOk.ret ?_
 have h53 := Option.some.inj h53
 subst h53
 exact Ends.gen [] (.inr rfl) (RetV.one rfl (OneR.tmp (t := 2) (r := V.int (IntKind.wrap .i64 (y37 + 1))) (by kernel_rfl))) (by kernel_rfl) (by kernel_rfl) (by kernel_rfl)

theorem scc2_ok : ∀ N, RecOk2 (scc2 N)
  | 0 => ⟨fun _ _ h => by cases h⟩
  | N + 1 => ⟨fun a0 _ h => m_impl_tree__depth_F_ok N (scc2 N) (scc2_ok N) a0 h⟩

theorem m_impl_tree__depth_ok (N : Nat) (a0 : STree) {r : Int} (h : m_impl_tree__depth N a0 = some r) :
    AC Tryd.prog (GS []) 66 [.agg [V.int a0.kind, V.int a0.op, V.str a0.text, V.str a0.other, .sl false false (a0.kids.map encSTree)]] [] (V.int r) [] :=
  (scc2_ok N).m_impl_tree__depth a0 r h

theorem m_impl_TreeOk_ok (N : Nat) (a0 : List SNode) {r : Bool} (h : m_impl_TreeOk N a0 = some r) :
    AC Tryd.prog (GS [0, 1, 2]) 41 [.sl false false (a0.map (encSNode false))] [] (V.bool r) [] := by
 rw [m_impl_TreeOk] at h
 refine AC.enter Tryd.func41 rfl ?_
 refine cu D_ok mix 1 100 (tl 42 [(0, .sl false false (a0.map (encSNode false)))]) [] (by kernel_rfl) ?_
 refine CodeOk.seq' ?_
 obtain ⟨r4, hx5, h⟩ := bind_some h
 refine CodeOk.cutR (tl 42 [(0, .sl false false (a0.map (encSNode false))), (9, V.bool (!r4))]) [] mix (by
  refine W.run D_ok 1 100 (by kernel_rfl) ?_
  refine W.call0 (AC.gs (m_impl_ShapeOk_ok N a0 hx5) (by decide)) cok62 rfl (by kernel_rfl) ?_
  refine W.run D_ok 1 100 (by kernel_rfl) ?_
  exact W.fi (by kernel_rfl)
  ) ?_
 rcases cond_some h with ⟨hc6, h⟩ | ⟨hc6, h⟩
 ·refine CodeOk.ifT hc6 (by kernel_rfl) ?_
  refine cu D_ok mix 1 100 (tl 42 [(2, V.bool false)]) [] (by kernel_rfl) ?_
  refine CodeOk.ret ?_
  have h := Option.some.inj h
  subst h
  exact Ends.gen [] (.inr rfl) (RetV.one rfl (OneR.tmp (t := 2) (r := V.bool false) (by kernel_rfl))) (by kernel_rfl) (by kernel_rfl) (by kernel_rfl)
 refine CodeOk.ifF hc6 (by kernel_rfl) ?_
 refine CodeOk.skip ?_
 refine CodeOk.seq' ?_
 refine CodeOk.cutR (tl 42 [(0, .sl false false (a0.map (encSNode false))), (10, .sl false false (a0.map (encSNode false))), (11, V.int (a0.length : Int)), (12, V.int 0)]) [] mix (by
  refine W.run D_ok 1 100 (by kernel_rfl) ?_
  refine W.len D_ok (encSNode false) a0 [] (by kernel_rfl) (by kernel_rfl) ?_
  refine W.run D_ok 1 100 (by kernel_rfl) ?_
  exact W.fi (by kernel_rfl)
  ) ?_
 refine CodeOk.block' ?_
 refine CodeOk.loopJ (fun (⟨a0, y359⟩ : ((List SNode) × Int)) => ⟨tl 42 [(0, .sl false false (a0.map (encSNode false))), (10, .sl false false (a0.map (encSNode false))), (11, V.int (a0.length : Int)), (12, V.int y359)], []⟩) (fun n i => m_impl_TreeOk_l1 N n i = some r) (n0 := N) (i0 := (a0, 0)) (Weak.sel [] [0, 10, 11, 12] (by kernel_rfl) (by kernel_rfl) (by kernel_rfl)) h (fun i h => by simp [m_impl_TreeOk_l1] at h) ?_
 rintro n1 ⟨a0, y359⟩ h599 ih600
 rw [m_impl_TreeOk_l1] at h599
 refine cu D_ok mix 1 282 (tl 42 [(0, .sl false false (a0.map (encSNode false))), (10, .sl false false (a0.map (encSNode false))), (11, V.int (a0.length : Int)), (12, V.int y359), (13, V.bool (decide (y359 < (a0.length : Int))))]) [] (by kernel_rfl) ?_
 refine CodeOk.seq' ?_
 rcases cond_some h599 with ⟨hc602, h599⟩ | ⟨hc602, h599⟩
 ·refine CodeOk.ifT hc602 (by kernel_rfl) ?_
  refine CodeOk.skip ?_
  refine CodeOk.seq' ?_
  refine CodeOk.block' ?_
  obtain ⟨e494, hx662, h599⟩ := bind_some h599
  refine CodeOk.cutR (tl 42 [(0, .sl false false (a0.map (encSNode false))), (4, .loc 282 0), (10, .sl false false (a0.map (encSNode false))), (11, V.int (a0.length : Int)), (12, V.int y359)]) [(282, .cells 60 [V.int e494.Kind, V.int e494.Op, V.str e494.Text, V.str e494.Other, .sl false false (e494.Kids.map encI)])] mix (by
   refine W.ixD D_ok (encSNode false) hx662 5 (by kernel_rfl) (by kernel_rfl) ?_
   refine W.run D_ok 3 282 (by kernel_rfl) ?_
   exact W.fi (by kernel_rfl)
   ) ?_
  refine CodeOk.seq' ?_
  obtain ⟨r498, hx667, h599⟩ := bind_some h599
  refine CodeOk.cutR (tl 42 [(0, .sl false false (a0.map (encSNode false))), (4, .loc 282 0), (10, .sl false false (a0.map (encSNode false))), (11, V.int (a0.length : Int)), (12, V.int y359), (18, V.bool (!r498))]) [(282, .cells 60 [V.int e494.Kind, V.int e494.Op, V.str e494.Text, V.str e494.Other, .sl false false (e494.Kids.map encI)])] mix (by
   refine W.run D_ok 1 283 (by kernel_rfl) ?_
   refine W.call0 (m_impl_FieldsOk_ok N e494 hx667) cok63 rfl (by kernel_rfl) ?_
   refine W.run D_ok 1 283 (by kernel_rfl) ?_
   exact W.fi (by kernel_rfl)
   ) ?_
  rcases cond_some h599 with ⟨hc668, h599⟩ | ⟨hc668, h599⟩
  ·refine CodeOk.ifT hc668 (by kernel_rfl) ?_
   refine cu D_ok mix 1 283 (tl 42 [(2, V.bool false)]) [] (by kernel_rfl) ?_
   refine CodeOk.ret ?_
   have h599 := Option.some.inj h599
   subst h599
   exact Ends.gen [] (.inr rfl) (RetV.one rfl (OneR.tmp (t := 2) (r := V.bool false) (by kernel_rfl))) (by kernel_rfl) (by kernel_rfl) (by kernel_rfl)
  refine CodeOk.ifF hc668 (by kernel_rfl) ?_
  refine CodeOk.skip ?_
  refine CodeOk.cutR (tl 42 [(0, .sl false false (a0.map (encSNode false))), (4, .loc 282 0), (10, .sl false false (a0.map (encSNode false))), (11, V.int (a0.length : Int)), (12, V.int y359), (20, .sl false false (e494.Kids.map encI)), (21, V.int (e494.Kids.length : Int)), (22, V.int 0)]) [(282, .cells 60 [V.int e494.Kind, V.int e494.Op, V.str e494.Text, V.str e494.Other, .sl false false (e494.Kids.map encI)])] mix (by
   refine W.run D_ok 2 283 (by kernel_rfl) ?_
   refine W.len D_ok encI e494.Kids [] (by kernel_rfl) (by kernel_rfl) ?_
   refine W.run D_ok 1 283 (by kernel_rfl) ?_
   exact W.fi (by kernel_rfl)
   ) ?_
  refine CodeOk.block' ?_
  refine CodeOk.loopJ (fun (⟨a0, y359, e494, y511⟩ : ((List SNode) × Int × SNode × Int)) => ⟨tl 42 [(0, .sl false false (a0.map (encSNode false))), (4, .loc 100 0), (10, .sl false false (a0.map (encSNode false))), (11, V.int (a0.length : Int)), (12, V.int y359), (20, .sl false false (e494.Kids.map encI)), (21, V.int (e494.Kids.length : Int)), (22, V.int y511)], [(100, .cells 60 [V.int e494.Kind, V.int e494.Op, V.str e494.Text, V.str e494.Other, .sl false false (e494.Kids.map encI)])]⟩) (fun n i => m_impl_TreeOk_l2 N (m_impl_TreeOk_l1 N n1) n i = some r) (n0 := N) (i0 := (a0, y359, e494, 0)) (Weak.sel [(282, 100)] [0, 4, 10, 11, 12, 20, 21, 22] (by kernel_rfl) (by kernel_rfl) (by kernel_rfl)) h599 (fun i h => by simp [m_impl_TreeOk_l2] at h) ?_
  rintro n2 ⟨a0, y359, e494, y511⟩ h701 ih702
  rw [m_impl_TreeOk_l2] at h701
  refine cu D_ok mix 1 343 (tl 42 [(0, .sl false false (a0.map (encSNode false))), (4, .loc 100 0), (10, .sl false false (a0.map (encSNode false))), (11, V.int (a0.length : Int)), (12, V.int y359), (20, .sl false false (e494.Kids.map encI)), (21, V.int (e494.Kids.length : Int)), (22, V.int y511), (23, V.bool (decide (y511 < (e494.Kids.length : Int))))]) [(100, .cells 60 [V.int e494.Kind, V.int e494.Op, V.str e494.Text, V.str e494.Other, .sl false false (e494.Kids.map encI)])] (by kernel_rfl) ?_
  refine CodeOk.seq' ?_
  rcases cond_some h701 with ⟨hc704, h701⟩ | ⟨hc704, h701⟩
  ·refine CodeOk.ifT hc704 (by kernel_rfl) ?_
   refine CodeOk.skip ?_
   refine CodeOk.seq' ?_
   refine CodeOk.block' ?_
   obtain ⟨e532, hx713, h701⟩ := bind_some h701
   refine CodeOk.cutR (tl 42 [(0, .sl false false (a0.map (encSNode false))), (4, .loc 100 0), (5, V.int y511), (6, V.int e532), (10, .sl false false (a0.map (encSNode false))), (11, V.int (a0.length : Int)), (12, V.int y359), (20, .sl false false (e494.Kids.map encI)), (21, V.int (e494.Kids.length : Int)), (22, V.int y511)]) [(100, .cells 60 [V.int e494.Kind, V.int e494.Op, V.str e494.Text, V.str e494.Other, .sl false false (e494.Kids.map encI)])] mix (by
    refine W.run D_ok 1 343 (by kernel_rfl) ?_
    refine W.ixD D_ok encI hx713 1 (by kernel_rfl) (by kernel_rfl) ?_
    refine W.run D_ok 3 343 (by kernel_rfl) ?_
    exact W.fi (by kernel_rfl)
    ) ?_
   obtain ⟨e535, hx716, h701⟩ := bind_some h701
   obtain ⟨r536, hx717, h701⟩ := bind_some h701
   refine CodeOk.cutR (tl 42 [(0, .sl false false (a0.map (encSNode false))), (4, .loc 100 0), (10, .sl false false (a0.map (encSNode false))), (11, V.int (a0.length : Int)), (12, V.int y359), (20, .sl false false (e494.Kids.map encI)), (21, V.int (e494.Kids.length : Int)), (22, V.int y511), (35, V.bool (!r536))]) [(100, .cells 60 [V.int e494.Kind, V.int e494.Op, V.str e494.Text, V.str e494.Other, .sl false false (e494.Kids.map encI)])] mix (by
    refine W.run D_ok 4 343 (by kernel_rfl) ?_
    refine W.ixD D_ok (encSNode false) hx716 5 (by kernel_rfl) (by kernel_rfl) ?_
    refine W.run D_ok 2 343 (by kernel_rfl) ?_
    refine W.call0 (AC.gs (m_impl_kidOk_ok e494 y511 e535.Kind hx717) (by decide)) cok64 rfl (by kernel_rfl) ?_
    refine W.run D_ok 1 343 (by kernel_rfl) ?_
    exact W.fi (by kernel_rfl)
    ) ?_
   rcases cond_some h701 with ⟨hc718, h701⟩ | ⟨hc718, h701⟩
   ·refine CodeOk.ifT hc718 (by kernel_rfl) ?_
    refine cu D_ok mix 1 343 (tl 42 [(2, V.bool false)]) [] (by kernel_rfl) ?_
    refine CodeOk.ret ?_
    have h701 := Option.some.inj h701
    subst h701
    exact Ends.gen [] (.inr rfl) (RetV.one rfl (OneR.tmp (t := 2) (r := V.bool false) (by kernel_rfl))) (by kernel_rfl) (by kernel_rfl) (by kernel_rfl)
   refine CodeOk.ifF hc718 (by kernel_rfl) ?_
   refine CodeOk.skip ?_
   refine ce D_ok mix 2 343 (tl 42 [(0, .sl false false (a0.map (encSNode false))), (4, .loc 100 0), (10, .sl false false (a0.map (encSNode false))), (11, V.int (a0.length : Int)), (12, V.int y359), (20, .sl false false (e494.Kids.map encI)), (21, V.int (e494.Kids.length : Int)), (22, V.int (IntKind.wrap .i64 (y511 + 1)))]) [(100, .cells 60 [V.int e494.Kind, V.int e494.Op, V.str e494.Text, V.str e494.Other, .sl false false (e494.Kids.map encI)])] (by kernel_rfl) (fun st hw => ?_)
   exact ih702 (a0, y359, e494, (IntKind.wrap .i64 (y511 + 1))) h701 _ (hw.trans (Weak.sel [(100, 100)] [0, 4, 10, 11, 12, 20, 21, 22] (by kernel_rfl) (by kernel_rfl) (by kernel_rfl)))
  refine CodeOk.ifF hc704 (by kernel_rfl) ?_
  refine CodeOk.exit ?_
  refine ce D_ok mix 2 343 (tl 42 [(0, .sl false false (a0.map (encSNode false))), (10, .sl false false (a0.map (encSNode false))), (11, V.int (a0.length : Int)), (12, V.int (IntKind.wrap .i64 (y359 + 1)))]) [] (by kernel_rfl) (fun st hw => ?_)
  exact ih600 (a0, (IntKind.wrap .i64 (y359 + 1))) h701 _ (hw.trans (Weak.sel [] [0, 10, 11, 12] (by kernel_rfl) (by kernel_rfl) (by kernel_rfl)))
 refine CodeOk.ifF hc602 (by kernel_rfl) ?_
 refine CodeOk.exit ?_
 obtain ⟨r539, hx721, h599⟩ := bind_some h599
 obtain ⟨r540, hx722, h599⟩ := bind_some h599
 refine CodeOk.cutR (tl 42 [(2, V.bool (decide (r540 ≤ 40)))]) [] mix (by
  refine W.run D_ok 1 282 (by kernel_rfl) ?_
  refine W.call0 (AC.gs (m_impl_rootOf_ok N a0 hx721) (by decide)) cok65 rfl (by kernel_rfl) ?_
  refine W.call0 (AC.gs (m_impl_tree__depth_ok N r539 hx722) (by decide)) cok66 rfl (by kernel_rfl) ?_
  refine W.run D_ok 2 282 (by kernel_rfl) ?_
  exact W.fi (by kernel_rfl)
  ) ?_
 refine CodeOk.ret ?_
 have h599 := Option.some.inj h599
 subst h599
 exact Ends.gen [] (.inr rfl) (RetV.one rfl (OneR.tmp (t := 2) (r := V.bool (decide (r540 ≤ 40))) (by kernel_rfl))) (by kernel_rfl) (by kernel_rfl) (by kernel_rfl)

theorem m_impl_Var_ok (N : Nat) (a0 : Int) {r : (List UInt8)} (h : m_impl_Var N a0 = some r) :
    AC Tryd.prog (GS []) 42 [V.int a0] [] (V.str r) [] := by
 rw [m_impl_Var] at h
 refine AC.enter Tryd.func42 rfl ?_
 refine cu D_ok mix 1 100 (tl 25 [(0, V.int a0)]) [] (by kernel_rfl) ?_
 refine CodeOk.seq' ?_
 obtain ⟨r4, hx5, h⟩ := bind_some h
 refine CodeOk.cutR (tl 25 [(0, V.int a0), (6, V.bool (!r4))]) [] mix (by
  refine W.run D_ok 1 100 (by kernel_rfl) ?_
  refine W.call0 (m_impl_within_ok a0 0 562949953421311 hx5) cok52 rfl (by kernel_rfl) ?_
  refine W.run D_ok 1 100 (by kernel_rfl) ?_
  exact W.fi (by kernel_rfl)
  ) ?_
 rcases cond_some h with ⟨hc6, h⟩ | ⟨hc6, h⟩
 ·refine CodeOk.ifT hc6 (by kernel_rfl) ?_
  refine cu D_ok mix 1 100 (tl 25 [(2, V.str [])]) [] (by kernel_rfl) ?_
  refine CodeOk.ret ?_
  have h := Option.some.inj h
  subst h
  exact Ends.gen [] (.inr rfl) (RetV.one rfl (OneR.tmp (t := 2) (r := V.str []) (by kernel_rfl))) (by kernel_rfl) (by kernel_rfl) (by kernel_rfl)
 refine CodeOk.ifF hc6 (by kernel_rfl) ?_
 refine CodeOk.skip ?_
 refine cu D_ok mix 2 100 (tl 25 [(0, V.int a0), (3, .own 100)]) [(100, .vec false 5 1 ([].map byteRow))] (by kernel_rfl) ?_
 refine CodeOk.seq' ?_
 refine CodeOk.block' ?_
 refine CodeOk.loopJ (fun (⟨y17, y18⟩ : (Int × (List UInt8))) => ⟨tl 25 [(0, V.int y17), (3, .own 100)], [(100, .vec false 5 1 (y18.map byteRow))]⟩) (fun n i => m_impl_Var_l1 N n i = some r) (n0 := N) (i0 := (a0, [])) (Weak.sel [(100, 100)] [0, 3] (by kernel_rfl) (by kernel_rfl) (by kernel_rfl)) h (fun i h => by simp [m_impl_Var_l1] at h) ?_
 rintro n1 ⟨y17, y18⟩ h29 ih30
 rw [m_impl_Var_l1] at h29
 refine CodeOk.seq' ?_
 refine cu D_ok mix 2 165 (tl 25 [(0, V.int y17), (3, .own 100), (9, V.bool (decide (y17 > 127)))]) [(100, .vec false 5 1 (y18.map byteRow))] (by kernel_rfl) ?_
 rcases cond_some h29 with ⟨hc32, h29⟩ | ⟨hc32, h29⟩
 ·refine CodeOk.ifT hc32 (by kernel_rfl) ?_
  refine CodeOk.skip ?_
  refine CodeOk.block' ?_
  obtain ⟨x24, hx34, h29⟩ := bind_some h29
  refine CodeOk.cutR (tl 25 [(0, V.int y17), (3, .own 166)]) [(166, .vec false 5 1 (x24.map byteRow))] mix (by
   refine W.run D_ok 5 165 (by kernel_rfl) ?_
   refine W.run D_ok 1 165 (by kernel_rfl) ?_
   refine W.vecEq 165 (nn := true) (e := 5) (k := 1) (rows := [[.c (.int .u8 (IntKind.wrap .u8 (bits .or .i64 (bits .and .i64 y17 127) 128)))]]) (rows' := [(bytI (bits .or .i64 (bits .and .i64 y17 127) 128))].map byteRow) (by kernel_rfl) (by first | (simp only [List.map_cons, List.map_nil, ← bytI_row]; done) | (simp only [List.map_cons, List.map_nil, ← bytI_row]; rfl)) ?_
   refine W.appO D_ok byteRow (a := 100) (c := 165) (el := 5) (sz := 1) 1 hx34 rfl 166 (by kernel_rfl) ?_
   refine W.run D_ok 1 167 (by kernel_rfl) ?_
   exact W.fi (by kernel_rfl)
   ) ?_
  refine ce D_ok mix 3 167 (tl 25 [(0, V.int (Int.fdiv y17 (2 ^ (min 7 64)))), (3, .own 166)]) [(166, .vec false 5 1 (x24.map byteRow))] (by kernel_rfl) (fun st hw => ?_)
  exact ih30 ((Int.fdiv y17 (2 ^ (min 7 64))), x24) h29 _ (hw.trans (Weak.sel [(166, 100)] [0, 3] (by kernel_rfl) (by kernel_rfl) (by kernel_rfl)))
 refine CodeOk.ifF hc32 (by kernel_rfl) ?_
 refine CodeOk.exit ?_
 obtain ⟨x26, hx36, h29⟩ := bind_some h29
 refine CodeOk.cutR (tl 25 [(2, V.str x26)]) [] mix (by
  refine W.run D_ok 3 165 (by kernel_rfl) ?_
  refine W.run D_ok 1 165 (by kernel_rfl) ?_
  refine W.vecEq 165 (nn := true) (e := 5) (k := 1) (rows := [[.c (.int .u8 (IntKind.wrap .u8 y17))]]) (rows' := [(bytI y17)].map byteRow) (by kernel_rfl) (by first | (simp only [List.map_cons, List.map_nil, ← bytI_row]; done) | (simp only [List.map_cons, List.map_nil, ← bytI_row]; rfl)) ?_
  refine W.appO D_ok byteRow (a := 100) (c := 165) (el := 5) (sz := 1) 1 hx36 rfl 166 (by kernel_rfl) ?_
  refine W.strO D_ok x26 (a := 166) (by kernel_rfl) ?_
  refine W.run D_ok 1 167 (by kernel_rfl) ?_
  exact W.fi (by kernel_rfl)
  ) ?_
 refine CodeOk.ret ?_
 have h29 := Option.some.inj h29
 subst h29
 exact Ends.gen [] (.inr rfl) (RetV.one rfl (OneR.tmp (t := 2) (r := V.str x26) (by kernel_rfl))) (by kernel_rfl) (by kernel_rfl) (by kernel_rfl)

theorem m_impl_ShowTree_ok (N : Nat) (a0 : List SNode) {r : (List UInt8)} (h : m_impl_ShowTree N a0 = some r) :
    AC Tryd.prog (GS [0, 1, 2]) 19 [.sl false false (a0.map (encSNode false))] [] (V.str r) [] := by
 rw [m_impl_ShowTree] at h
 refine AC.enter Tryd.func19 rfl ?_
 refine cu D_ok mix 1 100 (tl 50 [(0, .sl false false (a0.map (encSNode false)))]) [] (by kernel_rfl) ?_
 refine CodeOk.seq' ?_
 obtain ⟨r4, hx5, h⟩ := bind_some h
 refine CodeOk.cutR (tl 50 [(0, .sl false false (a0.map (encSNode false))), (8, V.bool (!r4))]) [] mix (by
  refine W.run D_ok 1 100 (by kernel_rfl) ?_
  refine W.call0 (m_impl_TreeOk_ok N a0 hx5) cok41 rfl (by kernel_rfl) ?_
  refine W.run D_ok 1 100 (by kernel_rfl) ?_
  exact W.fi (by kernel_rfl)
  ) ?_
 rcases cond_some h with ⟨hc6, h⟩ | ⟨hc6, h⟩
 ·refine CodeOk.ifT hc6 (by kernel_rfl) ?_
  refine cu D_ok mix 1 100 (tl 50 [(2, V.str [])]) [] (by kernel_rfl) ?_
  refine CodeOk.ret ?_
  have h := Option.some.inj h
  subst h
  exact Ends.gen [] (.inr rfl) (RetV.one rfl (OneR.tmp (t := 2) (r := V.str []) (by kernel_rfl))) (by kernel_rfl) (by kernel_rfl) (by kernel_rfl)
 refine CodeOk.ifF hc6 (by kernel_rfl) ?_
 refine CodeOk.skip ?_
 obtain ⟨r6, hx8, h⟩ := bind_some h
 refine CodeOk.cutR (tl 50 [(0, .sl false false (a0.map (encSNode false))), (3, V.str r6)]) [] mix (by
  refine W.run D_ok 1 100 (by kernel_rfl) ?_
  refine W.len D_ok (encSNode false) a0 [] (by kernel_rfl) (by kernel_rfl) ?_
  refine W.call0 (AC.gs (m_impl_Var_ok N (a0.length : Int) hx8) (by decide)) cok42 rfl (by kernel_rfl) ?_
  refine W.run D_ok 1 100 (by kernel_rfl) ?_
  exact W.fi (by kernel_rfl)
  ) ?_
 refine CodeOk.seq' ?_
 refine CodeOk.cutR (tl 50 [(3, V.str r6), (12, .sl false false (a0.map (encSNode false))), (13, V.int (a0.length : Int)), (14, V.int 0)]) [] mix (by
  refine W.run D_ok 1 100 (by kernel_rfl) ?_
  refine W.len D_ok (encSNode false) a0 [] (by kernel_rfl) (by kernel_rfl) ?_
  refine W.run D_ok 1 100 (by kernel_rfl) ?_
  exact W.fi (by kernel_rfl)
  ) ?_
 refine CodeOk.block' ?_
 refine CodeOk.loopJ (fun (⟨a0, y219, y220⟩ : ((List SNode) × (List UInt8) × Int)) => ⟨tl 50 [(3, V.str y219), (12, .sl false false (a0.map (encSNode false))), (13, V.int (a0.length : Int)), (14, V.int y220)], []⟩) (fun n i => m_impl_ShowTree_l1 N n i = some r) (n0 := N) (i0 := (a0, r6, 0)) (Weak.sel [] [3, 12, 13, 14] (by kernel_rfl) (by kernel_rfl) (by kernel_rfl)) h (fun i h => by simp [m_impl_ShowTree_l1] at h) ?_
 rintro n1 ⟨a0, y219, y220⟩ h281 ih282
 rw [m_impl_ShowTree_l1] at h281
 refine cu D_ok mix 1 162 (tl 50 [(3, V.str y219), (12, .sl false false (a0.map (encSNode false))), (13, V.int (a0.length : Int)), (14, V.int y220), (15, V.bool (decide (y220 < (a0.length : Int))))]) [] (by kernel_rfl) ?_
 refine CodeOk.seq' ?_
 rcases cond_some h281 with ⟨hc284, h281⟩ | ⟨hc284, h281⟩
 ·refine CodeOk.ifT hc284 (by kernel_rfl) ?_
  refine CodeOk.skip ?_
  refine CodeOk.seq' ?_
  refine CodeOk.block' ?_
  obtain ⟨e302, hx312, h281⟩ := bind_some h281
  refine CodeOk.cutR (tl 50 [(3, V.str y219), (5, .loc 162 0), (12, .sl false false (a0.map (encSNode false))), (13, V.int (a0.length : Int)), (14, V.int y220)]) [(162, .cells 60 [V.int e302.Kind, V.int e302.Op, V.str e302.Text, V.str e302.Other, .sl false false (e302.Kids.map encI)])] mix (by
   refine W.ixD D_ok (encSNode false) hx312 5 (by kernel_rfl) (by kernel_rfl) ?_
   refine W.run D_ok 3 162 (by kernel_rfl) ?_
   exact W.fi (by kernel_rfl)
   ) ?_
  obtain ⟨r315, hx325, h281⟩ := bind_some h281
  obtain ⟨r316, hx326, h281⟩ := bind_some h281
  obtain ⟨s317, hx327, h281⟩ := bind_some h281
  obtain ⟨r318, hx328, h281⟩ := bind_some h281
  obtain ⟨s319, hx329, h281⟩ := bind_some h281
  obtain ⟨s320, hx330, h281⟩ := bind_some h281
  obtain ⟨r321, hx331, h281⟩ := bind_some h281
  obtain ⟨s322, hx332, h281⟩ := bind_some h281
  obtain ⟨s323, hx333, h281⟩ := bind_some h281
  obtain ⟨r324, hx334, h281⟩ := bind_some h281
  obtain ⟨s325, hx335, h281⟩ := bind_some h281
  obtain ⟨s326, hx336, h281⟩ := bind_some h281
  refine CodeOk.endR (tl 50 [(3, V.str s326), (12, .sl false false (a0.map (encSNode false))), (13, V.int (a0.length : Int)), (14, V.int y220)]) [] mix (by
   refine W.run D_ok 3 163 (by kernel_rfl) ?_
   refine W.call0 (AC.gs (m_impl_Var_ok N e302.Kind hx325) (by decide)) cok42 rfl (by kernel_rfl) ?_
   refine W.run D_ok 2 163 (by kernel_rfl) ?_
   refine W.call0 (AC.gs (m_impl_Var_ok N e302.Op hx326) (by decide)) cok42 rfl (by kernel_rfl) ?_
   refine W.cat hx327 (by kernel_rfl) ?_
   refine W.run D_ok 3 163 (by kernel_rfl) ?_
   refine W.call0 (AC.gs (m_impl_Var_ok N (e302.Text.length : Int) hx328) (by decide)) cok42 rfl (by kernel_rfl) ?_
   refine W.cat hx329 (by kernel_rfl) ?_
   refine W.run D_ok 2 163 (by kernel_rfl) ?_
   refine W.cat hx330 (by kernel_rfl) ?_
   refine W.run D_ok 3 163 (by kernel_rfl) ?_
   refine W.call0 (AC.gs (m_impl_Var_ok N (e302.Other.length : Int) hx331) (by decide)) cok42 rfl (by kernel_rfl) ?_
   refine W.cat hx332 (by kernel_rfl) ?_
   refine W.run D_ok 2 163 (by kernel_rfl) ?_
   refine W.cat hx333 (by kernel_rfl) ?_
   refine W.run D_ok 2 163 (by kernel_rfl) ?_
   refine W.len D_ok encI e302.Kids [] (by kernel_rfl) (by kernel_rfl) ?_
   refine W.call0 (AC.gs (m_impl_Var_ok N (e302.Kids.length : Int) hx334) (by decide)) cok42 rfl (by kernel_rfl) ?_
   refine W.cat hx335 (by kernel_rfl) ?_
   refine W.cat hx336 (by kernel_rfl) ?_
   refine W.run D_ok 1 163 (by kernel_rfl) ?_
   exact W.fi (by kernel_rfl)
   ) (fun st hw => ?_)
  refine CodeOk.weak hw ?_
  refine ce D_ok mix 2 163 (tl 50 [(3, V.str s326), (12, .sl false false (a0.map (encSNode false))), (13, V.int (a0.length : Int)), (14, V.int (IntKind.wrap .i64 (y220 + 1)))]) [] (by kernel_rfl) (fun st hw => ?_)
  exact ih282 (a0, s326, (IntKind.wrap .i64 (y220 + 1))) h281 _ (hw.trans (Weak.sel [] [3, 12, 13, 14] (by kernel_rfl) (by kernel_rfl) (by kernel_rfl)))
 refine CodeOk.ifF hc284 (by kernel_rfl) ?_
 refine CodeOk.exit ?_
 refine cu D_ok mix 2 162 (tl 50 [(2, V.str y219)]) [] (by kernel_rfl) ?_
 refine CodeOk.ret ?_
 have h281 := Option.some.inj h281
 subst h281
 exact Ends.gen [] (.inr rfl) (RetV.one rfl (OneR.tmp (t := 2) (r := V.str y219) (by kernel_rfl))) (by kernel_rfl) (by kernel_rfl) (by kernel_rfl)

theorem m_laws_eqIntS_ok (N : Nat) (a0 : List Int) (a1 : List Int) {r : Bool} (h : m_laws_eqIntS N a0 a1 = some r) :
    AC Tryd.prog (GS []) 67 [.sl false false (a0.map encI), .sl false false (a1.map encI)] [] (V.bool r) [] := by
 rw [m_laws_eqIntS] at h
 refine AC.enter Tryd.func67 rfl ?_
 refine cu D_ok mix 1 100 (tl 26 [(0, .sl false false (a0.map encI)), (1, .sl false false (a1.map encI))]) [] (by kernel_rfl) ?_
 refine CodeOk.seq' ?_
 refine CodeOk.cutR (tl 26 [(0, .sl false false (a0.map encI)), (1, .sl false false (a1.map encI)), (10, V.bool ((a0.length : Int) != (a1.length : Int)))]) [] mix (by
  refine W.run D_ok 1 100 (by kernel_rfl) ?_
  refine W.len D_ok encI a0 [] (by kernel_rfl) (by kernel_rfl) ?_
  refine W.run D_ok 1 100 (by kernel_rfl) ?_
  refine W.len D_ok encI a1 [] (by kernel_rfl) (by kernel_rfl) ?_
  refine W.run D_ok 1 100 (by kernel_rfl) ?_
  exact W.fi (by kernel_rfl)
  ) ?_
 rcases cond_some h with ⟨hc2, h⟩ | ⟨hc2, h⟩
 ·refine CodeOk.ifT hc2 (by kernel_rfl) ?_
  refine cu D_ok mix 1 100 (tl 26 [(4, V.bool false)]) [] (by kernel_rfl) ?_
  refine CodeOk.ret ?_
  have h := Option.some.inj h
  subst h
  exact Ends.gen [] (.inr rfl) (RetV.one rfl (OneR.tmp (t := 4) (r := V.bool false) (by kernel_rfl))) (by kernel_rfl) (by kernel_rfl) (by kernel_rfl)
 refine CodeOk.ifF hc2 (by kernel_rfl) ?_
 refine CodeOk.skip ?_
 refine CodeOk.seq' ?_
 refine cu D_ok mix 1 100 (tl 26 [(0, .sl false false (a0.map encI)), (1, .sl false false (a1.map encI)), (5, V.int 0)]) [] (by kernel_rfl) ?_
 refine CodeOk.block' ?_
 refine CodeOk.loopJ (fun (⟨a0, a1, y35⟩ : ((List Int) × (List Int) × Int)) => ⟨tl 26 [(0, .sl false false (a0.map encI)), (1, .sl false false (a1.map encI)), (5, V.int y35)], []⟩) (fun n i => m_laws_eqIntS_l1 N n i = some r) (n0 := N) (i0 := (a0, a1, 0)) (Weak.sel [] [0, 1, 5] (by kernel_rfl) (by kernel_rfl) (by kernel_rfl)) h (fun i h => by simp [m_laws_eqIntS_l1] at h) ?_
 rintro n1 ⟨a0, a1, y35⟩ h65 ih66
 rw [m_laws_eqIntS_l1] at h65
 refine CodeOk.seq' ?_
 refine CodeOk.cutR (tl 26 [(0, .sl false false (a0.map encI)), (1, .sl false false (a1.map encI)), (5, V.int y35), (14, V.bool (decide (y35 < (a0.length : Int))))]) [] mix (by
  refine W.run D_ok 2 160 (by kernel_rfl) ?_
  refine W.len D_ok encI a0 [] (by kernel_rfl) (by kernel_rfl) ?_
  refine W.run D_ok 1 160 (by kernel_rfl) ?_
  exact W.fi (by kernel_rfl)
  ) ?_
 rcases cond_some h65 with ⟨hc68, h65⟩ | ⟨hc68, h65⟩
 ·refine CodeOk.ifT hc68 (by kernel_rfl) ?_
  refine CodeOk.skip ?_
  refine CodeOk.seq' ?_
  refine CodeOk.block' ?_
  obtain ⟨e51, hx76, h65⟩ := bind_some h65
  obtain ⟨e52, hx77, h65⟩ := bind_some h65
  refine CodeOk.cutR (tl 26 [(0, .sl false false (a0.map encI)), (1, .sl false false (a1.map encI)), (5, V.int y35), (25, V.bool (e51 != e52))]) [] mix (by
   refine W.run D_ok 2 160 (by kernel_rfl) ?_
   refine W.ixD D_ok encI hx76 1 (by kernel_rfl) (by kernel_rfl) ?_
   refine W.run D_ok 3 160 (by kernel_rfl) ?_
   refine W.ixD D_ok encI hx77 1 (by kernel_rfl) (by kernel_rfl) ?_
   refine W.run D_ok 2 160 (by kernel_rfl) ?_
   exact W.fi (by kernel_rfl)
   ) ?_
  rcases cond_some h65 with ⟨hc78, h65⟩ | ⟨hc78, h65⟩
  ·refine CodeOk.ifT hc78 (by kernel_rfl) ?_
   refine cu D_ok mix 1 160 (tl 26 [(4, V.bool false)]) [] (by kernel_rfl) ?_
   refine CodeOk.ret ?_
   have h65 := Option.some.inj h65
   subst h65
   exact Ends.gen [] (.inr rfl) (RetV.one rfl (OneR.tmp (t := 4) (r := V.bool false) (by kernel_rfl))) (by kernel_rfl) (by kernel_rfl) (by kernel_rfl)
  refine CodeOk.ifF hc78 (by kernel_rfl) ?_
  refine CodeOk.skip ?_
  refine ce D_ok mix 3 160 (tl 26 [(0, .sl false false (a0.map encI)), (1, .sl false false (a1.map encI)), (5, V.int (IntKind.wrap .i64 (y35 + 1)))]) [] (by kernel_rfl) (fun st hw => ?_)
  exact ih66 (a0, a1, (IntKind.wrap .i64 (y35 + 1))) h65 _ (hw.trans (Weak.sel [] [0, 1, 5] (by kernel_rfl) (by kernel_rfl) (by kernel_rfl)))
 refine CodeOk.ifF hc68 (by kernel_rfl) ?_
 refine CodeOk.exit ?_
 refine cu D_ok mix 1 160 (tl 26 [(4, V.bool true)]) [] (by kernel_rfl) ?_
 refine CodeOk.ret ?_
 have h65 := Option.some.inj h65
 subst h65
 exact Ends.gen [] (.inr rfl) (RetV.one rfl (OneR.tmp (t := 4) (r := V.bool true) (by kernel_rfl))) (by kernel_rfl) (by kernel_rfl) (by kernel_rfl)

theorem m_laws_eqNode_ok (N : Nat) (a0 : SNode) (a1 : SNode) {r : Bool} (h : m_laws_eqNode N a0 a1 = some r) :
    AC Tryd.prog (GS []) 43 [.agg [V.int a0.Kind, V.int a0.Op, V.str a0.Text, V.str a0.Other, .sl false false (a0.Kids.map encI)], .agg [V.int a1.Kind, V.int a1.Op, V.str a1.Text, V.str a1.Other, .sl false false (a1.Kids.map encI)]] [] (V.bool r) [] := by
 rw [m_laws_eqNode] at h
 refine AC.enter Tryd.func43 rfl ?_
 refine cu D_ok mix 3 100 (tl 31 [(2, .loc 100 0), (3, .loc 101 0)]) [(101, .cells 60 [V.int a1.Kind, V.int a1.Op, V.str a1.Text, V.str a1.Other, .sl false false (a1.Kids.map encI)]), (100, .cells 60 [V.int a0.Kind, V.int a0.Op, V.str a0.Text, V.str a0.Other, .sl false false (a0.Kids.map encI)])] (by kernel_rfl) ?_
 refine CodeOk.seq' ?_
 refine cu D_ok mix 5 102 (tl 31 [(2, .loc 100 0), (3, .loc 101 0), (9, V.bool (a0.Kind != a1.Kind))]) [(101, .cells 60 [V.int a1.Kind, V.int a1.Op, V.str a1.Text, V.str a1.Other, .sl false false (a1.Kids.map encI)]), (100, .cells 60 [V.int a0.Kind, V.int a0.Op, V.str a0.Text, V.str a0.Other, .sl false false (a0.Kids.map encI)])] (by kernel_rfl) ?_
 rcases cond_some h with ⟨hc2, h⟩ | ⟨hc2, h⟩
 ·refine CodeOk.ifT hc2 (by kernel_rfl) ?_
  refine cu D_ok mix 1 102 (tl 31 [(4, V.bool false)]) [] (by kernel_rfl) ?_
  refine CodeOk.ret ?_
  have h := Option.some.inj h
  subst h
  exact Ends.gen [] (.inr rfl) (RetV.one rfl (OneR.tmp (t := 4) (r := V.bool false) (by kernel_rfl))) (by kernel_rfl) (by kernel_rfl) (by kernel_rfl)
 refine CodeOk.ifF hc2 (by kernel_rfl) ?_
 refine CodeOk.skip ?_
 refine CodeOk.seq' ?_
 refine cu D_ok mix 5 102 (tl 31 [(2, .loc 100 0), (3, .loc 101 0), (14, V.bool (a0.Op != a1.Op))]) [(101, .cells 60 [V.int a1.Kind, V.int a1.Op, V.str a1.Text, V.str a1.Other, .sl false false (a1.Kids.map encI)]), (100, .cells 60 [V.int a0.Kind, V.int a0.Op, V.str a0.Text, V.str a0.Other, .sl false false (a0.Kids.map encI)])] (by kernel_rfl) ?_
 rcases cond_some h with ⟨hc4, h⟩ | ⟨hc4, h⟩
 ·refine CodeOk.ifT hc4 (by kernel_rfl) ?_
  refine cu D_ok mix 1 102 (tl 31 [(4, V.bool false)]) [] (by kernel_rfl) ?_
  refine CodeOk.ret ?_
  have h := Option.some.inj h
  subst h
  exact Ends.gen [] (.inr rfl) (RetV.one rfl (OneR.tmp (t := 4) (r := V.bool false) (by kernel_rfl))) (by kernel_rfl) (by kernel_rfl) (by kernel_rfl)
 refine CodeOk.ifF hc4 (by kernel_rfl) ?_
 refine CodeOk.skip ?_
 refine CodeOk.seq' ?_
 refine cu D_ok mix 5 102 (tl 31 [(2, .loc 100 0), (3, .loc 101 0), (19, V.bool (!(a0.Text == a1.Text)))]) [(101, .cells 60 [V.int a1.Kind, V.int a1.Op, V.str a1.Text, V.str a1.Other, .sl false false (a1.Kids.map encI)]), (100, .cells 60 [V.int a0.Kind, V.int a0.Op, V.str a0.Text, V.str a0.Other, .sl false false (a0.Kids.map encI)])] (by kernel_rfl) ?_
 rcases cond_some h with ⟨hc6, h⟩ | ⟨hc6, h⟩
 ·refine CodeOk.ifT hc6 (by kernel_rfl) ?_
  refine cu D_ok mix 1 102 (tl 31 [(4, V.bool false)]) [] (by kernel_rfl) ?_
  refine CodeOk.ret ?_
  have h := Option.some.inj h
  subst h
  exact Ends.gen [] (.inr rfl) (RetV.one rfl (OneR.tmp (t := 4) (r := V.bool false) (by kernel_rfl))) (by kernel_rfl) (by kernel_rfl) (by kernel_rfl)
 refine CodeOk.ifF hc6 (by kernel_rfl) ?_
 refine CodeOk.skip ?_
 refine CodeOk.seq' ?_
 refine cu D_ok mix 5 102 (tl 31 [(2, .loc 100 0), (3, .loc 101 0), (24, V.bool (!(a0.Other == a1.Other)))]) [(101, .cells 60 [V.int a1.Kind, V.int a1.Op, V.str a1.Text, V.str a1.Other, .sl false false (a1.Kids.map encI)]), (100, .cells 60 [V.int a0.Kind, V.int a0.Op, V.str a0.Text, V.str a0.Other, .sl false false (a0.Kids.map encI)])] (by kernel_rfl) ?_
 rcases cond_some h with ⟨hc8, h⟩ | ⟨hc8, h⟩
 ·refine CodeOk.ifT hc8 (by kernel_rfl) ?_
  refine cu D_ok mix 1 102 (tl 31 [(4, V.bool false)]) [] (by kernel_rfl) ?_
  refine CodeOk.ret ?_
  have h := Option.some.inj h
  subst h
  exact Ends.gen [] (.inr rfl) (RetV.one rfl (OneR.tmp (t := 4) (r := V.bool false) (by kernel_rfl))) (by kernel_rfl) (by kernel_rfl) (by kernel_rfl)
 refine CodeOk.ifF hc8 (by kernel_rfl) ?_
 refine CodeOk.skip ?_
 refine CodeOk.seq' ?_
 obtain ⟨r4, hx13, h⟩ := bind_some h
 refine CodeOk.cutR (tl 31 [(30, V.bool (!r4))]) [] mix (by
  refine W.run D_ok 4 102 (by kernel_rfl) ?_
  refine W.call0 (m_laws_eqIntS_ok N a0.Kids a1.Kids hx13) cok67 rfl (by kernel_rfl) ?_
  refine W.run D_ok 1 102 (by kernel_rfl) ?_
  exact W.fi (by kernel_rfl)
  ) ?_
 rcases cond_some h with ⟨hc14, h⟩ | ⟨hc14, h⟩
 ·refine CodeOk.ifT hc14 (by kernel_rfl) ?_
  refine cu D_ok mix 1 102 (tl 31 [(4, V.bool false)]) [] (by kernel_rfl) ?_
  refine CodeOk.ret ?_
  have h := Option.some.inj h
  subst h
  exact Ends.gen [] (.inr rfl) (RetV.one rfl (OneR.tmp (t := 4) (r := V.bool false) (by kernel_rfl))) (by kernel_rfl) (by kernel_rfl) (by kernel_rfl)
 refine CodeOk.ifF hc14 (by kernel_rfl) ?_
 refine CodeOk.skip ?_
 refine cu D_ok mix 1 102 (tl 31 [(4, V.bool true)]) [] (by kernel_rfl) ?_
 refine CodeOk.ret ?_
 have h := Option.some.inj h
 subst h
 exact Ends.gen [] (.inr rfl) (RetV.one rfl (OneR.tmp (t := 4) (r := V.bool true) (by kernel_rfl))) (by kernel_rfl) (by kernel_rfl) (by kernel_rfl)

theorem m_laws_eqNodeS_ok (N : Nat) (a0 : List SNode) (a1 : List SNode) {r : Bool} (h : m_laws_eqNodeS N a0 a1 = some r) :
    AC Tryd.prog (GS []) 20 [.sl false false (a0.map (encSNode false)), .sl false false (a1.map (encSNode false))] [] (V.bool r) [] := by
 rw [m_laws_eqNodeS] at h
 refine AC.enter Tryd.func20 rfl ?_
 refine cu D_ok mix 1 100 (tl 27 [(0, .sl false false (a0.map (encSNode false))), (1, .sl false false (a1.map (encSNode false)))]) [] (by kernel_rfl) ?_
 refine CodeOk.seq' ?_
 refine CodeOk.cutR (tl 27 [(0, .sl false false (a0.map (encSNode false))), (1, .sl false false (a1.map (encSNode false))), (10, V.bool ((a0.length : Int) != (a1.length : Int)))]) [] mix (by
  refine W.run D_ok 1 100 (by kernel_rfl) ?_
  refine W.len D_ok (encSNode false) a0 [] (by kernel_rfl) (by kernel_rfl) ?_
  refine W.run D_ok 1 100 (by kernel_rfl) ?_
  refine W.len D_ok (encSNode false) a1 [] (by kernel_rfl) (by kernel_rfl) ?_
  refine W.run D_ok 1 100 (by kernel_rfl) ?_
  exact W.fi (by kernel_rfl)
  ) ?_
 rcases cond_some h with ⟨hc2, h⟩ | ⟨hc2, h⟩
 ·refine CodeOk.ifT hc2 (by kernel_rfl) ?_
  refine cu D_ok mix 1 100 (tl 27 [(4, V.bool false)]) [] (by kernel_rfl) ?_
  refine CodeOk.ret ?_
  have h := Option.some.inj h
  subst h
  exact Ends.gen [] (.inr rfl) (RetV.one rfl (OneR.tmp (t := 4) (r := V.bool false) (by kernel_rfl))) (by kernel_rfl) (by kernel_rfl) (by kernel_rfl)
 refine CodeOk.ifF hc2 (by kernel_rfl) ?_
 refine CodeOk.skip ?_
 refine CodeOk.seq' ?_
 refine cu D_ok mix 1 100 (tl 27 [(0, .sl false false (a0.map (encSNode false))), (1, .sl false false (a1.map (encSNode false))), (5, V.int 0)]) [] (by kernel_rfl) ?_
 refine CodeOk.block' ?_
 refine CodeOk.loopJ (fun (⟨a0, a1, y51⟩ : ((List SNode) × (List SNode) × Int)) => ⟨tl 27 [(0, .sl false false (a0.map (encSNode false))), (1, .sl false false (a1.map (encSNode false))), (5, V.int y51)], []⟩) (fun n i => m_laws_eqNodeS_l1 N n i = some r) (n0 := N) (i0 := (a0, a1, 0)) (Weak.sel [] [0, 1, 5] (by kernel_rfl) (by kernel_rfl) (by kernel_rfl)) h (fun i h => by simp [m_laws_eqNodeS_l1] at h) ?_
 rintro n1 ⟨a0, a1, y51⟩ h85 ih86
 rw [m_laws_eqNodeS_l1] at h85
 refine CodeOk.seq' ?_
 refine CodeOk.cutR (tl 27 [(0, .sl false false (a0.map (encSNode false))), (1, .sl false false (a1.map (encSNode false))), (5, V.int y51), (14, V.bool (decide (y51 < (a0.length : Int))))]) [] mix (by
  refine W.run D_ok 2 160 (by kernel_rfl) ?_
  refine W.len D_ok (encSNode false) a0 [] (by kernel_rfl) (by kernel_rfl) ?_
  refine W.run D_ok 1 160 (by kernel_rfl) ?_
  exact W.fi (by kernel_rfl)
  ) ?_
 rcases cond_some h85 with ⟨hc88, h85⟩ | ⟨hc88, h85⟩
 ·refine CodeOk.ifT hc88 (by kernel_rfl) ?_
  refine CodeOk.skip ?_
  refine CodeOk.seq' ?_
  refine CodeOk.block' ?_
  obtain ⟨e74, hx99, h85⟩ := bind_some h85
  obtain ⟨e75, hx100, h85⟩ := bind_some h85
  obtain ⟨r76, hx101, h85⟩ := bind_some h85
  refine CodeOk.cutR (tl 27 [(0, .sl false false (a0.map (encSNode false))), (1, .sl false false (a1.map (encSNode false))), (5, V.int y51), (26, V.bool (!r76))]) [] mix (by
   refine W.run D_ok 2 160 (by kernel_rfl) ?_
   refine W.ixD D_ok (encSNode false) hx99 5 (by kernel_rfl) (by kernel_rfl) ?_
   refine W.run D_ok 3 160 (by kernel_rfl) ?_
   refine W.ixD D_ok (encSNode false) hx100 5 (by kernel_rfl) (by kernel_rfl) ?_
   refine W.run D_ok 1 160 (by kernel_rfl) ?_
   refine W.call0 (m_laws_eqNode_ok N e74 e75 hx101) cok43 rfl (by kernel_rfl) ?_
   refine W.run D_ok 1 160 (by kernel_rfl) ?_
   exact W.fi (by kernel_rfl)
   ) ?_
  rcases cond_some h85 with ⟨hc102, h85⟩ | ⟨hc102, h85⟩
  ·refine CodeOk.ifT hc102 (by kernel_rfl) ?_
   refine cu D_ok mix 1 160 (tl 27 [(4, V.bool false)]) [] (by kernel_rfl) ?_
   refine CodeOk.ret ?_
   have h85 := Option.some.inj h85
   subst h85
   exact Ends.gen [] (.inr rfl) (RetV.one rfl (OneR.tmp (t := 4) (r := V.bool false) (by kernel_rfl))) (by kernel_rfl) (by kernel_rfl) (by kernel_rfl)
  refine CodeOk.ifF hc102 (by kernel_rfl) ?_
  refine CodeOk.skip ?_
  refine ce D_ok mix 3 160 (tl 27 [(0, .sl false false (a0.map (encSNode false))), (1, .sl false false (a1.map (encSNode false))), (5, V.int (IntKind.wrap .i64 (y51 + 1)))]) [] (by kernel_rfl) (fun st hw => ?_)
  exact ih86 (a0, a1, (IntKind.wrap .i64 (y51 + 1))) h85 _ (hw.trans (Weak.sel [] [0, 1, 5] (by kernel_rfl) (by kernel_rfl) (by kernel_rfl)))
 refine CodeOk.ifF hc88 (by kernel_rfl) ?_
 refine CodeOk.exit ?_
 refine cu D_ok mix 1 160 (tl 27 [(4, V.bool true)]) [] (by kernel_rfl) ?_
 refine CodeOk.ret ?_
 have h85 := Option.some.inj h85
 subst h85
 exact Ends.gen [] (.inr rfl) (RetV.one rfl (OneR.tmp (t := 4) (r := V.bool true) (by kernel_rfl))) (by kernel_rfl) (by kernel_rfl) (by kernel_rfl)

theorem m_laws_FnExactShowTree_ok (N : Nat) (a0 : List SNode) {r : Bool} (h : m_laws_FnExactShowTree N a0 = some r) :
    AC Tryd.prog (GS [0, 1, 2]) 5 [.sl false false (a0.map (encSNode false))] [] (V.bool r) [] := by
 rw [m_laws_FnExactShowTree] at h
 refine AC.enter Tryd.func5 rfl ?_
 refine cu D_ok mix 1 100 (tl 27 [(0, .sl false false (a0.map (encSNode false)))]) [] (by kernel_rfl) ?_
 refine cu D_ok mix 1 100 (tl 27 [(0, .sl false false (a0.map (encSNode false))), (3, V.int 1048576)]) [] (by kernel_rfl) ?_
 obtain ⟨r2, hx2, h⟩ := bind_some h
 refine CodeOk.cutR (tl 27 [(0, .sl false false (a0.map (encSNode false))), (3, V.int r2)]) [] mix (by
  refine W.run D_ok 2 100 (by kernel_rfl) ?_
  refine W.call0 (AC.gs (m_laws_szNodeS_ok N a0 1048576 hx2) (by decide)) cok16 rfl (by kernel_rfl) ?_
  refine W.run D_ok 1 100 (by kernel_rfl) ?_
  exact W.fi (by kernel_rfl)
  ) ?_
 refine CodeOk.seq' ?_
 refine cu D_ok mix 2 100 (tl 27 [(0, .sl false false (a0.map (encSNode false))), (11, V.bool (decide (r2 < 0)))]) [] (by kernel_rfl) ?_
 rcases cond_some h with ⟨hc4, h⟩ | ⟨hc4, h⟩
 ·refine CodeOk.ifT hc4 (by kernel_rfl) ?_
  refine cu D_ok mix 1 100 (tl 27 [(2, V.bool true)]) [] (by kernel_rfl) ?_
  refine CodeOk.ret ?_
  have h := Option.some.inj h
  subst h
  exact Ends.gen [] (.inr rfl) (RetV.one rfl (OneR.tmp (t := 2) (r := V.bool true) (by kernel_rfl))) (by kernel_rfl) (by kernel_rfl) (by kernel_rfl)
 refine CodeOk.ifF hc4 (by kernel_rfl) ?_
 refine CodeOk.skip ?_
 obtain ⟨r5, hx7, h⟩ := bind_some h
 obtain ⟨r6, hx8, h⟩ := bind_some h
 refine CodeOk.cutR (tl 27 [(0, .sl false false (a0.map (encSNode false))), (4, V.str r6)]) [] mix (by
  refine W.run D_ok 1 100 (by kernel_rfl) ?_
  refine W.call (AC.gs (m_laws_toNodeS_ok N a0 hx7) (by decide)) cok18 [] [(100, 100)] [100] (show LayOk _ [] from trivial) (by kernel_rfl) (by kernel_rfl) ?_
  refine W.lend (AC.gs (m_spec_ShowTree_ok N r5 hx8) (by decide)) cok17 [] [] (LayOk.cons (j := 100) (encSNode true) (encSNode false) r5 (by kernel_rfl) (share_encSNode _) (show LayOk _ [] from trivial)) (.c _) .nil (by kernel_rfl) (by kernel_rfl) ?_
  refine W.run D_ok 1 101 (by kernel_rfl) ?_
  exact W.fi (by kernel_rfl)
  ) ?_
 obtain ⟨r8, hx10, h⟩ := bind_some h
 refine CodeOk.cutR (tl 27 [(0, .sl false false (a0.map (encSNode false))), (4, V.str r6), (5, .own 101)]) [(101, .vec false 60 5 (r8.map (encSNode true)))] mix (by
  refine W.run D_ok 1 101 (by kernel_rfl) ?_
  refine W.call (AC.gs (m_laws_toNodeS_ok N a0 hx10) (by decide)) cok18 [] [(100, 101)] [101] (show LayOk _ [] from trivial) (by kernel_rfl) (by kernel_rfl) ?_
  refine W.run D_ok 1 102 (by kernel_rfl) ?_
  exact W.fi (by kernel_rfl)
  ) ?_
 obtain ⟨r10, hx12, h⟩ := bind_some h
 refine CodeOk.cutR (tl 27 [(0, .sl false false (a0.map (encSNode false))), (4, V.str r6), (5, .own 101), (6, V.str r10)]) [(101, .vec false 60 5 (r8.map (encSNode true)))] mix (by
  refine W.run D_ok 1 102 (by kernel_rfl) ?_
  refine W.lend (m_impl_ShowTree_ok N r8 hx12) cok19 [] [] (LayOk.cons (j := 101) (encSNode true) (encSNode false) r8 (by kernel_rfl) (share_encSNode _) (show LayOk _ [] from trivial)) (.c _) .nil (by kernel_rfl) (by kernel_rfl) ?_
  refine W.run D_ok 1 102 (by kernel_rfl) ?_
  exact W.fi (by kernel_rfl)
  ) ?_
 refine CodeOk.seq' ?_
 refine cu D_ok mix 3 102 (tl 27 [(0, .sl false false (a0.map (encSNode false))), (5, .own 101), (21, V.bool (!(r10 == r6)))]) [(101, .vec false 60 5 (r8.map (encSNode true)))] (by kernel_rfl) ?_
 rcases cond_some h with ⟨hc14, h⟩ | ⟨hc14, h⟩
 ·refine CodeOk.ifT hc14 (by kernel_rfl) ?_
  refine cu D_ok mix 1 102 (tl 27 [(2, V.bool false)]) [] (by kernel_rfl) ?_
  refine CodeOk.ret ?_
  have h := Option.some.inj h
  subst h
  exact Ends.gen [] (.inr rfl) (RetV.one rfl (OneR.tmp (t := 2) (r := V.bool false) (by kernel_rfl))) (by kernel_rfl) (by kernel_rfl) (by kernel_rfl)
 refine CodeOk.ifF hc14 (by kernel_rfl) ?_
 refine CodeOk.skip ?_
 refine CodeOk.seq' ?_
 obtain ⟨r17, hx22, h⟩ := bind_some h
 obtain ⟨r18, hx23, h⟩ := bind_some h
 refine CodeOk.cutR (tl 27 [(26, V.bool (!r18))]) [] mix (by
  refine W.run D_ok 2 102 (by kernel_rfl) ?_
  refine W.call (AC.gs (m_laws_toNodeS_ok N a0 hx22) (by decide)) cok18 [] [(100, 102)] [102] (show LayOk _ [] from trivial) (by kernel_rfl) (by kernel_rfl) ?_
  refine W.lend (AC.gs (m_laws_eqNodeS_ok N r8 r17 hx23) (by decide)) cok20 [] [] (LayOk.cons (j := 101) (encSNode true) (encSNode false) r8 (by kernel_rfl) (share_encSNode _) (LayOk.cons (j := 102) (encSNode true) (encSNode false) r17 (by kernel_rfl) (share_encSNode _) (show LayOk _ [] from trivial))) (.c _) .nil (by kernel_rfl) (by kernel_rfl) ?_
  refine W.run D_ok 1 103 (by kernel_rfl) ?_
  exact W.fi (by kernel_rfl)
  ) ?_
 rcases cond_some h with ⟨hc24, h⟩ | ⟨hc24, h⟩
 ·refine CodeOk.ifT hc24 (by kernel_rfl) ?_
  refine cu D_ok mix 1 103 (tl 27 [(2, V.bool false)]) [] (by kernel_rfl) ?_
  refine CodeOk.ret ?_
  have h := Option.some.inj h
  subst h
  exact Ends.gen [] (.inr rfl) (RetV.one rfl (OneR.tmp (t := 2) (r := V.bool false) (by kernel_rfl))) (by kernel_rfl) (by kernel_rfl) (by kernel_rfl)
 refine CodeOk.ifF hc24 (by kernel_rfl) ?_
 refine CodeOk.skip ?_
 refine cu D_ok mix 1 103 (tl 27 [(2, V.bool true)]) [] (by kernel_rfl) ?_
 refine CodeOk.ret ?_
 have h := Option.some.inj h
 subst h
 exact Ends.gen [] (.inr rfl) (RetV.one rfl (OneR.tmp (t := 2) (r := V.bool true) (by kernel_rfl))) (by kernel_rfl) (by kernel_rfl) (by kernel_rfl)

end Go.Proofs.Tryd
