/-
  The walks that show that the code computes the models, part 3.
-/
import Derived.Test.YtjmlnhngemeeaaaW2
namespace Go.Proofs.Try
open Go.Av
set_option maxRecDepth 100000

theorem m_impl_GroupsIn_ok (N : Nat) (a0 : List SDNode) {r : Int} (h : m_impl_GroupsIn N a0 = some r) :
    AC Try.prog GG 89 [.sl false false (a0.map (encSDNode false))] [] (V.int r) [] := by
  rw [m_impl_GroupsIn] at h
  refine AC.enter Try.func89 rfl ?_
  refine CodeOk.cutR (tl 19 [(0, .sl false false (a0.map (encSDNode false)))]) [] mix (by
      refine W.run D_ok 1 100 (by kernel_rfl) ?_
      exact W.fin (by decide) (by kernel_rfl) (Weak.sel [] [0] (by kernel_rfl) (by kernel_rfl) (by kernel_rfl))
      ) ?_
  refine CodeOk.cutR (tl 19 [(0, .sl false false (a0.map (encSDNode false))), (3, V.int 0)]) [] mix (by
      refine W.run D_ok 1 100 (by kernel_rfl) ?_
      exact W.fin (by decide) (by kernel_rfl) (Weak.sel [] [0, 3] (by kernel_rfl) (by kernel_rfl) (by kernel_rfl))
      ) ?_
  refine CodeOk.seq' ?_
  refine CodeOk.cutR (tl 19 [(3, V.int 0), (6, .sl false false (a0.map (encSDNode false))), (7, V.int (a0.length : Int)), (8, V.int 0)]) [] mix (by
      refine W.run D_ok 1 100 (by kernel_rfl) ?_
      refine W.len D_ok (encSDNode false) a0 [] (by kernel_rfl) (by kernel_rfl) ?_
      refine W.run D_ok 1 100 (by kernel_rfl) ?_
      exact W.fin (by decide) (by kernel_rfl) (Weak.sel [] [3, 6, 7, 8] (by kernel_rfl) (by kernel_rfl) (by kernel_rfl))
      ) ?_
  refine CodeOk.block' ?_
  refine CodeOk.loopJ (fun (⟨a0, y25, y26⟩ : ((List SDNode) × Int × Int)) => ⟨tl 19 [(3, V.int y25), (6, .sl false false (a0.map (encSDNode false))), (7, V.int (a0.length : Int)), (8, V.int y26)], []⟩) (fun n i => m_impl_GroupsIn_l1 N n i = some r) (n0 := N) (i0 := (a0, 0, 0)) (Weak.sel [] [3, 6, 7, 8] (by kernel_rfl) (by kernel_rfl) (by kernel_rfl)) h (fun i h => by simp [m_impl_GroupsIn_l1] at h) ?_
  rintro n1 ⟨a0, y25, y26⟩ h53 ih54
  rw [m_impl_GroupsIn_l1] at h53
  refine CodeOk.cutR (tl 19 [(3, V.int y25), (6, .sl false false (a0.map (encSDNode false))), (7, V.int (a0.length : Int)), (8, V.int y26), (9, V.bool (decide (y26 < (a0.length : Int))))]) [] mix (by
      refine W.run D_ok 1 162 (by kernel_rfl) ?_
      exact W.fin (by decide) (by kernel_rfl) (Weak.sel [] [3, 6, 7, 8, 9] (by kernel_rfl) (by kernel_rfl) (by kernel_rfl))
      ) ?_
  refine CodeOk.seq' ?_
  rcases cond_some h53 with ⟨hc56, h53⟩ | ⟨hc56, h53⟩
  · refine CodeOk.ifT hc56 (by kernel_rfl) ?_
    refine CodeOk.skip ?_
    refine CodeOk.weak (st' := ⟨tl 19 [(3, V.int y25), (6, .sl false false (a0.map (encSDNode false))), (7, V.int (a0.length : Int)), (8, V.int y26), (9, V.bool (decide (y26 < (a0.length : Int))))], []⟩) (Weak.refl _) ?_
    refine CodeOk.join (fun (⟨a0, y26, y36⟩ : ((List SDNode) × Int × Int)) => ⟨tl 19 [(3, V.int y36), (6, .sl false false (a0.map (encSDNode false))), (7, V.int (a0.length : Int)), (8, V.int y26)], []⟩) (fun i => m_impl_GroupsIn_k2 N (m_impl_GroupsIn_l1 N n1) i = some r) ?_ ?_
    · rintro ⟨a0, y26, y36⟩ h60
      rw [m_impl_GroupsIn_k2] at h60
      refine CodeOk.endR (tl 19 [(3, V.int y36), (6, .sl false false (a0.map (encSDNode false))), (7, V.int (a0.length : Int)), (8, V.int (IntKind.wrap .i64 (y26 + 1)))]) [] mix (by
          refine W.run D_ok 2 163 (by kernel_rfl) ?_
          exact W.fin (by decide) (by kernel_rfl) (Weak.sel [] [3, 6, 7, 8] (by kernel_rfl) (by kernel_rfl) (by kernel_rfl))
          ) (fun st hw => ?_)
      exact ih54 (a0, y36, (IntKind.wrap .i64 (y26 + 1))) h60 _ (hw.trans (Weak.sel [] [3, 6, 7, 8] (by kernel_rfl) (by kernel_rfl) (by kernel_rfl)))
    intro hk61
    refine CodeOk.block' ?_
    obtain ⟨e38, hx63, h53⟩ := bind_some h53
    refine CodeOk.cutR (tl 19 [(3, V.int y25), (5, .loc 162 0), (6, .sl false false (a0.map (encSDNode false))), (7, V.int (a0.length : Int)), (8, V.int y26)]) [(162, .cells 83 [V.int e38.Kind, V.int e38.N, V.str e38.Text, .sl false false (e38.Kids.map encI)])] mix (by
        refine W.ixD D_ok (encSDNode false) hx63 4 (by kernel_rfl) (by kernel_rfl) ?_
        refine W.run D_ok 3 162 (by kernel_rfl) ?_
        exact W.fin (by decide) (by kernel_rfl) (Weak.sel [(162, 162)] [3, 5, 6, 7, 8] (by kernel_rfl) (by kernel_rfl) (by kernel_rfl))
        ) ?_
    refine CodeOk.cutR (tl 19 [(3, V.int y25), (6, .sl false false (a0.map (encSDNode false))), (7, V.int (a0.length : Int)), (8, V.int y26), (14, V.bool (e38.Kind == 5))]) [] mix (by
        refine W.run D_ok 3 163 (by kernel_rfl) ?_
        exact W.fin (by decide) (by kernel_rfl) (Weak.sel [] [3, 6, 7, 8, 14] (by kernel_rfl) (by kernel_rfl) (by kernel_rfl))
        ) ?_
    rcases cond_some h53 with ⟨hc64, h53⟩ | ⟨hc64, h53⟩
    · refine CodeOk.ifT hc64 (by kernel_rfl) ?_
      refine CodeOk.endR (tl 19 [(3, V.int (IntKind.wrap .i64 (y25 + 1))), (6, .sl false false (a0.map (encSDNode false))), (7, V.int (a0.length : Int)), (8, V.int y26)]) [] mix (by
          refine W.run D_ok 3 163 (by kernel_rfl) ?_
          exact W.fin (by decide) (by kernel_rfl) (Weak.sel [] [3, 6, 7, 8] (by kernel_rfl) (by kernel_rfl) (by kernel_rfl))
          ) (fun st hw => ?_)
      exact hk61 (a0, y26, (IntKind.wrap .i64 (y25 + 1))) h53 _ (hw.trans (Weak.sel [] [3, 6, 7, 8] (by kernel_rfl) (by kernel_rfl) (by kernel_rfl)))
    · refine CodeOk.ifF hc64 (by kernel_rfl) ?_
      refine CodeOk.skip ?_
      exact hk61 (a0, y26, y25) h53 _ (Weak.sel [] [3, 6, 7, 8] (by kernel_rfl) (by kernel_rfl) (by kernel_rfl))
  · refine CodeOk.ifF hc56 (by kernel_rfl) ?_
    refine CodeOk.exit ?_
    refine CodeOk.weak (st' := ⟨tl 19 [(3, V.int y25), (6, .sl false false (a0.map (encSDNode false))), (7, V.int (a0.length : Int)), (8, V.int y26), (9, V.bool (decide (y26 < (a0.length : Int))))], []⟩) (Weak.refl _) ?_
    refine CodeOk.cutR (tl 19 [(2, V.int y25)]) [] mix (by
        refine W.run D_ok 2 162 (by kernel_rfl) ?_
        exact W.fin (by decide) (by kernel_rfl) (Weak.sel [] [2] (by kernel_rfl) (by kernel_rfl) (by kernel_rfl))
        ) ?_
    refine CodeOk.ret ?_
    have h53 := Option.some.inj h53
    subst h53
    exact Ends.gen [] (.inr rfl) (RetV.one rfl (OneR.tmp (t := 2) (r := V.int y25) (by kernel_rfl))) (by kernel_rfl) (by kernel_rfl) (by kernel_rfl)

structure RecOk1 (R : Rec1) : Prop where
  m_impl_docAt : ∀ (a0 : List SDNode) (a1 : Int) (r : SDoc), R.m_impl_docAt a0 a1 = some r → AC Try.prog GG 83 [.sl false false (a0.map (encSDNode false)), V.int a1] [] (.agg [V.int r.kind, V.int r.n, V.str r.text, .sl false false (r.kids.map encSDoc), V.int r.group]) []

theorem m_impl_docAt_F_ok (N : Nat) (R : Rec1) (HR : RecOk1 R) (a0 : List SDNode) (a1 : Int) {r : SDoc} (h : m_impl_docAt_F N R a0 a1 = some r) :
    AC Try.prog GG 83 [.sl false false (a0.map (encSDNode false)), V.int a1] [] (.agg [V.int r.kind, V.int r.n, V.str r.text, .sl false false (r.kids.map encSDoc), V.int r.group]) [] := by
  rw [m_impl_docAt_F] at h
  refine AC.enter Try.func83 rfl ?_
  refine CodeOk.cutR (tl 41 [(0, .sl false false (a0.map (encSDNode false))), (1, V.int a1), (4, .loc 100 0)]) [(100, .cells 90 [V.int 0, V.int 0, V.str [], .c (.slice none 0 0), V.int 0])] mix (by
      refine W.run D_ok 1 100 (by kernel_rfl) ?_
      exact W.fin (by decide) (by kernel_rfl) (Weak.sel [(100, 100)] [0, 1, 4] (by kernel_rfl) (by kernel_rfl) (by kernel_rfl))
      ) ?_
  obtain ⟨e2, hx2, h⟩ := bind_some h
  refine CodeOk.cutR (tl 41 [(0, .sl false false (a0.map (encSDNode false))), (1, V.int a1), (4, .loc 100 0), (5, .loc 101 0)]) [(101, .cells 83 [V.int e2.Kind, V.int e2.N, V.str e2.Text, .sl false false (e2.Kids.map encI)]), (100, .cells 90 [V.int 0, V.int 0, V.str [], .c (.slice none 0 0), V.int 0])] mix (by
      refine W.run D_ok 2 101 (by kernel_rfl) ?_
      refine W.ixD D_ok (encSDNode false) hx2 4 (by kernel_rfl) (by kernel_rfl) ?_
      refine W.run D_ok 3 101 (by kernel_rfl) ?_
      exact W.fin (by decide) (by kernel_rfl) (Weak.sel [(101, 101), (100, 100)] [0, 1, 4, 5] (by kernel_rfl) (by kernel_rfl) (by kernel_rfl))
      ) ?_
  obtain ⟨l5, hx5, h⟩ := bind_some h
  obtain ⟨r6, hx6, h⟩ := bind_some h
  refine CodeOk.cutR (tl 41 [(0, .sl false false (a0.map (encSDNode false))), (4, .loc 100 0), (5, .loc 101 0), (6, .loc 102 0)]) [(102, .cells 90 [V.int e2.Kind, V.int e2.N, V.str e2.Text, .c (.slice none 0 0), V.int r6]), (101, .cells 83 [V.int e2.Kind, V.int e2.N, V.str e2.Text, .sl false false (e2.Kids.map encI)]), (100, .cells 90 [V.int 0, V.int 0, V.str [], .c (.slice none 0 0), V.int 0])] mix (by
      refine W.run D_ok 8 102 (by kernel_rfl) ?_
      refine W.cutD D_ok (encSDNode false) hx5 false 4 (fun _ => by first | rfl | kernel_rfl) (by kernel_rfl) ?_
      refine W.call0 (m_impl_GroupsIn_ok N l5 hx6) cok89 rfl (by kernel_rfl) ?_
      refine W.run D_ok 3 102 (by kernel_rfl) ?_
      exact W.fin (by decide) (by kernel_rfl) (Weak.sel [(102, 102), (101, 101), (100, 100)] [0, 4, 5, 6] (by kernel_rfl) (by kernel_rfl) (by kernel_rfl))
      ) ?_
  refine CodeOk.seq' ?_
  refine CodeOk.cutR (tl 41 [(0, .sl false false (a0.map (encSDNode false))), (4, .loc 100 0), (6, .loc 102 0), (25, .sl false false (e2.Kids.map encI)), (26, V.int (e2.Kids.length : Int)), (27, V.int 0)]) [(102, .cells 90 [V.int e2.Kind, V.int e2.N, V.str e2.Text, .c (.slice none 0 0), V.int r6]), (100, .cells 90 [V.int 0, V.int 0, V.str [], .c (.slice none 0 0), V.int 0])] mix (by
      refine W.run D_ok 2 103 (by kernel_rfl) ?_
      refine W.len D_ok encI e2.Kids [] (by kernel_rfl) (by kernel_rfl) ?_
      refine W.run D_ok 1 103 (by kernel_rfl) ?_
      exact W.fin (by decide) (by kernel_rfl) (Weak.sel [(102, 102), (100, 100)] [0, 4, 6, 25, 26, 27] (by kernel_rfl) (by kernel_rfl) (by kernel_rfl))
      ) ?_
  refine CodeOk.block' ?_
  refine CodeOk.loopJ (fun (⟨a0, e2, r6, y67, y68⟩ : ((List SDNode) × SDNode × Int × Int × (List SDoc))) => ⟨tl 41 [(0, .sl false false (a0.map (encSDNode false))), (4, .loc 100 0), (6, .loc 101 0), (25, .sl false false (e2.Kids.map encI)), (26, V.int (e2.Kids.length : Int)), (27, V.int y67)], [(100, .cells 90 [V.int 0, V.int 0, V.str [], .c (.slice none 0 0), V.int 0]), (101, .cells 90 [V.int e2.Kind, V.int e2.N, V.str e2.Text, .own 102, V.int r6]), (102, .vec false 90 5 (y68.map encSDoc))]⟩) (fun n i => m_impl_docAt_l1 N R n i = some r) (n0 := N) (i0 := (a0, e2, r6, 0, [])) ((Weak.nilCell 102 3 103 90 5 (ety := 90) (cs := [V.int e2.Kind, V.int e2.N, V.str e2.Text, .c (.slice none 0 0), V.int r6]) (by kernel_rfl) (by kernel_rfl) (by kernel_rfl)).trans (Weak.sel [(100, 100), (102, 101), (103, 102)] [0, 4, 6, 25, 26, 27] (by kernel_rfl) (by kernel_rfl) (by kernel_rfl))) h (fun i h => by simp [m_impl_docAt_l1] at h) ?_
  rintro n1 ⟨a0, e2, r6, y67, y68⟩ h87 ih88
  rw [m_impl_docAt_l1] at h87
  refine CodeOk.cutR (tl 41 [(0, .sl false false (a0.map (encSDNode false))), (4, .loc 100 0), (6, .loc 101 0), (25, .sl false false (e2.Kids.map encI)), (26, V.int (e2.Kids.length : Int)), (27, V.int y67), (28, V.bool (decide (y67 < (e2.Kids.length : Int))))]) [(100, .cells 90 [V.int 0, V.int 0, V.str [], .c (.slice none 0 0), V.int 0]), (101, .cells 90 [V.int e2.Kind, V.int e2.N, V.str e2.Text, .own 102, V.int r6]), (102, .vec false 90 5 (y68.map encSDoc))] mix (by
      refine W.run D_ok 1 168 (by kernel_rfl) ?_
      exact W.fin (by decide) (by kernel_rfl) (Weak.sel [(100, 100), (101, 101), (102, 102)] [0, 4, 6, 25, 26, 27, 28] (by kernel_rfl) (by kernel_rfl) (by kernel_rfl))
      ) ?_
  refine CodeOk.seq' ?_
  rcases cond_some h87 with ⟨hc90, h87⟩ | ⟨hc90, h87⟩
  · refine CodeOk.ifT hc90 (by kernel_rfl) ?_
    refine CodeOk.skip ?_
    refine CodeOk.weak (st' := ⟨tl 41 [(0, .sl false false (a0.map (encSDNode false))), (4, .loc 100 0), (6, .loc 101 0), (25, .sl false false (e2.Kids.map encI)), (26, V.int (e2.Kids.length : Int)), (27, V.int y67), (28, V.bool (decide (y67 < (e2.Kids.length : Int))))], [(100, .cells 90 [V.int 0, V.int 0, V.str [], .c (.slice none 0 0), V.int 0]), (101, .cells 90 [V.int e2.Kind, V.int e2.N, V.str e2.Text, .own 102, V.int r6]), (102, .vec false 90 5 (y68.map encSDoc))]⟩) (Weak.refl _) ?_
    refine CodeOk.seq' ?_
    refine CodeOk.block' ?_
    obtain ⟨e90, hx98, h87⟩ := bind_some h87
    refine CodeOk.cutR (tl 41 [(0, .sl false false (a0.map (encSDNode false))), (4, .loc 100 0), (6, .loc 101 0), (8, V.int e90), (25, .sl false false (e2.Kids.map encI)), (26, V.int (e2.Kids.length : Int)), (27, V.int y67)]) [(100, .cells 90 [V.int 0, V.int 0, V.str [], .c (.slice none 0 0), V.int 0]), (101, .cells 90 [V.int e2.Kind, V.int e2.N, V.str e2.Text, .own 102, V.int r6]), (102, .vec false 90 5 (y68.map encSDoc))] mix (by
        refine W.ixD D_ok encI hx98 1 (by kernel_rfl) (by kernel_rfl) ?_
        refine W.run D_ok 2 168 (by kernel_rfl) ?_
        exact W.fin (by decide) (by kernel_rfl) (Weak.sel [(100, 100), (101, 101), (102, 102)] [0, 4, 6, 8, 25, 26, 27] (by kernel_rfl) (by kernel_rfl) (by kernel_rfl))
        ) ?_
    obtain ⟨r93, hx101, h87⟩ := bind_some h87
    obtain ⟨x94, hx102, h87⟩ := bind_some h87
    refine CodeOk.endR (tl 41 [(0, .sl false false (a0.map (encSDNode false))), (4, .loc 100 0), (6, .loc 101 0), (25, .sl false false (e2.Kids.map encI)), (26, V.int (e2.Kids.length : Int)), (27, V.int y67)]) [(101, .cells 90 [V.int e2.Kind, V.int e2.N, V.str e2.Text, .own 169, V.int r6]), (169, .vec false 90 5 (x94.map encSDoc)), (100, .cells 90 [V.int 0, V.int 0, V.str [], .c (.slice none 0 0), V.int 0])] mix (by
        refine W.run D_ok 4 168 (by kernel_rfl) ?_
        refine W.call0 (HR.m_impl_docAt a0 e90 _ hx101) cok83 rfl (by kernel_rfl) ?_
        refine W.layop D_ok (show LayOk _ [] from trivial) (by kernel_rfl) 168 { v := .own 168, R := [], new := [(168, .vec true 90 5 [[V.int r93.kind, V.int r93.n, V.str r93.text, .sl false false (r93.kids.map encSDoc), V.int r93.group]])], N := [168] } (by kernel_rfl) ?_
        refine W.vecEq 168 (nn := true) (e := 90) (k := 5) (rows := [[V.int r93.kind, V.int r93.n, V.str r93.text, .sl false false (r93.kids.map encSDoc), V.int r93.group]]) (rows' := [r93].map encSDoc) (by kernel_rfl) (by simp only [List.map_cons, List.map_nil, encSDoc_eq]) ?_
        refine W.appO D_ok encSDoc (a := 102) (c := 168) (el := 90) (sz := 5) 64 hx102 rfl 169 (by kernel_rfl) ?_
        refine W.run D_ok 2 170 (by kernel_rfl) ?_
        exact W.fin (by decide) (by kernel_rfl) (Weak.sel [(101, 101), (169, 169), (100, 100)] [0, 4, 6, 25, 26, 27] (by kernel_rfl) (by kernel_rfl) (by kernel_rfl))
        ) (fun st hw => ?_)
    refine CodeOk.weak (st' := ⟨tl 41 [(0, .sl false false (a0.map (encSDNode false))), (4, .loc 100 0), (6, .loc 101 0), (25, .sl false false (e2.Kids.map encI)), (26, V.int (e2.Kids.length : Int)), (27, V.int y67)], [(101, .cells 90 [V.int e2.Kind, V.int e2.N, V.str e2.Text, .own 169, V.int r6]), (169, .vec false 90 5 (x94.map encSDoc)), (100, .cells 90 [V.int 0, V.int 0, V.str [], .c (.slice none 0 0), V.int 0])]⟩) hw ?_
    refine CodeOk.endR (tl 41 [(0, .sl false false (a0.map (encSDNode false))), (4, .loc 100 0), (6, .loc 101 0), (25, .sl false false (e2.Kids.map encI)), (26, V.int (e2.Kids.length : Int)), (27, V.int (IntKind.wrap .i64 (y67 + 1)))]) [(101, .cells 90 [V.int e2.Kind, V.int e2.N, V.str e2.Text, .own 169, V.int r6]), (169, .vec false 90 5 (x94.map encSDoc)), (100, .cells 90 [V.int 0, V.int 0, V.str [], .c (.slice none 0 0), V.int 0])] mix (by
        refine W.run D_ok 2 170 (by kernel_rfl) ?_
        exact W.fin (by decide) (by kernel_rfl) (Weak.sel [(101, 101), (169, 169), (100, 100)] [0, 4, 6, 25, 26, 27] (by kernel_rfl) (by kernel_rfl) (by kernel_rfl))
        ) (fun st hw => ?_)
    exact ih88 (a0, e2, r6, (IntKind.wrap .i64 (y67 + 1)), x94) h87 _ (hw.trans (Weak.sel [(100, 100), (101, 101), (169, 102)] [0, 4, 6, 25, 26, 27] (by kernel_rfl) (by kernel_rfl) (by kernel_rfl)))
  · refine CodeOk.ifF hc90 (by kernel_rfl) ?_
    refine CodeOk.exit ?_
    refine CodeOk.weak (st' := ⟨tl 41 [(0, .sl false false (a0.map (encSDNode false))), (4, .loc 100 0), (6, .loc 101 0), (25, .sl false false (e2.Kids.map encI)), (26, V.int (e2.Kids.length : Int)), (27, V.int y67), (28, V.bool (decide (y67 < (e2.Kids.length : Int))))], [(100, .cells 90 [V.int 0, V.int 0, V.str [], .c (.slice none 0 0), V.int 0]), (101, .cells 90 [V.int e2.Kind, V.int e2.N, V.str e2.Text, .own 102, V.int r6]), (102, .vec false 90 5 (y68.map encSDoc))]⟩) (Weak.refl _) ?_
    refine CodeOk.cutR (tl 41 [(4, .loc 100 0)]) [(100, .cells 90 [V.int e2.Kind, V.int e2.N, V.str e2.Text, .own 102, V.int r6]), (102, .vec false 90 5 (y68.map encSDoc))] mix (by
        refine W.run D_ok 2 168 (by kernel_rfl) ?_
        exact W.fin (by decide) (by kernel_rfl) (Weak.sel [(100, 100), (102, 102)] [4] (by kernel_rfl) (by kernel_rfl) (by kernel_rfl))
        ) ?_
    refine CodeOk.lay (tl 41 [(4, .loc 100 0)]) [(100, .cells 90 [V.int e2.Kind, V.int e2.N, V.str e2.Text, .sl false false (y68.map encSDoc), V.int r6])] (LayOk.cons (j := 102) encSDoc encSDoc y68 (by kernel_rfl) (share_encSDoc) (show LayOk _ [] from trivial)) (by kernel_rfl) (by kernel_rfl) (by kernel_rfl) ?_
    refine CodeOk.ret ?_
    have h87 := Option.some.inj h87
    subst h87
    exact Ends.gen [] (.inr rfl) (RetV.one rfl (OneR.cell D_ok (r := .agg [V.int e2.Kind, V.int e2.N, V.str e2.Text, .sl false false (y68.map encSDoc), V.int r6]) (i := 100) (ety := 90) (cs := [V.int e2.Kind, V.int e2.N, V.str e2.Text, .sl false false (y68.map encSDoc), V.int r6]) (by kernel_rfl) (by kernel_rfl) (by kernel_rfl))) (by kernel_rfl) (by kernel_rfl) (by kernel_rfl)

theorem scc1_ok : ∀ N, RecOk1 (scc1 N)
  | 0 => ⟨fun _ _ _ h => by cases h⟩
  | N + 1 => ⟨fun a0 a1 _ h => m_impl_docAt_F_ok N (scc1 N) (scc1_ok N) a0 a1 h⟩

theorem m_impl_docAt_ok (N : Nat) (a0 : List SDNode) (a1 : Int) {r : SDoc} (h : m_impl_docAt N a0 a1 = some r) :
    AC Try.prog GG 83 [.sl false false (a0.map (encSDNode false)), V.int a1] [] (.agg [V.int r.kind, V.int r.n, V.str r.text, .sl false false (r.kids.map encSDoc), V.int r.group]) [] :=
  (scc1_ok N).m_impl_docAt a0 a1 r h

theorem m_impl_docOf_ok (N : Nat) (a0 : List SDNode) {r : SDoc} (h : m_impl_docOf N a0 = some r) :
    AC Try.prog GG 70 [.sl false false (a0.map (encSDNode false))] [] (.agg [V.int r.kind, V.int r.n, V.str r.text, .sl false false (r.kids.map encSDoc), V.int r.group]) [] := by
  rw [m_impl_docOf] at h
  refine AC.enter Try.func70 rfl ?_
  refine CodeOk.cutR (tl 8 [(0, .sl false false (a0.map (encSDNode false))), (2, .loc 100 0)]) [(100, .cells 90 [V.int 0, V.int 0, V.str [], .c (.slice none 0 0), V.int 0])] mix (by
      refine W.run D_ok 1 100 (by kernel_rfl) ?_
      exact W.fin (by decide) (by kernel_rfl) (Weak.sel [(100, 100)] [0, 2] (by kernel_rfl) (by kernel_rfl) (by kernel_rfl))
      ) ?_
  obtain ⟨r2, hx2, h⟩ := bind_some h
  refine CodeOk.cutR (tl 8 [(2, .loc 100 0)]) [(100, .cells 90 [V.int r2.kind, V.int r2.n, V.str r2.text, .sl false false (r2.kids.map encSDoc), V.int r2.group])] mix (by
      refine W.run D_ok 2 101 (by kernel_rfl) ?_
      refine W.len D_ok (encSDNode false) a0 [] (by kernel_rfl) (by kernel_rfl) ?_
      refine W.run D_ok 1 101 (by kernel_rfl) ?_
      refine W.call0 (m_impl_docAt_ok N a0 (IntKind.wrap .i64 ((a0.length : Int) - 1)) hx2) cok83 rfl (by kernel_rfl) ?_
      refine W.run D_ok 1 101 (by kernel_rfl) ?_
      exact W.fin (by decide) (by kernel_rfl) (Weak.sel [(100, 100)] [2] (by kernel_rfl) (by kernel_rfl) (by kernel_rfl))
      ) ?_
  refine CodeOk.ret ?_
  have h := Option.some.inj h
  subst h
  exact Ends.gen [] (.inr rfl) (RetV.one rfl (OneR.cell D_ok (r := .agg [V.int r2.kind, V.int r2.n, V.str r2.text, .sl false false (r2.kids.map encSDoc), V.int r2.group]) (i := 100) (ety := 90) (cs := [V.int r2.kind, V.int r2.n, V.str r2.text, .sl false false (r2.kids.map encSDoc), V.int r2.group]) (by kernel_rfl) (by kernel_rfl) (by kernel_rfl))) (by kernel_rfl) (by kernel_rfl) (by kernel_rfl)

structure RecOk2 (R : Rec2) : Prop where
  m_impl_doc__add : ∀ (a0 : SDoc) (p0 : List SDNode) (r : (List SDNode)), R.m_impl_doc__add a0 p0 = some r → AC Try.prog GG 84 [.agg [V.int a0.kind, V.int a0.n, V.str a0.text, .sl false false (a0.kids.map encSDoc), V.int a0.group], .own 0] [(0, .vec false 83 4 (p0.map (encSDNode true)))] (.own 100) [(100, .vec false 83 4 (r.map (encSDNode true)))]

theorem m_impl_doc__add_F_ok (N : Nat) (R : Rec2) (HR : RecOk2 R) (a0 : SDoc) (p0 : List SDNode) {r : (List SDNode)} (h : m_impl_doc__add_F N R a0 p0 = some r) :
    AC Try.prog GG 84 [.agg [V.int a0.kind, V.int a0.n, V.str a0.text, .sl false false (a0.kids.map encSDoc), V.int a0.group], .own 0] [(0, .vec false 83 4 (p0.map (encSDNode true)))] (.own 100) [(100, .vec false 83 4 (r.map (encSDNode true)))] := by
  rw [m_impl_doc__add_F] at h
  refine AC.enter Try.func84 rfl ?_
  refine CodeOk.cutR (tl 38 [(1, .own 0), (2, .loc 100 0)]) [(100, .cells 90 [V.int a0.kind, V.int a0.n, V.str a0.text, .sl false false (a0.kids.map encSDoc), V.int a0.group]), (0, .vec false 83 4 (p0.map (encSDNode true)))] mix (by
      refine W.run D_ok 2 100 (by kernel_rfl) ?_
      exact W.fin (by decide) (by kernel_rfl) (Weak.sel [(100, 100), (0, 0)] [1, 2] (by kernel_rfl) (by kernel_rfl) (by kernel_rfl))
      ) ?_
  refine CodeOk.cutR (tl 38 [(1, .own 0), (2, .loc 100 0), (5, .loc 101 0)]) [(101, .cells 83 [V.int a0.kind, V.int a0.n, V.str a0.text, .c (.slice none 0 0)]), (100, .cells 90 [V.int a0.kind, V.int a0.n, V.str a0.text, .sl false false (a0.kids.map encSDoc), V.int a0.group]), (0, .vec false 83 4 (p0.map (encSDNode true)))] mix (by
      refine W.run D_ok 9 101 (by kernel_rfl) ?_
      exact W.fin (by decide) (by kernel_rfl) (Weak.sel [(101, 101), (100, 100), (0, 0)] [1, 2, 5] (by kernel_rfl) (by kernel_rfl) (by kernel_rfl))
      ) ?_
  refine CodeOk.seq' ?_
  refine CodeOk.cutR (tl 38 [(1, .own 0), (5, .loc 101 0), (16, .sl false false (a0.kids.map encSDoc)), (17, V.int (a0.kids.length : Int)), (18, V.int 0)]) [(101, .cells 83 [V.int a0.kind, V.int a0.n, V.str a0.text, .c (.slice none 0 0)]), (0, .vec false 83 4 (p0.map (encSDNode true)))] mix (by
      refine W.run D_ok 2 102 (by kernel_rfl) ?_
      refine W.len D_ok encSDoc a0.kids [] (by kernel_rfl) (by kernel_rfl) ?_
      refine W.run D_ok 1 102 (by kernel_rfl) ?_
      exact W.fin (by decide) (by kernel_rfl) (Weak.sel [(101, 101), (0, 0)] [1, 5, 16, 17, 18] (by kernel_rfl) (by kernel_rfl) (by kernel_rfl))
      ) ?_
  refine CodeOk.block' ?_
  refine CodeOk.loopJ (fun (⟨a0, y59, y60, y61⟩ : (SDoc × Int × (List SDNode) × (List Int))) => ⟨tl 38 [(1, .own 100), (5, .loc 101 0), (16, .sl false false (a0.kids.map encSDoc)), (17, V.int (a0.kids.length : Int)), (18, V.int y59)], [(100, .vec false 83 4 (y60.map (encSDNode true))), (101, .cells 83 [V.int a0.kind, V.int a0.n, V.str a0.text, .own 102]), (102, .vec false 3 1 (y61.map encI))]⟩) (fun n i => m_impl_doc__add_l1 N R n i = some r) (n0 := N) (i0 := (a0, 0, p0, [])) ((Weak.nilCell 101 3 102 3 1 (ety := 83) (cs := [V.int a0.kind, V.int a0.n, V.str a0.text, .c (.slice none 0 0)]) (by kernel_rfl) (by kernel_rfl) (by kernel_rfl)).trans (Weak.sel [(0, 100), (101, 101), (102, 102)] [1, 5, 16, 17, 18] (by kernel_rfl) (by kernel_rfl) (by kernel_rfl))) h (fun i h => by simp [m_impl_doc__add_l1] at h) ?_
  rintro n1 ⟨a0, y59, y60, y61⟩ h77 ih78
  rw [m_impl_doc__add_l1] at h77
  refine CodeOk.cutR (tl 38 [(1, .own 100), (5, .loc 101 0), (16, .sl false false (a0.kids.map encSDoc)), (17, V.int (a0.kids.length : Int)), (18, V.int y59), (19, V.bool (decide (y59 < (a0.kids.length : Int))))]) [(100, .vec false 83 4 (y60.map (encSDNode true))), (101, .cells 83 [V.int a0.kind, V.int a0.n, V.str a0.text, .own 102]), (102, .vec false 3 1 (y61.map encI))] mix (by
      refine W.run D_ok 1 171 (by kernel_rfl) ?_
      exact W.fin (by decide) (by kernel_rfl) (Weak.sel [(100, 100), (101, 101), (102, 102)] [1, 5, 16, 17, 18, 19] (by kernel_rfl) (by kernel_rfl) (by kernel_rfl))
      ) ?_
  refine CodeOk.seq' ?_
  rcases cond_some h77 with ⟨hc80, h77⟩ | ⟨hc80, h77⟩
  · refine CodeOk.ifT hc80 (by kernel_rfl) ?_
    refine CodeOk.skip ?_
    refine CodeOk.weak (st' := ⟨tl 38 [(1, .own 100), (5, .loc 101 0), (16, .sl false false (a0.kids.map encSDoc)), (17, V.int (a0.kids.length : Int)), (18, V.int y59), (19, V.bool (decide (y59 < (a0.kids.length : Int))))], [(100, .vec false 83 4 (y60.map (encSDNode true))), (101, .cells 83 [V.int a0.kind, V.int a0.n, V.str a0.text, .own 102]), (102, .vec false 3 1 (y61.map encI))]⟩) (Weak.refl _) ?_
    refine CodeOk.seq' ?_
    refine CodeOk.block' ?_
    obtain ⟨e84, hx88, h77⟩ := bind_some h77
    refine CodeOk.cutR (tl 38 [(1, .own 100), (5, .loc 101 0), (7, .loc 171 0), (16, .sl false false (a0.kids.map encSDoc)), (17, V.int (a0.kids.length : Int)), (18, V.int y59)]) [(171, .cells 90 [V.int e84.kind, V.int e84.n, V.str e84.text, .sl false false (e84.kids.map encSDoc), V.int e84.group]), (100, .vec false 83 4 (y60.map (encSDNode true))), (101, .cells 83 [V.int a0.kind, V.int a0.n, V.str a0.text, .own 102]), (102, .vec false 3 1 (y61.map encI))] mix (by
        refine W.ixDr D_ok encSDoc hx88 5 (by kernel_rfl) (encSDoc_eq e84) (by kernel_rfl) ?_
        refine W.run D_ok 3 171 (by kernel_rfl) ?_
        exact W.fin (by decide) (by kernel_rfl) (Weak.sel [(171, 171), (100, 100), (101, 101), (102, 102)] [1, 5, 7, 16, 17, 18] (by kernel_rfl) (by kernel_rfl) (by kernel_rfl))
        ) ?_
    obtain ⟨r86, hx90, h77⟩ := bind_some h77
    refine CodeOk.cutR (tl 38 [(1, .own 172), (5, .loc 101 0), (16, .sl false false (a0.kids.map encSDoc)), (17, V.int (a0.kids.length : Int)), (18, V.int y59)]) [(172, .vec false 83 4 (r86.map (encSDNode true))), (101, .cells 83 [V.int a0.kind, V.int a0.n, V.str a0.text, .own 102]), (102, .vec false 3 1 (y61.map encI))] mix (by
        refine W.run D_ok 2 172 (by kernel_rfl) ?_
        refine W.call (HR.m_impl_doc__add e84 y60 _ hx90) cok84 [(100, 0)] [(100, 172)] [172] (show LayOk _ [] from trivial) (by kernel_rfl) (by kernel_rfl) ?_
        refine W.run D_ok 1 173 (by kernel_rfl) ?_
        exact W.fin (by decide) (by kernel_rfl) (Weak.sel [(172, 172), (101, 101), (102, 102)] [1, 5, 16, 17, 18] (by kernel_rfl) (by kernel_rfl) (by kernel_rfl))
        ) ?_
    obtain ⟨x88, hx92, h77⟩ := bind_some h77
    refine CodeOk.endR (tl 38 [(1, .own 172), (5, .loc 101 0), (16, .sl false false (a0.kids.map encSDoc)), (17, V.int (a0.kids.length : Int)), (18, V.int y59)]) [(101, .cells 83 [V.int a0.kind, V.int a0.n, V.str a0.text, .own 174]), (174, .vec false 3 1 (x88.map encI)), (172, .vec false 83 4 (r86.map (encSDNode true)))] mix (by
        refine W.run D_ok 3 173 (by kernel_rfl) ?_
        refine W.len D_ok (encSDNode true) r86 [172] (by kernel_rfl) (by kernel_rfl) ?_
        refine W.run D_ok 2 173 (by kernel_rfl) ?_
        refine W.appO D_ok encI (a := 102) (c := 173) (el := 3) (sz := 1) 8 hx92 rfl 174 (by kernel_rfl) ?_
        refine W.run D_ok 2 175 (by kernel_rfl) ?_
        exact W.fin (by decide) (by kernel_rfl) (Weak.sel [(101, 101), (174, 174), (172, 172)] [1, 5, 16, 17, 18] (by kernel_rfl) (by kernel_rfl) (by kernel_rfl))
        ) (fun st hw => ?_)
    refine CodeOk.weak (st' := ⟨tl 38 [(1, .own 172), (5, .loc 101 0), (16, .sl false false (a0.kids.map encSDoc)), (17, V.int (a0.kids.length : Int)), (18, V.int y59)], [(101, .cells 83 [V.int a0.kind, V.int a0.n, V.str a0.text, .own 174]), (174, .vec false 3 1 (x88.map encI)), (172, .vec false 83 4 (r86.map (encSDNode true)))]⟩) hw ?_
    refine CodeOk.endR (tl 38 [(1, .own 172), (5, .loc 101 0), (16, .sl false false (a0.kids.map encSDoc)), (17, V.int (a0.kids.length : Int)), (18, V.int (IntKind.wrap .i64 (y59 + 1)))]) [(101, .cells 83 [V.int a0.kind, V.int a0.n, V.str a0.text, .own 174]), (174, .vec false 3 1 (x88.map encI)), (172, .vec false 83 4 (r86.map (encSDNode true)))] mix (by
        refine W.run D_ok 2 175 (by kernel_rfl) ?_
        exact W.fin (by decide) (by kernel_rfl) (Weak.sel [(101, 101), (174, 174), (172, 172)] [1, 5, 16, 17, 18] (by kernel_rfl) (by kernel_rfl) (by kernel_rfl))
        ) (fun st hw => ?_)
    exact ih78 (a0, (IntKind.wrap .i64 (y59 + 1)), r86, x88) h77 _ (hw.trans (Weak.sel [(172, 100), (101, 101), (174, 102)] [1, 5, 16, 17, 18] (by kernel_rfl) (by kernel_rfl) (by kernel_rfl)))
  · refine CodeOk.ifF hc80 (by kernel_rfl) ?_
    refine CodeOk.exit ?_
    refine CodeOk.weak (st' := ⟨tl 38 [(1, .own 100), (5, .loc 101 0), (16, .sl false false (a0.kids.map encSDoc)), (17, V.int (a0.kids.length : Int)), (18, V.int y59), (19, V.bool (decide (y59 < (a0.kids.length : Int))))], [(100, .vec false 83 4 (y60.map (encSDNode true))), (101, .cells 83 [V.int a0.kind, V.int a0.n, V.str a0.text, .own 102]), (102, .vec false 3 1 (y61.map encI))]⟩) (Weak.refl _) ?_
    obtain ⟨x90, hx94, h77⟩ := bind_some h77
    refine CodeOk.cutR (tl 38 [(4, .own 172)]) [(172, .vec false 83 4 (x90.map (encSDNode true)))] mix (by
        refine W.run D_ok 3 171 (by kernel_rfl) ?_
        refine W.appO D_ok (encSDNode true) (a := 100) (c := 171) (el := 83) (sz := 4) 56 hx94 rfl 172 (by kernel_rfl) ?_
        refine W.run D_ok 1 173 (by kernel_rfl) ?_
        exact W.fin (by decide) (by kernel_rfl) (Weak.sel [(172, 172)] [4] (by kernel_rfl) (by kernel_rfl) (by kernel_rfl))
        ) ?_
    refine CodeOk.ret ?_
    have h77 := Option.some.inj h77
    subst h77
    exact Ends.gen [(172, 100)] (.inr rfl) (RetV.one rfl (OneR.tmp (t := 4) (r := .own 172) (by kernel_rfl))) (by kernel_rfl) (by kernel_rfl) (by kernel_rfl)

theorem scc2_ok : ∀ N, RecOk2 (scc2 N)
  | 0 => ⟨fun _ _ _ h => by cases h⟩
  | N + 1 => ⟨fun a0 p0 _ h => m_impl_doc__add_F_ok N (scc2 N) (scc2_ok N) a0 p0 h⟩

theorem m_impl_doc__add_ok (N : Nat) (a0 : SDoc) (p0 : List SDNode) {r : (List SDNode)} (h : m_impl_doc__add N a0 p0 = some r) :
    AC Try.prog GG 84 [.agg [V.int a0.kind, V.int a0.n, V.str a0.text, .sl false false (a0.kids.map encSDoc), V.int a0.group], .own 0] [(0, .vec false 83 4 (p0.map (encSDNode true)))] (.own 100) [(100, .vec false 83 4 (r.map (encSDNode true)))] :=
  (scc2_ok N).m_impl_doc__add a0 p0 r h

theorem m_impl_doc__list_ok (N : Nat) (a0 : SDoc) {r : (List SDNode)} (h : m_impl_doc__list N a0 = some r) :
    AC Try.prog GG 71 [.agg [V.int a0.kind, V.int a0.n, V.str a0.text, .sl false false (a0.kids.map encSDoc), V.int a0.group]] [] (.own 100) [(100, .vec false 83 4 (r.map (encSDNode true)))] := by
  rw [m_impl_doc__list] at h
  refine AC.enter Try.func71 rfl ?_
  refine CodeOk.cutR (tl 5 [(1, .loc 100 0)]) [(100, .cells 90 [V.int a0.kind, V.int a0.n, V.str a0.text, .sl false false (a0.kids.map encSDoc), V.int a0.group])] mix (by
      refine W.run D_ok 2 100 (by kernel_rfl) ?_
      exact W.fin (by decide) (by kernel_rfl) (Weak.sel [(100, 100)] [1] (by kernel_rfl) (by kernel_rfl) (by kernel_rfl))
      ) ?_
  obtain ⟨r2, hx2, h⟩ := bind_some h
  refine CodeOk.cutR (tl 5 [(2, .own 101)]) [(101, .vec false 83 4 (r2.map (encSDNode true)))] mix (by
      refine W.run D_ok 1 101 (by kernel_rfl) ?_
      refine W.callK (AC.nilArg 1 0 83 4 (m_impl_doc__add_ok N a0 [] hx2) (by kernel_rfl) (by kernel_rfl) (by kernel_rfl) (by kernel_rfl) rfl) cok84 [] [(100, 101)] [1] [101] (show LayOk _ [] from trivial) (by kernel_rfl) (by kernel_rfl) ?_
      refine W.run D_ok 1 102 (by kernel_rfl) ?_
      exact W.fin (by decide) (by kernel_rfl) (Weak.sel [(101, 101)] [2] (by kernel_rfl) (by kernel_rfl) (by kernel_rfl))
      ) ?_
  refine CodeOk.ret ?_
  have h := Option.some.inj h
  subst h
  exact Ends.gen [(101, 100)] (.inr rfl) (RetV.one rfl (OneR.tmp (t := 2) (r := .own 101) (by kernel_rfl))) (by kernel_rfl) (by kernel_rfl) (by kernel_rfl)

theorem m_impl_Deeper_ok (N : Nat) (a0 : List SDNode) (a1 : Int) {r : (List SDNode)} (h : m_impl_Deeper N a0 a1 = some r) :
    AC Try.prog GG 40 [.sl false false (a0.map (encSDNode false)), V.int a1] [] (.own 100) [(100, .vec false 83 4 (r.map (encSDNode true)))] := by
  rw [m_impl_Deeper] at h
  refine AC.enter Try.func40 rfl ?_
  refine CodeOk.cutR (tl 25 [(0, .sl false false (a0.map (encSDNode false))), (1, V.int a1)]) [] mix (by
      refine W.run D_ok 1 100 (by kernel_rfl) ?_
      exact W.fin (by decide) (by kernel_rfl) (Weak.sel [] [0, 1] (by kernel_rfl) (by kernel_rfl) (by kernel_rfl))
      ) ?_
  refine CodeOk.seq' ?_
  obtain ⟨y8, hv15, h⟩ := bind_some h
  refine CodeOk.cutR (tl 25 [(0, .sl false false (a0.map (encSDNode false))), (1, V.int a1), (18, V.bool y8)]) [] mix (by
      refine W.run D_ok 1 100 (by kernel_rfl) ?_
      obtain ⟨r9, hx16, hv15⟩ := bind_some hv15
      refine W.call0 (m_impl_DocOk_ok N a0 hx16) cok64 rfl (by kernel_rfl) ?_
      refine W.run D_ok 2 100 (by kernel_rfl) ?_
      rcases cond_some hv15 with ⟨hc17, hv15⟩ | ⟨hc17, hv15⟩
      · refine W.is 8 hc17 (by kernel_rfl) ?_
        refine W.run D_ok 10 100 (by kernel_rfl) ?_
        have hv15 := Option.some.inj hv15
        subst hv15
        exact W.fin (by decide) (by kernel_rfl) (Weak.sel [] [0, 1, 18] (by kernel_rfl) (by kernel_rfl) (by kernel_rfl))
      · refine W.is 8 hc17 (by kernel_rfl) ?_
        refine W.run D_ok 1 100 (by kernel_rfl) ?_
        obtain ⟨r10, hx18, hv15⟩ := bind_some hv15
        refine W.call0 (m_impl_within_ok a1 0 40 hx18) cok47 rfl (by kernel_rfl) ?_
        refine W.run D_ok 3 100 (by kernel_rfl) ?_
        rcases cond_some hv15 with ⟨hc19, hv15⟩ | ⟨hc19, hv15⟩
        · refine W.is 13 hc19 (by kernel_rfl) ?_
          refine W.run D_ok 5 100 (by kernel_rfl) ?_
          have hv15 := Option.some.inj hv15
          subst hv15
          exact W.fin (by decide) (by kernel_rfl) (Weak.sel [] [0, 1, 18] (by kernel_rfl) (by kernel_rfl) (by kernel_rfl))
        · refine W.is 13 hc19 (by kernel_rfl) ?_
          refine W.run D_ok 1 100 (by kernel_rfl) ?_
          refine W.len D_ok (encSDNode false) a0 [] (by kernel_rfl) (by kernel_rfl) ?_
          refine W.run D_ok 3 100 (by kernel_rfl) ?_
          have hv15 := Option.some.inj hv15
          subst hv15
          exact W.fin (by decide) (by kernel_rfl) (Weak.sel [] [0, 1, 18] (by kernel_rfl) (by kernel_rfl) (by kernel_rfl))
      ) ?_
  rcases cond_some h with ⟨hc20, h⟩ | ⟨hc20, h⟩
  · refine CodeOk.ifT hc20 (by kernel_rfl) ?_
    refine CodeOk.cutR (tl 25 [(4, .c (.slice none 0 0))]) [] mix (by
        refine W.run D_ok 1 100 (by kernel_rfl) ?_
        exact W.fin (by decide) (by kernel_rfl) (Weak.sel [] [4] (by kernel_rfl) (by kernel_rfl) (by kernel_rfl))
        ) ?_
    refine CodeOk.weak (Weak.nil 4 100 83 4 (by kernel_rfl) (by kernel_rfl)) ?_
    refine CodeOk.ret ?_
    have h := Option.some.inj h
    subst h
    exact Ends.gen [(100, 100)] (.inr rfl) (RetV.one rfl (OneR.tmp (t := 4) (r := .own 100) (by kernel_rfl))) (by kernel_rfl) (by kernel_rfl) (by kernel_rfl)
  · refine CodeOk.ifF hc20 (by kernel_rfl) ?_
    refine CodeOk.skip ?_
    refine CodeOk.weak (st' := ⟨tl 25 [(0, .sl false false (a0.map (encSDNode false))), (1, V.int a1), (18, V.bool y8)], []⟩) (Weak.refl _) ?_
    obtain ⟨r13, hx23, h⟩ := bind_some h
    obtain ⟨r14, hx24, h⟩ := bind_some h
    refine CodeOk.cutR (tl 25 [(4, .own 101)]) [(101, .vec false 83 4 (r14.map (encSDNode true)))] mix (by
        refine W.run D_ok 2 100 (by kernel_rfl) ?_
        refine W.call0 (m_impl_docOf_ok N a0 hx23) cok70 rfl (by kernel_rfl) ?_
        refine W.layop D_ok (show LayOk _ [] from trivial) (by kernel_rfl) 100 { v := .own 100, R := [], new := [(100, .vec true 90 5 [[V.int r13.kind, V.int r13.n, V.str r13.text, .sl false false (r13.kids.map encSDoc), V.int r13.group]])], N := [100] } (by kernel_rfl) ?_
        refine W.vecEq 100 (nn := true) (e := 90) (k := 5) (rows := [[V.int r13.kind, V.int r13.n, V.str r13.text, .sl false false (r13.kids.map encSDoc), V.int r13.group]]) (rows' := [r13].map encSDoc) (by kernel_rfl) (by simp only [List.map_cons, List.map_nil, encSDoc_eq]) ?_
        refine W.run D_ok 1 101 (by kernel_rfl) ?_
        refine W.lend (m_impl_doc__list_ok N (⟨4, a1, [], [r13], 0⟩ : SDoc) hx24) cok71 [(100, 101)] [101] (LayOk.cons (j := 100) encSDoc encSDoc ([r13] : List SDoc) (by kernel_rfl) (share_encSDoc) (show LayOk _ [] from trivial)) (.own _) (.cons (DeepR.map (fun _ => (.cons (.c _) (.cons (.c _) (.cons (.c _) (.cons (.sl _ _ (DeepR.map (fun _ => (.cons (.c _) .nil)) _)) .nil))))) _) .nil) (by kernel_rfl) (by kernel_rfl) ?_
        refine W.run D_ok 1 102 (by kernel_rfl) ?_
        exact W.fin (by decide) (by kernel_rfl) (Weak.sel [(101, 101)] [4] (by kernel_rfl) (by kernel_rfl) (by kernel_rfl))
        ) ?_
    refine CodeOk.ret ?_
    have h := Option.some.inj h
    subst h
    exact Ends.gen [(101, 100)] (.inr rfl) (RetV.one rfl (OneR.tmp (t := 4) (r := .own 101) (by kernel_rfl))) (by kernel_rfl) (by kernel_rfl) (by kernel_rfl)

theorem m_laws_FnExactDeeper_ok (N : Nat) (a0 : List SDNode) (a1 : Int) {r : Bool} (h : m_laws_FnExactDeeper N a0 a1 = some r) :
    AC Try.prog GG 9 [.sl false false (a0.map (encSDNode false)), V.int a1] [] (V.bool r) [] := by
  rw [m_laws_FnExactDeeper] at h
  refine AC.enter Try.func9 rfl ?_
  refine CodeOk.cutR (tl 74 [(0, .sl false false (a0.map (encSDNode false))), (1, V.int a1)]) [] mix (by
      refine W.run D_ok 1 100 (by kernel_rfl) ?_
      exact W.fin (by decide) (by kernel_rfl) (Weak.sel [] [0, 1] (by kernel_rfl) (by kernel_rfl) (by kernel_rfl))
      ) ?_
  refine CodeOk.cutR (tl 74 [(0, .sl false false (a0.map (encSDNode false))), (1, V.int a1), (5, V.int 1048576)]) [] mix (by
      refine W.run D_ok 1 100 (by kernel_rfl) ?_
      exact W.fin (by decide) (by kernel_rfl) (Weak.sel [] [0, 1, 5] (by kernel_rfl) (by kernel_rfl) (by kernel_rfl))
      ) ?_
  obtain ⟨r2, hx2, h⟩ := bind_some h
  refine CodeOk.cutR (tl 74 [(0, .sl false false (a0.map (encSDNode false))), (1, V.int a1), (5, V.int r2)]) [] mix (by
      refine W.run D_ok 2 100 (by kernel_rfl) ?_
      refine W.call0 (m_laws_szDNodeS_ok N a0 1048576 hx2) cok30 rfl (by kernel_rfl) ?_
      refine W.run D_ok 1 100 (by kernel_rfl) ?_
      exact W.fin (by decide) (by kernel_rfl) (Weak.sel [] [0, 1, 5] (by kernel_rfl) (by kernel_rfl) (by kernel_rfl))
      ) ?_
  refine CodeOk.seq' ?_
  refine CodeOk.cutR (tl 74 [(0, .sl false false (a0.map (encSDNode false))), (1, V.int a1), (17, V.bool (decide (r2 < 0)))]) [] mix (by
      refine W.run D_ok 2 100 (by kernel_rfl) ?_
      exact W.fin (by decide) (by kernel_rfl) (Weak.sel [] [0, 1, 17] (by kernel_rfl) (by kernel_rfl) (by kernel_rfl))
      ) ?_
  rcases cond_some h with ⟨hc4, h⟩ | ⟨hc4, h⟩
  · refine CodeOk.ifT hc4 (by kernel_rfl) ?_
    refine CodeOk.cutR (tl 74 [(4, V.bool true)]) [] mix (by
        refine W.run D_ok 1 100 (by kernel_rfl) ?_
        exact W.fin (by decide) (by kernel_rfl) (Weak.sel [] [4] (by kernel_rfl) (by kernel_rfl) (by kernel_rfl))
        ) ?_
    refine CodeOk.ret ?_
    have h := Option.some.inj h
    subst h
    exact Ends.gen [] (.inr rfl) (RetV.one rfl (OneR.tmp (t := 4) (r := V.bool true) (by kernel_rfl))) (by kernel_rfl) (by kernel_rfl) (by kernel_rfl)
  · refine CodeOk.ifF hc4 (by kernel_rfl) ?_
    refine CodeOk.skip ?_
    refine CodeOk.weak (st' := ⟨tl 74 [(0, .sl false false (a0.map (encSDNode false))), (1, V.int a1), (17, V.bool (decide (r2 < 0)))], []⟩) (Weak.refl _) ?_
    obtain ⟨r5, hx7, h⟩ := bind_some h
    obtain ⟨r6, hx8, h⟩ := bind_some h
    refine CodeOk.cutR (tl 74 [(0, .sl false false (a0.map (encSDNode false))), (1, V.int a1), (6, .own 101)]) [(101, .vec false 83 4 (r6.map (encSDNode true)))] mix (by
        refine W.run D_ok 1 100 (by kernel_rfl) ?_
        refine W.call (m_laws_toDNodeS_ok N a0 hx7) cok32 [] [(100, 100)] [100] (show LayOk _ [] from trivial) (by kernel_rfl) (by kernel_rfl) ?_
        refine W.run D_ok 1 101 (by kernel_rfl) ?_
        refine W.lend (m_spec_Deeper_ok N r5 a1 hx8) cok39 [(100, 101)] [101] (LayOk.cons (j := 100) (encSDNode true) (encSDNode false) r5 (by kernel_rfl) (share_encSDNode _) (show LayOk _ [] from trivial)) (.own _) (.cons (DeepR.map (fun _ => (.cons (.c _) (.cons (.c _) (.cons (.c _) (.cons (.sl _ _ (DeepR.map (fun _ => (.cons (.c _) .nil)) _)) .nil))))) _) .nil) (by kernel_rfl) (by kernel_rfl) ?_
        refine W.run D_ok 1 102 (by kernel_rfl) ?_
        exact W.fin (by decide) (by kernel_rfl) (Weak.sel [(101, 101)] [0, 1, 6] (by kernel_rfl) (by kernel_rfl) (by kernel_rfl))
        ) ?_
    obtain ⟨r8, hx10, h⟩ := bind_some h
    refine CodeOk.cutR (tl 74 [(0, .sl false false (a0.map (encSDNode false))), (1, V.int a1), (6, .own 101), (7, .own 102)]) [(102, .vec false 83 4 (r8.map (encSDNode true))), (101, .vec false 83 4 (r6.map (encSDNode true)))] mix (by
        refine W.run D_ok 1 102 (by kernel_rfl) ?_
        refine W.call (m_laws_toDNodeS_ok N a0 hx10) cok32 [] [(100, 102)] [102] (show LayOk _ [] from trivial) (by kernel_rfl) (by kernel_rfl) ?_
        refine W.run D_ok 1 103 (by kernel_rfl) ?_
        exact W.fin (by decide) (by kernel_rfl) (Weak.sel [(102, 102), (101, 101)] [0, 1, 6, 7] (by kernel_rfl) (by kernel_rfl) (by kernel_rfl))
        ) ?_
    obtain ⟨r10, hx12, h⟩ := bind_some h
    refine CodeOk.cutR (tl 74 [(0, .sl false false (a0.map (encSDNode false))), (1, V.int a1), (6, .own 101), (7, .own 102), (8, .own 103)]) [(103, .vec false 83 4 (r10.map (encSDNode true))), (102, .vec false 83 4 (r8.map (encSDNode true))), (101, .vec false 83 4 (r6.map (encSDNode true)))] mix (by
        refine W.run D_ok 2 103 (by kernel_rfl) ?_
        refine W.lend (m_impl_Deeper_ok N r8 a1 hx12) cok40 [(100, 103)] [103] (LayOk.cons (j := 102) (encSDNode true) (encSDNode false) r8 (by kernel_rfl) (share_encSDNode _) (show LayOk _ [] from trivial)) (.own _) (.cons (DeepR.map (fun _ => (.cons (.c _) (.cons (.c _) (.cons (.c _) (.cons (.sl _ _ (DeepR.map (fun _ => (.cons (.c _) .nil)) _)) .nil))))) _) .nil) (by kernel_rfl) (by kernel_rfl) ?_
        refine W.run D_ok 1 104 (by kernel_rfl) ?_
        exact W.fin (by decide) (by kernel_rfl) (Weak.sel [(103, 103), (102, 102), (101, 101)] [0, 1, 6, 7, 8] (by kernel_rfl) (by kernel_rfl) (by kernel_rfl))
        ) ?_
    refine CodeOk.seq' ?_
    obtain ⟨r14, hx17, h⟩ := bind_some h
    refine CodeOk.cutR (tl 74 [(0, .sl false false (a0.map (encSDNode false))), (1, V.int a1), (6, .own 101), (7, .own 102), (8, .own 103), (30, V.bool (!r14))]) [(103, .vec false 83 4 (r10.map (encSDNode true))), (102, .vec false 83 4 (r8.map (encSDNode true))), (101, .vec false 83 4 (r6.map (encSDNode true)))] mix (by
        refine W.run D_ok 2 104 (by kernel_rfl) ?_
        refine W.lend (m_laws_eqDNodeS_ok N r10 r6 hx17) cok34 [] [] (LayOk.cons (j := 103) (encSDNode true) (encSDNode false) r10 (by kernel_rfl) (share_encSDNode _) (LayOk.cons (j := 101) (encSDNode true) (encSDNode false) r6 (by kernel_rfl) (share_encSDNode _) (show LayOk _ [] from trivial))) (.c _) .nil (by kernel_rfl) (by kernel_rfl) ?_
        refine W.run D_ok 1 104 (by kernel_rfl) ?_
        exact W.fin (by decide) (by kernel_rfl) (Weak.sel [(103, 103), (102, 102), (101, 101)] [0, 1, 6, 7, 8, 30] (by kernel_rfl) (by kernel_rfl) (by kernel_rfl))
        ) ?_
    rcases cond_some h with ⟨hc18, h⟩ | ⟨hc18, h⟩
    · refine CodeOk.ifT hc18 (by kernel_rfl) ?_
      refine CodeOk.cutR (tl 74 [(4, V.bool false)]) [] mix (by
          refine W.run D_ok 1 104 (by kernel_rfl) ?_
          exact W.fin (by decide) (by kernel_rfl) (Weak.sel [] [4] (by kernel_rfl) (by kernel_rfl) (by kernel_rfl))
          ) ?_
      refine CodeOk.ret ?_
      have h := Option.some.inj h
      subst h
      exact Ends.gen [] (.inr rfl) (RetV.one rfl (OneR.tmp (t := 4) (r := V.bool false) (by kernel_rfl))) (by kernel_rfl) (by kernel_rfl) (by kernel_rfl)
    · refine CodeOk.ifF hc18 (by kernel_rfl) ?_
      refine CodeOk.skip ?_
      refine CodeOk.weak (st' := ⟨tl 74 [(0, .sl false false (a0.map (encSDNode false))), (1, V.int a1), (6, .own 101), (7, .own 102), (8, .own 103), (30, V.bool (!r14))], [(103, .vec false 83 4 (r10.map (encSDNode true))), (102, .vec false 83 4 (r8.map (encSDNode true))), (101, .vec false 83 4 (r6.map (encSDNode true)))]⟩) (Weak.refl _) ?_
      refine CodeOk.seq' ?_
      obtain ⟨r21, hx26, h⟩ := bind_some h
      obtain ⟨r22, hx27, h⟩ := bind_some h
      refine CodeOk.cutR (tl 74 [(0, .sl false false (a0.map (encSDNode false))), (1, V.int a1), (6, .own 101), (7, .own 102), (8, .own 103), (35, V.bool (!r22))]) [(103, .vec false 83 4 (r10.map (encSDNode true))), (102, .vec false 83 4 (r8.map (encSDNode true))), (101, .vec false 83 4 (r6.map (encSDNode true)))] mix (by
          refine W.run D_ok 2 104 (by kernel_rfl) ?_
          refine W.call (m_laws_toDNodeS_ok N a0 hx26) cok32 [] [(100, 104)] [104] (show LayOk _ [] from trivial) (by kernel_rfl) (by kernel_rfl) ?_
          refine W.lend (m_laws_eqDNodeS_ok N r8 r21 hx27) cok34 [] [] (LayOk.cons (j := 102) (encSDNode true) (encSDNode false) r8 (by kernel_rfl) (share_encSDNode _) (LayOk.cons (j := 104) (encSDNode true) (encSDNode false) r21 (by kernel_rfl) (share_encSDNode _) (show LayOk _ [] from trivial))) (.c _) .nil (by kernel_rfl) (by kernel_rfl) ?_
          refine W.run D_ok 1 105 (by kernel_rfl) ?_
          exact W.fin (by decide) (by kernel_rfl) (Weak.sel [(103, 103), (102, 102), (101, 101)] [0, 1, 6, 7, 8, 35] (by kernel_rfl) (by kernel_rfl) (by kernel_rfl))
          ) ?_
      rcases cond_some h with ⟨hc28, h⟩ | ⟨hc28, h⟩
      · refine CodeOk.ifT hc28 (by kernel_rfl) ?_
        refine CodeOk.cutR (tl 74 [(4, V.bool false)]) [] mix (by
            refine W.run D_ok 1 105 (by kernel_rfl) ?_
            exact W.fin (by decide) (by kernel_rfl) (Weak.sel [] [4] (by kernel_rfl) (by kernel_rfl) (by kernel_rfl))
            ) ?_
        refine CodeOk.ret ?_
        have h := Option.some.inj h
        subst h
        exact Ends.gen [] (.inr rfl) (RetV.one rfl (OneR.tmp (t := 4) (r := V.bool false) (by kernel_rfl))) (by kernel_rfl) (by kernel_rfl) (by kernel_rfl)
      · refine CodeOk.ifF hc28 (by kernel_rfl) ?_
        refine CodeOk.skip ?_
        refine CodeOk.weak (st' := ⟨tl 74 [(0, .sl false false (a0.map (encSDNode false))), (1, V.int a1), (6, .own 101), (7, .own 102), (8, .own 103), (35, V.bool (!r22))], [(103, .vec false 83 4 (r10.map (encSDNode true))), (102, .vec false 83 4 (r8.map (encSDNode true))), (101, .vec false 83 4 (r6.map (encSDNode true)))]⟩) (Weak.refl _) ?_
        refine CodeOk.cutR (tl 74 [(0, .sl false false (a0.map (encSDNode false))), (1, V.int a1), (6, .own 101), (7, .own 102), (8, .own 103), (9, V.int 1)]) [(103, .vec false 83 4 (r10.map (encSDNode true))), (102, .vec false 83 4 (r8.map (encSDNode true))), (101, .vec false 83 4 (r6.map (encSDNode true)))] mix (by
            refine W.run D_ok 1 105 (by kernel_rfl) ?_
            exact W.fin (by decide) (by kernel_rfl) (Weak.sel [(103, 103), (102, 102), (101, 101)] [0, 1, 6, 7, 8, 9] (by kernel_rfl) (by kernel_rfl) (by kernel_rfl))
            ) ?_
        obtain ⟨r24, hx30, h⟩ := bind_some h
        refine CodeOk.cutR (tl 74 [(0, .sl false false (a0.map (encSDNode false))), (1, V.int a1), (6, .own 101), (8, .own 103), (9, V.int r24.1)]) [(103, .vec false 83 4 (r10.map (encSDNode true))), (101, .vec false 83 4 (r6.map (encSDNode true)))] mix (by
            refine W.run D_ok 2 105 (by kernel_rfl) ?_
            refine W.call (m_laws_markDNodeS_ok 83 N 1 r8 hx30) cok35 [(102, 0)] [(0, 102)] [] (show LayOk _ [] from trivial) (by kernel_rfl) (by kernel_rfl) ?_
            refine W.run D_ok 1 105 (by kernel_rfl) ?_
            exact W.fin (by decide) (by kernel_rfl) (Weak.sel [(103, 103), (101, 101)] [0, 1, 6, 8, 9] (by kernel_rfl) (by kernel_rfl) (by kernel_rfl))
            ) ?_
        refine CodeOk.seq' ?_
        obtain ⟨y29, hv39, h⟩ := bind_some h
        refine CodeOk.cutR (tl 74 [(0, .sl false false (a0.map (encSDNode false))), (1, V.int a1), (6, .own 100), (8, .own 101), (46, V.bool y29)]) [(100, .vec false 83 4 (r6.map (encSDNode true))), (101, .vec false 83 4 (r10.map (encSDNode true)))] mix (by
            refine W.run D_ok 3 105 (by kernel_rfl) ?_
            rcases cond_some hv39 with ⟨hc40, hv39⟩ | ⟨hc40, hv39⟩
            · refine W.is 41 hc40 (by kernel_rfl) ?_
              refine W.run D_ok 5 105 (by kernel_rfl) ?_
              have hv39 := Option.some.inj hv39
              subst hv39
              exact W.fin (by decide) (by kernel_rfl) (Weak.sel [(101, 100), (103, 101)] [0, 1, 6, 8, 46] (by kernel_rfl) (by kernel_rfl) (by kernel_rfl))
            · refine W.is 41 hc40 (by kernel_rfl) ?_
              refine W.run D_ok 2 105 (by kernel_rfl) ?_
              obtain ⟨r30, hx41, hv39⟩ := bind_some hv39
              refine W.lend (m_laws_eqDNodeS_ok N r10 r6 hx41) cok34 [] [] (LayOk.cons (j := 103) (encSDNode true) (encSDNode false) r10 (by kernel_rfl) (share_encSDNode _) (LayOk.cons (j := 101) (encSDNode true) (encSDNode false) r6 (by kernel_rfl) (share_encSDNode _) (show LayOk _ [] from trivial))) (.c _) .nil (by kernel_rfl) (by kernel_rfl) ?_
              refine W.run D_ok 2 105 (by kernel_rfl) ?_
              have hv39 := Option.some.inj hv39
              subst hv39
              exact W.fin (by decide) (by kernel_rfl) (Weak.sel [(101, 100), (103, 101)] [0, 1, 6, 8, 46] (by kernel_rfl) (by kernel_rfl) (by kernel_rfl))
            ) ?_
        rcases cond_some h with ⟨hc42, h⟩ | ⟨hc42, h⟩
        · refine CodeOk.ifT hc42 (by kernel_rfl) ?_
          refine CodeOk.cutR (tl 74 [(4, V.bool false)]) [] mix (by
              refine W.run D_ok 1 105 (by kernel_rfl) ?_
              exact W.fin (by decide) (by kernel_rfl) (Weak.sel [] [4] (by kernel_rfl) (by kernel_rfl) (by kernel_rfl))
              ) ?_
          refine CodeOk.ret ?_
          have h := Option.some.inj h
          subst h
          exact Ends.gen [] (.inr rfl) (RetV.one rfl (OneR.tmp (t := 4) (r := V.bool false) (by kernel_rfl))) (by kernel_rfl) (by kernel_rfl) (by kernel_rfl)
        · refine CodeOk.ifF hc42 (by kernel_rfl) ?_
          refine CodeOk.skip ?_
          refine CodeOk.weak (st' := ⟨tl 74 [(0, .sl false false (a0.map (encSDNode false))), (1, V.int a1), (6, .own 100), (8, .own 101), (46, V.bool y29)], [(100, .vec false 83 4 (r6.map (encSDNode true))), (101, .vec false 83 4 (r10.map (encSDNode true)))]⟩) (Weak.refl _) ?_
          refine CodeOk.cutR (tl 74 [(0, .sl false false (a0.map (encSDNode false))), (1, V.int a1), (6, .own 100), (8, .own 101), (10, V.int 1)]) [(100, .vec false 83 4 (r6.map (encSDNode true))), (101, .vec false 83 4 (r10.map (encSDNode true)))] mix (by
              refine W.run D_ok 1 105 (by kernel_rfl) ?_
              exact W.fin (by decide) (by kernel_rfl) (Weak.sel [(100, 100), (101, 101)] [0, 1, 6, 8, 10] (by kernel_rfl) (by kernel_rfl) (by kernel_rfl))
              ) ?_
          obtain ⟨r32, hx44, h⟩ := bind_some h
          refine CodeOk.cutR (tl 74 [(0, .sl false false (a0.map (encSDNode false))), (1, V.int a1), (6, .own 100), (8, .own 101), (10, V.int r32.1)]) [(100, .vec false 83 4 (r6.map (encSDNode true))), (101, .vec false 83 4 (r32.2.map (encSDNode true)))] mix (by
              refine W.run D_ok 2 105 (by kernel_rfl) ?_
              refine W.call (m_laws_markDNodeS_ok 83 N 1 r10 hx44) cok35 [(101, 0)] [(0, 101)] [] (show LayOk _ [] from trivial) (by kernel_rfl) (by kernel_rfl) ?_
              refine W.run D_ok 1 105 (by kernel_rfl) ?_
              exact W.fin (by decide) (by kernel_rfl) (Weak.sel [(100, 100), (101, 101)] [0, 1, 6, 8, 10] (by kernel_rfl) (by kernel_rfl) (by kernel_rfl))
              ) ?_
          refine CodeOk.cutR (tl 74 [(0, .sl false false (a0.map (encSDNode false))), (1, V.int a1), (6, .own 100), (8, .own 101), (10, V.int r32.1), (11, V.int 1)]) [(100, .vec false 83 4 (r6.map (encSDNode true))), (101, .vec false 83 4 (r32.2.map (encSDNode true)))] mix (by
              refine W.run D_ok 1 105 (by kernel_rfl) ?_
              exact W.fin (by decide) (by kernel_rfl) (Weak.sel [(100, 100), (101, 101)] [0, 1, 6, 8, 10, 11] (by kernel_rfl) (by kernel_rfl) (by kernel_rfl))
              ) ?_
          obtain ⟨r34, hx46, h⟩ := bind_some h
          refine CodeOk.cutR (tl 74 [(0, .sl false false (a0.map (encSDNode false))), (1, V.int a1), (6, .own 100), (8, .own 101), (10, V.int r32.1), (11, V.int r34)]) [(100, .vec false 83 4 (r6.map (encSDNode true))), (101, .vec false 83 4 (r32.2.map (encSDNode true)))] mix (by
              refine W.run D_ok 2 105 (by kernel_rfl) ?_
              refine W.lend (m_laws_heldDNodeS_ok N r32.2 1 hx46) cok36 [] [] (LayOk.cons (j := 101) (encSDNode true) (encSDNode false) r32.2 (by kernel_rfl) (share_encSDNode _) (show LayOk _ [] from trivial)) (.c _) .nil (by kernel_rfl) (by kernel_rfl) ?_
              refine W.run D_ok 1 105 (by kernel_rfl) ?_
              exact W.fin (by decide) (by kernel_rfl) (Weak.sel [(100, 100), (101, 101)] [0, 1, 6, 8, 10, 11] (by kernel_rfl) (by kernel_rfl) (by kernel_rfl))
              ) ?_
          refine CodeOk.seq' ?_
          refine CodeOk.cutR (tl 74 [(0, .sl false false (a0.map (encSDNode false))), (1, V.int a1), (6, .own 100), (8, .own 101), (10, V.int r32.1), (11, V.int r34), (54, V.bool (decide (r34 < 0)))]) [(100, .vec false 83 4 (r6.map (encSDNode true))), (101, .vec false 83 4 (r32.2.map (encSDNode true)))] mix (by
              refine W.run D_ok 2 105 (by kernel_rfl) ?_
              exact W.fin (by decide) (by kernel_rfl) (Weak.sel [(100, 100), (101, 101)] [0, 1, 6, 8, 10, 11, 54] (by kernel_rfl) (by kernel_rfl) (by kernel_rfl))
              ) ?_
          rcases cond_some h with ⟨hc48, h⟩ | ⟨hc48, h⟩
          · refine CodeOk.ifT hc48 (by kernel_rfl) ?_
            refine CodeOk.cutR (tl 74 [(4, V.bool false)]) [] mix (by
                refine W.run D_ok 1 105 (by kernel_rfl) ?_
                exact W.fin (by decide) (by kernel_rfl) (Weak.sel [] [4] (by kernel_rfl) (by kernel_rfl) (by kernel_rfl))
                ) ?_
            refine CodeOk.ret ?_
            have h := Option.some.inj h
            subst h
            exact Ends.gen [] (.inr rfl) (RetV.one rfl (OneR.tmp (t := 4) (r := V.bool false) (by kernel_rfl))) (by kernel_rfl) (by kernel_rfl) (by kernel_rfl)
          · refine CodeOk.ifF hc48 (by kernel_rfl) ?_
            refine CodeOk.skip ?_
            refine CodeOk.weak (st' := ⟨tl 74 [(0, .sl false false (a0.map (encSDNode false))), (1, V.int a1), (6, .own 100), (8, .own 101), (10, V.int r32.1), (11, V.int r34), (54, V.bool (decide (r34 < 0)))], [(100, .vec false 83 4 (r6.map (encSDNode true))), (101, .vec false 83 4 (r32.2.map (encSDNode true)))]⟩) (Weak.refl _) ?_
            refine CodeOk.seq' ?_
            refine CodeOk.cutR (tl 74 [(0, .sl false false (a0.map (encSDNode false))), (1, V.int a1), (6, .own 100), (8, .own 101), (10, V.int r32.1), (57, V.bool (r34 != r32.1))]) [(100, .vec false 83 4 (r6.map (encSDNode true))), (101, .vec false 83 4 (r32.2.map (encSDNode true)))] mix (by
                refine W.run D_ok 3 105 (by kernel_rfl) ?_
                exact W.fin (by decide) (by kernel_rfl) (Weak.sel [(100, 100), (101, 101)] [0, 1, 6, 8, 10, 57] (by kernel_rfl) (by kernel_rfl) (by kernel_rfl))
                ) ?_
            rcases cond_some h with ⟨hc50, h⟩ | ⟨hc50, h⟩
            · refine CodeOk.ifT hc50 (by kernel_rfl) ?_
              refine CodeOk.cutR (tl 74 [(4, V.bool false)]) [] mix (by
                  refine W.run D_ok 1 105 (by kernel_rfl) ?_
                  exact W.fin (by decide) (by kernel_rfl) (Weak.sel [] [4] (by kernel_rfl) (by kernel_rfl) (by kernel_rfl))
                  ) ?_
              refine CodeOk.ret ?_
              have h := Option.some.inj h
              subst h
              exact Ends.gen [] (.inr rfl) (RetV.one rfl (OneR.tmp (t := 4) (r := V.bool false) (by kernel_rfl))) (by kernel_rfl) (by kernel_rfl) (by kernel_rfl)
            · refine CodeOk.ifF hc50 (by kernel_rfl) ?_
              refine CodeOk.skip ?_
              refine CodeOk.weak (st' := ⟨tl 74 [(0, .sl false false (a0.map (encSDNode false))), (1, V.int a1), (6, .own 100), (8, .own 101), (10, V.int r32.1), (57, V.bool (r34 != r32.1))], [(100, .vec false 83 4 (r6.map (encSDNode true))), (101, .vec false 83 4 (r32.2.map (encSDNode true)))]⟩) (Weak.refl _) ?_
              obtain ⟨r37, hx53, h⟩ := bind_some h
              obtain ⟨r38, hx54, h⟩ := bind_some h
              refine CodeOk.cutR (tl 74 [(6, .own 100), (8, .own 101), (10, V.int r32.1), (12, .own 106)]) [(106, .vec false 83 4 (r38.map (encSDNode true))), (100, .vec false 83 4 (r6.map (encSDNode true))), (101, .vec false 83 4 (r32.2.map (encSDNode true)))] mix (by
                  refine W.run D_ok 1 105 (by kernel_rfl) ?_
                  refine W.call (m_laws_toDNodeS_ok N a0 hx53) cok32 [] [(100, 105)] [105] (show LayOk _ [] from trivial) (by kernel_rfl) (by kernel_rfl) ?_
                  refine W.run D_ok 1 106 (by kernel_rfl) ?_
                  refine W.lend (m_impl_Deeper_ok N r37 a1 hx54) cok40 [(100, 106)] [106] (LayOk.cons (j := 105) (encSDNode true) (encSDNode false) r37 (by kernel_rfl) (share_encSDNode _) (show LayOk _ [] from trivial)) (.own _) (.cons (DeepR.map (fun _ => (.cons (.c _) (.cons (.c _) (.cons (.c _) (.cons (.sl _ _ (DeepR.map (fun _ => (.cons (.c _) .nil)) _)) .nil))))) _) .nil) (by kernel_rfl) (by kernel_rfl) ?_
                  refine W.run D_ok 1 107 (by kernel_rfl) ?_
                  exact W.fin (by decide) (by kernel_rfl) (Weak.sel [(106, 106), (100, 100), (101, 101)] [6, 8, 10, 12] (by kernel_rfl) (by kernel_rfl) (by kernel_rfl))
                  ) ?_
              refine CodeOk.seq' ?_
              obtain ⟨r42, hx59, h⟩ := bind_some h
              refine CodeOk.cutR (tl 74 [(8, .own 101), (10, V.int r32.1), (65, V.bool (!r42))]) [(101, .vec false 83 4 (r32.2.map (encSDNode true)))] mix (by
                  refine W.run D_ok 2 107 (by kernel_rfl) ?_
                  refine W.lend (m_laws_eqDNodeS_ok N r38 r6 hx59) cok34 [] [] (LayOk.cons (j := 106) (encSDNode true) (encSDNode false) r38 (by kernel_rfl) (share_encSDNode _) (LayOk.cons (j := 100) (encSDNode true) (encSDNode false) r6 (by kernel_rfl) (share_encSDNode _) (show LayOk _ [] from trivial))) (.c _) .nil (by kernel_rfl) (by kernel_rfl) ?_
                  refine W.run D_ok 1 107 (by kernel_rfl) ?_
                  exact W.fin (by decide) (by kernel_rfl) (Weak.sel [(101, 101)] [8, 10, 65] (by kernel_rfl) (by kernel_rfl) (by kernel_rfl))
                  ) ?_
              rcases cond_some h with ⟨hc60, h⟩ | ⟨hc60, h⟩
              · refine CodeOk.ifT hc60 (by kernel_rfl) ?_
                refine CodeOk.cutR (tl 74 [(4, V.bool false)]) [] mix (by
                    refine W.run D_ok 1 107 (by kernel_rfl) ?_
                    exact W.fin (by decide) (by kernel_rfl) (Weak.sel [] [4] (by kernel_rfl) (by kernel_rfl) (by kernel_rfl))
                    ) ?_
                refine CodeOk.ret ?_
                have h := Option.some.inj h
                subst h
                exact Ends.gen [] (.inr rfl) (RetV.one rfl (OneR.tmp (t := 4) (r := V.bool false) (by kernel_rfl))) (by kernel_rfl) (by kernel_rfl) (by kernel_rfl)
              · refine CodeOk.ifF hc60 (by kernel_rfl) ?_
                refine CodeOk.skip ?_
                refine CodeOk.weak (st' := ⟨tl 74 [(8, .own 101), (10, V.int r32.1), (65, V.bool (!r42))], [(101, .vec false 83 4 (r32.2.map (encSDNode true)))]⟩) (Weak.refl _) ?_
                refine CodeOk.cutR (tl 74 [(8, .own 101), (10, V.int r32.1), (11, V.int 1)]) [(101, .vec false 83 4 (r32.2.map (encSDNode true)))] mix (by
                    refine W.run D_ok 1 107 (by kernel_rfl) ?_
                    exact W.fin (by decide) (by kernel_rfl) (Weak.sel [(101, 101)] [8, 10, 11] (by kernel_rfl) (by kernel_rfl) (by kernel_rfl))
                    ) ?_
                obtain ⟨r44, hx62, h⟩ := bind_some h
                refine CodeOk.cutR (tl 74 [(10, V.int r32.1), (11, V.int r44)]) [] mix (by
                    refine W.run D_ok 2 107 (by kernel_rfl) ?_
                    refine W.lend (m_laws_heldDNodeS_ok N r32.2 1 hx62) cok36 [] [] (LayOk.cons (j := 101) (encSDNode true) (encSDNode false) r32.2 (by kernel_rfl) (share_encSDNode _) (show LayOk _ [] from trivial)) (.c _) .nil (by kernel_rfl) (by kernel_rfl) ?_
                    refine W.run D_ok 1 107 (by kernel_rfl) ?_
                    exact W.fin (by decide) (by kernel_rfl) (Weak.sel [] [10, 11] (by kernel_rfl) (by kernel_rfl) (by kernel_rfl))
                    ) ?_
                refine CodeOk.seq' ?_
                refine CodeOk.cutR (tl 74 [(10, V.int r32.1), (11, V.int r44), (70, V.bool (decide (r44 < 0)))]) [] mix (by
                    refine W.run D_ok 2 107 (by kernel_rfl) ?_
                    exact W.fin (by decide) (by kernel_rfl) (Weak.sel [] [10, 11, 70] (by kernel_rfl) (by kernel_rfl) (by kernel_rfl))
                    ) ?_
                rcases cond_some h with ⟨hc64, h⟩ | ⟨hc64, h⟩
                · refine CodeOk.ifT hc64 (by kernel_rfl) ?_
                  refine CodeOk.cutR (tl 74 [(4, V.bool false)]) [] mix (by
                      refine W.run D_ok 1 107 (by kernel_rfl) ?_
                      exact W.fin (by decide) (by kernel_rfl) (Weak.sel [] [4] (by kernel_rfl) (by kernel_rfl) (by kernel_rfl))
                      ) ?_
                  refine CodeOk.ret ?_
                  have h := Option.some.inj h
                  subst h
                  exact Ends.gen [] (.inr rfl) (RetV.one rfl (OneR.tmp (t := 4) (r := V.bool false) (by kernel_rfl))) (by kernel_rfl) (by kernel_rfl) (by kernel_rfl)
                · refine CodeOk.ifF hc64 (by kernel_rfl) ?_
                  refine CodeOk.skip ?_
                  refine CodeOk.weak (st' := ⟨tl 74 [(10, V.int r32.1), (11, V.int r44), (70, V.bool (decide (r44 < 0)))], []⟩) (Weak.refl _) ?_
                  refine CodeOk.seq' ?_
                  refine CodeOk.cutR (tl 74 [(73, V.bool (r44 != r32.1))]) [] mix (by
                      refine W.run D_ok 3 107 (by kernel_rfl) ?_
                      exact W.fin (by decide) (by kernel_rfl) (Weak.sel [] [73] (by kernel_rfl) (by kernel_rfl) (by kernel_rfl))
                      ) ?_
                  rcases cond_some h with ⟨hc66, h⟩ | ⟨hc66, h⟩
                  · refine CodeOk.ifT hc66 (by kernel_rfl) ?_
                    refine CodeOk.cutR (tl 74 [(4, V.bool false)]) [] mix (by
                        refine W.run D_ok 1 107 (by kernel_rfl) ?_
                        exact W.fin (by decide) (by kernel_rfl) (Weak.sel [] [4] (by kernel_rfl) (by kernel_rfl) (by kernel_rfl))
                        ) ?_
                    refine CodeOk.ret ?_
                    have h := Option.some.inj h
                    subst h
                    exact Ends.gen [] (.inr rfl) (RetV.one rfl (OneR.tmp (t := 4) (r := V.bool false) (by kernel_rfl))) (by kernel_rfl) (by kernel_rfl) (by kernel_rfl)
                  · refine CodeOk.ifF hc66 (by kernel_rfl) ?_
                    refine CodeOk.skip ?_
                    refine CodeOk.weak (st' := ⟨tl 74 [(73, V.bool (r44 != r32.1))], []⟩) (Weak.refl _) ?_
                    refine CodeOk.cutR (tl 74 [(4, V.bool true)]) [] mix (by
                        refine W.run D_ok 1 107 (by kernel_rfl) ?_
                        exact W.fin (by decide) (by kernel_rfl) (Weak.sel [] [4] (by kernel_rfl) (by kernel_rfl) (by kernel_rfl))
                        ) ?_
                    refine CodeOk.ret ?_
                    have h := Option.some.inj h
                    subst h
                    exact Ends.gen [] (.inr rfl) (RetV.one rfl (OneR.tmp (t := 4) (r := V.bool true) (by kernel_rfl))) (by kernel_rfl) (by kernel_rfl) (by kernel_rfl)

theorem m_spec_Joined_ok (N : Nat) (a0 : List SDNode) (a1 : List SDNode) {r : (List SDNode)} (h : m_spec_Joined N a0 a1 = some r) :
    AC Try.prog GG 41 [.sl false false (a0.map (encSDNode false)), .sl false false (a1.map (encSDNode false))] [] (.own 100) [(100, .vec false 83 4 (r.map (encSDNode true)))] := by
  rw [m_spec_Joined] at h
  refine AC.enter Try.func41 rfl ?_
  refine CodeOk.cutR (tl 26 [(0, .sl false false (a0.map (encSDNode false))), (1, .sl false false (a1.map (encSDNode false)))]) [] mix (by
      refine W.run D_ok 1 100 (by kernel_rfl) ?_
      exact W.fin (by decide) (by kernel_rfl) (Weak.sel [] [0, 1] (by kernel_rfl) (by kernel_rfl) (by kernel_rfl))
      ) ?_
  refine CodeOk.seq' ?_
  obtain ⟨y8, hv15, h⟩ := bind_some h
  refine CodeOk.cutR (tl 26 [(0, .sl false false (a0.map (encSDNode false))), (1, .sl false false (a1.map (encSDNode false))), (20, V.bool y8)]) [] mix (by
      refine W.run D_ok 1 100 (by kernel_rfl) ?_
      obtain ⟨r9, hx16, hv15⟩ := bind_some hv15
      refine W.call0 (m_spec_DocOk_ok N a0 hx16) cok61 rfl (by kernel_rfl) ?_
      refine W.run D_ok 2 100 (by kernel_rfl) ?_
      rcases cond_some hv15 with ⟨hc17, hv15⟩ | ⟨hc17, hv15⟩
      · refine W.is 8 hc17 (by kernel_rfl) ?_
        refine W.run D_ok 12 100 (by kernel_rfl) ?_
        have hv15 := Option.some.inj hv15
        subst hv15
        exact W.fin (by decide) (by kernel_rfl) (Weak.sel [] [0, 1, 20] (by kernel_rfl) (by kernel_rfl) (by kernel_rfl))
      · refine W.is 8 hc17 (by kernel_rfl) ?_
        refine W.run D_ok 1 100 (by kernel_rfl) ?_
        obtain ⟨r10, hx18, hv15⟩ := bind_some hv15
        refine W.call0 (m_spec_DocOk_ok N a1 hx18) cok61 rfl (by kernel_rfl) ?_
        refine W.run D_ok 3 100 (by kernel_rfl) ?_
        rcases cond_some hv15 with ⟨hc19, hv15⟩ | ⟨hc19, hv15⟩
        · refine W.is 13 hc19 (by kernel_rfl) ?_
          refine W.run D_ok 7 100 (by kernel_rfl) ?_
          have hv15 := Option.some.inj hv15
          subst hv15
          exact W.fin (by decide) (by kernel_rfl) (Weak.sel [] [0, 1, 20] (by kernel_rfl) (by kernel_rfl) (by kernel_rfl))
        · refine W.is 13 hc19 (by kernel_rfl) ?_
          refine W.run D_ok 1 100 (by kernel_rfl) ?_
          refine W.len D_ok (encSDNode false) a0 [] (by kernel_rfl) (by kernel_rfl) ?_
          refine W.run D_ok 1 100 (by kernel_rfl) ?_
          refine W.len D_ok (encSDNode false) a1 [] (by kernel_rfl) (by kernel_rfl) ?_
          refine W.run D_ok 3 100 (by kernel_rfl) ?_
          have hv15 := Option.some.inj hv15
          subst hv15
          exact W.fin (by decide) (by kernel_rfl) (Weak.sel [] [0, 1, 20] (by kernel_rfl) (by kernel_rfl) (by kernel_rfl))
      ) ?_
  rcases cond_some h with ⟨hc20, h⟩ | ⟨hc20, h⟩
  · refine CodeOk.ifT hc20 (by kernel_rfl) ?_
    refine CodeOk.cutR (tl 26 [(4, .own 100)]) [(100, .vec false 83 4 ([].map (encSDNode true)))] mix (by
        refine W.run D_ok 2 100 (by kernel_rfl) ?_
        exact W.fin (by decide) (by kernel_rfl) (Weak.sel [(100, 100)] [4] (by kernel_rfl) (by kernel_rfl) (by kernel_rfl))
        ) ?_
    refine CodeOk.ret ?_
    have h := Option.some.inj h
    subst h
    exact Ends.gen [(100, 100)] (.inr rfl) (RetV.one rfl (OneR.tmp (t := 4) (r := .own 100) (by kernel_rfl))) (by kernel_rfl) (by kernel_rfl) (by kernel_rfl)
  · refine CodeOk.ifF hc20 (by kernel_rfl) ?_
    refine CodeOk.skip ?_
    refine CodeOk.weak (st' := ⟨tl 26 [(0, .sl false false (a0.map (encSDNode false))), (1, .sl false false (a1.map (encSDNode false))), (20, V.bool y8)], []⟩) (Weak.refl _) ?_
    obtain ⟨r12, hx22, h⟩ := bind_some h
    refine CodeOk.cutR (tl 26 [(4, .own 101)]) [(101, .vec false 83 4 (r12.map (encSDNode true)))] mix (by
        refine W.run D_ok 3 100 (by kernel_rfl) ?_
        refine W.lend (m_spec_l15Over_ok N 6 0 [a0, a1] hx22) cok69 [(100, 101)] [101] (LayOk.cons (j := 100) (encL false (encSDNode false)) (encL false (encSDNode false)) ([a0, a1] : List (List SDNode)) (by kernel_rfl) (share_encL _ (share_encSDNode _)) (show LayOk _ [] from trivial)) (.own _) (.cons (DeepR.map (fun _ => (.cons (.c _) (.cons (.c _) (.cons (.c _) (.cons (.sl _ _ (DeepR.map (fun _ => (.cons (.c _) .nil)) _)) .nil))))) _) .nil) (by kernel_rfl) (by kernel_rfl) ?_
        refine W.run D_ok 1 102 (by kernel_rfl) ?_
        exact W.fin (by decide) (by kernel_rfl) (Weak.sel [(101, 101)] [4] (by kernel_rfl) (by kernel_rfl) (by kernel_rfl))
        ) ?_
    refine CodeOk.ret ?_
    have h := Option.some.inj h
    subst h
    exact Ends.gen [(101, 100)] (.inr rfl) (RetV.one rfl (OneR.tmp (t := 4) (r := .own 101) (by kernel_rfl))) (by kernel_rfl) (by kernel_rfl) (by kernel_rfl)

theorem m_impl_cat_ok (a0 : List SDoc) {r : SDoc} (h : m_impl_cat a0 = some r) :
    AC Try.prog GG 72 [.sl false false (a0.map encSDoc)] [] (.agg [V.int r.kind, V.int r.n, V.str r.text, .sl false false (r.kids.map encSDoc), V.int r.group]) [] := by
  rw [m_impl_cat] at h
  refine AC.enter Try.func72 rfl ?_
  refine CodeOk.cutR (tl 5 [(0, .sl false false (a0.map encSDoc)), (2, .loc 100 0)]) [(100, .cells 90 [V.int 0, V.int 0, V.str [], .c (.slice none 0 0), V.int 0])] mix (by
      refine W.run D_ok 1 100 (by kernel_rfl) ?_
      exact W.fin (by decide) (by kernel_rfl) (Weak.sel [(100, 100)] [0, 2] (by kernel_rfl) (by kernel_rfl) (by kernel_rfl))
      ) ?_
  refine CodeOk.cutR (tl 5 [(2, .loc 100 0)]) [(100, .cells 90 [V.int 6, V.int 0, V.str [], .sl false false (a0.map encSDoc), V.int 0])] mix (by
      refine W.run D_ok 3 101 (by kernel_rfl) ?_
      exact W.fin (by decide) (by kernel_rfl) (Weak.sel [(100, 100)] [2] (by kernel_rfl) (by kernel_rfl) (by kernel_rfl))
      ) ?_
  refine CodeOk.ret ?_
  have h := Option.some.inj h
  subst h
  exact Ends.gen [] (.inr rfl) (RetV.one rfl (OneR.cell D_ok (r := .agg [V.int 6, V.int 0, V.str [], .sl false false (a0.map encSDoc), V.int 0]) (i := 100) (ety := 90) (cs := [V.int 6, V.int 0, V.str [], .sl false false (a0.map encSDoc), V.int 0]) (by kernel_rfl) (by kernel_rfl) (by kernel_rfl))) (by kernel_rfl) (by kernel_rfl) (by kernel_rfl)

theorem m_impl_Joined_ok (N : Nat) (a0 : List SDNode) (a1 : List SDNode) {r : (List SDNode)} (h : m_impl_Joined N a0 a1 = some r) :
    AC Try.prog GG 42 [.sl false false (a0.map (encSDNode false)), .sl false false (a1.map (encSDNode false))] [] (.own 100) [(100, .vec false 83 4 (r.map (encSDNode true)))] := by
  rw [m_impl_Joined] at h
  refine AC.enter Try.func42 rfl ?_
  refine CodeOk.cutR (tl 29 [(0, .sl false false (a0.map (encSDNode false))), (1, .sl false false (a1.map (encSDNode false)))]) [] mix (by
      refine W.run D_ok 1 100 (by kernel_rfl) ?_
      exact W.fin (by decide) (by kernel_rfl) (Weak.sel [] [0, 1] (by kernel_rfl) (by kernel_rfl) (by kernel_rfl))
      ) ?_
  refine CodeOk.seq' ?_
  obtain ⟨y8, hv15, h⟩ := bind_some h
  refine CodeOk.cutR (tl 29 [(0, .sl false false (a0.map (encSDNode false))), (1, .sl false false (a1.map (encSDNode false))), (21, V.bool y8)]) [] mix (by
      refine W.run D_ok 1 100 (by kernel_rfl) ?_
      obtain ⟨r9, hx16, hv15⟩ := bind_some hv15
      refine W.call0 (m_impl_DocOk_ok N a0 hx16) cok64 rfl (by kernel_rfl) ?_
      refine W.run D_ok 2 100 (by kernel_rfl) ?_
      rcases cond_some hv15 with ⟨hc17, hv15⟩ | ⟨hc17, hv15⟩
      · refine W.is 8 hc17 (by kernel_rfl) ?_
        refine W.run D_ok 13 100 (by kernel_rfl) ?_
        have hv15 := Option.some.inj hv15
        subst hv15
        exact W.fin (by decide) (by kernel_rfl) (Weak.sel [] [0, 1, 21] (by kernel_rfl) (by kernel_rfl) (by kernel_rfl))
      · refine W.is 8 hc17 (by kernel_rfl) ?_
        refine W.run D_ok 1 100 (by kernel_rfl) ?_
        obtain ⟨r10, hx18, hv15⟩ := bind_some hv15
        refine W.call0 (m_impl_DocOk_ok N a1 hx18) cok64 rfl (by kernel_rfl) ?_
        refine W.run D_ok 3 100 (by kernel_rfl) ?_
        rcases cond_some hv15 with ⟨hc19, hv15⟩ | ⟨hc19, hv15⟩
        · refine W.is 13 hc19 (by kernel_rfl) ?_
          refine W.run D_ok 8 100 (by kernel_rfl) ?_
          have hv15 := Option.some.inj hv15
          subst hv15
          exact W.fin (by decide) (by kernel_rfl) (Weak.sel [] [0, 1, 21] (by kernel_rfl) (by kernel_rfl) (by kernel_rfl))
        · refine W.is 13 hc19 (by kernel_rfl) ?_
          refine W.run D_ok 1 100 (by kernel_rfl) ?_
          refine W.len D_ok (encSDNode false) a0 [] (by kernel_rfl) (by kernel_rfl) ?_
          refine W.run D_ok 1 100 (by kernel_rfl) ?_
          refine W.len D_ok (encSDNode false) a1 [] (by kernel_rfl) (by kernel_rfl) ?_
          refine W.run D_ok 4 100 (by kernel_rfl) ?_
          have hv15 := Option.some.inj hv15
          subst hv15
          exact W.fin (by decide) (by kernel_rfl) (Weak.sel [] [0, 1, 21] (by kernel_rfl) (by kernel_rfl) (by kernel_rfl))
      ) ?_
  rcases cond_some h with ⟨hc20, h⟩ | ⟨hc20, h⟩
  · refine CodeOk.ifT hc20 (by kernel_rfl) ?_
    refine CodeOk.cutR (tl 29 [(4, .c (.slice none 0 0))]) [] mix (by
        refine W.run D_ok 1 100 (by kernel_rfl) ?_
        exact W.fin (by decide) (by kernel_rfl) (Weak.sel [] [4] (by kernel_rfl) (by kernel_rfl) (by kernel_rfl))
        ) ?_
    refine CodeOk.weak (Weak.nil 4 100 83 4 (by kernel_rfl) (by kernel_rfl)) ?_
    refine CodeOk.ret ?_
    have h := Option.some.inj h
    subst h
    exact Ends.gen [(100, 100)] (.inr rfl) (RetV.one rfl (OneR.tmp (t := 4) (r := .own 100) (by kernel_rfl))) (by kernel_rfl) (by kernel_rfl) (by kernel_rfl)
  · refine CodeOk.ifF hc20 (by kernel_rfl) ?_
    refine CodeOk.skip ?_
    refine CodeOk.weak (st' := ⟨tl 29 [(0, .sl false false (a0.map (encSDNode false))), (1, .sl false false (a1.map (encSDNode false))), (21, V.bool y8)], []⟩) (Weak.refl _) ?_
    obtain ⟨r15, hx25, h⟩ := bind_some h
    obtain ⟨r16, hx26, h⟩ := bind_some h
    obtain ⟨r17, hx27, h⟩ := bind_some h
    obtain ⟨r18, hx28, h⟩ := bind_some h
    refine CodeOk.cutR (tl 29 [(4, .own 101)]) [(101, .vec false 83 4 (r18.map (encSDNode true)))] mix (by
        refine W.run D_ok 1 100 (by kernel_rfl) ?_
        refine W.call0 (m_impl_docOf_ok N a0 hx25) cok70 rfl (by kernel_rfl) ?_
        refine W.run D_ok 1 100 (by kernel_rfl) ?_
        refine W.call0 (m_impl_docOf_ok N a1 hx26) cok70 rfl (by kernel_rfl) ?_
        refine W.layop D_ok (show LayOk _ [] from trivial) (by kernel_rfl) 100 { v := .own 100, R := [], new := [(100, .vec true 90 5 [[V.int r15.kind, V.int r15.n, V.str r15.text, .sl false false (r15.kids.map encSDoc), V.int r15.group], [V.int r16.kind, V.int r16.n, V.str r16.text, .sl false false (r16.kids.map encSDoc), V.int r16.group]])], N := [100] } (by kernel_rfl) ?_
        refine W.vecEq 100 (nn := true) (e := 90) (k := 5) (rows := [[V.int r15.kind, V.int r15.n, V.str r15.text, .sl false false (r15.kids.map encSDoc), V.int r15.group], [V.int r16.kind, V.int r16.n, V.str r16.text, .sl false false (r16.kids.map encSDoc), V.int r16.group]]) (rows' := [r15, r16].map encSDoc) (by kernel_rfl) (by simp only [List.map_cons, List.map_nil, encSDoc_eq]) ?_
        refine W.call (m_impl_cat_ok [r15, r16] hx27) cok72 [] [] [] (LayOk.cons (j := 100) encSDoc encSDoc ([r15, r16] : List SDoc) (by kernel_rfl) (share_encSDoc) (show LayOk _ [] from trivial)) (by kernel_rfl) (by kernel_rfl) ?_
        refine W.call (m_impl_doc__list_ok N r17 hx28) cok71 [] [(100, 101)] [101] (show LayOk _ [] from trivial) (by kernel_rfl) (by kernel_rfl) ?_
        refine W.run D_ok 1 102 (by kernel_rfl) ?_
        exact W.fin (by decide) (by kernel_rfl) (Weak.sel [(101, 101)] [4] (by kernel_rfl) (by kernel_rfl) (by kernel_rfl))
        ) ?_
    refine CodeOk.ret ?_
    have h := Option.some.inj h
    subst h
    exact Ends.gen [(101, 100)] (.inr rfl) (RetV.one rfl (OneR.tmp (t := 4) (r := .own 101) (by kernel_rfl))) (by kernel_rfl) (by kernel_rfl) (by kernel_rfl)

theorem m_laws_FnExactJoined_ok (N : Nat) (a0 : List SDNode) (a1 : List SDNode) {r : Bool} (h : m_laws_FnExactJoined N a0 a1 = some r) :
    AC Try.prog GG 10 [.sl false false (a0.map (encSDNode false)), .sl false false (a1.map (encSDNode false))] [] (V.bool r) [] := by
  rw [m_laws_FnExactJoined] at h
  refine AC.enter Try.func10 rfl ?_
  refine CodeOk.cutR (tl 92 [(0, .sl false false (a0.map (encSDNode false))), (1, .sl false false (a1.map (encSDNode false)))]) [] mix (by
      refine W.run D_ok 1 100 (by kernel_rfl) ?_
      exact W.fin (by decide) (by kernel_rfl) (Weak.sel [] [0, 1] (by kernel_rfl) (by kernel_rfl) (by kernel_rfl))
      ) ?_
  refine CodeOk.cutR (tl 92 [(0, .sl false false (a0.map (encSDNode false))), (1, .sl false false (a1.map (encSDNode false))), (5, V.int 1048576)]) [] mix (by
      refine W.run D_ok 1 100 (by kernel_rfl) ?_
      exact W.fin (by decide) (by kernel_rfl) (Weak.sel [] [0, 1, 5] (by kernel_rfl) (by kernel_rfl) (by kernel_rfl))
      ) ?_
  obtain ⟨r2, hx2, h⟩ := bind_some h
  refine CodeOk.cutR (tl 92 [(0, .sl false false (a0.map (encSDNode false))), (1, .sl false false (a1.map (encSDNode false))), (5, V.int r2)]) [] mix (by
      refine W.run D_ok 2 100 (by kernel_rfl) ?_
      refine W.call0 (m_laws_szDNodeS_ok N a0 1048576 hx2) cok30 rfl (by kernel_rfl) ?_
      refine W.run D_ok 1 100 (by kernel_rfl) ?_
      exact W.fin (by decide) (by kernel_rfl) (Weak.sel [] [0, 1, 5] (by kernel_rfl) (by kernel_rfl) (by kernel_rfl))
      ) ?_
  refine CodeOk.seq' ?_
  refine CodeOk.cutR (tl 92 [(0, .sl false false (a0.map (encSDNode false))), (1, .sl false false (a1.map (encSDNode false))), (5, V.int r2), (18, V.bool (decide (r2 < 0)))]) [] mix (by
      refine W.run D_ok 2 100 (by kernel_rfl) ?_
      exact W.fin (by decide) (by kernel_rfl) (Weak.sel [] [0, 1, 5, 18] (by kernel_rfl) (by kernel_rfl) (by kernel_rfl))
      ) ?_
  rcases cond_some h with ⟨hc4, h⟩ | ⟨hc4, h⟩
  · refine CodeOk.ifT hc4 (by kernel_rfl) ?_
    refine CodeOk.cutR (tl 92 [(4, V.bool true)]) [] mix (by
        refine W.run D_ok 1 100 (by kernel_rfl) ?_
        exact W.fin (by decide) (by kernel_rfl) (Weak.sel [] [4] (by kernel_rfl) (by kernel_rfl) (by kernel_rfl))
        ) ?_
    refine CodeOk.ret ?_
    have h := Option.some.inj h
    subst h
    exact Ends.gen [] (.inr rfl) (RetV.one rfl (OneR.tmp (t := 4) (r := V.bool true) (by kernel_rfl))) (by kernel_rfl) (by kernel_rfl) (by kernel_rfl)
  · refine CodeOk.ifF hc4 (by kernel_rfl) ?_
    refine CodeOk.skip ?_
    refine CodeOk.weak (st' := ⟨tl 92 [(0, .sl false false (a0.map (encSDNode false))), (1, .sl false false (a1.map (encSDNode false))), (5, V.int r2), (18, V.bool (decide (r2 < 0)))], []⟩) (Weak.refl _) ?_
    obtain ⟨r4, hx6, h⟩ := bind_some h
    refine CodeOk.cutR (tl 92 [(0, .sl false false (a0.map (encSDNode false))), (1, .sl false false (a1.map (encSDNode false))), (5, V.int r4)]) [] mix (by
        refine W.run D_ok 2 100 (by kernel_rfl) ?_
        refine W.call0 (m_laws_szDNodeS_ok N a1 r2 hx6) cok30 rfl (by kernel_rfl) ?_
        refine W.run D_ok 1 100 (by kernel_rfl) ?_
        exact W.fin (by decide) (by kernel_rfl) (Weak.sel [] [0, 1, 5] (by kernel_rfl) (by kernel_rfl) (by kernel_rfl))
        ) ?_
    refine CodeOk.seq' ?_
    refine CodeOk.cutR (tl 92 [(0, .sl false false (a0.map (encSDNode false))), (1, .sl false false (a1.map (encSDNode false))), (23, V.bool (decide (r4 < 0)))]) [] mix (by
        refine W.run D_ok 2 100 (by kernel_rfl) ?_
        exact W.fin (by decide) (by kernel_rfl) (Weak.sel [] [0, 1, 23] (by kernel_rfl) (by kernel_rfl) (by kernel_rfl))
        ) ?_
    rcases cond_some h with ⟨hc8, h⟩ | ⟨hc8, h⟩
    · refine CodeOk.ifT hc8 (by kernel_rfl) ?_
      refine CodeOk.cutR (tl 92 [(4, V.bool true)]) [] mix (by
          refine W.run D_ok 1 100 (by kernel_rfl) ?_
          exact W.fin (by decide) (by kernel_rfl) (Weak.sel [] [4] (by kernel_rfl) (by kernel_rfl) (by kernel_rfl))
          ) ?_
      refine CodeOk.ret ?_
      have h := Option.some.inj h
      subst h
      exact Ends.gen [] (.inr rfl) (RetV.one rfl (OneR.tmp (t := 4) (r := V.bool true) (by kernel_rfl))) (by kernel_rfl) (by kernel_rfl) (by kernel_rfl)
    · refine CodeOk.ifF hc8 (by kernel_rfl) ?_
      refine CodeOk.skip ?_
      refine CodeOk.weak (st' := ⟨tl 92 [(0, .sl false false (a0.map (encSDNode false))), (1, .sl false false (a1.map (encSDNode false))), (23, V.bool (decide (r4 < 0)))], []⟩) (Weak.refl _) ?_
      obtain ⟨r8, hx12, h⟩ := bind_some h
      obtain ⟨r9, hx13, h⟩ := bind_some h
      obtain ⟨r10, hx14, h⟩ := bind_some h
      refine CodeOk.cutR (tl 92 [(0, .sl false false (a0.map (encSDNode false))), (1, .sl false false (a1.map (encSDNode false))), (6, .own 102)]) [(102, .vec false 83 4 (r10.map (encSDNode true)))] mix (by
          refine W.run D_ok 1 100 (by kernel_rfl) ?_
          refine W.call (m_laws_toDNodeS_ok N a0 hx12) cok32 [] [(100, 100)] [100] (show LayOk _ [] from trivial) (by kernel_rfl) (by kernel_rfl) ?_
          refine W.run D_ok 1 101 (by kernel_rfl) ?_
          refine W.call (m_laws_toDNodeS_ok N a1 hx13) cok32 [] [(100, 101)] [101] (show LayOk _ [] from trivial) (by kernel_rfl) (by kernel_rfl) ?_
          refine W.lend (m_spec_Joined_ok N r8 r9 hx14) cok41 [(100, 102)] [102] (LayOk.cons (j := 100) (encSDNode true) (encSDNode false) r8 (by kernel_rfl) (share_encSDNode _) (LayOk.cons (j := 101) (encSDNode true) (encSDNode false) r9 (by kernel_rfl) (share_encSDNode _) (show LayOk _ [] from trivial))) (.own _) (.cons (DeepR.map (fun _ => (.cons (.c _) (.cons (.c _) (.cons (.c _) (.cons (.sl _ _ (DeepR.map (fun _ => (.cons (.c _) .nil)) _)) .nil))))) _) .nil) (by kernel_rfl) (by kernel_rfl) ?_
          refine W.run D_ok 1 103 (by kernel_rfl) ?_
          exact W.fin (by decide) (by kernel_rfl) (Weak.sel [(102, 102)] [0, 1, 6] (by kernel_rfl) (by kernel_rfl) (by kernel_rfl))
          ) ?_
      obtain ⟨r12, hx16, h⟩ := bind_some h
      refine CodeOk.cutR (tl 92 [(0, .sl false false (a0.map (encSDNode false))), (1, .sl false false (a1.map (encSDNode false))), (6, .own 102), (7, .own 103)]) [(103, .vec false 83 4 (r12.map (encSDNode true))), (102, .vec false 83 4 (r10.map (encSDNode true)))] mix (by
          refine W.run D_ok 1 103 (by kernel_rfl) ?_
          refine W.call (m_laws_toDNodeS_ok N a0 hx16) cok32 [] [(100, 103)] [103] (show LayOk _ [] from trivial) (by kernel_rfl) (by kernel_rfl) ?_
          refine W.run D_ok 1 104 (by kernel_rfl) ?_
          exact W.fin (by decide) (by kernel_rfl) (Weak.sel [(103, 103), (102, 102)] [0, 1, 6, 7] (by kernel_rfl) (by kernel_rfl) (by kernel_rfl))
          ) ?_
      obtain ⟨r14, hx18, h⟩ := bind_some h
      refine CodeOk.cutR (tl 92 [(0, .sl false false (a0.map (encSDNode false))), (1, .sl false false (a1.map (encSDNode false))), (6, .own 102), (7, .own 103), (8, .own 104)]) [(104, .vec false 83 4 (r14.map (encSDNode true))), (103, .vec false 83 4 (r12.map (encSDNode true))), (102, .vec false 83 4 (r10.map (encSDNode true)))] mix (by
          refine W.run D_ok 1 104 (by kernel_rfl) ?_
          refine W.call (m_laws_toDNodeS_ok N a1 hx18) cok32 [] [(100, 104)] [104] (show LayOk _ [] from trivial) (by kernel_rfl) (by kernel_rfl) ?_
          refine W.run D_ok 1 105 (by kernel_rfl) ?_
          exact W.fin (by decide) (by kernel_rfl) (Weak.sel [(104, 104), (103, 103), (102, 102)] [0, 1, 6, 7, 8] (by kernel_rfl) (by kernel_rfl) (by kernel_rfl))
          ) ?_
      obtain ⟨r16, hx20, h⟩ := bind_some h
      refine CodeOk.cutR (tl 92 [(0, .sl false false (a0.map (encSDNode false))), (1, .sl false false (a1.map (encSDNode false))), (6, .own 102), (7, .own 103), (8, .own 104), (9, .own 105)]) [(105, .vec false 83 4 (r16.map (encSDNode true))), (104, .vec false 83 4 (r14.map (encSDNode true))), (103, .vec false 83 4 (r12.map (encSDNode true))), (102, .vec false 83 4 (r10.map (encSDNode true)))] mix (by
          refine W.run D_ok 2 105 (by kernel_rfl) ?_
          refine W.lend (m_impl_Joined_ok N r12 r14 hx20) cok42 [(100, 105)] [105] (LayOk.cons (j := 103) (encSDNode true) (encSDNode false) r12 (by kernel_rfl) (share_encSDNode _) (LayOk.cons (j := 104) (encSDNode true) (encSDNode false) r14 (by kernel_rfl) (share_encSDNode _) (show LayOk _ [] from trivial))) (.own _) (.cons (DeepR.map (fun _ => (.cons (.c _) (.cons (.c _) (.cons (.c _) (.cons (.sl _ _ (DeepR.map (fun _ => (.cons (.c _) .nil)) _)) .nil))))) _) .nil) (by kernel_rfl) (by kernel_rfl) ?_
          refine W.run D_ok 1 106 (by kernel_rfl) ?_
          exact W.fin (by decide) (by kernel_rfl) (Weak.sel [(105, 105), (104, 104), (103, 103), (102, 102)] [0, 1, 6, 7, 8, 9] (by kernel_rfl) (by kernel_rfl) (by kernel_rfl))
          ) ?_
      refine CodeOk.seq' ?_
      obtain ⟨r20, hx25, h⟩ := bind_some h
      refine CodeOk.cutR (tl 92 [(0, .sl false false (a0.map (encSDNode false))), (1, .sl false false (a1.map (encSDNode false))), (6, .own 102), (7, .own 103), (8, .own 104), (9, .own 105), (39, V.bool (!r20))]) [(105, .vec false 83 4 (r16.map (encSDNode true))), (104, .vec false 83 4 (r14.map (encSDNode true))), (103, .vec false 83 4 (r12.map (encSDNode true))), (102, .vec false 83 4 (r10.map (encSDNode true)))] mix (by
          refine W.run D_ok 2 106 (by kernel_rfl) ?_
          refine W.lend (m_laws_eqDNodeS_ok N r16 r10 hx25) cok34 [] [] (LayOk.cons (j := 105) (encSDNode true) (encSDNode false) r16 (by kernel_rfl) (share_encSDNode _) (LayOk.cons (j := 102) (encSDNode true) (encSDNode false) r10 (by kernel_rfl) (share_encSDNode _) (show LayOk _ [] from trivial))) (.c _) .nil (by kernel_rfl) (by kernel_rfl) ?_
          refine W.run D_ok 1 106 (by kernel_rfl) ?_
          exact W.fin (by decide) (by kernel_rfl) (Weak.sel [(105, 105), (104, 104), (103, 103), (102, 102)] [0, 1, 6, 7, 8, 9, 39] (by kernel_rfl) (by kernel_rfl) (by kernel_rfl))
          ) ?_
      rcases cond_some h with ⟨hc26, h⟩ | ⟨hc26, h⟩
      · refine CodeOk.ifT hc26 (by kernel_rfl) ?_
        refine CodeOk.cutR (tl 92 [(4, V.bool false)]) [] mix (by
            refine W.run D_ok 1 106 (by kernel_rfl) ?_
            exact W.fin (by decide) (by kernel_rfl) (Weak.sel [] [4] (by kernel_rfl) (by kernel_rfl) (by kernel_rfl))
            ) ?_
        refine CodeOk.ret ?_
        have h := Option.some.inj h
        subst h
        exact Ends.gen [] (.inr rfl) (RetV.one rfl (OneR.tmp (t := 4) (r := V.bool false) (by kernel_rfl))) (by kernel_rfl) (by kernel_rfl) (by kernel_rfl)
      · refine CodeOk.ifF hc26 (by kernel_rfl) ?_
        refine CodeOk.skip ?_
        refine CodeOk.weak (st' := ⟨tl 92 [(0, .sl false false (a0.map (encSDNode false))), (1, .sl false false (a1.map (encSDNode false))), (6, .own 102), (7, .own 103), (8, .own 104), (9, .own 105), (39, V.bool (!r20))], [(105, .vec false 83 4 (r16.map (encSDNode true))), (104, .vec false 83 4 (r14.map (encSDNode true))), (103, .vec false 83 4 (r12.map (encSDNode true))), (102, .vec false 83 4 (r10.map (encSDNode true)))]⟩) (Weak.refl _) ?_
        refine CodeOk.seq' ?_
        obtain ⟨r27, hx34, h⟩ := bind_some h
        obtain ⟨r28, hx35, h⟩ := bind_some h
        refine CodeOk.cutR (tl 92 [(0, .sl false false (a0.map (encSDNode false))), (1, .sl false false (a1.map (encSDNode false))), (6, .own 102), (7, .own 103), (8, .own 104), (9, .own 105), (44, V.bool (!r28))]) [(105, .vec false 83 4 (r16.map (encSDNode true))), (104, .vec false 83 4 (r14.map (encSDNode true))), (103, .vec false 83 4 (r12.map (encSDNode true))), (102, .vec false 83 4 (r10.map (encSDNode true)))] mix (by
            refine W.run D_ok 2 106 (by kernel_rfl) ?_
            refine W.call (m_laws_toDNodeS_ok N a0 hx34) cok32 [] [(100, 106)] [106] (show LayOk _ [] from trivial) (by kernel_rfl) (by kernel_rfl) ?_
            refine W.lend (m_laws_eqDNodeS_ok N r12 r27 hx35) cok34 [] [] (LayOk.cons (j := 103) (encSDNode true) (encSDNode false) r12 (by kernel_rfl) (share_encSDNode _) (LayOk.cons (j := 106) (encSDNode true) (encSDNode false) r27 (by kernel_rfl) (share_encSDNode _) (show LayOk _ [] from trivial))) (.c _) .nil (by kernel_rfl) (by kernel_rfl) ?_
            refine W.run D_ok 1 107 (by kernel_rfl) ?_
            exact W.fin (by decide) (by kernel_rfl) (Weak.sel [(105, 105), (104, 104), (103, 103), (102, 102)] [0, 1, 6, 7, 8, 9, 44] (by kernel_rfl) (by kernel_rfl) (by kernel_rfl))
            ) ?_
        rcases cond_some h with ⟨hc36, h⟩ | ⟨hc36, h⟩
        · refine CodeOk.ifT hc36 (by kernel_rfl) ?_
          refine CodeOk.cutR (tl 92 [(4, V.bool false)]) [] mix (by
              refine W.run D_ok 1 107 (by kernel_rfl) ?_
              exact W.fin (by decide) (by kernel_rfl) (Weak.sel [] [4] (by kernel_rfl) (by kernel_rfl) (by kernel_rfl))
              ) ?_
          refine CodeOk.ret ?_
          have h := Option.some.inj h
          subst h
          exact Ends.gen [] (.inr rfl) (RetV.one rfl (OneR.tmp (t := 4) (r := V.bool false) (by kernel_rfl))) (by kernel_rfl) (by kernel_rfl) (by kernel_rfl)
        · refine CodeOk.ifF hc36 (by kernel_rfl) ?_
          refine CodeOk.skip ?_
          refine CodeOk.weak (st' := ⟨tl 92 [(0, .sl false false (a0.map (encSDNode false))), (1, .sl false false (a1.map (encSDNode false))), (6, .own 102), (7, .own 103), (8, .own 104), (9, .own 105), (44, V.bool (!r28))], [(105, .vec false 83 4 (r16.map (encSDNode true))), (104, .vec false 83 4 (r14.map (encSDNode true))), (103, .vec false 83 4 (r12.map (encSDNode true))), (102, .vec false 83 4 (r10.map (encSDNode true)))]⟩) (Weak.refl _) ?_
          refine CodeOk.seq' ?_
          obtain ⟨r35, hx44, h⟩ := bind_some h
          obtain ⟨r36, hx45, h⟩ := bind_some h
          refine CodeOk.cutR (tl 92 [(0, .sl false false (a0.map (encSDNode false))), (1, .sl false false (a1.map (encSDNode false))), (6, .own 102), (7, .own 103), (8, .own 104), (9, .own 105), (49, V.bool (!r36))]) [(105, .vec false 83 4 (r16.map (encSDNode true))), (104, .vec false 83 4 (r14.map (encSDNode true))), (103, .vec false 83 4 (r12.map (encSDNode true))), (102, .vec false 83 4 (r10.map (encSDNode true)))] mix (by
              refine W.run D_ok 2 107 (by kernel_rfl) ?_
              refine W.call (m_laws_toDNodeS_ok N a1 hx44) cok32 [] [(100, 107)] [107] (show LayOk _ [] from trivial) (by kernel_rfl) (by kernel_rfl) ?_
              refine W.lend (m_laws_eqDNodeS_ok N r14 r35 hx45) cok34 [] [] (LayOk.cons (j := 104) (encSDNode true) (encSDNode false) r14 (by kernel_rfl) (share_encSDNode _) (LayOk.cons (j := 107) (encSDNode true) (encSDNode false) r35 (by kernel_rfl) (share_encSDNode _) (show LayOk _ [] from trivial))) (.c _) .nil (by kernel_rfl) (by kernel_rfl) ?_
              refine W.run D_ok 1 108 (by kernel_rfl) ?_
              exact W.fin (by decide) (by kernel_rfl) (Weak.sel [(105, 105), (104, 104), (103, 103), (102, 102)] [0, 1, 6, 7, 8, 9, 49] (by kernel_rfl) (by kernel_rfl) (by kernel_rfl))
              ) ?_
          rcases cond_some h with ⟨hc46, h⟩ | ⟨hc46, h⟩
          · refine CodeOk.ifT hc46 (by kernel_rfl) ?_
            refine CodeOk.cutR (tl 92 [(4, V.bool false)]) [] mix (by
                refine W.run D_ok 1 108 (by kernel_rfl) ?_
                exact W.fin (by decide) (by kernel_rfl) (Weak.sel [] [4] (by kernel_rfl) (by kernel_rfl) (by kernel_rfl))
                ) ?_
            refine CodeOk.ret ?_
            have h := Option.some.inj h
            subst h
            exact Ends.gen [] (.inr rfl) (RetV.one rfl (OneR.tmp (t := 4) (r := V.bool false) (by kernel_rfl))) (by kernel_rfl) (by kernel_rfl) (by kernel_rfl)
          · refine CodeOk.ifF hc46 (by kernel_rfl) ?_
            refine CodeOk.skip ?_
            refine CodeOk.weak (st' := ⟨tl 92 [(0, .sl false false (a0.map (encSDNode false))), (1, .sl false false (a1.map (encSDNode false))), (6, .own 102), (7, .own 103), (8, .own 104), (9, .own 105), (49, V.bool (!r36))], [(105, .vec false 83 4 (r16.map (encSDNode true))), (104, .vec false 83 4 (r14.map (encSDNode true))), (103, .vec false 83 4 (r12.map (encSDNode true))), (102, .vec false 83 4 (r10.map (encSDNode true)))]⟩) (Weak.refl _) ?_
            refine CodeOk.cutR (tl 92 [(0, .sl false false (a0.map (encSDNode false))), (1, .sl false false (a1.map (encSDNode false))), (6, .own 102), (7, .own 103), (8, .own 104), (9, .own 105), (10, V.int 1)]) [(105, .vec false 83 4 (r16.map (encSDNode true))), (104, .vec false 83 4 (r14.map (encSDNode true))), (103, .vec false 83 4 (r12.map (encSDNode true))), (102, .vec false 83 4 (r10.map (encSDNode true)))] mix (by
                refine W.run D_ok 1 108 (by kernel_rfl) ?_
                exact W.fin (by decide) (by kernel_rfl) (Weak.sel [(105, 105), (104, 104), (103, 103), (102, 102)] [0, 1, 6, 7, 8, 9, 10] (by kernel_rfl) (by kernel_rfl) (by kernel_rfl))
                ) ?_
            obtain ⟨r38, hx48, h⟩ := bind_some h
            refine CodeOk.cutR (tl 92 [(0, .sl false false (a0.map (encSDNode false))), (1, .sl false false (a1.map (encSDNode false))), (6, .own 102), (8, .own 104), (9, .own 105), (10, V.int r38.1)]) [(105, .vec false 83 4 (r16.map (encSDNode true))), (104, .vec false 83 4 (r14.map (encSDNode true))), (102, .vec false 83 4 (r10.map (encSDNode true)))] mix (by
                refine W.run D_ok 2 108 (by kernel_rfl) ?_
                refine W.call (m_laws_markDNodeS_ok 83 N 1 r12 hx48) cok35 [(103, 0)] [(0, 103)] [] (show LayOk _ [] from trivial) (by kernel_rfl) (by kernel_rfl) ?_
                refine W.run D_ok 1 108 (by kernel_rfl) ?_
                exact W.fin (by decide) (by kernel_rfl) (Weak.sel [(105, 105), (104, 104), (102, 102)] [0, 1, 6, 8, 9, 10] (by kernel_rfl) (by kernel_rfl) (by kernel_rfl))
                ) ?_
            obtain ⟨r40, hx50, h⟩ := bind_some h
            refine CodeOk.cutR (tl 92 [(0, .sl false false (a0.map (encSDNode false))), (1, .sl false false (a1.map (encSDNode false))), (6, .own 102), (9, .own 105), (10, V.int r40.1)]) [(105, .vec false 83 4 (r16.map (encSDNode true))), (102, .vec false 83 4 (r10.map (encSDNode true)))] mix (by
                refine W.run D_ok 2 108 (by kernel_rfl) ?_
                refine W.call (m_laws_markDNodeS_ok 83 N r38.1 r14 hx50) cok35 [(104, 0)] [(0, 104)] [] (show LayOk _ [] from trivial) (by kernel_rfl) (by kernel_rfl) ?_
                refine W.run D_ok 1 108 (by kernel_rfl) ?_
                exact W.fin (by decide) (by kernel_rfl) (Weak.sel [(105, 105), (102, 102)] [0, 1, 6, 9, 10] (by kernel_rfl) (by kernel_rfl) (by kernel_rfl))
                ) ?_
            refine CodeOk.seq' ?_
            obtain ⟨y45, hv59, h⟩ := bind_some h
            refine CodeOk.cutR (tl 92 [(0, .sl false false (a0.map (encSDNode false))), (1, .sl false false (a1.map (encSDNode false))), (6, .own 100), (9, .own 101), (63, V.bool y45)]) [(100, .vec false 83 4 (r10.map (encSDNode true))), (101, .vec false 83 4 (r16.map (encSDNode true)))] mix (by
                refine W.run D_ok 3 108 (by kernel_rfl) ?_
                rcases cond_some hv59 with ⟨hc60, hv59⟩ | ⟨hc60, hv59⟩
                · refine W.is 58 hc60 (by kernel_rfl) ?_
                  refine W.run D_ok 5 108 (by kernel_rfl) ?_
                  have hv59 := Option.some.inj hv59
                  subst hv59
                  exact W.fin (by decide) (by kernel_rfl) (Weak.sel [(102, 100), (105, 101)] [0, 1, 6, 9, 63] (by kernel_rfl) (by kernel_rfl) (by kernel_rfl))
                · refine W.is 58 hc60 (by kernel_rfl) ?_
                  refine W.run D_ok 2 108 (by kernel_rfl) ?_
                  obtain ⟨r46, hx61, hv59⟩ := bind_some hv59
                  refine W.lend (m_laws_eqDNodeS_ok N r16 r10 hx61) cok34 [] [] (LayOk.cons (j := 105) (encSDNode true) (encSDNode false) r16 (by kernel_rfl) (share_encSDNode _) (LayOk.cons (j := 102) (encSDNode true) (encSDNode false) r10 (by kernel_rfl) (share_encSDNode _) (show LayOk _ [] from trivial))) (.c _) .nil (by kernel_rfl) (by kernel_rfl) ?_
                  refine W.run D_ok 2 108 (by kernel_rfl) ?_
                  have hv59 := Option.some.inj hv59
                  subst hv59
                  exact W.fin (by decide) (by kernel_rfl) (Weak.sel [(102, 100), (105, 101)] [0, 1, 6, 9, 63] (by kernel_rfl) (by kernel_rfl) (by kernel_rfl))
                ) ?_
            rcases cond_some h with ⟨hc62, h⟩ | ⟨hc62, h⟩
            · refine CodeOk.ifT hc62 (by kernel_rfl) ?_
              refine CodeOk.cutR (tl 92 [(4, V.bool false)]) [] mix (by
                  refine W.run D_ok 1 108 (by kernel_rfl) ?_
                  exact W.fin (by decide) (by kernel_rfl) (Weak.sel [] [4] (by kernel_rfl) (by kernel_rfl) (by kernel_rfl))
                  ) ?_
              refine CodeOk.ret ?_
              have h := Option.some.inj h
              subst h
              exact Ends.gen [] (.inr rfl) (RetV.one rfl (OneR.tmp (t := 4) (r := V.bool false) (by kernel_rfl))) (by kernel_rfl) (by kernel_rfl) (by kernel_rfl)
            · refine CodeOk.ifF hc62 (by kernel_rfl) ?_
              refine CodeOk.skip ?_
              refine CodeOk.weak (st' := ⟨tl 92 [(0, .sl false false (a0.map (encSDNode false))), (1, .sl false false (a1.map (encSDNode false))), (6, .own 100), (9, .own 101), (63, V.bool y45)], [(100, .vec false 83 4 (r10.map (encSDNode true))), (101, .vec false 83 4 (r16.map (encSDNode true)))]⟩) (Weak.refl _) ?_
              refine CodeOk.cutR (tl 92 [(0, .sl false false (a0.map (encSDNode false))), (1, .sl false false (a1.map (encSDNode false))), (6, .own 100), (9, .own 101), (11, V.int 1)]) [(100, .vec false 83 4 (r10.map (encSDNode true))), (101, .vec false 83 4 (r16.map (encSDNode true)))] mix (by
                  refine W.run D_ok 1 108 (by kernel_rfl) ?_
                  exact W.fin (by decide) (by kernel_rfl) (Weak.sel [(100, 100), (101, 101)] [0, 1, 6, 9, 11] (by kernel_rfl) (by kernel_rfl) (by kernel_rfl))
                  ) ?_
              obtain ⟨r48, hx64, h⟩ := bind_some h
              refine CodeOk.cutR (tl 92 [(0, .sl false false (a0.map (encSDNode false))), (1, .sl false false (a1.map (encSDNode false))), (6, .own 100), (9, .own 101), (11, V.int r48.1)]) [(100, .vec false 83 4 (r10.map (encSDNode true))), (101, .vec false 83 4 (r48.2.map (encSDNode true)))] mix (by
                  refine W.run D_ok 2 108 (by kernel_rfl) ?_
                  refine W.call (m_laws_markDNodeS_ok 83 N 1 r16 hx64) cok35 [(101, 0)] [(0, 101)] [] (show LayOk _ [] from trivial) (by kernel_rfl) (by kernel_rfl) ?_
                  refine W.run D_ok 1 108 (by kernel_rfl) ?_
                  exact W.fin (by decide) (by kernel_rfl) (Weak.sel [(100, 100), (101, 101)] [0, 1, 6, 9, 11] (by kernel_rfl) (by kernel_rfl) (by kernel_rfl))
                  ) ?_
              refine CodeOk.cutR (tl 92 [(0, .sl false false (a0.map (encSDNode false))), (1, .sl false false (a1.map (encSDNode false))), (6, .own 100), (9, .own 101), (11, V.int r48.1), (12, V.int 1)]) [(100, .vec false 83 4 (r10.map (encSDNode true))), (101, .vec false 83 4 (r48.2.map (encSDNode true)))] mix (by
                  refine W.run D_ok 1 108 (by kernel_rfl) ?_
                  exact W.fin (by decide) (by kernel_rfl) (Weak.sel [(100, 100), (101, 101)] [0, 1, 6, 9, 11, 12] (by kernel_rfl) (by kernel_rfl) (by kernel_rfl))
                  ) ?_
              obtain ⟨r50, hx66, h⟩ := bind_some h
              refine CodeOk.cutR (tl 92 [(0, .sl false false (a0.map (encSDNode false))), (1, .sl false false (a1.map (encSDNode false))), (6, .own 100), (9, .own 101), (11, V.int r48.1), (12, V.int r50)]) [(100, .vec false 83 4 (r10.map (encSDNode true))), (101, .vec false 83 4 (r48.2.map (encSDNode true)))] mix (by
                  refine W.run D_ok 2 108 (by kernel_rfl) ?_
                  refine W.lend (m_laws_heldDNodeS_ok N r48.2 1 hx66) cok36 [] [] (LayOk.cons (j := 101) (encSDNode true) (encSDNode false) r48.2 (by kernel_rfl) (share_encSDNode _) (show LayOk _ [] from trivial)) (.c _) .nil (by kernel_rfl) (by kernel_rfl) ?_
                  refine W.run D_ok 1 108 (by kernel_rfl) ?_
                  exact W.fin (by decide) (by kernel_rfl) (Weak.sel [(100, 100), (101, 101)] [0, 1, 6, 9, 11, 12] (by kernel_rfl) (by kernel_rfl) (by kernel_rfl))
                  ) ?_
              refine CodeOk.seq' ?_
              refine CodeOk.cutR (tl 92 [(0, .sl false false (a0.map (encSDNode false))), (1, .sl false false (a1.map (encSDNode false))), (6, .own 100), (9, .own 101), (11, V.int r48.1), (12, V.int r50), (71, V.bool (decide (r50 < 0)))]) [(100, .vec false 83 4 (r10.map (encSDNode true))), (101, .vec false 83 4 (r48.2.map (encSDNode true)))] mix (by
                  refine W.run D_ok 2 108 (by kernel_rfl) ?_
                  exact W.fin (by decide) (by kernel_rfl) (Weak.sel [(100, 100), (101, 101)] [0, 1, 6, 9, 11, 12, 71] (by kernel_rfl) (by kernel_rfl) (by kernel_rfl))
                  ) ?_
              rcases cond_some h with ⟨hc68, h⟩ | ⟨hc68, h⟩
              · refine CodeOk.ifT hc68 (by kernel_rfl) ?_
                refine CodeOk.cutR (tl 92 [(4, V.bool false)]) [] mix (by
                    refine W.run D_ok 1 108 (by kernel_rfl) ?_
                    exact W.fin (by decide) (by kernel_rfl) (Weak.sel [] [4] (by kernel_rfl) (by kernel_rfl) (by kernel_rfl))
                    ) ?_
                refine CodeOk.ret ?_
                have h := Option.some.inj h
                subst h
                exact Ends.gen [] (.inr rfl) (RetV.one rfl (OneR.tmp (t := 4) (r := V.bool false) (by kernel_rfl))) (by kernel_rfl) (by kernel_rfl) (by kernel_rfl)
              · refine CodeOk.ifF hc68 (by kernel_rfl) ?_
                refine CodeOk.skip ?_
                refine CodeOk.weak (st' := ⟨tl 92 [(0, .sl false false (a0.map (encSDNode false))), (1, .sl false false (a1.map (encSDNode false))), (6, .own 100), (9, .own 101), (11, V.int r48.1), (12, V.int r50), (71, V.bool (decide (r50 < 0)))], [(100, .vec false 83 4 (r10.map (encSDNode true))), (101, .vec false 83 4 (r48.2.map (encSDNode true)))]⟩) (Weak.refl _) ?_
                refine CodeOk.seq' ?_
                refine CodeOk.cutR (tl 92 [(0, .sl false false (a0.map (encSDNode false))), (1, .sl false false (a1.map (encSDNode false))), (6, .own 100), (9, .own 101), (11, V.int r48.1), (74, V.bool (r50 != r48.1))]) [(100, .vec false 83 4 (r10.map (encSDNode true))), (101, .vec false 83 4 (r48.2.map (encSDNode true)))] mix (by
                    refine W.run D_ok 3 108 (by kernel_rfl) ?_
                    exact W.fin (by decide) (by kernel_rfl) (Weak.sel [(100, 100), (101, 101)] [0, 1, 6, 9, 11, 74] (by kernel_rfl) (by kernel_rfl) (by kernel_rfl))
                    ) ?_
                rcases cond_some h with ⟨hc70, h⟩ | ⟨hc70, h⟩
                · refine CodeOk.ifT hc70 (by kernel_rfl) ?_
                  refine CodeOk.cutR (tl 92 [(4, V.bool false)]) [] mix (by
                      refine W.run D_ok 1 108 (by kernel_rfl) ?_
                      exact W.fin (by decide) (by kernel_rfl) (Weak.sel [] [4] (by kernel_rfl) (by kernel_rfl) (by kernel_rfl))
                      ) ?_
                  refine CodeOk.ret ?_
                  have h := Option.some.inj h
                  subst h
                  exact Ends.gen [] (.inr rfl) (RetV.one rfl (OneR.tmp (t := 4) (r := V.bool false) (by kernel_rfl))) (by kernel_rfl) (by kernel_rfl) (by kernel_rfl)
                · refine CodeOk.ifF hc70 (by kernel_rfl) ?_
                  refine CodeOk.skip ?_
                  refine CodeOk.weak (st' := ⟨tl 92 [(0, .sl false false (a0.map (encSDNode false))), (1, .sl false false (a1.map (encSDNode false))), (6, .own 100), (9, .own 101), (11, V.int r48.1), (74, V.bool (r50 != r48.1))], [(100, .vec false 83 4 (r10.map (encSDNode true))), (101, .vec false 83 4 (r48.2.map (encSDNode true)))]⟩) (Weak.refl _) ?_
                  obtain ⟨r54, hx74, h⟩ := bind_some h
                  obtain ⟨r55, hx75, h⟩ := bind_some h
                  obtain ⟨r56, hx76, h⟩ := bind_some h
                  refine CodeOk.cutR (tl 92 [(6, .own 100), (9, .own 101), (11, V.int r48.1), (13, .own 110)]) [(110, .vec false 83 4 (r56.map (encSDNode true))), (100, .vec false 83 4 (r10.map (encSDNode true))), (101, .vec false 83 4 (r48.2.map (encSDNode true)))] mix (by
                      refine W.run D_ok 1 108 (by kernel_rfl) ?_
                      refine W.call (m_laws_toDNodeS_ok N a0 hx74) cok32 [] [(100, 108)] [108] (show LayOk _ [] from trivial) (by kernel_rfl) (by kernel_rfl) ?_
                      refine W.run D_ok 1 109 (by kernel_rfl) ?_
                      refine W.call (m_laws_toDNodeS_ok N a1 hx75) cok32 [] [(100, 109)] [109] (show LayOk _ [] from trivial) (by kernel_rfl) (by kernel_rfl) ?_
                      refine W.lend (m_impl_Joined_ok N r54 r55 hx76) cok42 [(100, 110)] [110] (LayOk.cons (j := 108) (encSDNode true) (encSDNode false) r54 (by kernel_rfl) (share_encSDNode _) (LayOk.cons (j := 109) (encSDNode true) (encSDNode false) r55 (by kernel_rfl) (share_encSDNode _) (show LayOk _ [] from trivial))) (.own _) (.cons (DeepR.map (fun _ => (.cons (.c _) (.cons (.c _) (.cons (.c _) (.cons (.sl _ _ (DeepR.map (fun _ => (.cons (.c _) .nil)) _)) .nil))))) _) .nil) (by kernel_rfl) (by kernel_rfl) ?_
                      refine W.run D_ok 1 111 (by kernel_rfl) ?_
                      exact W.fin (by decide) (by kernel_rfl) (Weak.sel [(110, 110), (100, 100), (101, 101)] [6, 9, 11, 13] (by kernel_rfl) (by kernel_rfl) (by kernel_rfl))
                      ) ?_
                  refine CodeOk.seq' ?_
                  obtain ⟨r60, hx81, h⟩ := bind_some h
                  refine CodeOk.cutR (tl 92 [(9, .own 101), (11, V.int r48.1), (83, V.bool (!r60))]) [(101, .vec false 83 4 (r48.2.map (encSDNode true)))] mix (by
                      refine W.run D_ok 2 111 (by kernel_rfl) ?_
                      refine W.lend (m_laws_eqDNodeS_ok N r56 r10 hx81) cok34 [] [] (LayOk.cons (j := 110) (encSDNode true) (encSDNode false) r56 (by kernel_rfl) (share_encSDNode _) (LayOk.cons (j := 100) (encSDNode true) (encSDNode false) r10 (by kernel_rfl) (share_encSDNode _) (show LayOk _ [] from trivial))) (.c _) .nil (by kernel_rfl) (by kernel_rfl) ?_
                      refine W.run D_ok 1 111 (by kernel_rfl) ?_
                      exact W.fin (by decide) (by kernel_rfl) (Weak.sel [(101, 101)] [9, 11, 83] (by kernel_rfl) (by kernel_rfl) (by kernel_rfl))
                      ) ?_
                  rcases cond_some h with ⟨hc82, h⟩ | ⟨hc82, h⟩
                  · refine CodeOk.ifT hc82 (by kernel_rfl) ?_
                    refine CodeOk.cutR (tl 92 [(4, V.bool false)]) [] mix (by
                        refine W.run D_ok 1 111 (by kernel_rfl) ?_
                        exact W.fin (by decide) (by kernel_rfl) (Weak.sel [] [4] (by kernel_rfl) (by kernel_rfl) (by kernel_rfl))
                        ) ?_
                    refine CodeOk.ret ?_
                    have h := Option.some.inj h
                    subst h
                    exact Ends.gen [] (.inr rfl) (RetV.one rfl (OneR.tmp (t := 4) (r := V.bool false) (by kernel_rfl))) (by kernel_rfl) (by kernel_rfl) (by kernel_rfl)
                  · refine CodeOk.ifF hc82 (by kernel_rfl) ?_
                    refine CodeOk.skip ?_
                    refine CodeOk.weak (st' := ⟨tl 92 [(9, .own 101), (11, V.int r48.1), (83, V.bool (!r60))], [(101, .vec false 83 4 (r48.2.map (encSDNode true)))]⟩) (Weak.refl _) ?_
                    refine CodeOk.cutR (tl 92 [(9, .own 101), (11, V.int r48.1), (12, V.int 1)]) [(101, .vec false 83 4 (r48.2.map (encSDNode true)))] mix (by
                        refine W.run D_ok 1 111 (by kernel_rfl) ?_
                        exact W.fin (by decide) (by kernel_rfl) (Weak.sel [(101, 101)] [9, 11, 12] (by kernel_rfl) (by kernel_rfl) (by kernel_rfl))
                        ) ?_
                    obtain ⟨r62, hx84, h⟩ := bind_some h
                    refine CodeOk.cutR (tl 92 [(11, V.int r48.1), (12, V.int r62)]) [] mix (by
                        refine W.run D_ok 2 111 (by kernel_rfl) ?_
                        refine W.lend (m_laws_heldDNodeS_ok N r48.2 1 hx84) cok36 [] [] (LayOk.cons (j := 101) (encSDNode true) (encSDNode false) r48.2 (by kernel_rfl) (share_encSDNode _) (show LayOk _ [] from trivial)) (.c _) .nil (by kernel_rfl) (by kernel_rfl) ?_
                        refine W.run D_ok 1 111 (by kernel_rfl) ?_
                        exact W.fin (by decide) (by kernel_rfl) (Weak.sel [] [11, 12] (by kernel_rfl) (by kernel_rfl) (by kernel_rfl))
                        ) ?_
                    refine CodeOk.seq' ?_
                    refine CodeOk.cutR (tl 92 [(11, V.int r48.1), (12, V.int r62), (88, V.bool (decide (r62 < 0)))]) [] mix (by
                        refine W.run D_ok 2 111 (by kernel_rfl) ?_
                        exact W.fin (by decide) (by kernel_rfl) (Weak.sel [] [11, 12, 88] (by kernel_rfl) (by kernel_rfl) (by kernel_rfl))
                        ) ?_
                    rcases cond_some h with ⟨hc86, h⟩ | ⟨hc86, h⟩
                    · refine CodeOk.ifT hc86 (by kernel_rfl) ?_
                      refine CodeOk.cutR (tl 92 [(4, V.bool false)]) [] mix (by
                          refine W.run D_ok 1 111 (by kernel_rfl) ?_
                          exact W.fin (by decide) (by kernel_rfl) (Weak.sel [] [4] (by kernel_rfl) (by kernel_rfl) (by kernel_rfl))
                          ) ?_
                      refine CodeOk.ret ?_
                      have h := Option.some.inj h
                      subst h
                      exact Ends.gen [] (.inr rfl) (RetV.one rfl (OneR.tmp (t := 4) (r := V.bool false) (by kernel_rfl))) (by kernel_rfl) (by kernel_rfl) (by kernel_rfl)
                    · refine CodeOk.ifF hc86 (by kernel_rfl) ?_
                      refine CodeOk.skip ?_
                      refine CodeOk.weak (st' := ⟨tl 92 [(11, V.int r48.1), (12, V.int r62), (88, V.bool (decide (r62 < 0)))], []⟩) (Weak.refl _) ?_
                      refine CodeOk.seq' ?_
                      refine CodeOk.cutR (tl 92 [(91, V.bool (r62 != r48.1))]) [] mix (by
                          refine W.run D_ok 3 111 (by kernel_rfl) ?_
                          exact W.fin (by decide) (by kernel_rfl) (Weak.sel [] [91] (by kernel_rfl) (by kernel_rfl) (by kernel_rfl))
                          ) ?_
                      rcases cond_some h with ⟨hc88, h⟩ | ⟨hc88, h⟩
                      · refine CodeOk.ifT hc88 (by kernel_rfl) ?_
                        refine CodeOk.cutR (tl 92 [(4, V.bool false)]) [] mix (by
                            refine W.run D_ok 1 111 (by kernel_rfl) ?_
                            exact W.fin (by decide) (by kernel_rfl) (Weak.sel [] [4] (by kernel_rfl) (by kernel_rfl) (by kernel_rfl))
                            ) ?_
                        refine CodeOk.ret ?_
                        have h := Option.some.inj h
                        subst h
                        exact Ends.gen [] (.inr rfl) (RetV.one rfl (OneR.tmp (t := 4) (r := V.bool false) (by kernel_rfl))) (by kernel_rfl) (by kernel_rfl) (by kernel_rfl)
                      · refine CodeOk.ifF hc88 (by kernel_rfl) ?_
                        refine CodeOk.skip ?_
                        refine CodeOk.weak (st' := ⟨tl 92 [(91, V.bool (r62 != r48.1))], []⟩) (Weak.refl _) ?_
                        refine CodeOk.cutR (tl 92 [(4, V.bool true)]) [] mix (by
                            refine W.run D_ok 1 111 (by kernel_rfl) ?_
                            exact W.fin (by decide) (by kernel_rfl) (Weak.sel [] [4] (by kernel_rfl) (by kernel_rfl) (by kernel_rfl))
                            ) ?_
                        refine CodeOk.ret ?_
                        have h := Option.some.inj h
                        subst h
                        exact Ends.gen [] (.inr rfl) (RetV.one rfl (OneR.tmp (t := 4) (r := V.bool true) (by kernel_rfl))) (by kernel_rfl) (by kernel_rfl) (by kernel_rfl)

end Go.Proofs.Try
