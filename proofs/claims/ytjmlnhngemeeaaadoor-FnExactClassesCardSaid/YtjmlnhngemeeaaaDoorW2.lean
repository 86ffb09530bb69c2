/-
  The walks that show that the code computes the models, part 2.
-/
import Derived.Test.YtjmlnhngemeeaaaDoorW1
namespace Go.Proofs.Tryd
open Go.Av
set_option maxRecDepth 100000

theorem m_impl_OffsetOf_ok (N : Nat) (a0 : List UInt8) (a1 : Int) (a2 : Int) {r : (Int × Bool)} (h : m_impl_OffsetOf N a0 a1 a2 = some r) :
    AC Tryd.prog (GS []) 15 [V.str a0, V.int a1, V.int a2] [] (.tup [V.int r.1, V.bool r.2]) [] := by
  rw [m_impl_OffsetOf] at h
  refine AC.enter Tryd.func15 rfl ?_
  refine CodeOk.cutR (tl 49 [(0, V.str a0), (1, V.int a1), (2, V.int a2)]) [] mix (by
      refine W.run D_ok 2 100 (by kernel_rfl) ?_
      exact W.fin (by decide) (by kernel_rfl) (Weak.sel [] [0, 1, 2] (by kernel_rfl) (by kernel_rfl) (by kernel_rfl))
      ) ?_
  obtain ⟨r2, hx2, h⟩ := bind_some h
  refine CodeOk.cutR (tl 49 [(1, V.int a1), (2, V.int a2), (8, .own 100)]) [(100, .vec false 9 1 (r2.map encS))] mix (by
      refine W.run D_ok 1 100 (by kernel_rfl) ?_
      refine W.call (m_strings_Split_ok N a0 hx2) cok29 [] [(100, 100)] [100] (show LayOk _ [] from trivial) (by kernel_rfl) (by kernel_rfl) ?_
      refine W.run D_ok 1 101 (by kernel_rfl) ?_
      exact W.fin (by decide) (by kernel_rfl) (Weak.sel [(100, 100)] [1, 2, 8] (by kernel_rfl) (by kernel_rfl) (by kernel_rfl))
      ) ?_
  refine CodeOk.seq' ?_
  obtain ⟨y13, hv17, h⟩ := bind_some h
  refine CodeOk.cutR (tl 49 [(1, V.int a1), (2, V.int a2), (8, .own 100), (30, V.bool y13)]) [(100, .vec false 9 1 (r2.map encS))] mix (by
      refine W.run D_ok 2 101 (by kernel_rfl) ?_
      refine W.len D_ok encS r2 [100] (by kernel_rfl) (by kernel_rfl) ?_
      obtain ⟨r14, hx18, hv17⟩ := bind_some hv17
      refine W.call0 (m_impl_within_ok a1 1 (r2.length : Int) hx18) cok30 rfl (by kernel_rfl) ?_
      refine W.run D_ok 2 101 (by kernel_rfl) ?_
      rcases cond_some hv17 with ⟨hc19, hv17⟩ | ⟨hc19, hv17⟩
      · refine W.is 19 hc19 (by kernel_rfl) ?_
        refine W.run D_ok 11 101 (by kernel_rfl) ?_
        have hv17 := Option.some.inj hv17
        subst hv17
        exact W.fin (by decide) (by kernel_rfl) (Weak.sel [(100, 100)] [1, 2, 8, 30] (by kernel_rfl) (by kernel_rfl) (by kernel_rfl))
      · refine W.is 19 hc19 (by kernel_rfl) ?_
        refine W.run D_ok 4 101 (by kernel_rfl) ?_
        obtain ⟨e15, hx20, hv17⟩ := bind_some hv17
        refine W.ixO D_ok encS hx20 100 1 (by kernel_rfl) ?_
        refine W.ldO D_ok encS hx20 9 100 0 (V.str e15) (by kernel_rfl) (by kernel_rfl) ?_
        refine W.run D_ok 2 101 (by kernel_rfl) ?_
        obtain ⟨r16, hx21, hv17⟩ := bind_some hv17
        refine W.call0 (m_impl_within_ok a2 1 (IntKind.wrap .i64 ((e15.length : Int) + 1)) hx21) cok30 rfl (by kernel_rfl) ?_
        refine W.run D_ok 2 101 (by kernel_rfl) ?_
        have hv17 := Option.some.inj hv17
        subst hv17
        exact W.fin (by decide) (by kernel_rfl) (Weak.sel [(100, 100)] [1, 2, 8, 30] (by kernel_rfl) (by kernel_rfl) (by kernel_rfl))
      ) ?_
  rcases cond_some h with ⟨hc22, h⟩ | ⟨hc22, h⟩
  · refine CodeOk.ifT hc22 (by kernel_rfl) ?_
    refine CodeOk.cutR (tl 49 [(6, V.int 0), (7, V.bool false)]) [] mix (by
        refine W.run D_ok 2 101 (by kernel_rfl) ?_
        exact W.fin (by decide) (by kernel_rfl) (Weak.sel [] [6, 7] (by kernel_rfl) (by kernel_rfl) (by kernel_rfl))
        ) ?_
    refine CodeOk.ret ?_
    have h := Option.some.inj h
    subst h
    exact Ends.gen [] (.inr rfl) (RetV.two rfl (OneR.tmp (t := 6) (r := V.int 0) (by kernel_rfl)) (OneR.tmp (t := 7) (r := V.bool false) (by kernel_rfl))) (by kernel_rfl) (by kernel_rfl) (by kernel_rfl)
  · refine CodeOk.ifF hc22 (by kernel_rfl) ?_
    refine CodeOk.skip ?_
    refine CodeOk.weak (st' := ⟨tl 49 [(1, V.int a1), (2, V.int a2), (8, .own 100), (30, V.bool y13)], [(100, .vec false 9 1 (r2.map encS))]⟩) (Weak.refl _) ?_
    refine CodeOk.cutR (tl 49 [(1, V.int a1), (8, .own 100), (9, V.int (IntKind.wrap .i64 (a2 - 1)))]) [(100, .vec false 9 1 (r2.map encS))] mix (by
        refine W.run D_ok 3 101 (by kernel_rfl) ?_
        exact W.fin (by decide) (by kernel_rfl) (Weak.sel [(100, 100)] [1, 8, 9] (by kernel_rfl) (by kernel_rfl) (by kernel_rfl))
        ) ?_
    refine CodeOk.seq' ?_
    obtain ⟨l36, hx46, h⟩ := bind_some h
    refine CodeOk.cutR (tl 49 [(9, V.int (IntKind.wrap .i64 (a2 - 1))), (36, .own 101), (37, V.int (l36.length : Int)), (38, V.int 0)]) [(101, .vec false 9 1 (l36.map encS))] mix (by
        refine W.run D_ok 3 101 (by kernel_rfl) ?_
        refine W.cutO D_ok encS hx46 101 (j := 100) (el := 9) (sz := 1) (by kernel_rfl) ?_
        refine W.len D_ok encS l36 [101] (by kernel_rfl) (by kernel_rfl) ?_
        refine W.run D_ok 1 102 (by kernel_rfl) ?_
        exact W.fin (by decide) (by kernel_rfl) (Weak.sel [(101, 101)] [9, 36, 37, 38] (by kernel_rfl) (by kernel_rfl) (by kernel_rfl))
        ) ?_
    refine CodeOk.block' ?_
    refine CodeOk.loopJ (fun (⟨l36, y41, y42⟩ : ((List (List UInt8)) × Int × Int)) => ⟨tl 49 [(9, V.int y41), (36, .own 100), (37, V.int (l36.length : Int)), (38, V.int y42)], [(100, .vec false 9 1 (l36.map encS))]⟩) (fun n i => m_impl_OffsetOf_l1 N n i = some r) (n0 := N) (i0 := (l36, (IntKind.wrap .i64 (a2 - 1)), 0)) (Weak.sel [(101, 100)] [9, 36, 37, 38] (by kernel_rfl) (by kernel_rfl) (by kernel_rfl)) h (fun i h => by simp [m_impl_OffsetOf_l1] at h) ?_
    rintro n1 ⟨l36, y41, y42⟩ h59 ih60
    rw [m_impl_OffsetOf_l1] at h59
    refine CodeOk.cutR (tl 49 [(9, V.int y41), (36, .own 100), (37, V.int (l36.length : Int)), (38, V.int y42), (39, V.bool (decide (y42 < (l36.length : Int))))]) [(100, .vec false 9 1 (l36.map encS))] mix (by
        refine W.run D_ok 1 162 (by kernel_rfl) ?_
        exact W.fin (by decide) (by kernel_rfl) (Weak.sel [(100, 100)] [9, 36, 37, 38, 39] (by kernel_rfl) (by kernel_rfl) (by kernel_rfl))
        ) ?_
    refine CodeOk.seq' ?_
    rcases cond_some h59 with ⟨hc62, h59⟩ | ⟨hc62, h59⟩
    · refine CodeOk.ifT hc62 (by kernel_rfl) ?_
      refine CodeOk.skip ?_
      refine CodeOk.weak (st' := ⟨tl 49 [(9, V.int y41), (36, .own 100), (37, V.int (l36.length : Int)), (38, V.int y42), (39, V.bool (decide (y42 < (l36.length : Int))))], [(100, .vec false 9 1 (l36.map encS))]⟩) (Weak.refl _) ?_
      refine CodeOk.seq' ?_
      refine CodeOk.block' ?_
      obtain ⟨e52, hx66, h59⟩ := bind_some h59
      refine CodeOk.cutR (tl 49 [(9, V.int y41), (11, V.str e52), (36, .own 100), (37, V.int (l36.length : Int)), (38, V.int y42)]) [(100, .vec false 9 1 (l36.map encS))] mix (by
          refine W.ixO D_ok encS hx66 100 1 (by kernel_rfl) ?_
          refine W.ldO D_ok encS hx66 9 100 0 (V.str e52) (by kernel_rfl) (by kernel_rfl) ?_
          refine W.run D_ok 1 162 (by kernel_rfl) ?_
          exact W.fin (by decide) (by kernel_rfl) (Weak.sel [(100, 100)] [9, 11, 36, 37, 38] (by kernel_rfl) (by kernel_rfl) (by kernel_rfl))
          ) ?_
      refine CodeOk.endR (tl 49 [(9, V.int (IntKind.wrap .i64 (y41 + (IntKind.wrap .i64 ((e52.length : Int) + 1))))), (36, .own 100), (37, V.int (l36.length : Int)), (38, V.int y42)]) [(100, .vec false 9 1 (l36.map encS))] mix (by
          refine W.run D_ok 6 162 (by kernel_rfl) ?_
          exact W.fin (by decide) (by kernel_rfl) (Weak.sel [(100, 100)] [9, 36, 37, 38] (by kernel_rfl) (by kernel_rfl) (by kernel_rfl))
          ) (fun st hw => ?_)
      refine CodeOk.weak (st' := ⟨tl 49 [(9, V.int (IntKind.wrap .i64 (y41 + (IntKind.wrap .i64 ((e52.length : Int) + 1))))), (36, .own 100), (37, V.int (l36.length : Int)), (38, V.int y42)], [(100, .vec false 9 1 (l36.map encS))]⟩) hw ?_
      refine CodeOk.endR (tl 49 [(9, V.int (IntKind.wrap .i64 (y41 + (IntKind.wrap .i64 ((e52.length : Int) + 1))))), (36, .own 100), (37, V.int (l36.length : Int)), (38, V.int (IntKind.wrap .i64 (y42 + 1)))]) [(100, .vec false 9 1 (l36.map encS))] mix (by
          refine W.run D_ok 2 162 (by kernel_rfl) ?_
          exact W.fin (by decide) (by kernel_rfl) (Weak.sel [(100, 100)] [9, 36, 37, 38] (by kernel_rfl) (by kernel_rfl) (by kernel_rfl))
          ) (fun st hw => ?_)
      exact ih60 (l36, (IntKind.wrap .i64 (y41 + (IntKind.wrap .i64 ((e52.length : Int) + 1)))), (IntKind.wrap .i64 (y42 + 1))) h59 _ (hw.trans (Weak.sel [(100, 100)] [9, 36, 37, 38] (by kernel_rfl) (by kernel_rfl) (by kernel_rfl)))
    · refine CodeOk.ifF hc62 (by kernel_rfl) ?_
      refine CodeOk.exit ?_
      refine CodeOk.weak (st' := ⟨tl 49 [(9, V.int y41), (36, .own 100), (37, V.int (l36.length : Int)), (38, V.int y42), (39, V.bool (decide (y42 < (l36.length : Int))))], [(100, .vec false 9 1 (l36.map encS))]⟩) (Weak.refl _) ?_
      refine CodeOk.cutR (tl 49 [(6, V.int y41), (7, V.bool true)]) [] mix (by
          refine W.run D_ok 3 162 (by kernel_rfl) ?_
          exact W.fin (by decide) (by kernel_rfl) (Weak.sel [] [6, 7] (by kernel_rfl) (by kernel_rfl) (by kernel_rfl))
          ) ?_
      refine CodeOk.ret ?_
      have h59 := Option.some.inj h59
      subst h59
      exact Ends.gen [] (.inr rfl) (RetV.two rfl (OneR.tmp (t := 6) (r := V.int y41) (by kernel_rfl)) (OneR.tmp (t := 7) (r := V.bool true) (by kernel_rfl))) (by kernel_rfl) (by kernel_rfl) (by kernel_rfl)

theorem m_laws_FnExactOffsetOf_ok (N : Nat) (a0 : List UInt8) (a1 : Int) (a2 : Int) {r : Bool} (h : m_laws_FnExactOffsetOf N a0 a1 a2 = some r) :
    AC Tryd.prog (GS []) 4 [V.str a0, V.int a1, V.int a2] [] (V.bool r) [] := by
  rw [m_laws_FnExactOffsetOf] at h
  refine AC.enter Tryd.func4 rfl ?_
  refine CodeOk.cutR (tl 36 [(0, V.str a0), (1, V.int a1), (2, V.int a2)]) [] mix (by
      refine W.run D_ok 1 100 (by kernel_rfl) ?_
      exact W.fin (by decide) (by kernel_rfl) (Weak.sel [] [0, 1, 2] (by kernel_rfl) (by kernel_rfl) (by kernel_rfl))
      ) ?_
  refine CodeOk.seq' ?_
  refine CodeOk.cutR (tl 36 [(0, V.str a0), (1, V.int a1), (2, V.int a2), (13, V.bool (decide ((a0.length : Int) > 1048576)))]) [] mix (by
      refine W.run D_ok 3 100 (by kernel_rfl) ?_
      exact W.fin (by decide) (by kernel_rfl) (Weak.sel [] [0, 1, 2, 13] (by kernel_rfl) (by kernel_rfl) (by kernel_rfl))
      ) ?_
  rcases cond_some h with ⟨hc2, h⟩ | ⟨hc2, h⟩
  · refine CodeOk.ifT hc2 (by kernel_rfl) ?_
    refine CodeOk.cutR (tl 36 [(6, V.bool true)]) [] mix (by
        refine W.run D_ok 1 100 (by kernel_rfl) ?_
        exact W.fin (by decide) (by kernel_rfl) (Weak.sel [] [6] (by kernel_rfl) (by kernel_rfl) (by kernel_rfl))
        ) ?_
    refine CodeOk.ret ?_
    have h := Option.some.inj h
    subst h
    exact Ends.gen [] (.inr rfl) (RetV.one rfl (OneR.tmp (t := 6) (r := V.bool true) (by kernel_rfl))) (by kernel_rfl) (by kernel_rfl) (by kernel_rfl)
  · refine CodeOk.ifF hc2 (by kernel_rfl) ?_
    refine CodeOk.skip ?_
    refine CodeOk.weak (st' := ⟨tl 36 [(0, V.str a0), (1, V.int a1), (2, V.int a2), (13, V.bool (decide ((a0.length : Int) > 1048576)))], []⟩) (Weak.refl _) ?_
    obtain ⟨r2, hx4, h⟩ := bind_some h
    refine CodeOk.cutR (tl 36 [(0, V.str a0), (1, V.int a1), (2, V.int a2), (7, V.int r2.1), (8, V.bool r2.2)]) [] mix (by
        refine W.run D_ok 3 100 (by kernel_rfl) ?_
        refine W.call0 (m_spec_OffsetOf_ok N a0 a1 a2 hx4) cok14 rfl (by kernel_rfl) ?_
        refine W.run D_ok 5 100 (by kernel_rfl) ?_
        exact W.fin (by decide) (by kernel_rfl) (Weak.sel [] [0, 1, 2, 7, 8] (by kernel_rfl) (by kernel_rfl) (by kernel_rfl))
        ) ?_
    obtain ⟨r4, hx6, h⟩ := bind_some h
    refine CodeOk.cutR (tl 36 [(7, V.int r2.1), (8, V.bool r2.2), (9, V.int r4.1), (10, V.bool r4.2)]) [] mix (by
        refine W.run D_ok 3 100 (by kernel_rfl) ?_
        refine W.call0 (m_impl_OffsetOf_ok N a0 a1 a2 hx6) cok15 rfl (by kernel_rfl) ?_
        refine W.run D_ok 5 100 (by kernel_rfl) ?_
        exact W.fin (by decide) (by kernel_rfl) (Weak.sel [] [7, 8, 9, 10] (by kernel_rfl) (by kernel_rfl) (by kernel_rfl))
        ) ?_
    refine CodeOk.seq' ?_
    obtain ⟨y6, hv12, h⟩ := bind_some h
    refine CodeOk.cutR (tl 36 [(35, V.bool y6)]) [] mix (by
        refine W.run D_ok 4 100 (by kernel_rfl) ?_
        rcases cond_some hv12 with ⟨hc13, hv12⟩ | ⟨hc13, hv12⟩
        · refine W.is 31 hc13 (by kernel_rfl) ?_
          refine W.run D_ok 4 100 (by kernel_rfl) ?_
          have hv12 := Option.some.inj hv12
          subst hv12
          exact W.fin (by decide) (by kernel_rfl) (Weak.sel [] [35] (by kernel_rfl) (by kernel_rfl) (by kernel_rfl))
        · refine W.is 31 hc13 (by kernel_rfl) ?_
          refine W.run D_ok 4 100 (by kernel_rfl) ?_
          have hv12 := Option.some.inj hv12
          subst hv12
          exact W.fin (by decide) (by kernel_rfl) (Weak.sel [] [35] (by kernel_rfl) (by kernel_rfl) (by kernel_rfl))
        ) ?_
    rcases cond_some h with ⟨hc14, h⟩ | ⟨hc14, h⟩
    · refine CodeOk.ifT hc14 (by kernel_rfl) ?_
      refine CodeOk.cutR (tl 36 [(6, V.bool false)]) [] mix (by
          refine W.run D_ok 1 100 (by kernel_rfl) ?_
          exact W.fin (by decide) (by kernel_rfl) (Weak.sel [] [6] (by kernel_rfl) (by kernel_rfl) (by kernel_rfl))
          ) ?_
      refine CodeOk.ret ?_
      have h := Option.some.inj h
      subst h
      exact Ends.gen [] (.inr rfl) (RetV.one rfl (OneR.tmp (t := 6) (r := V.bool false) (by kernel_rfl))) (by kernel_rfl) (by kernel_rfl) (by kernel_rfl)
    · refine CodeOk.ifF hc14 (by kernel_rfl) ?_
      refine CodeOk.skip ?_
      refine CodeOk.weak (st' := ⟨tl 36 [(35, V.bool y6)], []⟩) (Weak.refl _) ?_
      refine CodeOk.cutR (tl 36 [(6, V.bool true)]) [] mix (by
          refine W.run D_ok 1 100 (by kernel_rfl) ?_
          exact W.fin (by decide) (by kernel_rfl) (Weak.sel [] [6] (by kernel_rfl) (by kernel_rfl) (by kernel_rfl))
          ) ?_
      refine CodeOk.ret ?_
      have h := Option.some.inj h
      subst h
      exact Ends.gen [] (.inr rfl) (RetV.one rfl (OneR.tmp (t := 6) (r := V.bool true) (by kernel_rfl))) (by kernel_rfl) (by kernel_rfl) (by kernel_rfl)

theorem m_spec_IsBlank_ok (a0 : Int) {r : Bool} (h : m_spec_IsBlank a0 = some r) :
    AC Tryd.prog (GS []) 48 [V.int a0] [] (V.bool r) [] := by
  rw [m_spec_IsBlank] at h
  refine AC.enter Tryd.func48 rfl ?_
  refine CodeOk.cutR (tl 9 [(0, V.int a0)]) [] mix (by
      refine W.run D_ok 1 100 (by kernel_rfl) ?_
      exact W.fin (by decide) (by kernel_rfl) (Weak.sel [] [0] (by kernel_rfl) (by kernel_rfl) (by kernel_rfl))
      ) ?_
  obtain ⟨y1, hv2, h⟩ := bind_some h
  refine CodeOk.cutR (tl 9 [(2, V.bool y1)]) [] mix (by
      refine W.run D_ok 3 100 (by kernel_rfl) ?_
      rcases cond_some hv2 with ⟨hc3, hv2⟩ | ⟨hc3, hv2⟩
      · refine W.is 5 hc3 (by kernel_rfl) ?_
        refine W.run D_ok 4 100 (by kernel_rfl) ?_
        have hv2 := Option.some.inj hv2
        subst hv2
        exact W.fin (by decide) (by kernel_rfl) (Weak.sel [] [2] (by kernel_rfl) (by kernel_rfl) (by kernel_rfl))
      · refine W.is 5 hc3 (by kernel_rfl) ?_
        refine W.run D_ok 4 100 (by kernel_rfl) ?_
        have hv2 := Option.some.inj hv2
        subst hv2
        exact W.fin (by decide) (by kernel_rfl) (Weak.sel [] [2] (by kernel_rfl) (by kernel_rfl) (by kernel_rfl))
      ) ?_
  refine CodeOk.ret ?_
  have h := Option.some.inj h
  subst h
  exact Ends.gen [] (.inr rfl) (RetV.one rfl (OneR.tmp (t := 2) (r := V.bool y1) (by kernel_rfl))) (by kernel_rfl) (by kernel_rfl) (by kernel_rfl)

theorem m_spec_l4Byte_ok (a0 : List UInt8) (a1 : Int) {r : Int} (h : m_spec_l4Byte a0 a1 = some r) :
    AC Tryd.prog (GS []) 49 [V.str a0, V.int a1] [] (V.int r) [] := by
  rw [m_spec_l4Byte] at h
  refine AC.enter Tryd.func49 rfl ?_
  refine CodeOk.cutR (tl 17 [(0, V.str a0), (1, V.int a1)]) [] mix (by
      refine W.run D_ok 1 100 (by kernel_rfl) ?_
      exact W.fin (by decide) (by kernel_rfl) (Weak.sel [] [0, 1] (by kernel_rfl) (by kernel_rfl) (by kernel_rfl))
      ) ?_
  refine CodeOk.seq' ?_
  obtain ⟨y2, hv6, h⟩ := bind_some h
  refine CodeOk.cutR (tl 17 [(0, V.str a0), (1, V.int a1), (12, V.bool y2)]) [] mix (by
      refine W.run D_ok 3 100 (by kernel_rfl) ?_
      rcases cond_some hv6 with ⟨hc7, hv6⟩ | ⟨hc7, hv6⟩
      · refine W.is 7 hc7 (by kernel_rfl) ?_
        refine W.run D_ok 5 100 (by kernel_rfl) ?_
        have hv6 := Option.some.inj hv6
        subst hv6
        exact W.fin (by decide) (by kernel_rfl) (Weak.sel [] [0, 1, 12] (by kernel_rfl) (by kernel_rfl) (by kernel_rfl))
      · refine W.is 7 hc7 (by kernel_rfl) ?_
        refine W.run D_ok 5 100 (by kernel_rfl) ?_
        have hv6 := Option.some.inj hv6
        subst hv6
        exact W.fin (by decide) (by kernel_rfl) (Weak.sel [] [0, 1, 12] (by kernel_rfl) (by kernel_rfl) (by kernel_rfl))
      ) ?_
  rcases cond_some h with ⟨hc8, h⟩ | ⟨hc8, h⟩
  · refine CodeOk.ifT hc8 (by kernel_rfl) ?_
    refine CodeOk.cutR (tl 17 [(4, V.int (-1))]) [] mix (by
        refine W.run D_ok 1 100 (by kernel_rfl) ?_
        exact W.fin (by decide) (by kernel_rfl) (Weak.sel [] [4] (by kernel_rfl) (by kernel_rfl) (by kernel_rfl))
        ) ?_
    refine CodeOk.ret ?_
    have h := Option.some.inj h
    subst h
    exact Ends.gen [] (.inr rfl) (RetV.one rfl (OneR.tmp (t := 4) (r := V.int (-1)) (by kernel_rfl))) (by kernel_rfl) (by kernel_rfl) (by kernel_rfl)
  · refine CodeOk.ifF hc8 (by kernel_rfl) ?_
    refine CodeOk.skip ?_
    refine CodeOk.weak (st' := ⟨tl 17 [(0, V.str a0), (1, V.int a1), (12, V.bool y2)], []⟩) (Weak.refl _) ?_
    obtain ⟨b4, hx10, h⟩ := bind_some h
    refine CodeOk.cutR (tl 17 [(4, V.int (IntKind.wrap .i64 ((b4).toNat : Int)))]) [] mix (by
        refine W.run D_ok 2 100 (by kernel_rfl) ?_
        refine W.ixS D_ok hx10 (by kernel_rfl) ?_
        refine W.run D_ok 2 100 (by kernel_rfl) ?_
        exact W.fin (by decide) (by kernel_rfl) (Weak.sel [] [4] (by kernel_rfl) (by kernel_rfl) (by kernel_rfl))
        ) ?_
    refine CodeOk.ret ?_
    have h := Option.some.inj h
    subst h
    exact Ends.gen [] (.inr rfl) (RetV.one rfl (OneR.tmp (t := 4) (r := V.int (IntKind.wrap .i64 ((b4).toNat : Int))) (by kernel_rfl))) (by kernel_rfl) (by kernel_rfl) (by kernel_rfl)

theorem m_spec_EndsOperand_ok (a0 : Int) {r : Bool} (h : m_spec_EndsOperand a0 = some r) :
    AC Tryd.prog (GS []) 51 [V.int a0] [] (V.bool r) [] := by
  rw [m_spec_EndsOperand] at h
  refine AC.enter Tryd.func51 rfl ?_
  refine CodeOk.cutR (tl 14 [(0, V.int a0)]) [] mix (by
      refine W.run D_ok 1 100 (by kernel_rfl) ?_
      exact W.fin (by decide) (by kernel_rfl) (Weak.sel [] [0] (by kernel_rfl) (by kernel_rfl) (by kernel_rfl))
      ) ?_
  refine CodeOk.seq' ?_
  refine CodeOk.cutR (tl 14 [(3, V.int a0)]) [] mix (by
      refine W.run D_ok 1 100 (by kernel_rfl) ?_
      exact W.fin (by decide) (by kernel_rfl) (Weak.sel [] [3] (by kernel_rfl) (by kernel_rfl) (by kernel_rfl))
      ) ?_
  refine CodeOk.block' ?_
  refine CodeOk.join (fun (y2 : Bool) => ⟨tl 14 [(4, V.bool y2)], []⟩) (fun i => m_spec_EndsOperand_k1 i = some r) ?_ ?_
  · rintro y2 h28
    rw [m_spec_EndsOperand_k1] at h28
    rcases cond_some h28 with ⟨hc29, h28⟩ | ⟨hc29, h28⟩
    · refine CodeOk.ifT hc29 (by kernel_rfl) ?_
      refine CodeOk.cutR (tl 14 [(2, V.bool true)]) [] mix (by
          refine W.run D_ok 1 100 (by kernel_rfl) ?_
          exact W.fin (by decide) (by kernel_rfl) (Weak.sel [] [2] (by kernel_rfl) (by kernel_rfl) (by kernel_rfl))
          ) ?_
      refine CodeOk.ret ?_
      have h28 := Option.some.inj h28
      subst h28
      exact Ends.gen [] (.inr rfl) (RetV.one rfl (OneR.tmp (t := 2) (r := V.bool true) (by kernel_rfl))) (by kernel_rfl) (by kernel_rfl) (by kernel_rfl)
    · refine CodeOk.ifF hc29 (by kernel_rfl) ?_
      refine CodeOk.skip ?_
      refine CodeOk.weak (st' := ⟨tl 14 [(4, V.bool y2)], []⟩) (Weak.refl _) ?_
      refine CodeOk.cutR (tl 14 [(2, V.bool false)]) [] mix (by
          refine W.run D_ok 1 100 (by kernel_rfl) ?_
          exact W.fin (by decide) (by kernel_rfl) (Weak.sel [] [2] (by kernel_rfl) (by kernel_rfl) (by kernel_rfl))
          ) ?_
      refine CodeOk.ret ?_
      have h28 := Option.some.inj h28
      subst h28
      exact Ends.gen [] (.inr rfl) (RetV.one rfl (OneR.tmp (t := 2) (r := V.bool false) (by kernel_rfl))) (by kernel_rfl) (by kernel_rfl) (by kernel_rfl)
  intro hk30
  refine CodeOk.cutR (tl 14 [(3, V.int a0), (4, V.bool (a0 == 3))]) [] mix (by
      refine W.run D_ok 2 100 (by kernel_rfl) ?_
      exact W.fin (by decide) (by kernel_rfl) (Weak.sel [] [3, 4] (by kernel_rfl) (by kernel_rfl) (by kernel_rfl))
      ) ?_
  rcases cond_some h with ⟨hc31, h⟩ | ⟨hc31, h⟩
  · refine CodeOk.ifT hc31 (by kernel_rfl) ?_
    refine CodeOk.skip ?_
    exact hk30 (a0 == 3) h _ (Weak.sel [] [4] (by kernel_rfl) (by kernel_rfl) (by kernel_rfl))
  · refine CodeOk.ifF hc31 (by kernel_rfl) ?_
    refine CodeOk.cutR (tl 14 [(3, V.int a0), (4, V.bool (a0 == 4))]) [] mix (by
        refine W.run D_ok 2 100 (by kernel_rfl) ?_
        exact W.fin (by decide) (by kernel_rfl) (Weak.sel [] [3, 4] (by kernel_rfl) (by kernel_rfl) (by kernel_rfl))
        ) ?_
    rcases cond_some h with ⟨hc32, h⟩ | ⟨hc32, h⟩
    · refine CodeOk.ifT hc32 (by kernel_rfl) ?_
      refine CodeOk.skip ?_
      exact hk30 (a0 == 4) h _ (Weak.sel [] [4] (by kernel_rfl) (by kernel_rfl) (by kernel_rfl))
    · refine CodeOk.ifF hc32 (by kernel_rfl) ?_
      refine CodeOk.cutR (tl 14 [(3, V.int a0), (4, V.bool (a0 == 5))]) [] mix (by
          refine W.run D_ok 2 100 (by kernel_rfl) ?_
          exact W.fin (by decide) (by kernel_rfl) (Weak.sel [] [3, 4] (by kernel_rfl) (by kernel_rfl) (by kernel_rfl))
          ) ?_
      rcases cond_some h with ⟨hc33, h⟩ | ⟨hc33, h⟩
      · refine CodeOk.ifT hc33 (by kernel_rfl) ?_
        refine CodeOk.skip ?_
        exact hk30 (a0 == 5) h _ (Weak.sel [] [4] (by kernel_rfl) (by kernel_rfl) (by kernel_rfl))
      · refine CodeOk.ifF hc33 (by kernel_rfl) ?_
        refine CodeOk.cutR (tl 14 [(3, V.int a0), (4, V.bool (a0 == 6))]) [] mix (by
            refine W.run D_ok 2 100 (by kernel_rfl) ?_
            exact W.fin (by decide) (by kernel_rfl) (Weak.sel [] [3, 4] (by kernel_rfl) (by kernel_rfl) (by kernel_rfl))
            ) ?_
        rcases cond_some h with ⟨hc34, h⟩ | ⟨hc34, h⟩
        · refine CodeOk.ifT hc34 (by kernel_rfl) ?_
          refine CodeOk.skip ?_
          exact hk30 (a0 == 6) h _ (Weak.sel [] [4] (by kernel_rfl) (by kernel_rfl) (by kernel_rfl))
        · refine CodeOk.ifF hc34 (by kernel_rfl) ?_
          refine CodeOk.cutR (tl 14 [(3, V.int a0), (4, V.bool (a0 == 8))]) [] mix (by
              refine W.run D_ok 2 100 (by kernel_rfl) ?_
              exact W.fin (by decide) (by kernel_rfl) (Weak.sel [] [3, 4] (by kernel_rfl) (by kernel_rfl) (by kernel_rfl))
              ) ?_
          rcases cond_some h with ⟨hc35, h⟩ | ⟨hc35, h⟩
          · refine CodeOk.ifT hc35 (by kernel_rfl) ?_
            refine CodeOk.skip ?_
            exact hk30 (a0 == 8) h _ (Weak.sel [] [4] (by kernel_rfl) (by kernel_rfl) (by kernel_rfl))
          · refine CodeOk.ifF hc35 (by kernel_rfl) ?_
            refine CodeOk.cutR (tl 14 [(3, V.int a0), (4, V.bool (a0 == 33))]) [] mix (by
                refine W.run D_ok 2 100 (by kernel_rfl) ?_
                exact W.fin (by decide) (by kernel_rfl) (Weak.sel [] [3, 4] (by kernel_rfl) (by kernel_rfl) (by kernel_rfl))
                ) ?_
            rcases cond_some h with ⟨hc36, h⟩ | ⟨hc36, h⟩
            · refine CodeOk.ifT hc36 (by kernel_rfl) ?_
              refine CodeOk.skip ?_
              exact hk30 (a0 == 33) h _ (Weak.sel [] [4] (by kernel_rfl) (by kernel_rfl) (by kernel_rfl))
            · refine CodeOk.ifF hc36 (by kernel_rfl) ?_
              refine CodeOk.cutR (tl 14 [(3, V.int a0), (4, V.bool (a0 == 35))]) [] mix (by
                  refine W.run D_ok 2 100 (by kernel_rfl) ?_
                  exact W.fin (by decide) (by kernel_rfl) (Weak.sel [] [3, 4] (by kernel_rfl) (by kernel_rfl) (by kernel_rfl))
                  ) ?_
              rcases cond_some h with ⟨hc37, h⟩ | ⟨hc37, h⟩
              · refine CodeOk.ifT hc37 (by kernel_rfl) ?_
                refine CodeOk.skip ?_
                exact hk30 (a0 == 35) h _ (Weak.sel [] [4] (by kernel_rfl) (by kernel_rfl) (by kernel_rfl))
              · refine CodeOk.ifF hc37 (by kernel_rfl) ?_
                refine CodeOk.cutR (tl 14 [(3, V.int a0), (4, V.bool (a0 == 51))]) [] mix (by
                    refine W.run D_ok 2 100 (by kernel_rfl) ?_
                    exact W.fin (by decide) (by kernel_rfl) (Weak.sel [] [3, 4] (by kernel_rfl) (by kernel_rfl) (by kernel_rfl))
                    ) ?_
                rcases cond_some h with ⟨hc38, h⟩ | ⟨hc38, h⟩
                · refine CodeOk.ifT hc38 (by kernel_rfl) ?_
                  refine CodeOk.skip ?_
                  exact hk30 (a0 == 51) h _ (Weak.sel [] [4] (by kernel_rfl) (by kernel_rfl) (by kernel_rfl))
                · refine CodeOk.ifF hc38 (by kernel_rfl) ?_
                  refine CodeOk.endR (tl 14 [(4, V.bool (a0 == 52))]) [] mix (by
                      refine W.run D_ok 2 100 (by kernel_rfl) ?_
                      exact W.fin (by decide) (by kernel_rfl) (Weak.sel [] [4] (by kernel_rfl) (by kernel_rfl) (by kernel_rfl))
                      ) (fun st hw => ?_)
                  exact hk30 (a0 == 52) h _ (hw.trans (Weak.sel [] [4] (by kernel_rfl) (by kernel_rfl) (by kernel_rfl)))

theorem m_spec_IsDigit_ok (a0 : Int) {r : Bool} (h : m_spec_IsDigit a0 = some r) :
    AC Tryd.prog (GS []) 63 [V.int a0] [] (V.bool r) [] := by
  rw [m_spec_IsDigit] at h
  refine AC.enter Tryd.func63 rfl ?_
  refine CodeOk.cutR (tl 5 [(0, V.int a0)]) [] mix (by
      refine W.run D_ok 1 100 (by kernel_rfl) ?_
      exact W.fin (by decide) (by kernel_rfl) (Weak.sel [] [0] (by kernel_rfl) (by kernel_rfl) (by kernel_rfl))
      ) ?_
  obtain ⟨r2, hx2, h⟩ := bind_some h
  refine CodeOk.cutR (tl 5 [(2, V.bool r2)]) [] mix (by
      refine W.run D_ok 1 100 (by kernel_rfl) ?_
      refine W.call0 (m_spec_l1In_ok a0 48 57 hx2) cok44 rfl (by kernel_rfl) ?_
      refine W.run D_ok 1 100 (by kernel_rfl) ?_
      exact W.fin (by decide) (by kernel_rfl) (Weak.sel [] [2] (by kernel_rfl) (by kernel_rfl) (by kernel_rfl))
      ) ?_
  refine CodeOk.ret ?_
  have h := Option.some.inj h
  subst h
  exact Ends.gen [] (.inr rfl) (RetV.one rfl (OneR.tmp (t := 2) (r := V.bool r2) (by kernel_rfl))) (by kernel_rfl) (by kernel_rfl) (by kernel_rfl)

theorem m_spec_l4Digits_ok (N : Nat) (a0 : List UInt8) (a1 : Int) {r : Int} (h : m_spec_l4Digits N a0 a1 = some r) :
    AC Tryd.prog (GS []) 78 [V.str a0, V.int a1] [] (V.int r) [] := by
  rw [m_spec_l4Digits] at h
  refine AC.enter Tryd.func78 rfl ?_
  refine CodeOk.cutR (tl 12 [(0, V.str a0), (1, V.int a1)]) [] mix (by
      refine W.run D_ok 1 100 (by kernel_rfl) ?_
      exact W.fin (by decide) (by kernel_rfl) (Weak.sel [] [0, 1] (by kernel_rfl) (by kernel_rfl) (by kernel_rfl))
      ) ?_
  refine CodeOk.seq' ?_
  refine CodeOk.block' ?_
  refine CodeOk.loopJ (fun (⟨a0, a1⟩ : ((List UInt8) × Int)) => ⟨tl 12 [(0, V.str a0), (1, V.int a1)], []⟩) (fun n i => m_spec_l4Digits_l1 N n i = some r) (n0 := N) (i0 := (a0, a1)) (Weak.sel [] [0, 1] (by kernel_rfl) (by kernel_rfl) (by kernel_rfl)) h (fun i h => by simp [m_spec_l4Digits_l1] at h) ?_
  rintro n1 ⟨a0, a1⟩ h33 ih34
  rw [m_spec_l4Digits_l1] at h33
  refine CodeOk.seq' ?_
  obtain ⟨r33, hx42, h33⟩ := bind_some h33
  obtain ⟨r34, hx43, h33⟩ := bind_some h33
  refine CodeOk.cutR (tl 12 [(0, V.str a0), (1, V.int a1), (8, V.bool r34)]) [] mix (by
      refine W.run D_ok 2 140 (by kernel_rfl) ?_
      refine W.call0 (m_spec_l4Byte_ok a0 a1 hx42) cok49 rfl (by kernel_rfl) ?_
      refine W.call0 (m_spec_IsDigit_ok r33 hx43) cok63 rfl (by kernel_rfl) ?_
      exact W.fin (by decide) (by kernel_rfl) (Weak.sel [] [0, 1, 8] (by kernel_rfl) (by kernel_rfl) (by kernel_rfl))
      ) ?_
  rcases cond_some h33 with ⟨hc44, h33⟩ | ⟨hc44, h33⟩
  · refine CodeOk.ifT hc44 (by kernel_rfl) ?_
    refine CodeOk.skip ?_
    refine CodeOk.weak (st' := ⟨tl 12 [(0, V.str a0), (1, V.int a1), (8, V.bool r34)], []⟩) (Weak.refl _) ?_
    refine CodeOk.block' ?_
    refine CodeOk.endR (tl 12 [(0, V.str a0), (1, V.int (IntKind.wrap .i64 (a1 + 1)))]) [] mix (by
        refine W.run D_ok 3 140 (by kernel_rfl) ?_
        exact W.fin (by decide) (by kernel_rfl) (Weak.sel [] [0, 1] (by kernel_rfl) (by kernel_rfl) (by kernel_rfl))
        ) (fun st hw => ?_)
    exact ih34 (a0, (IntKind.wrap .i64 (a1 + 1))) h33 _ (hw.trans (Weak.sel [] [0, 1] (by kernel_rfl) (by kernel_rfl) (by kernel_rfl)))
  · refine CodeOk.ifF hc44 (by kernel_rfl) ?_
    refine CodeOk.exit ?_
    refine CodeOk.weak (st' := ⟨tl 12 [(0, V.str a0), (1, V.int a1), (8, V.bool r34)], []⟩) (Weak.refl _) ?_
    refine CodeOk.cutR (tl 12 [(4, V.int a1)]) [] mix (by
        refine W.run D_ok 2 140 (by kernel_rfl) ?_
        exact W.fin (by decide) (by kernel_rfl) (Weak.sel [] [4] (by kernel_rfl) (by kernel_rfl) (by kernel_rfl))
        ) ?_
    refine CodeOk.ret ?_
    have h33 := Option.some.inj h33
    subst h33
    exact Ends.gen [] (.inr rfl) (RetV.one rfl (OneR.tmp (t := 4) (r := V.int a1) (by kernel_rfl))) (by kernel_rfl) (by kernel_rfl) (by kernel_rfl)

theorem m_spec_NumEnd_ok (N : Nat) (a0 : List UInt8) (a1 : Int) {r : Int} (h : m_spec_NumEnd N a0 a1 = some r) :
    AC Tryd.prog (GS []) 64 [V.str a0, V.int a1] [] (V.int r) [] := by
  rw [m_spec_NumEnd] at h
  refine AC.enter Tryd.func64 rfl ?_
  refine CodeOk.cutR (tl 67 [(0, V.str a0), (1, V.int a1)]) [] mix (by
      refine W.run D_ok 1 100 (by kernel_rfl) ?_
      exact W.fin (by decide) (by kernel_rfl) (Weak.sel [] [0, 1] (by kernel_rfl) (by kernel_rfl) (by kernel_rfl))
      ) ?_
  refine CodeOk.seq' ?_
  refine CodeOk.cutR (tl 67 [(0, V.str a0), (1, V.int a1), (9, V.bool (decide (a1 < 0)))]) [] mix (by
      refine W.run D_ok 2 100 (by kernel_rfl) ?_
      exact W.fin (by decide) (by kernel_rfl) (Weak.sel [] [0, 1, 9] (by kernel_rfl) (by kernel_rfl) (by kernel_rfl))
      ) ?_
  rcases cond_some h with ⟨hc2, h⟩ | ⟨hc2, h⟩
  · refine CodeOk.ifT hc2 (by kernel_rfl) ?_
    refine CodeOk.cutR (tl 67 [(4, V.int (-1))]) [] mix (by
        refine W.run D_ok 1 100 (by kernel_rfl) ?_
        exact W.fin (by decide) (by kernel_rfl) (Weak.sel [] [4] (by kernel_rfl) (by kernel_rfl) (by kernel_rfl))
        ) ?_
    refine CodeOk.ret ?_
    have h := Option.some.inj h
    subst h
    exact Ends.gen [] (.inr rfl) (RetV.one rfl (OneR.tmp (t := 4) (r := V.int (-1)) (by kernel_rfl))) (by kernel_rfl) (by kernel_rfl) (by kernel_rfl)
  · refine CodeOk.ifF hc2 (by kernel_rfl) ?_
    refine CodeOk.skip ?_
    refine CodeOk.weak (st' := ⟨tl 67 [(0, V.str a0), (1, V.int a1), (9, V.bool (decide (a1 < 0)))], []⟩) (Weak.refl _) ?_
    obtain ⟨r2, hx4, h⟩ := bind_some h
    refine CodeOk.cutR (tl 67 [(0, V.str a0), (1, V.int a1), (5, V.int r2)]) [] mix (by
        refine W.run D_ok 2 100 (by kernel_rfl) ?_
        refine W.call0 (m_spec_l4Digits_ok N a0 a1 hx4) cok78 rfl (by kernel_rfl) ?_
        refine W.run D_ok 1 100 (by kernel_rfl) ?_
        exact W.fin (by decide) (by kernel_rfl) (Weak.sel [] [0, 1, 5] (by kernel_rfl) (by kernel_rfl) (by kernel_rfl))
        ) ?_
    refine CodeOk.join (fun (⟨a0, a1, y9⟩ : ((List UInt8) × Int × Int)) => ⟨tl 67 [(0, V.str a0), (1, V.int a1), (5, V.int y9)], []⟩) (fun i => m_spec_NumEnd_k1 N i = some r) ?_ ?_
    · rintro ⟨a0, a1, y9⟩ h18
      rw [m_spec_NumEnd_k1] at h18
      refine CodeOk.seq' ?_
      refine CodeOk.cutR (tl 67 [(0, V.str a0), (5, V.int y9), (33, V.bool (y9 == a1))]) [] mix (by
          refine W.run D_ok 3 100 (by kernel_rfl) ?_
          exact W.fin (by decide) (by kernel_rfl) (Weak.sel [] [0, 5, 33] (by kernel_rfl) (by kernel_rfl) (by kernel_rfl))
          ) ?_
      rcases cond_some h18 with ⟨hc20, h18⟩ | ⟨hc20, h18⟩
      · refine CodeOk.ifT hc20 (by kernel_rfl) ?_
        refine CodeOk.cutR (tl 67 [(4, V.int (-1))]) [] mix (by
            refine W.run D_ok 1 100 (by kernel_rfl) ?_
            exact W.fin (by decide) (by kernel_rfl) (Weak.sel [] [4] (by kernel_rfl) (by kernel_rfl) (by kernel_rfl))
            ) ?_
        refine CodeOk.ret ?_
        have h18 := Option.some.inj h18
        subst h18
        exact Ends.gen [] (.inr rfl) (RetV.one rfl (OneR.tmp (t := 4) (r := V.int (-1)) (by kernel_rfl))) (by kernel_rfl) (by kernel_rfl) (by kernel_rfl)
      · refine CodeOk.ifF hc20 (by kernel_rfl) ?_
        refine CodeOk.skip ?_
        refine CodeOk.weak (st' := ⟨tl 67 [(0, V.str a0), (5, V.int y9), (33, V.bool (y9 == a1))], []⟩) (Weak.refl _) ?_
        refine CodeOk.join (fun (y9 : Int) => ⟨tl 67 [(5, V.int y9)], []⟩) (fun i => m_spec_NumEnd_k2 N i = some r) ?_ ?_
        · rintro y9 h52
          rw [m_spec_NumEnd_k2] at h52
          refine CodeOk.cutR (tl 67 [(4, V.int y9)]) [] mix (by
              refine W.run D_ok 2 100 (by kernel_rfl) ?_
              exact W.fin (by decide) (by kernel_rfl) (Weak.sel [] [4] (by kernel_rfl) (by kernel_rfl) (by kernel_rfl))
              ) ?_
          refine CodeOk.ret ?_
          have h52 := Option.some.inj h52
          subst h52
          exact Ends.gen [] (.inr rfl) (RetV.one rfl (OneR.tmp (t := 4) (r := V.int y9) (by kernel_rfl))) (by kernel_rfl) (by kernel_rfl) (by kernel_rfl)
        intro hk53
        obtain ⟨y32, hv57, h18⟩ := bind_some h18
        refine CodeOk.cutR (tl 67 [(0, V.str a0), (5, V.int y9), (43, V.bool y32)]) [] mix (by
            refine W.run D_ok 2 100 (by kernel_rfl) ?_
            obtain ⟨r33, hx58, hv57⟩ := bind_some hv57
            refine W.call0 (m_spec_l4Byte_ok a0 y9 hx58) cok49 rfl (by kernel_rfl) ?_
            refine W.run D_ok 2 100 (by kernel_rfl) ?_
            rcases cond_some hv57 with ⟨hc59, hv57⟩ | ⟨hc59, hv57⟩
            · refine W.is 38 hc59 (by kernel_rfl) ?_
              refine W.run D_ok 5 100 (by kernel_rfl) ?_
              have hv57 := Option.some.inj hv57
              subst hv57
              exact W.fin (by decide) (by kernel_rfl) (Weak.sel [] [0, 5, 43] (by kernel_rfl) (by kernel_rfl) (by kernel_rfl))
            · refine W.is 38 hc59 (by kernel_rfl) ?_
              refine W.run D_ok 2 100 (by kernel_rfl) ?_
              obtain ⟨r34, hx60, hv57⟩ := bind_some hv57
              refine W.call0 (m_spec_l4Byte_ok a0 y9 hx60) cok49 rfl (by kernel_rfl) ?_
              refine W.run D_ok 2 100 (by kernel_rfl) ?_
              have hv57 := Option.some.inj hv57
              subst hv57
              exact W.fin (by decide) (by kernel_rfl) (Weak.sel [] [0, 5, 43] (by kernel_rfl) (by kernel_rfl) (by kernel_rfl))
            ) ?_
        rcases cond_some h18 with ⟨hc61, h18⟩ | ⟨hc61, h18⟩
        · refine CodeOk.ifT hc61 (by kernel_rfl) ?_
          refine CodeOk.cutR (tl 67 [(0, V.str a0), (5, V.int y9), (7, V.int (IntKind.wrap .i64 (y9 + 1)))]) [] mix (by
              refine W.run D_ok 3 100 (by kernel_rfl) ?_
              exact W.fin (by decide) (by kernel_rfl) (Weak.sel [] [0, 5, 7] (by kernel_rfl) (by kernel_rfl) (by kernel_rfl))
              ) ?_
          refine CodeOk.join (fun (⟨a0, y9, y40⟩ : ((List UInt8) × Int × Int)) => ⟨tl 67 [(0, V.str a0), (5, V.int y9), (7, V.int y40)], []⟩) (fun i => m_spec_NumEnd_k3 N i = some r) ?_ ?_
          · rintro ⟨a0, y9, y40⟩ h70
            rw [m_spec_NumEnd_k3] at h70
            obtain ⟨r42, hx72, h70⟩ := bind_some h70
            refine CodeOk.cutR (tl 67 [(0, V.str a0), (5, V.int y9), (7, V.int y40), (62, V.bool (decide (r42 > y40)))]) [] mix (by
                refine W.run D_ok 2 100 (by kernel_rfl) ?_
                refine W.call0 (m_spec_l4Digits_ok N a0 y40 hx72) cok78 rfl (by kernel_rfl) ?_
                refine W.run D_ok 2 100 (by kernel_rfl) ?_
                exact W.fin (by decide) (by kernel_rfl) (Weak.sel [] [0, 5, 7, 62] (by kernel_rfl) (by kernel_rfl) (by kernel_rfl))
                ) ?_
            rcases cond_some h70 with ⟨hc73, h70⟩ | ⟨hc73, h70⟩
            · refine CodeOk.ifT hc73 (by kernel_rfl) ?_
              obtain ⟨r44, hx75, h70⟩ := bind_some h70
              refine CodeOk.cutR (tl 67 [(4, V.int r44)]) [] mix (by
                  refine W.run D_ok 2 100 (by kernel_rfl) ?_
                  refine W.call0 (m_spec_l4Digits_ok N a0 y40 hx75) cok78 rfl (by kernel_rfl) ?_
                  refine W.run D_ok 1 100 (by kernel_rfl) ?_
                  exact W.fin (by decide) (by kernel_rfl) (Weak.sel [] [4] (by kernel_rfl) (by kernel_rfl) (by kernel_rfl))
                  ) ?_
              refine CodeOk.ret ?_
              have h70 := Option.some.inj h70
              subst h70
              exact Ends.gen [] (.inr rfl) (RetV.one rfl (OneR.tmp (t := 4) (r := V.int r44) (by kernel_rfl))) (by kernel_rfl) (by kernel_rfl) (by kernel_rfl)
            · refine CodeOk.ifF hc73 (by kernel_rfl) ?_
              refine CodeOk.skip ?_
              exact hk53 y9 h70 _ (Weak.sel [] [5] (by kernel_rfl) (by kernel_rfl) (by kernel_rfl))
          intro hk76
          obtain ⟨y47, hv80, h18⟩ := bind_some h18
          refine CodeOk.cutR (tl 67 [(0, V.str a0), (5, V.int y9), (7, V.int (IntKind.wrap .i64 (y9 + 1))), (55, V.bool y47)]) [] mix (by
              refine W.run D_ok 2 100 (by kernel_rfl) ?_
              obtain ⟨r48, hx81, hv80⟩ := bind_some hv80
              refine W.call0 (m_spec_l4Byte_ok a0 (IntKind.wrap .i64 (y9 + 1)) hx81) cok49 rfl (by kernel_rfl) ?_
              refine W.run D_ok 2 100 (by kernel_rfl) ?_
              rcases cond_some hv80 with ⟨hc82, hv80⟩ | ⟨hc82, hv80⟩
              · refine W.is 50 hc82 (by kernel_rfl) ?_
                refine W.run D_ok 5 100 (by kernel_rfl) ?_
                have hv80 := Option.some.inj hv80
                subst hv80
                exact W.fin (by decide) (by kernel_rfl) (Weak.sel [] [0, 5, 7, 55] (by kernel_rfl) (by kernel_rfl) (by kernel_rfl))
              · refine W.is 50 hc82 (by kernel_rfl) ?_
                refine W.run D_ok 2 100 (by kernel_rfl) ?_
                obtain ⟨r49, hx83, hv80⟩ := bind_some hv80
                refine W.call0 (m_spec_l4Byte_ok a0 (IntKind.wrap .i64 (y9 + 1)) hx83) cok49 rfl (by kernel_rfl) ?_
                refine W.run D_ok 2 100 (by kernel_rfl) ?_
                have hv80 := Option.some.inj hv80
                subst hv80
                exact W.fin (by decide) (by kernel_rfl) (Weak.sel [] [0, 5, 7, 55] (by kernel_rfl) (by kernel_rfl) (by kernel_rfl))
              ) ?_
          rcases cond_some h18 with ⟨hc84, h18⟩ | ⟨hc84, h18⟩
          · refine CodeOk.ifT hc84 (by kernel_rfl) ?_
            refine CodeOk.endR (tl 67 [(0, V.str a0), (5, V.int y9), (7, V.int (IntKind.wrap .i64 ((IntKind.wrap .i64 (y9 + 1)) + 1)))]) [] mix (by
                refine W.run D_ok 3 100 (by kernel_rfl) ?_
                exact W.fin (by decide) (by kernel_rfl) (Weak.sel [] [0, 5, 7] (by kernel_rfl) (by kernel_rfl) (by kernel_rfl))
                ) (fun st hw => ?_)
            exact hk76 (a0, y9, (IntKind.wrap .i64 ((IntKind.wrap .i64 (y9 + 1)) + 1))) h18 _ (hw.trans (Weak.sel [] [0, 5, 7] (by kernel_rfl) (by kernel_rfl) (by kernel_rfl)))
          · refine CodeOk.ifF hc84 (by kernel_rfl) ?_
            refine CodeOk.skip ?_
            exact hk76 (a0, y9, (IntKind.wrap .i64 (y9 + 1))) h18 _ (Weak.sel [] [0, 5, 7] (by kernel_rfl) (by kernel_rfl) (by kernel_rfl))
        · refine CodeOk.ifF hc61 (by kernel_rfl) ?_
          refine CodeOk.skip ?_
          exact hk53 y9 h18 _ (Weak.sel [] [5] (by kernel_rfl) (by kernel_rfl) (by kernel_rfl))
    intro hk85
    obtain ⟨r51, hx87, h⟩ := bind_some h
    refine CodeOk.cutR (tl 67 [(0, V.str a0), (1, V.int a1), (5, V.int r2), (16, V.bool (r51 == 46))]) [] mix (by
        refine W.run D_ok 2 100 (by kernel_rfl) ?_
        refine W.call0 (m_spec_l4Byte_ok a0 r2 hx87) cok49 rfl (by kernel_rfl) ?_
        refine W.run D_ok 1 100 (by kernel_rfl) ?_
        exact W.fin (by decide) (by kernel_rfl) (Weak.sel [] [0, 1, 5, 16] (by kernel_rfl) (by kernel_rfl) (by kernel_rfl))
        ) ?_
    rcases cond_some h with ⟨hc88, h⟩ | ⟨hc88, h⟩
    · refine CodeOk.ifT hc88 (by kernel_rfl) ?_
      obtain ⟨r53, hx90, h⟩ := bind_some h
      refine CodeOk.cutR (tl 67 [(0, V.str a0), (1, V.int a1), (5, V.int r2), (6, V.int r53)]) [] mix (by
          refine W.run D_ok 3 100 (by kernel_rfl) ?_
          refine W.call0 (m_spec_l4Digits_ok N a0 (IntKind.wrap .i64 (r2 + 1)) hx90) cok78 rfl (by kernel_rfl) ?_
          refine W.run D_ok 1 100 (by kernel_rfl) ?_
          exact W.fin (by decide) (by kernel_rfl) (Weak.sel [] [0, 1, 5, 6] (by kernel_rfl) (by kernel_rfl) (by kernel_rfl))
          ) ?_
      refine CodeOk.seq' ?_
      obtain ⟨y55, hv96, h⟩ := bind_some h
      refine CodeOk.cutR (tl 67 [(0, V.str a0), (1, V.int a1), (6, V.int r53), (29, V.bool y55)]) [] mix (by
          refine W.run D_ok 4 100 (by kernel_rfl) ?_
          rcases cond_some hv96 with ⟨hc97, hv96⟩ | ⟨hc97, hv96⟩
          · refine W.is 24 hc97 (by kernel_rfl) ?_
            refine W.run D_ok 5 100 (by kernel_rfl) ?_
            have hv96 := Option.some.inj hv96
            subst hv96
            exact W.fin (by decide) (by kernel_rfl) (Weak.sel [] [0, 1, 6, 29] (by kernel_rfl) (by kernel_rfl) (by kernel_rfl))
          · refine W.is 24 hc97 (by kernel_rfl) ?_
            refine W.run D_ok 5 100 (by kernel_rfl) ?_
            have hv96 := Option.some.inj hv96
            subst hv96
            exact W.fin (by decide) (by kernel_rfl) (Weak.sel [] [0, 1, 6, 29] (by kernel_rfl) (by kernel_rfl) (by kernel_rfl))
          ) ?_
      rcases cond_some h with ⟨hc98, h⟩ | ⟨hc98, h⟩
      · refine CodeOk.ifT hc98 (by kernel_rfl) ?_
        refine CodeOk.cutR (tl 67 [(4, V.int (-1))]) [] mix (by
            refine W.run D_ok 1 100 (by kernel_rfl) ?_
            exact W.fin (by decide) (by kernel_rfl) (Weak.sel [] [4] (by kernel_rfl) (by kernel_rfl) (by kernel_rfl))
            ) ?_
        refine CodeOk.ret ?_
        have h := Option.some.inj h
        subst h
        exact Ends.gen [] (.inr rfl) (RetV.one rfl (OneR.tmp (t := 4) (r := V.int (-1)) (by kernel_rfl))) (by kernel_rfl) (by kernel_rfl) (by kernel_rfl)
      · refine CodeOk.ifF hc98 (by kernel_rfl) ?_
        refine CodeOk.skip ?_
        refine CodeOk.weak (st' := ⟨tl 67 [(0, V.str a0), (1, V.int a1), (6, V.int r53), (29, V.bool y55)], []⟩) (Weak.refl _) ?_
        refine CodeOk.endR (tl 67 [(0, V.str a0), (1, V.int a1), (5, V.int r53)]) [] mix (by
            refine W.run D_ok 2 100 (by kernel_rfl) ?_
            exact W.fin (by decide) (by kernel_rfl) (Weak.sel [] [0, 1, 5] (by kernel_rfl) (by kernel_rfl) (by kernel_rfl))
            ) (fun st hw => ?_)
        exact hk85 (a0, a1, r53) h _ (hw.trans (Weak.sel [] [0, 1, 5] (by kernel_rfl) (by kernel_rfl) (by kernel_rfl)))
    · refine CodeOk.ifF hc88 (by kernel_rfl) ?_
      refine CodeOk.skip ?_
      exact hk85 (a0, a1, r2) h _ (Weak.sel [] [0, 1, 5] (by kernel_rfl) (by kernel_rfl) (by kernel_rfl))

theorem m_spec_l4Quoted_ok (N : Nat) (a0 : List UInt8) (a1 : Int) (a2 : Int) {r : Int} (h : m_spec_l4Quoted N a0 a1 a2 = some r) :
    AC Tryd.prog (GS []) 79 [V.str a0, V.int a1, V.int a2] [] (V.int r) [] := by
  rw [m_spec_l4Quoted] at h
  refine AC.enter Tryd.func79 rfl ?_
  refine CodeOk.cutR (tl 40 [(0, V.str a0), (1, V.int a1), (2, V.int a2)]) [] mix (by
      refine W.run D_ok 1 100 (by kernel_rfl) ?_
      exact W.fin (by decide) (by kernel_rfl) (Weak.sel [] [0, 1, 2] (by kernel_rfl) (by kernel_rfl) (by kernel_rfl))
      ) ?_
  refine CodeOk.seq' ?_
  obtain ⟨r4, hx5, h⟩ := bind_some h
  refine CodeOk.cutR (tl 40 [(0, V.str a0), (1, V.int a1), (2, V.int a2), (12, V.bool (r4 != a2))]) [] mix (by
      refine W.run D_ok 2 100 (by kernel_rfl) ?_
      refine W.call0 (m_spec_l4Byte_ok a0 a1 hx5) cok49 rfl (by kernel_rfl) ?_
      refine W.run D_ok 2 100 (by kernel_rfl) ?_
      exact W.fin (by decide) (by kernel_rfl) (Weak.sel [] [0, 1, 2, 12] (by kernel_rfl) (by kernel_rfl) (by kernel_rfl))
      ) ?_
  rcases cond_some h with ⟨hc6, h⟩ | ⟨hc6, h⟩
  · refine CodeOk.ifT hc6 (by kernel_rfl) ?_
    refine CodeOk.cutR (tl 40 [(6, V.int (-1))]) [] mix (by
        refine W.run D_ok 1 100 (by kernel_rfl) ?_
        exact W.fin (by decide) (by kernel_rfl) (Weak.sel [] [6] (by kernel_rfl) (by kernel_rfl) (by kernel_rfl))
        ) ?_
    refine CodeOk.ret ?_
    have h := Option.some.inj h
    subst h
    exact Ends.gen [] (.inr rfl) (RetV.one rfl (OneR.tmp (t := 6) (r := V.int (-1)) (by kernel_rfl))) (by kernel_rfl) (by kernel_rfl) (by kernel_rfl)
  · refine CodeOk.ifF hc6 (by kernel_rfl) ?_
    refine CodeOk.skip ?_
    refine CodeOk.weak (st' := ⟨tl 40 [(0, V.str a0), (1, V.int a1), (2, V.int a2), (12, V.bool (r4 != a2))], []⟩) (Weak.refl _) ?_
    refine CodeOk.seq' ?_
    refine CodeOk.cutR (tl 40 [(0, V.str a0), (2, V.int a2), (7, V.int (IntKind.wrap .i64 (a1 + 1)))]) [] mix (by
        refine W.run D_ok 3 100 (by kernel_rfl) ?_
        exact W.fin (by decide) (by kernel_rfl) (Weak.sel [] [0, 2, 7] (by kernel_rfl) (by kernel_rfl) (by kernel_rfl))
        ) ?_
    refine CodeOk.block' ?_
    refine CodeOk.loopJ (fun (⟨a0, a2, y43⟩ : ((List UInt8) × Int × Int)) => ⟨tl 40 [(0, V.str a0), (2, V.int a2), (7, V.int y43)], []⟩) (fun n i => m_spec_l4Quoted_l1 N n i = some r) (n0 := N) (i0 := (a0, a2, (IntKind.wrap .i64 (a1 + 1)))) (Weak.sel [] [0, 2, 7] (by kernel_rfl) (by kernel_rfl) (by kernel_rfl)) h (fun i h => by simp [m_spec_l4Quoted_l1] at h) ?_
    rintro n1 ⟨a0, a2, y43⟩ h109 ih110
    rw [m_spec_l4Quoted_l1] at h109
    refine CodeOk.seq' ?_
    refine CodeOk.cutR (tl 40 [(0, V.str a0), (2, V.int a2), (7, V.int y43), (18, V.bool (decide (y43 < (a0.length : Int))))]) [] mix (by
        refine W.run D_ok 4 160 (by kernel_rfl) ?_
        exact W.fin (by decide) (by kernel_rfl) (Weak.sel [] [0, 2, 7, 18] (by kernel_rfl) (by kernel_rfl) (by kernel_rfl))
        ) ?_
    rcases cond_some h109 with ⟨hc112, h109⟩ | ⟨hc112, h109⟩
    · refine CodeOk.ifT hc112 (by kernel_rfl) ?_
      refine CodeOk.skip ?_
      refine CodeOk.weak (st' := ⟨tl 40 [(0, V.str a0), (2, V.int a2), (7, V.int y43), (18, V.bool (decide (y43 < (a0.length : Int))))], []⟩) (Weak.refl _) ?_
      refine CodeOk.join (fun (⟨a0, a2, y58⟩ : ((List UInt8) × Int × Int)) => ⟨tl 40 [(0, V.str a0), (2, V.int a2), (7, V.int y58)], []⟩) (fun i => m_spec_l4Quoted_k2 N (m_spec_l4Quoted_l1 N n1) i = some r) ?_ ?_
      · rintro ⟨a0, a2, y58⟩ h121
        rw [m_spec_l4Quoted_k2] at h121
        refine CodeOk.endR (tl 40 [(0, V.str a0), (2, V.int a2), (7, V.int (IntKind.wrap .i64 (y58 + 1)))]) [] mix (by
            refine W.run D_ok 3 160 (by kernel_rfl) ?_
            exact W.fin (by decide) (by kernel_rfl) (Weak.sel [] [0, 2, 7] (by kernel_rfl) (by kernel_rfl) (by kernel_rfl))
            ) (fun st hw => ?_)
        exact ih110 (a0, a2, (IntKind.wrap .i64 (y58 + 1))) h121 _ (hw.trans (Weak.sel [] [0, 2, 7] (by kernel_rfl) (by kernel_rfl) (by kernel_rfl)))
      intro hk122
      refine CodeOk.block' ?_
      obtain ⟨b60, hx124, h109⟩ := bind_some h109
      refine CodeOk.cutR (tl 40 [(0, V.str a0), (2, V.int a2), (7, V.int y43), (24, V.int (IntKind.wrap .i64 ((b60).toNat : Int)))]) [] mix (by
          refine W.run D_ok 2 160 (by kernel_rfl) ?_
          refine W.ixS D_ok hx124 (by kernel_rfl) ?_
          refine W.run D_ok 1 160 (by kernel_rfl) ?_
          exact W.fin (by decide) (by kernel_rfl) (Weak.sel [] [0, 2, 7, 24] (by kernel_rfl) (by kernel_rfl) (by kernel_rfl))
          ) ?_
      refine CodeOk.block' ?_
      refine CodeOk.cutR (tl 40 [(0, V.str a0), (2, V.int a2), (7, V.int y43), (24, V.int (IntKind.wrap .i64 ((b60).toNat : Int))), (25, V.bool ((IntKind.wrap .i64 ((b60).toNat : Int)) == a2))]) [] mix (by
          refine W.run D_ok 3 160 (by kernel_rfl) ?_
          exact W.fin (by decide) (by kernel_rfl) (Weak.sel [] [0, 2, 7, 24, 25] (by kernel_rfl) (by kernel_rfl) (by kernel_rfl))
          ) ?_
      rcases cond_some h109 with ⟨hc125, h109⟩ | ⟨hc125, h109⟩
      · refine CodeOk.ifT hc125 (by kernel_rfl) ?_
        refine CodeOk.cutR (tl 40 [(6, V.int (IntKind.wrap .i64 (y43 + 1)))]) [] mix (by
            refine W.run D_ok 3 160 (by kernel_rfl) ?_
            exact W.fin (by decide) (by kernel_rfl) (Weak.sel [] [6] (by kernel_rfl) (by kernel_rfl) (by kernel_rfl))
            ) ?_
        refine CodeOk.ret ?_
        have h109 := Option.some.inj h109
        subst h109
        exact Ends.gen [] (.inr rfl) (RetV.one rfl (OneR.tmp (t := 6) (r := V.int (IntKind.wrap .i64 (y43 + 1))) (by kernel_rfl))) (by kernel_rfl) (by kernel_rfl) (by kernel_rfl)
      · refine CodeOk.ifF hc125 (by kernel_rfl) ?_
        refine CodeOk.cutR (tl 40 [(0, V.str a0), (2, V.int a2), (7, V.int y43), (24, V.int (IntKind.wrap .i64 ((b60).toNat : Int))), (30, V.bool ((IntKind.wrap .i64 ((b60).toNat : Int)) == 10))]) [] mix (by
            refine W.run D_ok 2 160 (by kernel_rfl) ?_
            exact W.fin (by decide) (by kernel_rfl) (Weak.sel [] [0, 2, 7, 24, 30] (by kernel_rfl) (by kernel_rfl) (by kernel_rfl))
            ) ?_
        rcases cond_some h109 with ⟨hc126, h109⟩ | ⟨hc126, h109⟩
        · refine CodeOk.ifT hc126 (by kernel_rfl) ?_
          refine CodeOk.cutR (tl 40 [(6, V.int (-1))]) [] mix (by
              refine W.run D_ok 1 160 (by kernel_rfl) ?_
              exact W.fin (by decide) (by kernel_rfl) (Weak.sel [] [6] (by kernel_rfl) (by kernel_rfl) (by kernel_rfl))
              ) ?_
          refine CodeOk.ret ?_
          have h109 := Option.some.inj h109
          subst h109
          exact Ends.gen [] (.inr rfl) (RetV.one rfl (OneR.tmp (t := 6) (r := V.int (-1)) (by kernel_rfl))) (by kernel_rfl) (by kernel_rfl) (by kernel_rfl)
        · refine CodeOk.ifF hc126 (by kernel_rfl) ?_
          refine CodeOk.cutR (tl 40 [(0, V.str a0), (2, V.int a2), (7, V.int y43), (32, V.bool ((IntKind.wrap .i64 ((b60).toNat : Int)) == 92))]) [] mix (by
              refine W.run D_ok 2 160 (by kernel_rfl) ?_
              exact W.fin (by decide) (by kernel_rfl) (Weak.sel [] [0, 2, 7, 32] (by kernel_rfl) (by kernel_rfl) (by kernel_rfl))
              ) ?_
          rcases cond_some h109 with ⟨hc127, h109⟩ | ⟨hc127, h109⟩
          · refine CodeOk.ifT hc127 (by kernel_rfl) ?_
            refine CodeOk.cutR (tl 40 [(0, V.str a0), (2, V.int a2), (7, V.int (IntKind.wrap .i64 (y43 + 1)))]) [] mix (by
                refine W.run D_ok 3 160 (by kernel_rfl) ?_
                exact W.fin (by decide) (by kernel_rfl) (Weak.sel [] [0, 2, 7] (by kernel_rfl) (by kernel_rfl) (by kernel_rfl))
                ) ?_
            obtain ⟨r62, hx129, h109⟩ := bind_some h109
            refine CodeOk.cutR (tl 40 [(0, V.str a0), (2, V.int a2), (7, V.int (IntKind.wrap .i64 (y43 + 1))), (39, V.bool (r62 == 10))]) [] mix (by
                refine W.run D_ok 2 160 (by kernel_rfl) ?_
                refine W.call0 (m_spec_l4Byte_ok a0 (IntKind.wrap .i64 (y43 + 1)) hx129) cok49 rfl (by kernel_rfl) ?_
                refine W.run D_ok 1 160 (by kernel_rfl) ?_
                exact W.fin (by decide) (by kernel_rfl) (Weak.sel [] [0, 2, 7, 39] (by kernel_rfl) (by kernel_rfl) (by kernel_rfl))
                ) ?_
            rcases cond_some h109 with ⟨hc130, h109⟩ | ⟨hc130, h109⟩
            · refine CodeOk.ifT hc130 (by kernel_rfl) ?_
              refine CodeOk.cutR (tl 40 [(6, V.int (-1))]) [] mix (by
                  refine W.run D_ok 1 160 (by kernel_rfl) ?_
                  exact W.fin (by decide) (by kernel_rfl) (Weak.sel [] [6] (by kernel_rfl) (by kernel_rfl) (by kernel_rfl))
                  ) ?_
              refine CodeOk.ret ?_
              have h109 := Option.some.inj h109
              subst h109
              exact Ends.gen [] (.inr rfl) (RetV.one rfl (OneR.tmp (t := 6) (r := V.int (-1)) (by kernel_rfl))) (by kernel_rfl) (by kernel_rfl) (by kernel_rfl)
            · refine CodeOk.ifF hc130 (by kernel_rfl) ?_
              refine CodeOk.skip ?_
              exact hk122 (a0, a2, (IntKind.wrap .i64 (y43 + 1))) h109 _ (Weak.sel [] [0, 2, 7] (by kernel_rfl) (by kernel_rfl) (by kernel_rfl))
          · refine CodeOk.ifF hc127 (by kernel_rfl) ?_
            refine CodeOk.skip ?_
            exact hk122 (a0, a2, y43) h109 _ (Weak.sel [] [0, 2, 7] (by kernel_rfl) (by kernel_rfl) (by kernel_rfl))
    · refine CodeOk.ifF hc112 (by kernel_rfl) ?_
      refine CodeOk.exit ?_
      refine CodeOk.weak (st' := ⟨tl 40 [(0, V.str a0), (2, V.int a2), (7, V.int y43), (18, V.bool (decide (y43 < (a0.length : Int))))], []⟩) (Weak.refl _) ?_
      refine CodeOk.cutR (tl 40 [(6, V.int (-1))]) [] mix (by
          refine W.run D_ok 1 160 (by kernel_rfl) ?_
          exact W.fin (by decide) (by kernel_rfl) (Weak.sel [] [6] (by kernel_rfl) (by kernel_rfl) (by kernel_rfl))
          ) ?_
      refine CodeOk.ret ?_
      have h109 := Option.some.inj h109
      subst h109
      exact Ends.gen [] (.inr rfl) (RetV.one rfl (OneR.tmp (t := 6) (r := V.int (-1)) (by kernel_rfl))) (by kernel_rfl) (by kernel_rfl) (by kernel_rfl)

theorem m_spec_StrEnd_ok (N : Nat) (a0 : List UInt8) (a1 : Int) {r : Int} (h : m_spec_StrEnd N a0 a1 = some r) :
    AC Tryd.prog (GS []) 65 [V.str a0, V.int a1] [] (V.int r) [] := by
  rw [m_spec_StrEnd] at h
  refine AC.enter Tryd.func65 rfl ?_
  refine CodeOk.cutR (tl 8 [(0, V.str a0), (1, V.int a1)]) [] mix (by
      refine W.run D_ok 1 100 (by kernel_rfl) ?_
      exact W.fin (by decide) (by kernel_rfl) (Weak.sel [] [0, 1] (by kernel_rfl) (by kernel_rfl) (by kernel_rfl))
      ) ?_
  obtain ⟨r2, hx2, h⟩ := bind_some h
  refine CodeOk.cutR (tl 8 [(4, V.int r2)]) [] mix (by
      refine W.run D_ok 2 100 (by kernel_rfl) ?_
      refine W.call0 (m_spec_l4Quoted_ok N a0 a1 34 hx2) cok79 rfl (by kernel_rfl) ?_
      refine W.run D_ok 1 100 (by kernel_rfl) ?_
      exact W.fin (by decide) (by kernel_rfl) (Weak.sel [] [4] (by kernel_rfl) (by kernel_rfl) (by kernel_rfl))
      ) ?_
  refine CodeOk.ret ?_
  have h := Option.some.inj h
  subst h
  exact Ends.gen [] (.inr rfl) (RetV.one rfl (OneR.tmp (t := 4) (r := V.int r2) (by kernel_rfl))) (by kernel_rfl) (by kernel_rfl) (by kernel_rfl)

theorem m_spec_EreEnd_ok (N : Nat) (a0 : List UInt8) (a1 : Int) {r : Int} (h : m_spec_EreEnd N a0 a1 = some r) :
    AC Tryd.prog (GS []) 66 [V.str a0, V.int a1] [] (V.int r) [] := by
  rw [m_spec_EreEnd] at h
  refine AC.enter Tryd.func66 rfl ?_
  refine CodeOk.cutR (tl 14 [(0, V.str a0), (1, V.int a1)]) [] mix (by
      refine W.run D_ok 1 100 (by kernel_rfl) ?_
      exact W.fin (by decide) (by kernel_rfl) (Weak.sel [] [0, 1] (by kernel_rfl) (by kernel_rfl) (by kernel_rfl))
      ) ?_
  obtain ⟨r2, hx2, h⟩ := bind_some h
  refine CodeOk.cutR (tl 14 [(1, V.int a1), (5, V.int r2)]) [] mix (by
      refine W.run D_ok 2 100 (by kernel_rfl) ?_
      refine W.call0 (m_spec_l4Quoted_ok N a0 a1 47 hx2) cok79 rfl (by kernel_rfl) ?_
      refine W.run D_ok 1 100 (by kernel_rfl) ?_
      exact W.fin (by decide) (by kernel_rfl) (Weak.sel [] [1, 5] (by kernel_rfl) (by kernel_rfl) (by kernel_rfl))
      ) ?_
  refine CodeOk.seq' ?_
  refine CodeOk.cutR (tl 14 [(5, V.int r2), (12, V.bool (r2 == (IntKind.wrap .i64 (a1 + 2))))]) [] mix (by
      refine W.run D_ok 4 100 (by kernel_rfl) ?_
      exact W.fin (by decide) (by kernel_rfl) (Weak.sel [] [5, 12] (by kernel_rfl) (by kernel_rfl) (by kernel_rfl))
      ) ?_
  rcases cond_some h with ⟨hc4, h⟩ | ⟨hc4, h⟩
  · refine CodeOk.ifT hc4 (by kernel_rfl) ?_
    refine CodeOk.cutR (tl 14 [(4, V.int (-1))]) [] mix (by
        refine W.run D_ok 1 100 (by kernel_rfl) ?_
        exact W.fin (by decide) (by kernel_rfl) (Weak.sel [] [4] (by kernel_rfl) (by kernel_rfl) (by kernel_rfl))
        ) ?_
    refine CodeOk.ret ?_
    have h := Option.some.inj h
    subst h
    exact Ends.gen [] (.inr rfl) (RetV.one rfl (OneR.tmp (t := 4) (r := V.int (-1)) (by kernel_rfl))) (by kernel_rfl) (by kernel_rfl) (by kernel_rfl)
  · refine CodeOk.ifF hc4 (by kernel_rfl) ?_
    refine CodeOk.skip ?_
    refine CodeOk.weak (st' := ⟨tl 14 [(5, V.int r2), (12, V.bool (r2 == (IntKind.wrap .i64 (a1 + 2))))], []⟩) (Weak.refl _) ?_
    refine CodeOk.cutR (tl 14 [(4, V.int r2)]) [] mix (by
        refine W.run D_ok 2 100 (by kernel_rfl) ?_
        exact W.fin (by decide) (by kernel_rfl) (Weak.sel [] [4] (by kernel_rfl) (by kernel_rfl) (by kernel_rfl))
        ) ?_
    refine CodeOk.ret ?_
    have h := Option.some.inj h
    subst h
    exact Ends.gen [] (.inr rfl) (RetV.one rfl (OneR.tmp (t := 4) (r := V.int r2) (by kernel_rfl))) (by kernel_rfl) (by kernel_rfl) (by kernel_rfl)

theorem m_spec_IsLetter_ok (a0 : Int) {r : Bool} (h : m_spec_IsLetter a0 = some r) :
    AC Tryd.prog (GS []) 67 [V.int a0] [] (V.bool r) [] := by
  rw [m_spec_IsLetter] at h
  refine AC.enter Tryd.func67 rfl ?_
  refine CodeOk.cutR (tl 13 [(0, V.int a0)]) [] mix (by
      refine W.run D_ok 1 100 (by kernel_rfl) ?_
      exact W.fin (by decide) (by kernel_rfl) (Weak.sel [] [0] (by kernel_rfl) (by kernel_rfl) (by kernel_rfl))
      ) ?_
  obtain ⟨y3, hv5, h⟩ := bind_some h
  refine CodeOk.cutR (tl 13 [(2, V.bool y3)]) [] mix (by
      refine W.run D_ok 1 100 (by kernel_rfl) ?_
      obtain ⟨r4, hx6, hv5⟩ := bind_some hv5
      refine W.call0 (m_spec_l1In_ok a0 97 122 hx6) cok44 rfl (by kernel_rfl) ?_
      refine W.run D_ok 1 100 (by kernel_rfl) ?_
      rcases cond_some hv5 with ⟨hc7, hv5⟩ | ⟨hc7, hv5⟩
      · refine W.is 5 hc7 (by kernel_rfl) ?_
        refine W.run D_ok 8 100 (by kernel_rfl) ?_
        have hv5 := Option.some.inj hv5
        subst hv5
        exact W.fin (by decide) (by kernel_rfl) (Weak.sel [] [2] (by kernel_rfl) (by kernel_rfl) (by kernel_rfl))
      · refine W.is 5 hc7 (by kernel_rfl) ?_
        refine W.run D_ok 1 100 (by kernel_rfl) ?_
        obtain ⟨r5, hx8, hv5⟩ := bind_some hv5
        refine W.call0 (m_spec_l1In_ok a0 65 90 hx8) cok44 rfl (by kernel_rfl) ?_
        refine W.run D_ok 2 100 (by kernel_rfl) ?_
        rcases cond_some hv5 with ⟨hc9, hv5⟩ | ⟨hc9, hv5⟩
        · refine W.is 9 hc9 (by kernel_rfl) ?_
          refine W.run D_ok 4 100 (by kernel_rfl) ?_
          have hv5 := Option.some.inj hv5
          subst hv5
          exact W.fin (by decide) (by kernel_rfl) (Weak.sel [] [2] (by kernel_rfl) (by kernel_rfl) (by kernel_rfl))
        · refine W.is 9 hc9 (by kernel_rfl) ?_
          refine W.run D_ok 4 100 (by kernel_rfl) ?_
          have hv5 := Option.some.inj hv5
          subst hv5
          exact W.fin (by decide) (by kernel_rfl) (Weak.sel [] [2] (by kernel_rfl) (by kernel_rfl) (by kernel_rfl))
      ) ?_
  refine CodeOk.ret ?_
  have h := Option.some.inj h
  subst h
  exact Ends.gen [] (.inr rfl) (RetV.one rfl (OneR.tmp (t := 2) (r := V.bool y3) (by kernel_rfl))) (by kernel_rfl) (by kernel_rfl) (by kernel_rfl)

theorem m_spec_IsWordByte_ok (a0 : Int) {r : Bool} (h : m_spec_IsWordByte a0 = some r) :
    AC Tryd.prog (GS []) 82 [V.int a0] [] (V.bool r) [] := by
  rw [m_spec_IsWordByte] at h
  refine AC.enter Tryd.func82 rfl ?_
  refine CodeOk.cutR (tl 9 [(0, V.int a0)]) [] mix (by
      refine W.run D_ok 1 100 (by kernel_rfl) ?_
      exact W.fin (by decide) (by kernel_rfl) (Weak.sel [] [0] (by kernel_rfl) (by kernel_rfl) (by kernel_rfl))
      ) ?_
  obtain ⟨y3, hv4, h⟩ := bind_some h
  refine CodeOk.cutR (tl 9 [(2, V.bool y3)]) [] mix (by
      refine W.run D_ok 1 100 (by kernel_rfl) ?_
      obtain ⟨r4, hx5, hv4⟩ := bind_some hv4
      refine W.call0 (m_spec_IsLetter_ok a0 hx5) cok67 rfl (by kernel_rfl) ?_
      refine W.run D_ok 1 100 (by kernel_rfl) ?_
      rcases cond_some hv4 with ⟨hc6, hv4⟩ | ⟨hc6, hv4⟩
      · refine W.is 5 hc6 (by kernel_rfl) ?_
        refine W.run D_ok 4 100 (by kernel_rfl) ?_
        have hv4 := Option.some.inj hv4
        subst hv4
        exact W.fin (by decide) (by kernel_rfl) (Weak.sel [] [2] (by kernel_rfl) (by kernel_rfl) (by kernel_rfl))
      · refine W.is 5 hc6 (by kernel_rfl) ?_
        refine W.run D_ok 1 100 (by kernel_rfl) ?_
        obtain ⟨r5, hx7, hv4⟩ := bind_some hv4
        refine W.call0 (m_spec_IsDigit_ok a0 hx7) cok63 rfl (by kernel_rfl) ?_
        refine W.run D_ok 2 100 (by kernel_rfl) ?_
        have hv4 := Option.some.inj hv4
        subst hv4
        exact W.fin (by decide) (by kernel_rfl) (Weak.sel [] [2] (by kernel_rfl) (by kernel_rfl) (by kernel_rfl))
      ) ?_
  refine CodeOk.ret ?_
  have h := Option.some.inj h
  subst h
  exact Ends.gen [] (.inr rfl) (RetV.one rfl (OneR.tmp (t := 2) (r := V.bool y3) (by kernel_rfl))) (by kernel_rfl) (by kernel_rfl) (by kernel_rfl)

theorem m_spec_NameEnd_ok (N : Nat) (a0 : List UInt8) (a1 : Int) {r : Int} (h : m_spec_NameEnd N a0 a1 = some r) :
    AC Tryd.prog (GS []) 69 [V.str a0, V.int a1] [] (V.int r) [] := by
  rw [m_spec_NameEnd] at h
  refine AC.enter Tryd.func69 rfl ?_
  refine CodeOk.cutR (tl 17 [(0, V.str a0), (1, V.int a1)]) [] mix (by
      refine W.run D_ok 1 100 (by kernel_rfl) ?_
      exact W.fin (by decide) (by kernel_rfl) (Weak.sel [] [0, 1] (by kernel_rfl) (by kernel_rfl) (by kernel_rfl))
      ) ?_
  refine CodeOk.seq' ?_
  obtain ⟨r7, hx8, h⟩ := bind_some h
  obtain ⟨r8, hx9, h⟩ := bind_some h
  refine CodeOk.cutR (tl 17 [(0, V.str a0), (1, V.int a1), (9, V.bool (!r8))]) [] mix (by
      refine W.run D_ok 2 100 (by kernel_rfl) ?_
      refine W.call0 (m_spec_l4Byte_ok a0 a1 hx8) cok49 rfl (by kernel_rfl) ?_
      refine W.call0 (m_spec_IsLetter_ok r7 hx9) cok67 rfl (by kernel_rfl) ?_
      refine W.run D_ok 1 100 (by kernel_rfl) ?_
      exact W.fin (by decide) (by kernel_rfl) (Weak.sel [] [0, 1, 9] (by kernel_rfl) (by kernel_rfl) (by kernel_rfl))
      ) ?_
  rcases cond_some h with ⟨hc10, h⟩ | ⟨hc10, h⟩
  · refine CodeOk.ifT hc10 (by kernel_rfl) ?_
    refine CodeOk.cutR (tl 17 [(4, V.int (-1))]) [] mix (by
        refine W.run D_ok 1 100 (by kernel_rfl) ?_
        exact W.fin (by decide) (by kernel_rfl) (Weak.sel [] [4] (by kernel_rfl) (by kernel_rfl) (by kernel_rfl))
        ) ?_
    refine CodeOk.ret ?_
    have h := Option.some.inj h
    subst h
    exact Ends.gen [] (.inr rfl) (RetV.one rfl (OneR.tmp (t := 4) (r := V.int (-1)) (by kernel_rfl))) (by kernel_rfl) (by kernel_rfl) (by kernel_rfl)
  · refine CodeOk.ifF hc10 (by kernel_rfl) ?_
    refine CodeOk.skip ?_
    refine CodeOk.weak (st' := ⟨tl 17 [(0, V.str a0), (1, V.int a1), (9, V.bool (!r8))], []⟩) (Weak.refl _) ?_
    refine CodeOk.seq' ?_
    refine CodeOk.block' ?_
    refine CodeOk.loopJ (fun (⟨a0, a1⟩ : ((List UInt8) × Int)) => ⟨tl 17 [(0, V.str a0), (1, V.int a1)], []⟩) (fun n i => m_spec_NameEnd_l1 N n i = some r) (n0 := N) (i0 := (a0, a1)) (Weak.sel [] [0, 1] (by kernel_rfl) (by kernel_rfl) (by kernel_rfl)) h (fun i h => by simp [m_spec_NameEnd_l1] at h) ?_
    rintro n1 ⟨a0, a1⟩ h43 ih44
    rw [m_spec_NameEnd_l1] at h43
    refine CodeOk.seq' ?_
    obtain ⟨r41, hx52, h43⟩ := bind_some h43
    obtain ⟨r42, hx53, h43⟩ := bind_some h43
    refine CodeOk.cutR (tl 17 [(0, V.str a0), (1, V.int a1), (13, V.bool r42)]) [] mix (by
        refine W.run D_ok 2 140 (by kernel_rfl) ?_
        refine W.call0 (m_spec_l4Byte_ok a0 a1 hx52) cok49 rfl (by kernel_rfl) ?_
        refine W.call0 (m_spec_IsWordByte_ok r41 hx53) cok82 rfl (by kernel_rfl) ?_
        exact W.fin (by decide) (by kernel_rfl) (Weak.sel [] [0, 1, 13] (by kernel_rfl) (by kernel_rfl) (by kernel_rfl))
        ) ?_
    rcases cond_some h43 with ⟨hc54, h43⟩ | ⟨hc54, h43⟩
    · refine CodeOk.ifT hc54 (by kernel_rfl) ?_
      refine CodeOk.skip ?_
      refine CodeOk.weak (st' := ⟨tl 17 [(0, V.str a0), (1, V.int a1), (13, V.bool r42)], []⟩) (Weak.refl _) ?_
      refine CodeOk.block' ?_
      refine CodeOk.endR (tl 17 [(0, V.str a0), (1, V.int (IntKind.wrap .i64 (a1 + 1)))]) [] mix (by
          refine W.run D_ok 3 140 (by kernel_rfl) ?_
          exact W.fin (by decide) (by kernel_rfl) (Weak.sel [] [0, 1] (by kernel_rfl) (by kernel_rfl) (by kernel_rfl))
          ) (fun st hw => ?_)
      exact ih44 (a0, (IntKind.wrap .i64 (a1 + 1))) h43 _ (hw.trans (Weak.sel [] [0, 1] (by kernel_rfl) (by kernel_rfl) (by kernel_rfl)))
    · refine CodeOk.ifF hc54 (by kernel_rfl) ?_
      refine CodeOk.exit ?_
      refine CodeOk.weak (st' := ⟨tl 17 [(0, V.str a0), (1, V.int a1), (13, V.bool r42)], []⟩) (Weak.refl _) ?_
      refine CodeOk.cutR (tl 17 [(4, V.int a1)]) [] mix (by
          refine W.run D_ok 2 140 (by kernel_rfl) ?_
          exact W.fin (by decide) (by kernel_rfl) (Weak.sel [] [4] (by kernel_rfl) (by kernel_rfl) (by kernel_rfl))
          ) ?_
      refine CodeOk.ret ?_
      have h43 := Option.some.inj h43
      subst h43
      exact Ends.gen [] (.inr rfl) (RetV.one rfl (OneR.tmp (t := 4) (r := V.int a1) (by kernel_rfl))) (by kernel_rfl) (by kernel_rfl) (by kernel_rfl)

theorem m_spec_l3Find_ok (N : Nat) (a0 : List (List UInt8)) (a1 : List UInt8) {r : Int} (h : m_spec_l3Find N a0 a1 = some r) :
    AC Tryd.prog (GS []) 103 [.sl false false (a0.map encS), V.str a1] [] (V.int r) [] := by
  rw [m_spec_l3Find] at h
  refine AC.enter Tryd.func103 rfl ?_
  refine CodeOk.cutR (tl 19 [(0, .sl false false (a0.map encS)), (1, V.str a1)]) [] mix (by
      refine W.run D_ok 1 100 (by kernel_rfl) ?_
      exact W.fin (by decide) (by kernel_rfl) (Weak.sel [] [0, 1] (by kernel_rfl) (by kernel_rfl) (by kernel_rfl))
      ) ?_
  refine CodeOk.seq' ?_
  refine CodeOk.cutR (tl 19 [(0, .sl false false (a0.map encS)), (1, V.str a1), (5, V.int 0)]) [] mix (by
      refine W.run D_ok 1 100 (by kernel_rfl) ?_
      exact W.fin (by decide) (by kernel_rfl) (Weak.sel [] [0, 1, 5] (by kernel_rfl) (by kernel_rfl) (by kernel_rfl))
      ) ?_
  refine CodeOk.block' ?_
  refine CodeOk.loopJ (fun (⟨a0, a1, y19⟩ : ((List (List UInt8)) × (List UInt8) × Int)) => ⟨tl 19 [(0, .sl false false (a0.map encS)), (1, V.str a1), (5, V.int y19)], []⟩) (fun n i => m_spec_l3Find_l1 N n i = some r) (n0 := N) (i0 := (a0, a1, 0)) (Weak.sel [] [0, 1, 5] (by kernel_rfl) (by kernel_rfl) (by kernel_rfl)) h (fun i h => by simp [m_spec_l3Find_l1] at h) ?_
  rintro n1 ⟨a0, a1, y19⟩ h43 ih44
  rw [m_spec_l3Find_l1] at h43
  refine CodeOk.seq' ?_
  refine CodeOk.cutR (tl 19 [(0, .sl false false (a0.map encS)), (1, V.str a1), (5, V.int y19), (9, V.bool (decide (y19 < (a0.length : Int))))]) [] mix (by
      refine W.run D_ok 2 160 (by kernel_rfl) ?_
      refine W.len D_ok encS a0 [] (by kernel_rfl) (by kernel_rfl) ?_
      refine W.run D_ok 1 160 (by kernel_rfl) ?_
      exact W.fin (by decide) (by kernel_rfl) (Weak.sel [] [0, 1, 5, 9] (by kernel_rfl) (by kernel_rfl) (by kernel_rfl))
      ) ?_
  rcases cond_some h43 with ⟨hc46, h43⟩ | ⟨hc46, h43⟩
  · refine CodeOk.ifT hc46 (by kernel_rfl) ?_
    refine CodeOk.skip ?_
    refine CodeOk.weak (st' := ⟨tl 19 [(0, .sl false false (a0.map encS)), (1, V.str a1), (5, V.int y19), (9, V.bool (decide (y19 < (a0.length : Int))))], []⟩) (Weak.refl _) ?_
    refine CodeOk.seq' ?_
    refine CodeOk.block' ?_
    obtain ⟨e28, hx51, h43⟩ := bind_some h43
    refine CodeOk.cutR (tl 19 [(0, .sl false false (a0.map encS)), (1, V.str a1), (5, V.int y19), (17, V.bool (e28 == a1))]) [] mix (by
        refine W.run D_ok 2 160 (by kernel_rfl) ?_
        refine W.ixD D_ok encS hx51 1 (by kernel_rfl) (by kernel_rfl) ?_
        refine W.run D_ok 3 160 (by kernel_rfl) ?_
        exact W.fin (by decide) (by kernel_rfl) (Weak.sel [] [0, 1, 5, 17] (by kernel_rfl) (by kernel_rfl) (by kernel_rfl))
        ) ?_
    rcases cond_some h43 with ⟨hc52, h43⟩ | ⟨hc52, h43⟩
    · refine CodeOk.ifT hc52 (by kernel_rfl) ?_
      refine CodeOk.cutR (tl 19 [(4, V.int y19)]) [] mix (by
          refine W.run D_ok 2 160 (by kernel_rfl) ?_
          exact W.fin (by decide) (by kernel_rfl) (Weak.sel [] [4] (by kernel_rfl) (by kernel_rfl) (by kernel_rfl))
          ) ?_
      refine CodeOk.ret ?_
      have h43 := Option.some.inj h43
      subst h43
      exact Ends.gen [] (.inr rfl) (RetV.one rfl (OneR.tmp (t := 4) (r := V.int y19) (by kernel_rfl))) (by kernel_rfl) (by kernel_rfl) (by kernel_rfl)
    · refine CodeOk.ifF hc52 (by kernel_rfl) ?_
      refine CodeOk.skip ?_
      refine CodeOk.weak (st' := ⟨tl 19 [(0, .sl false false (a0.map encS)), (1, V.str a1), (5, V.int y19), (17, V.bool (e28 == a1))], []⟩) (Weak.refl _) ?_
      refine CodeOk.endR (tl 19 [(0, .sl false false (a0.map encS)), (1, V.str a1), (5, V.int (IntKind.wrap .i64 (y19 + 1)))]) [] mix (by
          refine W.run D_ok 3 160 (by kernel_rfl) ?_
          exact W.fin (by decide) (by kernel_rfl) (Weak.sel [] [0, 1, 5] (by kernel_rfl) (by kernel_rfl) (by kernel_rfl))
          ) (fun st hw => ?_)
      exact ih44 (a0, a1, (IntKind.wrap .i64 (y19 + 1))) h43 _ (hw.trans (Weak.sel [] [0, 1, 5] (by kernel_rfl) (by kernel_rfl) (by kernel_rfl)))
  · refine CodeOk.ifF hc46 (by kernel_rfl) ?_
    refine CodeOk.exit ?_
    refine CodeOk.weak (st' := ⟨tl 19 [(0, .sl false false (a0.map encS)), (1, V.str a1), (5, V.int y19), (9, V.bool (decide (y19 < (a0.length : Int))))], []⟩) (Weak.refl _) ?_
    refine CodeOk.cutR (tl 19 [(4, V.int (-1))]) [] mix (by
        refine W.run D_ok 1 160 (by kernel_rfl) ?_
        exact W.fin (by decide) (by kernel_rfl) (Weak.sel [] [4] (by kernel_rfl) (by kernel_rfl) (by kernel_rfl))
        ) ?_
    refine CodeOk.ret ?_
    have h43 := Option.some.inj h43
    subst h43
    exact Ends.gen [] (.inr rfl) (RetV.one rfl (OneR.tmp (t := 4) (r := V.int (-1)) (by kernel_rfl))) (by kernel_rfl) (by kernel_rfl) (by kernel_rfl)

theorem m_spec_KeywordOf_ok (N : Nat) (a0 : List UInt8) {r : Int} (h : m_spec_KeywordOf N a0 = some r) :
    AC Tryd.prog (GS []) 80 [V.str a0] [] (V.int r) [] := by
  rw [m_spec_KeywordOf] at h
  refine AC.enter Tryd.func80 rfl ?_
  refine CodeOk.cutR (tl 11 [(0, V.str a0)]) [] mix (by
      refine W.run D_ok 1 100 (by kernel_rfl) ?_
      exact W.fin (by decide) (by kernel_rfl) (Weak.sel [] [0] (by kernel_rfl) (by kernel_rfl) (by kernel_rfl))
      ) ?_
  obtain ⟨r3, hx3, h⟩ := bind_some h
  obtain ⟨r4, hx4, h⟩ := bind_some h
  refine CodeOk.cutR (tl 11 [(3, V.int r4)]) [] mix (by
      refine W.call (m_spec_l3Words_ok  hx3) cok55 [] [(100, 100)] [100] (show LayOk _ [] from trivial) (by kernel_rfl) (by kernel_rfl) ?_
      refine W.run D_ok 1 101 (by kernel_rfl) ?_
      refine W.lend (m_spec_l3Find_ok N r3 a0 hx4) cok103 [] [] (LayOk.cons (j := 100) encS encS r3 (by kernel_rfl) (fun _ => rfl) (show LayOk _ [] from trivial)) (.c _) .nil (by kernel_rfl) (by kernel_rfl) ?_
      refine W.run D_ok 1 101 (by kernel_rfl) ?_
      exact W.fin (by decide) (by kernel_rfl) (Weak.sel [] [3] (by kernel_rfl) (by kernel_rfl) (by kernel_rfl))
      ) ?_
  refine CodeOk.seq' ?_
  refine CodeOk.cutR (tl 11 [(3, V.int r4), (8, V.bool (decide (r4 < 0)))]) [] mix (by
      refine W.run D_ok 2 101 (by kernel_rfl) ?_
      exact W.fin (by decide) (by kernel_rfl) (Weak.sel [] [3, 8] (by kernel_rfl) (by kernel_rfl) (by kernel_rfl))
      ) ?_
  rcases cond_some h with ⟨hc6, h⟩ | ⟨hc6, h⟩
  · refine CodeOk.ifT hc6 (by kernel_rfl) ?_
    refine CodeOk.cutR (tl 11 [(2, V.int 0)]) [] mix (by
        refine W.run D_ok 1 101 (by kernel_rfl) ?_
        exact W.fin (by decide) (by kernel_rfl) (Weak.sel [] [2] (by kernel_rfl) (by kernel_rfl) (by kernel_rfl))
        ) ?_
    refine CodeOk.ret ?_
    have h := Option.some.inj h
    subst h
    exact Ends.gen [] (.inr rfl) (RetV.one rfl (OneR.tmp (t := 2) (r := V.int 0) (by kernel_rfl))) (by kernel_rfl) (by kernel_rfl) (by kernel_rfl)
  · refine CodeOk.ifF hc6 (by kernel_rfl) ?_
    refine CodeOk.skip ?_
    refine CodeOk.weak (st' := ⟨tl 11 [(3, V.int r4), (8, V.bool (decide (r4 < 0)))], []⟩) (Weak.refl _) ?_
    refine CodeOk.cutR (tl 11 [(2, V.int (IntKind.wrap .i64 (10 + r4)))]) [] mix (by
        refine W.run D_ok 3 101 (by kernel_rfl) ?_
        exact W.fin (by decide) (by kernel_rfl) (Weak.sel [] [2] (by kernel_rfl) (by kernel_rfl) (by kernel_rfl))
        ) ?_
    refine CodeOk.ret ?_
    have h := Option.some.inj h
    subst h
    exact Ends.gen [] (.inr rfl) (RetV.one rfl (OneR.tmp (t := 2) (r := V.int (IntKind.wrap .i64 (10 + r4))) (by kernel_rfl))) (by kernel_rfl) (by kernel_rfl) (by kernel_rfl)

theorem m_spec_l3Builtins_ok {r : (List (List UInt8))} (h : m_spec_l3Builtins = some r) :
    AC Tryd.prog (GS []) 104 [] [] (.own 100) [(100, .vec false 9 1 (r.map encS))] := by
  rw [m_spec_l3Builtins] at h
  refine AC.enter Tryd.func104 rfl ?_
  refine CodeOk.cutR (tl 2 []) [] mix (by
      refine W.run D_ok 1 100 (by kernel_rfl) ?_
      exact W.fin (by decide) (by kernel_rfl) (Weak.sel [] [] (by kernel_rfl) (by kernel_rfl) (by kernel_rfl))
      ) ?_
  refine CodeOk.cutR (tl 2 [(0, .own 100)]) [(100, .vec false 9 1 ([[97, 116, 97, 110, 50], [99, 108, 111, 115, 101], [99, 111, 115], [101, 120, 112], [103, 115, 117, 98], [105, 110, 100, 101, 120], [105, 110, 116], [108, 101, 110, 103, 116, 104], [108, 111, 103], [109, 97, 116, 99, 104], [114, 97, 110, 100], [115, 105, 110], [115, 112, 108, 105, 116], [115, 112, 114, 105, 110, 116, 102], [115, 113, 114, 116], [115, 114, 97, 110, 100], [115, 117, 98], [115, 117, 98, 115, 116, 114], [115, 121, 115, 116, 101, 109], [116, 111, 108, 111, 119, 101, 114], [116, 111, 117, 112, 112, 101, 114]].map encS))] mix (by
      refine W.run D_ok 2 100 (by kernel_rfl) ?_
      exact W.fin (by decide) (by kernel_rfl) (Weak.sel [(100, 100)] [0] (by kernel_rfl) (by kernel_rfl) (by kernel_rfl))
      ) ?_
  refine CodeOk.ret ?_
  have h := Option.some.inj h
  subst h
  exact Ends.gen [(100, 100)] (.inr rfl) (RetV.one rfl (OneR.tmp (t := 0) (r := .own 100) (by kernel_rfl))) (by kernel_rfl) (by kernel_rfl) (by kernel_rfl)

theorem m_spec_IsBuiltin_ok (N : Nat) (a0 : List UInt8) {r : Bool} (h : m_spec_IsBuiltin N a0 = some r) :
    AC Tryd.prog (GS []) 81 [V.str a0] [] (V.bool r) [] := by
  rw [m_spec_IsBuiltin] at h
  refine AC.enter Tryd.func81 rfl ?_
  refine CodeOk.cutR (tl 7 [(0, V.str a0)]) [] mix (by
      refine W.run D_ok 1 100 (by kernel_rfl) ?_
      exact W.fin (by decide) (by kernel_rfl) (Weak.sel [] [0] (by kernel_rfl) (by kernel_rfl) (by kernel_rfl))
      ) ?_
  obtain ⟨r3, hx3, h⟩ := bind_some h
  obtain ⟨r4, hx4, h⟩ := bind_some h
  refine CodeOk.cutR (tl 7 [(2, V.bool (decide (r4 ≥ 0)))]) [] mix (by
      refine W.call (m_spec_l3Builtins_ok  hx3) cok104 [] [(100, 100)] [100] (show LayOk _ [] from trivial) (by kernel_rfl) (by kernel_rfl) ?_
      refine W.run D_ok 1 101 (by kernel_rfl) ?_
      refine W.lend (m_spec_l3Find_ok N r3 a0 hx4) cok103 [] [] (LayOk.cons (j := 100) encS encS r3 (by kernel_rfl) (fun _ => rfl) (show LayOk _ [] from trivial)) (.c _) .nil (by kernel_rfl) (by kernel_rfl) ?_
      refine W.run D_ok 2 101 (by kernel_rfl) ?_
      exact W.fin (by decide) (by kernel_rfl) (Weak.sel [] [2] (by kernel_rfl) (by kernel_rfl) (by kernel_rfl))
      ) ?_
  refine CodeOk.ret ?_
  have h := Option.some.inj h
  subst h
  exact Ends.gen [] (.inr rfl) (RetV.one rfl (OneR.tmp (t := 2) (r := V.bool (decide (r4 ≥ 0))) (by kernel_rfl))) (by kernel_rfl) (by kernel_rfl) (by kernel_rfl)

theorem m_spec_l5Word_ok (N : Nat) (a0 : List UInt8) (a1 : Int) (a2 : Int) {r : SToken} (h : m_spec_l5Word N a0 a1 a2 = some r) :
    AC Tryd.prog (GS []) 68 [V.str a0, V.int a1, V.int a2] [] (.agg [V.int r.Kind, V.str r.Text, V.int r.At]) [] := by
  rw [m_spec_l5Word] at h
  refine AC.enter Tryd.func68 rfl ?_
  refine CodeOk.cutR (tl 35 [(0, V.str a0), (1, V.int a1), (2, V.int a2), (6, .loc 100 0)]) [(100, .cells 45 [V.int 0, V.str [], V.int 0])] mix (by
      refine W.run D_ok 1 100 (by kernel_rfl) ?_
      exact W.fin (by decide) (by kernel_rfl) (Weak.sel [(100, 100)] [0, 1, 2, 6] (by kernel_rfl) (by kernel_rfl) (by kernel_rfl))
      ) ?_
  obtain ⟨s2, hx2, h⟩ := bind_some h
  refine CodeOk.cutR (tl 35 [(0, V.str a0), (2, V.int a2), (6, .loc 100 0), (7, .loc 101 0)]) [(101, .cells 45 [V.int 6, V.str s2, V.int a1]), (100, .cells 45 [V.int 0, V.str [], V.int 0])] mix (by
      refine W.run D_ok 3 101 (by kernel_rfl) ?_
      refine W.cutS D_ok hx2 (by kernel_rfl) ?_
      refine W.run D_ok 4 101 (by kernel_rfl) ?_
      exact W.fin (by decide) (by kernel_rfl) (Weak.sel [(101, 101), (100, 100)] [0, 2, 6, 7] (by kernel_rfl) (by kernel_rfl) (by kernel_rfl))
      ) ?_
  refine CodeOk.join (fun (⟨s2, a1, y11⟩ : ((List UInt8) × Int × Int)) => ⟨tl 35 [(6, .loc 100 0), (7, .loc 101 0)], [(100, .cells 45 [V.int 0, V.str [], V.int 0]), (101, .cells 45 [V.int y11, V.str s2, V.int a1])]⟩) (fun i => m_spec_l5Word_k1 N i = some r) ?_ ?_
  · rintro ⟨s2, a1, y11⟩ h14
    rw [m_spec_l5Word_k1] at h14
    refine CodeOk.cutR (tl 35 [(6, .loc 100 0)]) [(100, .cells 45 [V.int y11, V.str s2, V.int a1])] mix (by
        refine W.run D_ok 2 102 (by kernel_rfl) ?_
        exact W.fin (by decide) (by kernel_rfl) (Weak.sel [(100, 100)] [6] (by kernel_rfl) (by kernel_rfl) (by kernel_rfl))
        ) ?_
    refine CodeOk.ret ?_
    have h14 := Option.some.inj h14
    subst h14
    exact Ends.gen [] (.inr rfl) (RetV.one rfl (OneR.cell D_ok (r := .agg [V.int y11, V.str s2, V.int a1]) (i := 100) (ety := 45) (cs := [V.int y11, V.str s2, V.int a1]) (by kernel_rfl) (by kernel_rfl) (by kernel_rfl))) (by kernel_rfl) (by kernel_rfl) (by kernel_rfl)
  intro hk15
  refine CodeOk.block' ?_
  obtain ⟨r13, hx17, h⟩ := bind_some h
  refine CodeOk.cutR (tl 35 [(0, V.str a0), (2, V.int a2), (6, .loc 100 0), (7, .loc 101 0), (14, V.bool (r13 != 0))]) [(101, .cells 45 [V.int 6, V.str s2, V.int a1]), (100, .cells 45 [V.int 0, V.str [], V.int 0])] mix (by
      refine W.run D_ok 2 102 (by kernel_rfl) ?_
      refine W.call0 (m_spec_KeywordOf_ok N s2 hx17) cok80 rfl (by kernel_rfl) ?_
      refine W.run D_ok 2 102 (by kernel_rfl) ?_
      exact W.fin (by decide) (by kernel_rfl) (Weak.sel [(101, 101), (100, 100)] [0, 2, 6, 7, 14] (by kernel_rfl) (by kernel_rfl) (by kernel_rfl))
      ) ?_
  rcases cond_some h with ⟨hc18, h⟩ | ⟨hc18, h⟩
  · refine CodeOk.ifT hc18 (by kernel_rfl) ?_
    obtain ⟨r15, hx20, h⟩ := bind_some h
    refine CodeOk.endR (tl 35 [(6, .loc 100 0), (7, .loc 101 0)]) [(101, .cells 45 [V.int r15, V.str s2, V.int a1]), (100, .cells 45 [V.int 0, V.str [], V.int 0])] mix (by
        refine W.run D_ok 2 102 (by kernel_rfl) ?_
        refine W.call0 (m_spec_KeywordOf_ok N s2 hx20) cok80 rfl (by kernel_rfl) ?_
        refine W.run D_ok 2 102 (by kernel_rfl) ?_
        exact W.fin (by decide) (by kernel_rfl) (Weak.sel [(101, 101), (100, 100)] [6, 7] (by kernel_rfl) (by kernel_rfl) (by kernel_rfl))
        ) (fun st hw => ?_)
    exact hk15 (s2, a1, r15) h _ (hw.trans (Weak.sel [(100, 100), (101, 101)] [6, 7] (by kernel_rfl) (by kernel_rfl) (by kernel_rfl)))
  · refine CodeOk.ifF hc18 (by kernel_rfl) ?_
    obtain ⟨r17, hx22, h⟩ := bind_some h
    refine CodeOk.cutR (tl 35 [(0, V.str a0), (2, V.int a2), (6, .loc 100 0), (7, .loc 101 0), (23, V.bool r17)]) [(101, .cells 45 [V.int 6, V.str s2, V.int a1]), (100, .cells 45 [V.int 0, V.str [], V.int 0])] mix (by
        refine W.run D_ok 2 102 (by kernel_rfl) ?_
        refine W.call0 (m_spec_IsBuiltin_ok N s2 hx22) cok81 rfl (by kernel_rfl) ?_
        refine W.run D_ok 1 102 (by kernel_rfl) ?_
        exact W.fin (by decide) (by kernel_rfl) (Weak.sel [(101, 101), (100, 100)] [0, 2, 6, 7, 23] (by kernel_rfl) (by kernel_rfl) (by kernel_rfl))
        ) ?_
    rcases cond_some h with ⟨hc23, h⟩ | ⟨hc23, h⟩
    · refine CodeOk.ifT hc23 (by kernel_rfl) ?_
      refine CodeOk.endR (tl 35 [(6, .loc 100 0), (7, .loc 101 0)]) [(101, .cells 45 [V.int 8, V.str s2, V.int a1]), (100, .cells 45 [V.int 0, V.str [], V.int 0])] mix (by
          refine W.run D_ok 2 102 (by kernel_rfl) ?_
          exact W.fin (by decide) (by kernel_rfl) (Weak.sel [(101, 101), (100, 100)] [6, 7] (by kernel_rfl) (by kernel_rfl) (by kernel_rfl))
          ) (fun st hw => ?_)
      exact hk15 (s2, a1, 8) h _ (hw.trans (Weak.sel [(100, 100), (101, 101)] [6, 7] (by kernel_rfl) (by kernel_rfl) (by kernel_rfl)))
    · refine CodeOk.ifF hc23 (by kernel_rfl) ?_
      obtain ⟨r19, hx25, h⟩ := bind_some h
      refine CodeOk.cutR (tl 35 [(6, .loc 100 0), (7, .loc 101 0), (28, V.bool (r19 == 40))]) [(101, .cells 45 [V.int 6, V.str s2, V.int a1]), (100, .cells 45 [V.int 0, V.str [], V.int 0])] mix (by
          refine W.run D_ok 2 102 (by kernel_rfl) ?_
          refine W.call0 (m_spec_l4Byte_ok a0 a2 hx25) cok49 rfl (by kernel_rfl) ?_
          refine W.run D_ok 2 102 (by kernel_rfl) ?_
          exact W.fin (by decide) (by kernel_rfl) (Weak.sel [(101, 101), (100, 100)] [6, 7, 28] (by kernel_rfl) (by kernel_rfl) (by kernel_rfl))
          ) ?_
      rcases cond_some h with ⟨hc26, h⟩ | ⟨hc26, h⟩
      · refine CodeOk.ifT hc26 (by kernel_rfl) ?_
        refine CodeOk.endR (tl 35 [(6, .loc 100 0), (7, .loc 101 0)]) [(101, .cells 45 [V.int 7, V.str s2, V.int a1]), (100, .cells 45 [V.int 0, V.str [], V.int 0])] mix (by
            refine W.run D_ok 2 102 (by kernel_rfl) ?_
            exact W.fin (by decide) (by kernel_rfl) (Weak.sel [(101, 101), (100, 100)] [6, 7] (by kernel_rfl) (by kernel_rfl) (by kernel_rfl))
            ) (fun st hw => ?_)
        exact hk15 (s2, a1, 7) h _ (hw.trans (Weak.sel [(100, 100), (101, 101)] [6, 7] (by kernel_rfl) (by kernel_rfl) (by kernel_rfl)))
      · refine CodeOk.ifF hc26 (by kernel_rfl) ?_
        refine CodeOk.skip ?_
        exact hk15 (s2, a1, 6) h _ (Weak.sel [(100, 100), (101, 101)] [6, 7] (by kernel_rfl) (by kernel_rfl) (by kernel_rfl))

theorem m_spec_NameShape_ok (N : Nat) (a0 : List UInt8) {r : Bool} (h : m_spec_NameShape N a0 = some r) :
    AC Tryd.prog (GS []) 70 [V.str a0] [] (V.bool r) [] := by
  rw [m_spec_NameShape] at h
  refine AC.enter Tryd.func70 rfl ?_
  refine CodeOk.cutR (tl 25 [(0, V.str a0)]) [] mix (by
      refine W.run D_ok 1 100 (by kernel_rfl) ?_
      exact W.fin (by decide) (by kernel_rfl) (Weak.sel [] [0] (by kernel_rfl) (by kernel_rfl) (by kernel_rfl))
      ) ?_
  refine CodeOk.seq' ?_
  refine CodeOk.cutR (tl 25 [(0, V.str a0), (3, V.int 0)]) [] mix (by
      refine W.run D_ok 1 100 (by kernel_rfl) ?_
      exact W.fin (by decide) (by kernel_rfl) (Weak.sel [] [0, 3] (by kernel_rfl) (by kernel_rfl) (by kernel_rfl))
      ) ?_
  refine CodeOk.block' ?_
  refine CodeOk.loopJ (fun (⟨a0, y35⟩ : ((List UInt8) × Int)) => ⟨tl 25 [(0, V.str a0), (3, V.int y35)], []⟩) (fun n i => m_spec_NameShape_l1 N n i = some r) (n0 := N) (i0 := (a0, 0)) (Weak.sel [] [0, 3] (by kernel_rfl) (by kernel_rfl) (by kernel_rfl)) h (fun i h => by simp [m_spec_NameShape_l1] at h) ?_
  rintro n1 ⟨a0, y35⟩ h63 ih64
  rw [m_spec_NameShape_l1] at h63
  refine CodeOk.seq' ?_
  refine CodeOk.cutR (tl 25 [(0, V.str a0), (3, V.int y35), (7, V.bool (decide (y35 < (a0.length : Int))))]) [] mix (by
      refine W.run D_ok 4 160 (by kernel_rfl) ?_
      exact W.fin (by decide) (by kernel_rfl) (Weak.sel [] [0, 3, 7] (by kernel_rfl) (by kernel_rfl) (by kernel_rfl))
      ) ?_
  rcases cond_some h63 with ⟨hc66, h63⟩ | ⟨hc66, h63⟩
  · refine CodeOk.ifT hc66 (by kernel_rfl) ?_
    refine CodeOk.skip ?_
    refine CodeOk.weak (st' := ⟨tl 25 [(0, V.str a0), (3, V.int y35), (7, V.bool (decide (y35 < (a0.length : Int))))], []⟩) (Weak.refl _) ?_
    refine CodeOk.seq' ?_
    refine CodeOk.block' ?_
    obtain ⟨b51, hx74, h63⟩ := bind_some h63
    obtain ⟨r52, hx75, h63⟩ := bind_some h63
    refine CodeOk.cutR (tl 25 [(0, V.str a0), (3, V.int y35), (15, V.bool (!r52))]) [] mix (by
        refine W.run D_ok 2 160 (by kernel_rfl) ?_
        refine W.ixS D_ok hx74 (by kernel_rfl) ?_
        refine W.run D_ok 1 160 (by kernel_rfl) ?_
        refine W.call0 (m_spec_IsWordByte_ok (IntKind.wrap .i64 ((b51).toNat : Int)) hx75) cok82 rfl (by kernel_rfl) ?_
        refine W.run D_ok 1 160 (by kernel_rfl) ?_
        exact W.fin (by decide) (by kernel_rfl) (Weak.sel [] [0, 3, 15] (by kernel_rfl) (by kernel_rfl) (by kernel_rfl))
        ) ?_
    rcases cond_some h63 with ⟨hc76, h63⟩ | ⟨hc76, h63⟩
    · refine CodeOk.ifT hc76 (by kernel_rfl) ?_
      refine CodeOk.cutR (tl 25 [(2, V.bool false)]) [] mix (by
          refine W.run D_ok 1 160 (by kernel_rfl) ?_
          exact W.fin (by decide) (by kernel_rfl) (Weak.sel [] [2] (by kernel_rfl) (by kernel_rfl) (by kernel_rfl))
          ) ?_
      refine CodeOk.ret ?_
      have h63 := Option.some.inj h63
      subst h63
      exact Ends.gen [] (.inr rfl) (RetV.one rfl (OneR.tmp (t := 2) (r := V.bool false) (by kernel_rfl))) (by kernel_rfl) (by kernel_rfl) (by kernel_rfl)
    · refine CodeOk.ifF hc76 (by kernel_rfl) ?_
      refine CodeOk.skip ?_
      refine CodeOk.weak (st' := ⟨tl 25 [(0, V.str a0), (3, V.int y35), (15, V.bool (!r52))], []⟩) (Weak.refl _) ?_
      refine CodeOk.endR (tl 25 [(0, V.str a0), (3, V.int (IntKind.wrap .i64 (y35 + 1)))]) [] mix (by
          refine W.run D_ok 3 160 (by kernel_rfl) ?_
          exact W.fin (by decide) (by kernel_rfl) (Weak.sel [] [0, 3] (by kernel_rfl) (by kernel_rfl) (by kernel_rfl))
          ) (fun st hw => ?_)
      exact ih64 (a0, (IntKind.wrap .i64 (y35 + 1))) h63 _ (hw.trans (Weak.sel [] [0, 3] (by kernel_rfl) (by kernel_rfl) (by kernel_rfl)))
  · refine CodeOk.ifF hc66 (by kernel_rfl) ?_
    refine CodeOk.exit ?_
    refine CodeOk.weak (st' := ⟨tl 25 [(0, V.str a0), (3, V.int y35), (7, V.bool (decide (y35 < (a0.length : Int))))], []⟩) (Weak.refl _) ?_
    obtain ⟨y56, hv81, h63⟩ := bind_some h63
    refine CodeOk.cutR (tl 25 [(2, V.bool y56)]) [] mix (by
        refine W.run D_ok 2 160 (by kernel_rfl) ?_
        obtain ⟨r57, hx82, hv81⟩ := bind_some hv81
        refine W.call0 (m_spec_l1In_ok (a0.length : Int) 1 12 hx82) cok44 rfl (by kernel_rfl) ?_
        refine W.run D_ok 1 160 (by kernel_rfl) ?_
        rcases cond_some hv81 with ⟨hc83, hv81⟩ | ⟨hc83, hv81⟩
        · refine W.is 19 hc83 (by kernel_rfl) ?_
          refine W.run D_ok 1 160 (by kernel_rfl) ?_
          obtain ⟨b58, hx84, hv81⟩ := bind_some hv81
          refine W.ixS D_ok hx84 (by kernel_rfl) ?_
          refine W.run D_ok 1 160 (by kernel_rfl) ?_
          obtain ⟨r59, hx85, hv81⟩ := bind_some hv81
          refine W.call0 (m_spec_IsLetter_ok (IntKind.wrap .i64 ((b58).toNat : Int)) hx85) cok67 rfl (by kernel_rfl) ?_
          refine W.run D_ok 2 160 (by kernel_rfl) ?_
          have hv81 := Option.some.inj hv81
          subst hv81
          exact W.fin (by decide) (by kernel_rfl) (Weak.sel [] [2] (by kernel_rfl) (by kernel_rfl) (by kernel_rfl))
        · refine W.is 19 hc83 (by kernel_rfl) ?_
          refine W.run D_ok 6 160 (by kernel_rfl) ?_
          have hv81 := Option.some.inj hv81
          subst hv81
          exact W.fin (by decide) (by kernel_rfl) (Weak.sel [] [2] (by kernel_rfl) (by kernel_rfl) (by kernel_rfl))
        ) ?_
    refine CodeOk.ret ?_
    have h63 := Option.some.inj h63
    subst h63
    exact Ends.gen [] (.inr rfl) (RetV.one rfl (OneR.tmp (t := 2) (r := V.bool y56) (by kernel_rfl))) (by kernel_rfl) (by kernel_rfl) (by kernel_rfl)

theorem m_spec_OpAt_ok (N : Nat) (a0 : List UInt8) (a1 : Int) {r : (Int × Int)} (h : m_spec_OpAt N a0 a1 = some r) :
    AC Tryd.prog (GS []) 71 [V.str a0, V.int a1] [] (.tup [V.int r.1, V.int r.2]) [] := by
  rw [m_spec_OpAt] at h
  refine AC.enter Tryd.func71 rfl ?_
  refine CodeOk.cutR (tl 62 [(0, V.str a0), (1, V.int a1)]) [] mix (by
      refine W.run D_ok 2 100 (by kernel_rfl) ?_
      exact W.fin (by decide) (by kernel_rfl) (Weak.sel [] [0, 1] (by kernel_rfl) (by kernel_rfl) (by kernel_rfl))
      ) ?_
  refine CodeOk.cutR (tl 62 [(0, V.str a0), (1, V.int a1), (6, V.int 0)]) [] mix (by
      refine W.run D_ok 1 100 (by kernel_rfl) ?_
      exact W.fin (by decide) (by kernel_rfl) (Weak.sel [] [0, 1, 6] (by kernel_rfl) (by kernel_rfl) (by kernel_rfl))
      ) ?_
  refine CodeOk.cutR (tl 62 [(0, V.str a0), (1, V.int a1), (6, V.int 0), (7, V.int 0)]) [] mix (by
      refine W.run D_ok 1 100 (by kernel_rfl) ?_
      exact W.fin (by decide) (by kernel_rfl) (Weak.sel [] [0, 1, 6, 7] (by kernel_rfl) (by kernel_rfl) (by kernel_rfl))
      ) ?_
  obtain ⟨r2, hx2, h⟩ := bind_some h
  refine CodeOk.cutR (tl 62 [(0, V.str a0), (1, V.int a1), (6, V.int 0), (7, V.int 0), (8, .own 100)]) [(100, .vec false 9 1 (r2.map encS))] mix (by
      refine W.call (m_spec_l3Signs_ok  hx2) cok56 [] [(100, 100)] [100] (show LayOk _ [] from trivial) (by kernel_rfl) (by kernel_rfl) ?_
      refine W.run D_ok 1 101 (by kernel_rfl) ?_
      exact W.fin (by decide) (by kernel_rfl) (Weak.sel [(100, 100)] [0, 1, 6, 7, 8] (by kernel_rfl) (by kernel_rfl) (by kernel_rfl))
      ) ?_
  refine CodeOk.seq' ?_
  refine CodeOk.cutR (tl 62 [(0, V.str a0), (1, V.int a1), (6, V.int 0), (7, V.int 0), (8, .own 100), (9, V.int 0)]) [(100, .vec false 9 1 (r2.map encS))] mix (by
      refine W.run D_ok 1 101 (by kernel_rfl) ?_
      exact W.fin (by decide) (by kernel_rfl) (Weak.sel [(100, 100)] [0, 1, 6, 7, 8, 9] (by kernel_rfl) (by kernel_rfl) (by kernel_rfl))
      ) ?_
  refine CodeOk.block' ?_
  refine CodeOk.loopJ (fun (⟨a0, a1, r2, y73, y74, y75⟩ : ((List UInt8) × Int × (List (List UInt8)) × Int × Int × Int)) => ⟨tl 62 [(0, V.str a0), (1, V.int a1), (6, V.int y73), (7, V.int y74), (8, .own 100), (9, V.int y75)], [(100, .vec false 9 1 (r2.map encS))]⟩) (fun n i => m_spec_OpAt_l1 N n i = some r) (n0 := N) (i0 := (a0, a1, r2, 0, 0, 0)) (Weak.sel [(100, 100)] [0, 1, 6, 7, 8, 9] (by kernel_rfl) (by kernel_rfl) (by kernel_rfl)) h (fun i h => by simp [m_spec_OpAt_l1] at h) ?_
  rintro n1 ⟨a0, a1, r2, y73, y74, y75⟩ h185 ih186
  rw [m_spec_OpAt_l1] at h185
  refine CodeOk.seq' ?_
  refine CodeOk.cutR (tl 62 [(0, V.str a0), (1, V.int a1), (6, V.int y73), (7, V.int y74), (8, .own 100), (9, V.int y75), (15, V.bool (decide (y75 < (r2.length : Int))))]) [(100, .vec false 9 1 (r2.map encS))] mix (by
      refine W.run D_ok 2 161 (by kernel_rfl) ?_
      refine W.len D_ok encS r2 [100] (by kernel_rfl) (by kernel_rfl) ?_
      refine W.run D_ok 1 161 (by kernel_rfl) ?_
      exact W.fin (by decide) (by kernel_rfl) (Weak.sel [(100, 100)] [0, 1, 6, 7, 8, 9, 15] (by kernel_rfl) (by kernel_rfl) (by kernel_rfl))
      ) ?_
  rcases cond_some h185 with ⟨hc188, h185⟩ | ⟨hc188, h185⟩
  · refine CodeOk.ifT hc188 (by kernel_rfl) ?_
    refine CodeOk.skip ?_
    refine CodeOk.weak (st' := ⟨tl 62 [(0, V.str a0), (1, V.int a1), (6, V.int y73), (7, V.int y74), (8, .own 100), (9, V.int y75), (15, V.bool (decide (y75 < (r2.length : Int))))], [(100, .vec false 9 1 (r2.map encS))]⟩) (Weak.refl _) ?_
    refine CodeOk.join (fun (⟨a0, a1, y75, r2, y102, y103⟩ : ((List UInt8) × Int × Int × (List (List UInt8)) × Int × Int)) => ⟨tl 62 [(0, V.str a0), (1, V.int a1), (6, V.int y102), (7, V.int y103), (8, .own 100), (9, V.int y75)], [(100, .vec false 9 1 (r2.map encS))]⟩) (fun i => m_spec_OpAt_k2 N (m_spec_OpAt_l1 N n1) i = some r) ?_ ?_
    · rintro ⟨a0, a1, y75, r2, y102, y103⟩ h205
      rw [m_spec_OpAt_k2] at h205
      refine CodeOk.endR (tl 62 [(0, V.str a0), (1, V.int a1), (6, V.int y102), (7, V.int y103), (8, .own 100), (9, V.int (IntKind.wrap .i64 (y75 + 1)))]) [(100, .vec false 9 1 (r2.map encS))] mix (by
          refine W.run D_ok 3 161 (by kernel_rfl) ?_
          exact W.fin (by decide) (by kernel_rfl) (Weak.sel [(100, 100)] [0, 1, 6, 7, 8, 9] (by kernel_rfl) (by kernel_rfl) (by kernel_rfl))
          ) (fun st hw => ?_)
      exact ih186 (a0, a1, r2, y102, y103, (IntKind.wrap .i64 (y75 + 1))) h205 _ (hw.trans (Weak.sel [(100, 100)] [0, 1, 6, 7, 8, 9] (by kernel_rfl) (by kernel_rfl) (by kernel_rfl)))
    intro hk206
    refine CodeOk.block' ?_
    obtain ⟨e105, hx208, h185⟩ := bind_some h185
    refine CodeOk.cutR (tl 62 [(0, V.str a0), (1, V.int a1), (6, V.int y73), (7, V.int y74), (8, .own 100), (9, V.int y75), (10, V.int (e105.length : Int))]) [(100, .vec false 9 1 (r2.map encS))] mix (by
        refine W.run D_ok 2 161 (by kernel_rfl) ?_
        refine W.ixO D_ok encS hx208 100 1 (by kernel_rfl) ?_
        refine W.ldO D_ok encS hx208 9 100 0 (V.str e105) (by kernel_rfl) (by kernel_rfl) ?_
        refine W.run D_ok 2 161 (by kernel_rfl) ?_
        exact W.fin (by decide) (by kernel_rfl) (Weak.sel [(100, 100)] [0, 1, 6, 7, 8, 9, 10] (by kernel_rfl) (by kernel_rfl) (by kernel_rfl))
        ) ?_
    obtain ⟨y108, hv215, h185⟩ := bind_some h185
    refine CodeOk.cutR (tl 62 [(0, V.str a0), (1, V.int a1), (6, V.int y73), (7, V.int y74), (8, .own 100), (9, V.int y75), (10, V.int (e105.length : Int)), (56, V.bool y108)]) [(100, .vec false 9 1 (r2.map encS))] mix (by
        refine W.run D_ok 3 161 (by kernel_rfl) ?_
        rcases cond_some hv215 with ⟨hc216, hv215⟩ | ⟨hc216, hv215⟩
        · refine W.is 25 hc216 (by kernel_rfl) ?_
          refine W.run D_ok 6 161 (by kernel_rfl) ?_
          rcases cond_some hv215 with ⟨hc217, hv215⟩ | ⟨hc217, hv215⟩
          · refine W.is 31 hc217 (by kernel_rfl) ?_
            refine W.run D_ok 8 161 (by kernel_rfl) ?_
            rcases cond_some hv215 with ⟨hc218, hv215⟩ | ⟨hc218, hv215⟩
            · refine W.is 39 hc218 (by kernel_rfl) ?_
              refine W.run D_ok 5 161 (by kernel_rfl) ?_
              obtain ⟨s109, hx219, hv215⟩ := bind_some hv215
              refine W.cutS D_ok hx219 (by kernel_rfl) ?_
              refine W.run D_ok 2 161 (by kernel_rfl) ?_
              obtain ⟨e110, hx220, hv215⟩ := bind_some hv215
              refine W.ixO D_ok encS hx220 100 1 (by kernel_rfl) ?_
              refine W.ldO D_ok encS hx220 9 100 0 (V.str e110) (by kernel_rfl) (by kernel_rfl) ?_
              refine W.run D_ok 3 161 (by kernel_rfl) ?_
              rcases cond_some hv215 with ⟨hc221, hv215⟩ | ⟨hc221, hv215⟩
              · refine W.is 52 hc221 (by kernel_rfl) ?_
                refine W.run D_ok 4 161 (by kernel_rfl) ?_
                have hv215 := Option.some.inj hv215
                subst hv215
                exact W.fin (by decide) (by kernel_rfl) (Weak.sel [(100, 100)] [0, 1, 6, 7, 8, 9, 10, 56] (by kernel_rfl) (by kernel_rfl) (by kernel_rfl))
              · refine W.is 52 hc221 (by kernel_rfl) ?_
                refine W.run D_ok 4 161 (by kernel_rfl) ?_
                have hv215 := Option.some.inj hv215
                subst hv215
                exact W.fin (by decide) (by kernel_rfl) (Weak.sel [(100, 100)] [0, 1, 6, 7, 8, 9, 10, 56] (by kernel_rfl) (by kernel_rfl) (by kernel_rfl))
            · refine W.is 39 hc218 (by kernel_rfl) ?_
              refine W.run D_ok 17 161 (by kernel_rfl) ?_
              have hv215 := Option.some.inj hv215
              subst hv215
              exact W.fin (by decide) (by kernel_rfl) (Weak.sel [(100, 100)] [0, 1, 6, 7, 8, 9, 10, 56] (by kernel_rfl) (by kernel_rfl) (by kernel_rfl))
          · refine W.is 31 hc217 (by kernel_rfl) ?_
            refine W.run D_ok 25 161 (by kernel_rfl) ?_
            have hv215 := Option.some.inj hv215
            subst hv215
            exact W.fin (by decide) (by kernel_rfl) (Weak.sel [(100, 100)] [0, 1, 6, 7, 8, 9, 10, 56] (by kernel_rfl) (by kernel_rfl) (by kernel_rfl))
        · refine W.is 25 hc216 (by kernel_rfl) ?_
          refine W.run D_ok 31 161 (by kernel_rfl) ?_
          have hv215 := Option.some.inj hv215
          subst hv215
          exact W.fin (by decide) (by kernel_rfl) (Weak.sel [(100, 100)] [0, 1, 6, 7, 8, 9, 10, 56] (by kernel_rfl) (by kernel_rfl) (by kernel_rfl))
        ) ?_
    rcases cond_some h185 with ⟨hc222, h185⟩ | ⟨hc222, h185⟩
    · refine CodeOk.ifT hc222 (by kernel_rfl) ?_
      refine CodeOk.cutR (tl 62 [(0, V.str a0), (1, V.int a1), (6, V.int (IntKind.wrap .i64 (30 + y75))), (8, .own 100), (9, V.int y75), (10, V.int (e105.length : Int))]) [(100, .vec false 9 1 (r2.map encS))] mix (by
          refine W.run D_ok 3 161 (by kernel_rfl) ?_
          exact W.fin (by decide) (by kernel_rfl) (Weak.sel [(100, 100)] [0, 1, 6, 8, 9, 10] (by kernel_rfl) (by kernel_rfl) (by kernel_rfl))
          ) ?_
      refine CodeOk.endR (tl 62 [(0, V.str a0), (1, V.int a1), (6, V.int (IntKind.wrap .i64 (30 + y75))), (7, V.int (e105.length : Int)), (8, .own 100), (9, V.int y75)]) [(100, .vec false 9 1 (r2.map encS))] mix (by
          refine W.run D_ok 2 161 (by kernel_rfl) ?_
          exact W.fin (by decide) (by kernel_rfl) (Weak.sel [(100, 100)] [0, 1, 6, 7, 8, 9] (by kernel_rfl) (by kernel_rfl) (by kernel_rfl))
          ) (fun st hw => ?_)
      exact hk206 (a0, a1, y75, r2, (IntKind.wrap .i64 (30 + y75)), (e105.length : Int)) h185 _ (hw.trans (Weak.sel [(100, 100)] [0, 1, 6, 7, 8, 9] (by kernel_rfl) (by kernel_rfl) (by kernel_rfl)))
    · refine CodeOk.ifF hc222 (by kernel_rfl) ?_
      refine CodeOk.skip ?_
      exact hk206 (a0, a1, y75, r2, y73, y74) h185 _ (Weak.sel [(100, 100)] [0, 1, 6, 7, 8, 9] (by kernel_rfl) (by kernel_rfl) (by kernel_rfl))
  · refine CodeOk.ifF hc188 (by kernel_rfl) ?_
    refine CodeOk.exit ?_
    refine CodeOk.weak (st' := ⟨tl 62 [(0, V.str a0), (1, V.int a1), (6, V.int y73), (7, V.int y74), (8, .own 100), (9, V.int y75), (15, V.bool (decide (y75 < (r2.length : Int))))], [(100, .vec false 9 1 (r2.map encS))]⟩) (Weak.refl _) ?_
    refine CodeOk.cutR (tl 62 [(4, V.int y73), (5, V.int y74)]) [] mix (by
        refine W.run D_ok 4 161 (by kernel_rfl) ?_
        exact W.fin (by decide) (by kernel_rfl) (Weak.sel [] [4, 5] (by kernel_rfl) (by kernel_rfl) (by kernel_rfl))
        ) ?_
    refine CodeOk.ret ?_
    have h185 := Option.some.inj h185
    subst h185
    exact Ends.gen [] (.inr rfl) (RetV.two rfl (OneR.tmp (t := 4) (r := V.int y73) (by kernel_rfl)) (OneR.tmp (t := 5) (r := V.int y74) (by kernel_rfl))) (by kernel_rfl) (by kernel_rfl) (by kernel_rfl)

theorem m_spec_l5Next_ok (N : Nat) (a0 : List UInt8) (a1 : Int) (a2 : Bool) {r : SToken} (h : m_spec_l5Next N a0 a1 a2 = some r) :
    AC Tryd.prog (GS []) 50 [V.str a0, V.int a1, V.bool a2] [] (.agg [V.int r.Kind, V.str r.Text, V.int r.At]) [] := by
  rw [m_spec_l5Next] at h
  refine AC.enter Tryd.func50 rfl ?_
  refine CodeOk.cutR (tl 108 [(0, V.str a0), (1, V.int a1), (2, V.bool a2), (6, .loc 100 0)]) [(100, .cells 45 [V.int 0, V.str [], V.int 0])] mix (by
      refine W.run D_ok 1 100 (by kernel_rfl) ?_
      exact W.fin (by decide) (by kernel_rfl) (Weak.sel [(100, 100)] [0, 1, 2, 6] (by kernel_rfl) (by kernel_rfl) (by kernel_rfl))
      ) ?_
  obtain ⟨b2, hx2, h⟩ := bind_some h
  refine CodeOk.cutR (tl 108 [(0, V.str a0), (1, V.int a1), (2, V.bool a2), (6, .loc 100 0), (7, V.int (IntKind.wrap .i64 ((b2).toNat : Int)))]) [(100, .cells 45 [V.int 0, V.str [], V.int 0])] mix (by
      refine W.run D_ok 2 101 (by kernel_rfl) ?_
      refine W.ixS D_ok hx2 (by kernel_rfl) ?_
      refine W.run D_ok 2 101 (by kernel_rfl) ?_
      exact W.fin (by decide) (by kernel_rfl) (Weak.sel [(100, 100)] [0, 1, 2, 6, 7] (by kernel_rfl) (by kernel_rfl) (by kernel_rfl))
      ) ?_
  refine CodeOk.cutR (tl 108 [(0, V.str a0), (1, V.int a1), (2, V.bool a2), (6, .loc 100 0), (7, V.int (IntKind.wrap .i64 ((b2).toNat : Int))), (8, .loc 101 0)]) [(101, .cells 45 [V.int 0, V.str [], V.int a1]), (100, .cells 45 [V.int 0, V.str [], V.int 0])] mix (by
      refine W.run D_ok 4 101 (by kernel_rfl) ?_
      exact W.fin (by decide) (by kernel_rfl) (Weak.sel [(101, 101), (100, 100)] [0, 1, 2, 6, 7, 8] (by kernel_rfl) (by kernel_rfl) (by kernel_rfl))
      ) ?_
  refine CodeOk.cutR (tl 108 [(0, V.str a0), (1, V.int a1), (2, V.bool a2), (6, .loc 100 0), (7, V.int (IntKind.wrap .i64 ((b2).toNat : Int))), (8, .loc 101 0)]) [(101, .cells 45 [V.int 0, V.str [], V.int a1]), (100, .cells 45 [V.int 0, V.str [], V.int 0])] mix (by
      refine W.run D_ok 1 102 (by kernel_rfl) ?_
      exact W.fin (by decide) (by kernel_rfl) (Weak.sel [(101, 101), (100, 100)] [0, 1, 2, 6, 7, 8] (by kernel_rfl) (by kernel_rfl) (by kernel_rfl))
      ) ?_
  refine CodeOk.join (fun (⟨a0, a1, y65, y66⟩ : ((List UInt8) × Int × Int × Int)) => ⟨tl 108 [(0, V.str a0), (1, V.int a1), (6, .loc 100 0), (8, .loc 101 0), (9, V.int y65)], [(100, .cells 45 [V.int 0, V.str [], V.int 0]), (101, .cells 45 [V.int y66, V.str [], V.int a1])]⟩) (fun i => m_spec_l5Next_k1 N i = some r) ?_ ?_
  · rintro ⟨a0, a1, y65, y66⟩ h115
    rw [m_spec_l5Next_k1] at h115
    refine CodeOk.seq' ?_
    refine CodeOk.cutR (tl 108 [(0, V.str a0), (1, V.int a1), (6, .loc 100 0), (8, .loc 101 0), (9, V.int y65), (99, V.bool (decide (y65 < 0)))]) [(100, .cells 45 [V.int 0, V.str [], V.int 0]), (101, .cells 45 [V.int y66, V.str [], V.int a1])] mix (by
        refine W.run D_ok 2 162 (by kernel_rfl) ?_
        exact W.fin (by decide) (by kernel_rfl) (Weak.sel [(100, 100), (101, 101)] [0, 1, 6, 8, 9, 99] (by kernel_rfl) (by kernel_rfl) (by kernel_rfl))
        ) ?_
    rcases cond_some h115 with ⟨hc117, h115⟩ | ⟨hc117, h115⟩
    · refine CodeOk.ifT hc117 (by kernel_rfl) ?_
      refine CodeOk.cutR (tl 108 [(6, .loc 100 0)]) [(100, .cells 45 [V.int 0, V.str [], V.int a1])] mix (by
          refine W.run D_ok 3 162 (by kernel_rfl) ?_
          exact W.fin (by decide) (by kernel_rfl) (Weak.sel [(100, 100)] [6] (by kernel_rfl) (by kernel_rfl) (by kernel_rfl))
          ) ?_
      refine CodeOk.ret ?_
      have h115 := Option.some.inj h115
      subst h115
      exact Ends.gen [] (.inr rfl) (RetV.one rfl (OneR.cell D_ok (r := .agg [V.int 0, V.str [], V.int a1]) (i := 100) (ety := 45) (cs := [V.int 0, V.str [], V.int a1]) (by kernel_rfl) (by kernel_rfl) (by kernel_rfl))) (by kernel_rfl) (by kernel_rfl) (by kernel_rfl)
    · refine CodeOk.ifF hc117 (by kernel_rfl) ?_
      refine CodeOk.skip ?_
      refine CodeOk.weak (st' := ⟨tl 108 [(0, V.str a0), (1, V.int a1), (6, .loc 100 0), (8, .loc 101 0), (9, V.int y65), (99, V.bool (decide (y65 < 0)))], [(100, .cells 45 [V.int 0, V.str [], V.int 0]), (101, .cells 45 [V.int y66, V.str [], V.int a1])]⟩) (Weak.refl _) ?_
      obtain ⟨s68, hx119, h115⟩ := bind_some h115
      refine CodeOk.cutR (tl 108 [(6, .loc 100 0), (8, .loc 101 0)]) [(101, .cells 45 [V.int y66, V.str s68, V.int a1]), (100, .cells 45 [V.int 0, V.str [], V.int 0])] mix (by
          refine W.run D_ok 3 162 (by kernel_rfl) ?_
          refine W.cutS D_ok hx119 (by kernel_rfl) ?_
          refine W.run D_ok 2 162 (by kernel_rfl) ?_
          exact W.fin (by decide) (by kernel_rfl) (Weak.sel [(101, 101), (100, 100)] [6, 8] (by kernel_rfl) (by kernel_rfl) (by kernel_rfl))
          ) ?_
      refine CodeOk.cutR (tl 108 [(6, .loc 100 0)]) [(100, .cells 45 [V.int y66, V.str s68, V.int a1])] mix (by
          refine W.run D_ok 2 162 (by kernel_rfl) ?_
          exact W.fin (by decide) (by kernel_rfl) (Weak.sel [(100, 100)] [6] (by kernel_rfl) (by kernel_rfl) (by kernel_rfl))
          ) ?_
      refine CodeOk.ret ?_
      have h115 := Option.some.inj h115
      subst h115
      exact Ends.gen [] (.inr rfl) (RetV.one rfl (OneR.cell D_ok (r := .agg [V.int y66, V.str s68, V.int a1]) (i := 100) (ety := 45) (cs := [V.int y66, V.str s68, V.int a1]) (by kernel_rfl) (by kernel_rfl) (by kernel_rfl))) (by kernel_rfl) (by kernel_rfl) (by kernel_rfl)
  intro hk120
  refine CodeOk.block' ?_
  refine CodeOk.cutR (tl 108 [(0, V.str a0), (1, V.int a1), (2, V.bool a2), (6, .loc 100 0), (7, V.int (IntKind.wrap .i64 ((b2).toNat : Int))), (8, .loc 101 0), (33, V.bool ((IntKind.wrap .i64 ((b2).toNat : Int)) == 10))]) [(101, .cells 45 [V.int 0, V.str [], V.int a1]), (100, .cells 45 [V.int 0, V.str [], V.int 0])] mix (by
      refine W.run D_ok 3 102 (by kernel_rfl) ?_
      exact W.fin (by decide) (by kernel_rfl) (Weak.sel [(101, 101), (100, 100)] [0, 1, 2, 6, 7, 8, 33] (by kernel_rfl) (by kernel_rfl) (by kernel_rfl))
      ) ?_
  rcases cond_some h with ⟨hc121, h⟩ | ⟨hc121, h⟩
  · refine CodeOk.ifT hc121 (by kernel_rfl) ?_
    refine CodeOk.cutR (tl 108 [(6, .loc 100 0)]) [(100, .cells 45 [V.int 1, V.str [10], V.int a1])] mix (by
        refine W.run D_ok 3 102 (by kernel_rfl) ?_
        exact W.fin (by decide) (by kernel_rfl) (Weak.sel [(100, 100)] [6] (by kernel_rfl) (by kernel_rfl) (by kernel_rfl))
        ) ?_
    refine CodeOk.ret ?_
    have h := Option.some.inj h
    subst h
    exact Ends.gen [] (.inr rfl) (RetV.one rfl (OneR.cell D_ok (r := .agg [V.int 1, V.str [10], V.int a1]) (i := 100) (ety := 45) (cs := [V.int 1, V.str [10], V.int a1]) (by kernel_rfl) (by kernel_rfl) (by kernel_rfl))) (by kernel_rfl) (by kernel_rfl) (by kernel_rfl)
  · refine CodeOk.ifF hc121 (by kernel_rfl) ?_
    refine CodeOk.cutR (tl 108 [(0, V.str a0), (1, V.int a1), (2, V.bool a2), (6, .loc 100 0), (7, V.int (IntKind.wrap .i64 ((b2).toNat : Int))), (8, .loc 101 0), (38, V.bool ((IntKind.wrap .i64 ((b2).toNat : Int)) == 35))]) [(101, .cells 45 [V.int 0, V.str [], V.int a1]), (100, .cells 45 [V.int 0, V.str [], V.int 0])] mix (by
        refine W.run D_ok 3 102 (by kernel_rfl) ?_
        exact W.fin (by decide) (by kernel_rfl) (Weak.sel [(101, 101), (100, 100)] [0, 1, 2, 6, 7, 8, 38] (by kernel_rfl) (by kernel_rfl) (by kernel_rfl))
        ) ?_
    rcases cond_some h with ⟨hc122, h⟩ | ⟨hc122, h⟩
    · refine CodeOk.ifT hc122 (by kernel_rfl) ?_
      refine CodeOk.cutR (tl 108 [(0, V.str a0), (1, V.int a1), (6, .loc 100 0), (8, .loc 101 0), (9, V.int a1)]) [(101, .cells 45 [V.int 0, V.str [], V.int a1]), (100, .cells 45 [V.int 0, V.str [], V.int 0])] mix (by
          refine W.run D_ok 2 102 (by kernel_rfl) ?_
          exact W.fin (by decide) (by kernel_rfl) (Weak.sel [(101, 101), (100, 100)] [0, 1, 6, 8, 9] (by kernel_rfl) (by kernel_rfl) (by kernel_rfl))
          ) ?_
      refine CodeOk.seq' ?_
      refine CodeOk.block' ?_
      refine CodeOk.loopJ (fun (⟨a0, a1, y95⟩ : ((List UInt8) × Int × Int)) => ⟨tl 108 [(0, V.str a0), (1, V.int a1), (6, .loc 100 0), (8, .loc 101 0), (9, V.int y95)], [(100, .cells 45 [V.int 0, V.str [], V.int 0]), (101, .cells 45 [V.int 0, V.str [], V.int a1])]⟩) (fun n i => m_spec_l5Next_l2 N n i = some r) (n0 := N) (i0 := (a0, a1, a1)) (Weak.sel [(100, 100), (101, 101)] [0, 1, 6, 8, 9] (by kernel_rfl) (by kernel_rfl) (by kernel_rfl)) h (fun i h => by simp [m_spec_l5Next_l2] at h) ?_
      rintro n2 ⟨a0, a1, y95⟩ h185 ih186
      rw [m_spec_l5Next_l2] at h185
      refine CodeOk.seq' ?_
      obtain ⟨y107, hv195, h185⟩ := bind_some h185
      refine CodeOk.cutR (tl 108 [(0, V.str a0), (1, V.int a1), (6, .loc 100 0), (8, .loc 101 0), (9, V.int y95), (51, V.bool y107)]) [(100, .cells 45 [V.int 0, V.str [], V.int 0]), (101, .cells 45 [V.int 0, V.str [], V.int a1])] mix (by
          refine W.run D_ok 5 162 (by kernel_rfl) ?_
          rcases cond_some hv195 with ⟨hc196, hv195⟩ | ⟨hc196, hv195⟩
          · refine W.is 46 hc196 (by kernel_rfl) ?_
            refine W.run D_ok 2 162 (by kernel_rfl) ?_
            obtain ⟨b108, hx197, hv195⟩ := bind_some hv195
            refine W.ixS D_ok hx197 (by kernel_rfl) ?_
            refine W.run D_ok 2 162 (by kernel_rfl) ?_
            have hv195 := Option.some.inj hv195
            subst hv195
            exact W.fin (by decide) (by kernel_rfl) (Weak.sel [(100, 100), (101, 101)] [0, 1, 6, 8, 9, 51] (by kernel_rfl) (by kernel_rfl) (by kernel_rfl))
          · refine W.is 46 hc196 (by kernel_rfl) ?_
            refine W.run D_ok 5 162 (by kernel_rfl) ?_
            have hv195 := Option.some.inj hv195
            subst hv195
            exact W.fin (by decide) (by kernel_rfl) (Weak.sel [(100, 100), (101, 101)] [0, 1, 6, 8, 9, 51] (by kernel_rfl) (by kernel_rfl) (by kernel_rfl))
          ) ?_
      rcases cond_some h185 with ⟨hc198, h185⟩ | ⟨hc198, h185⟩
      · refine CodeOk.ifT hc198 (by kernel_rfl) ?_
        refine CodeOk.skip ?_
        refine CodeOk.weak (st' := ⟨tl 108 [(0, V.str a0), (1, V.int a1), (6, .loc 100 0), (8, .loc 101 0), (9, V.int y95), (51, V.bool y107)], [(100, .cells 45 [V.int 0, V.str [], V.int 0]), (101, .cells 45 [V.int 0, V.str [], V.int a1])]⟩) (Weak.refl _) ?_
        refine CodeOk.block' ?_
        refine CodeOk.endR (tl 108 [(0, V.str a0), (1, V.int a1), (6, .loc 100 0), (8, .loc 101 0), (9, V.int (IntKind.wrap .i64 (y95 + 1)))]) [(100, .cells 45 [V.int 0, V.str [], V.int 0]), (101, .cells 45 [V.int 0, V.str [], V.int a1])] mix (by
            refine W.run D_ok 3 162 (by kernel_rfl) ?_
            exact W.fin (by decide) (by kernel_rfl) (Weak.sel [(100, 100), (101, 101)] [0, 1, 6, 8, 9] (by kernel_rfl) (by kernel_rfl) (by kernel_rfl))
            ) (fun st hw => ?_)
        exact ih186 (a0, a1, (IntKind.wrap .i64 (y95 + 1))) h185 _ (hw.trans (Weak.sel [(100, 100), (101, 101)] [0, 1, 6, 8, 9] (by kernel_rfl) (by kernel_rfl) (by kernel_rfl)))
      · refine CodeOk.ifF hc198 (by kernel_rfl) ?_
        refine CodeOk.exit ?_
        refine CodeOk.weak (st' := ⟨tl 108 [(0, V.str a0), (1, V.int a1), (6, .loc 100 0), (8, .loc 101 0), (9, V.int y95), (51, V.bool y107)], [(100, .cells 45 [V.int 0, V.str [], V.int 0]), (101, .cells 45 [V.int 0, V.str [], V.int a1])]⟩) (Weak.refl _) ?_
        refine CodeOk.endR (tl 108 [(0, V.str a0), (1, V.int a1), (6, .loc 100 0), (8, .loc 101 0), (9, V.int y95)]) [(101, .cells 45 [V.int 2, V.str [], V.int a1]), (100, .cells 45 [V.int 0, V.str [], V.int 0])] mix (by
            refine W.run D_ok 2 162 (by kernel_rfl) ?_
            exact W.fin (by decide) (by kernel_rfl) (Weak.sel [(101, 101), (100, 100)] [0, 1, 6, 8, 9] (by kernel_rfl) (by kernel_rfl) (by kernel_rfl))
            ) (fun st hw => ?_)
        exact hk120 (a0, a1, y95, 2) h185 _ (hw.trans (Weak.sel [(100, 100), (101, 101)] [0, 1, 6, 8, 9] (by kernel_rfl) (by kernel_rfl) (by kernel_rfl)))
    · refine CodeOk.ifF hc122 (by kernel_rfl) ?_
      obtain ⟨y110, hv201, h⟩ := bind_some h
      refine CodeOk.cutR (tl 108 [(0, V.str a0), (1, V.int a1), (2, V.bool a2), (6, .loc 100 0), (7, V.int (IntKind.wrap .i64 ((b2).toNat : Int))), (8, .loc 101 0), (55, V.bool y110)]) [(100, .cells 45 [V.int 0, V.str [], V.int 0]), (101, .cells 45 [V.int 0, V.str [], V.int a1])] mix (by
          refine W.run D_ok 1 102 (by kernel_rfl) ?_
          obtain ⟨r111, hx202, hv201⟩ := bind_some hv201
          refine W.call0 (m_spec_IsDigit_ok (IntKind.wrap .i64 ((b2).toNat : Int)) hx202) cok63 rfl (by kernel_rfl) ?_
          refine W.run D_ok 1 102 (by kernel_rfl) ?_
          rcases cond_some hv201 with ⟨hc203, hv201⟩ | ⟨hc203, hv201⟩
          · refine W.is 58 hc203 (by kernel_rfl) ?_
            refine W.run D_ok 4 102 (by kernel_rfl) ?_
            have hv201 := Option.some.inj hv201
            subst hv201
            exact W.fin (by decide) (by kernel_rfl) (Weak.sel [(100, 100), (101, 101)] [0, 1, 2, 6, 7, 8, 55] (by kernel_rfl) (by kernel_rfl) (by kernel_rfl))
          · refine W.is 58 hc203 (by kernel_rfl) ?_
            refine W.run D_ok 4 102 (by kernel_rfl) ?_
            have hv201 := Option.some.inj hv201
            subst hv201
            exact W.fin (by decide) (by kernel_rfl) (Weak.sel [(100, 100), (101, 101)] [0, 1, 2, 6, 7, 8, 55] (by kernel_rfl) (by kernel_rfl) (by kernel_rfl))
          ) ?_
      rcases cond_some h with ⟨hc204, h⟩ | ⟨hc204, h⟩
      · refine CodeOk.ifT hc204 (by kernel_rfl) ?_
        obtain ⟨r113, hx206, h⟩ := bind_some h
        refine CodeOk.cutR (tl 108 [(0, V.str a0), (1, V.int a1), (6, .loc 100 0), (8, .loc 101 0), (9, V.int r113)]) [(100, .cells 45 [V.int 0, V.str [], V.int 0]), (101, .cells 45 [V.int 0, V.str [], V.int a1])] mix (by
            refine W.run D_ok 2 102 (by kernel_rfl) ?_
            refine W.call0 (m_spec_NumEnd_ok N a0 a1 hx206) cok64 rfl (by kernel_rfl) ?_
            refine W.run D_ok 1 102 (by kernel_rfl) ?_
            exact W.fin (by decide) (by kernel_rfl) (Weak.sel [(100, 100), (101, 101)] [0, 1, 6, 8, 9] (by kernel_rfl) (by kernel_rfl) (by kernel_rfl))
            ) ?_
        refine CodeOk.endR (tl 108 [(0, V.str a0), (1, V.int a1), (6, .loc 100 0), (8, .loc 101 0), (9, V.int r113)]) [(101, .cells 45 [V.int 3, V.str [], V.int a1]), (100, .cells 45 [V.int 0, V.str [], V.int 0])] mix (by
            refine W.run D_ok 2 102 (by kernel_rfl) ?_
            exact W.fin (by decide) (by kernel_rfl) (Weak.sel [(101, 101), (100, 100)] [0, 1, 6, 8, 9] (by kernel_rfl) (by kernel_rfl) (by kernel_rfl))
            ) (fun st hw => ?_)
        exact hk120 (a0, a1, r113, 3) h _ (hw.trans (Weak.sel [(100, 100), (101, 101)] [0, 1, 6, 8, 9] (by kernel_rfl) (by kernel_rfl) (by kernel_rfl)))
      · refine CodeOk.ifF hc204 (by kernel_rfl) ?_
        refine CodeOk.cutR (tl 108 [(0, V.str a0), (1, V.int a1), (2, V.bool a2), (6, .loc 100 0), (7, V.int (IntKind.wrap .i64 ((b2).toNat : Int))), (8, .loc 101 0), (66, V.bool ((IntKind.wrap .i64 ((b2).toNat : Int)) == 34))]) [(100, .cells 45 [V.int 0, V.str [], V.int 0]), (101, .cells 45 [V.int 0, V.str [], V.int a1])] mix (by
            refine W.run D_ok 3 102 (by kernel_rfl) ?_
            exact W.fin (by decide) (by kernel_rfl) (Weak.sel [(100, 100), (101, 101)] [0, 1, 2, 6, 7, 8, 66] (by kernel_rfl) (by kernel_rfl) (by kernel_rfl))
            ) ?_
        rcases cond_some h with ⟨hc207, h⟩ | ⟨hc207, h⟩
        · refine CodeOk.ifT hc207 (by kernel_rfl) ?_
          obtain ⟨r115, hx209, h⟩ := bind_some h
          refine CodeOk.cutR (tl 108 [(0, V.str a0), (1, V.int a1), (6, .loc 100 0), (8, .loc 101 0), (9, V.int r115)]) [(100, .cells 45 [V.int 0, V.str [], V.int 0]), (101, .cells 45 [V.int 0, V.str [], V.int a1])] mix (by
              refine W.run D_ok 2 102 (by kernel_rfl) ?_
              refine W.call0 (m_spec_StrEnd_ok N a0 a1 hx209) cok65 rfl (by kernel_rfl) ?_
              refine W.run D_ok 1 102 (by kernel_rfl) ?_
              exact W.fin (by decide) (by kernel_rfl) (Weak.sel [(100, 100), (101, 101)] [0, 1, 6, 8, 9] (by kernel_rfl) (by kernel_rfl) (by kernel_rfl))
              ) ?_
          refine CodeOk.endR (tl 108 [(0, V.str a0), (1, V.int a1), (6, .loc 100 0), (8, .loc 101 0), (9, V.int r115)]) [(101, .cells 45 [V.int 4, V.str [], V.int a1]), (100, .cells 45 [V.int 0, V.str [], V.int 0])] mix (by
              refine W.run D_ok 2 102 (by kernel_rfl) ?_
              exact W.fin (by decide) (by kernel_rfl) (Weak.sel [(101, 101), (100, 100)] [0, 1, 6, 8, 9] (by kernel_rfl) (by kernel_rfl) (by kernel_rfl))
              ) (fun st hw => ?_)
          exact hk120 (a0, a1, r115, 4) h _ (hw.trans (Weak.sel [(100, 100), (101, 101)] [0, 1, 6, 8, 9] (by kernel_rfl) (by kernel_rfl) (by kernel_rfl)))
        · refine CodeOk.ifF hc207 (by kernel_rfl) ?_
          obtain ⟨y116, hv211, h⟩ := bind_some h
          refine CodeOk.cutR (tl 108 [(0, V.str a0), (1, V.int a1), (6, .loc 100 0), (7, V.int (IntKind.wrap .i64 ((b2).toNat : Int))), (8, .loc 101 0), (73, V.bool y116)]) [(100, .cells 45 [V.int 0, V.str [], V.int 0]), (101, .cells 45 [V.int 0, V.str [], V.int a1])] mix (by
              refine W.run D_ok 3 102 (by kernel_rfl) ?_
              rcases cond_some hv211 with ⟨hc212, hv211⟩ | ⟨hc212, hv211⟩
              · refine W.is 76 hc212 (by kernel_rfl) ?_
                refine W.run D_ok 3 102 (by kernel_rfl) ?_
                have hv211 := Option.some.inj hv211
                subst hv211
                exact W.fin (by decide) (by kernel_rfl) (Weak.sel [(100, 100), (101, 101)] [0, 1, 6, 7, 8, 73] (by kernel_rfl) (by kernel_rfl) (by kernel_rfl))
              · refine W.is 76 hc212 (by kernel_rfl) ?_
                refine W.run D_ok 3 102 (by kernel_rfl) ?_
                have hv211 := Option.some.inj hv211
                subst hv211
                exact W.fin (by decide) (by kernel_rfl) (Weak.sel [(100, 100), (101, 101)] [0, 1, 6, 7, 8, 73] (by kernel_rfl) (by kernel_rfl) (by kernel_rfl))
              ) ?_
          rcases cond_some h with ⟨hc213, h⟩ | ⟨hc213, h⟩
          · refine CodeOk.ifT hc213 (by kernel_rfl) ?_
            obtain ⟨r118, hx215, h⟩ := bind_some h
            refine CodeOk.cutR (tl 108 [(0, V.str a0), (1, V.int a1), (6, .loc 100 0), (8, .loc 101 0), (9, V.int r118)]) [(100, .cells 45 [V.int 0, V.str [], V.int 0]), (101, .cells 45 [V.int 0, V.str [], V.int a1])] mix (by
                refine W.run D_ok 2 102 (by kernel_rfl) ?_
                refine W.call0 (m_spec_EreEnd_ok N a0 a1 hx215) cok66 rfl (by kernel_rfl) ?_
                refine W.run D_ok 1 102 (by kernel_rfl) ?_
                exact W.fin (by decide) (by kernel_rfl) (Weak.sel [(100, 100), (101, 101)] [0, 1, 6, 8, 9] (by kernel_rfl) (by kernel_rfl) (by kernel_rfl))
                ) ?_
            refine CodeOk.endR (tl 108 [(0, V.str a0), (1, V.int a1), (6, .loc 100 0), (8, .loc 101 0), (9, V.int r118)]) [(101, .cells 45 [V.int 5, V.str [], V.int a1]), (100, .cells 45 [V.int 0, V.str [], V.int 0])] mix (by
                refine W.run D_ok 2 102 (by kernel_rfl) ?_
                exact W.fin (by decide) (by kernel_rfl) (Weak.sel [(101, 101), (100, 100)] [0, 1, 6, 8, 9] (by kernel_rfl) (by kernel_rfl) (by kernel_rfl))
                ) (fun st hw => ?_)
            exact hk120 (a0, a1, r118, 5) h _ (hw.trans (Weak.sel [(100, 100), (101, 101)] [0, 1, 6, 8, 9] (by kernel_rfl) (by kernel_rfl) (by kernel_rfl)))
          · refine CodeOk.ifF hc213 (by kernel_rfl) ?_
            obtain ⟨r120, hx217, h⟩ := bind_some h
            refine CodeOk.cutR (tl 108 [(0, V.str a0), (1, V.int a1), (6, .loc 100 0), (8, .loc 101 0), (83, V.bool r120)]) [(100, .cells 45 [V.int 0, V.str [], V.int 0]), (101, .cells 45 [V.int 0, V.str [], V.int a1])] mix (by
                refine W.run D_ok 1 102 (by kernel_rfl) ?_
                refine W.call0 (m_spec_IsLetter_ok (IntKind.wrap .i64 ((b2).toNat : Int)) hx217) cok67 rfl (by kernel_rfl) ?_
                refine W.run D_ok 1 102 (by kernel_rfl) ?_
                exact W.fin (by decide) (by kernel_rfl) (Weak.sel [(100, 100), (101, 101)] [0, 1, 6, 8, 83] (by kernel_rfl) (by kernel_rfl) (by kernel_rfl))
                ) ?_
            rcases cond_some h with ⟨hc218, h⟩ | ⟨hc218, h⟩
            · refine CodeOk.ifT hc218 (by kernel_rfl) ?_
              obtain ⟨r123, hx221, h⟩ := bind_some h
              obtain ⟨r124, hx222, h⟩ := bind_some h
              refine CodeOk.cutR (tl 108 [(6, .loc 100 0), (8, .loc 101 0), (10, .loc 102 0)]) [(102, .cells 45 [V.int r124.Kind, V.str r124.Text, V.int r124.At]), (100, .cells 45 [V.int 0, V.str [], V.int 0]), (101, .cells 45 [V.int 0, V.str [], V.int a1])] mix (by
                  refine W.run D_ok 4 102 (by kernel_rfl) ?_
                  refine W.call0 (m_spec_NameEnd_ok N a0 a1 hx221) cok69 rfl (by kernel_rfl) ?_
                  refine W.call0 (m_spec_l5Word_ok N a0 a1 r123 hx222) cok68 rfl (by kernel_rfl) ?_
                  refine W.run D_ok 2 102 (by kernel_rfl) ?_
                  exact W.fin (by decide) (by kernel_rfl) (Weak.sel [(102, 102), (100, 100), (101, 101)] [6, 8, 10] (by kernel_rfl) (by kernel_rfl) (by kernel_rfl))
                  ) ?_
              refine CodeOk.seq' ?_
              obtain ⟨r128, hx227, h⟩ := bind_some h
              refine CodeOk.cutR (tl 108 [(6, .loc 100 0), (8, .loc 101 0), (10, .loc 102 0), (95, V.bool (!r128))]) [(102, .cells 45 [V.int r124.Kind, V.str r124.Text, V.int r124.At]), (100, .cells 45 [V.int 0, V.str [], V.int 0]), (101, .cells 45 [V.int 0, V.str [], V.int a1])] mix (by
                  refine W.run D_ok 2 103 (by kernel_rfl) ?_
                  refine W.call0 (m_spec_NameShape_ok N r124.Text hx227) cok70 rfl (by kernel_rfl) ?_
                  refine W.run D_ok 1 103 (by kernel_rfl) ?_
                  exact W.fin (by decide) (by kernel_rfl) (Weak.sel [(102, 102), (100, 100), (101, 101)] [6, 8, 10, 95] (by kernel_rfl) (by kernel_rfl) (by kernel_rfl))
                  ) ?_
              rcases cond_some h with ⟨hc228, h⟩ | ⟨hc228, h⟩
              · refine CodeOk.ifT hc228 (by kernel_rfl) ?_
                refine CodeOk.cutR (tl 108 [(6, .loc 100 0)]) [(100, .cells 45 [V.int 0, V.str [], V.int a1])] mix (by
                    refine W.run D_ok 2 103 (by kernel_rfl) ?_
                    exact W.fin (by decide) (by kernel_rfl) (Weak.sel [(100, 100)] [6] (by kernel_rfl) (by kernel_rfl) (by kernel_rfl))
                    ) ?_
                refine CodeOk.ret ?_
                have h := Option.some.inj h
                subst h
                exact Ends.gen [] (.inr rfl) (RetV.one rfl (OneR.cell D_ok (r := .agg [V.int 0, V.str [], V.int a1]) (i := 100) (ety := 45) (cs := [V.int 0, V.str [], V.int a1]) (by kernel_rfl) (by kernel_rfl) (by kernel_rfl))) (by kernel_rfl) (by kernel_rfl) (by kernel_rfl)
              · refine CodeOk.ifF hc228 (by kernel_rfl) ?_
                refine CodeOk.skip ?_
                refine CodeOk.weak (st' := ⟨tl 108 [(6, .loc 100 0), (8, .loc 101 0), (10, .loc 102 0), (95, V.bool (!r128))], [(102, .cells 45 [V.int r124.Kind, V.str r124.Text, V.int r124.At]), (100, .cells 45 [V.int 0, V.str [], V.int 0]), (101, .cells 45 [V.int 0, V.str [], V.int a1])]⟩) (Weak.refl _) ?_
                refine CodeOk.cutR (tl 108 [(6, .loc 100 0)]) [(100, .cells 45 [V.int r124.Kind, V.str r124.Text, V.int r124.At])] mix (by
                    refine W.run D_ok 2 103 (by kernel_rfl) ?_
                    exact W.fin (by decide) (by kernel_rfl) (Weak.sel [(100, 100)] [6] (by kernel_rfl) (by kernel_rfl) (by kernel_rfl))
                    ) ?_
                refine CodeOk.ret ?_
                have h := Option.some.inj h
                subst h
                exact Ends.gen [] (.inr rfl) (RetV.one rfl (OneR.cell D_ok (r := .agg [V.int r124.Kind, V.str r124.Text, V.int r124.At]) (i := 100) (ety := 45) (cs := [V.int r124.Kind, V.str r124.Text, V.int r124.At]) (by kernel_rfl) (by kernel_rfl) (by kernel_rfl))) (by kernel_rfl) (by kernel_rfl) (by kernel_rfl)
            · refine CodeOk.ifF hc218 (by kernel_rfl) ?_
              obtain ⟨r130, hx230, h⟩ := bind_some h
              refine CodeOk.cutR (tl 108 [(0, V.str a0), (1, V.int a1), (6, .loc 100 0), (8, .loc 101 0), (11, V.int r130.1), (12, V.int r130.2)]) [(100, .cells 45 [V.int 0, V.str [], V.int 0]), (101, .cells 45 [V.int 0, V.str [], V.int a1])] mix (by
                  refine W.run D_ok 2 102 (by kernel_rfl) ?_
                  refine W.call0 (m_spec_OpAt_ok N a0 a1 hx230) cok71 rfl (by kernel_rfl) ?_
                  refine W.run D_ok 5 102 (by kernel_rfl) ?_
                  exact W.fin (by decide) (by kernel_rfl) (Weak.sel [(100, 100), (101, 101)] [0, 1, 6, 8, 11, 12] (by kernel_rfl) (by kernel_rfl) (by kernel_rfl))
                  ) ?_
              refine CodeOk.seq' ?_
              refine CodeOk.cutR (tl 108 [(0, V.str a0), (1, V.int a1), (6, .loc 100 0), (8, .loc 101 0), (11, V.int r130.1), (12, V.int r130.2), (26, V.bool (r130.2 == 0))]) [(100, .cells 45 [V.int 0, V.str [], V.int 0]), (101, .cells 45 [V.int 0, V.str [], V.int a1])] mix (by
                  refine W.run D_ok 2 102 (by kernel_rfl) ?_
                  exact W.fin (by decide) (by kernel_rfl) (Weak.sel [(100, 100), (101, 101)] [0, 1, 6, 8, 11, 12, 26] (by kernel_rfl) (by kernel_rfl) (by kernel_rfl))
                  ) ?_
              rcases cond_some h with ⟨hc232, h⟩ | ⟨hc232, h⟩
              · refine CodeOk.ifT hc232 (by kernel_rfl) ?_
                refine CodeOk.cutR (tl 108 [(6, .loc 100 0)]) [(100, .cells 45 [V.int 0, V.str [], V.int a1])] mix (by
                    refine W.run D_ok 2 102 (by kernel_rfl) ?_
                    exact W.fin (by decide) (by kernel_rfl) (Weak.sel [(100, 100)] [6] (by kernel_rfl) (by kernel_rfl) (by kernel_rfl))
                    ) ?_
                refine CodeOk.ret ?_
                have h := Option.some.inj h
                subst h
                exact Ends.gen [] (.inr rfl) (RetV.one rfl (OneR.cell D_ok (r := .agg [V.int 0, V.str [], V.int a1]) (i := 100) (ety := 45) (cs := [V.int 0, V.str [], V.int a1]) (by kernel_rfl) (by kernel_rfl) (by kernel_rfl))) (by kernel_rfl) (by kernel_rfl) (by kernel_rfl)
              · refine CodeOk.ifF hc232 (by kernel_rfl) ?_
                refine CodeOk.skip ?_
                refine CodeOk.weak (st' := ⟨tl 108 [(0, V.str a0), (1, V.int a1), (6, .loc 100 0), (8, .loc 101 0), (11, V.int r130.1), (12, V.int r130.2), (26, V.bool (r130.2 == 0))], [(100, .cells 45 [V.int 0, V.str [], V.int 0]), (101, .cells 45 [V.int 0, V.str [], V.int a1])]⟩) (Weak.refl _) ?_
                refine CodeOk.cutR (tl 108 [(0, V.str a0), (1, V.int a1), (6, .loc 100 0), (8, .loc 101 0), (12, V.int r130.2)]) [(101, .cells 45 [V.int r130.1, V.str [], V.int a1]), (100, .cells 45 [V.int 0, V.str [], V.int 0])] mix (by
                    refine W.run D_ok 3 102 (by kernel_rfl) ?_
                    exact W.fin (by decide) (by kernel_rfl) (Weak.sel [(101, 101), (100, 100)] [0, 1, 6, 8, 12] (by kernel_rfl) (by kernel_rfl) (by kernel_rfl))
                    ) ?_
                refine CodeOk.endR (tl 108 [(0, V.str a0), (1, V.int a1), (6, .loc 100 0), (8, .loc 101 0), (9, V.int (IntKind.wrap .i64 (a1 + r130.2)))]) [(101, .cells 45 [V.int r130.1, V.str [], V.int a1]), (100, .cells 45 [V.int 0, V.str [], V.int 0])] mix (by
                    refine W.run D_ok 4 102 (by kernel_rfl) ?_
                    exact W.fin (by decide) (by kernel_rfl) (Weak.sel [(101, 101), (100, 100)] [0, 1, 6, 8, 9] (by kernel_rfl) (by kernel_rfl) (by kernel_rfl))
                    ) (fun st hw => ?_)
                exact hk120 (a0, a1, (IntKind.wrap .i64 (a1 + r130.2)), r130.1) h _ (hw.trans (Weak.sel [(100, 100), (101, 101)] [0, 1, 6, 8, 9] (by kernel_rfl) (by kernel_rfl) (by kernel_rfl)))

theorem m_spec_Lex_ok (N : Nat) (a0 : List UInt8) {r : ((List SToken) × SFault)} (h : m_spec_Lex N a0 = some r) :
    AC Tryd.prog (GS []) 37 [V.str a0] [] (.tup [.own 100, .agg [V.int r.2.Kind, V.int r.2.At]]) [(100, .vec false 45 3 (r.1.map encSToken))] := by
  rw [m_spec_Lex] at h
  refine AC.enter Tryd.func37 rfl ?_
  refine CodeOk.cutR (tl 68 [(0, V.str a0), (3, .loc 100 0)]) [(100, .cells 36 [V.int 0, V.int 0])] mix (by
      refine W.run D_ok 2 100 (by kernel_rfl) ?_
      exact W.fin (by decide) (by kernel_rfl) (Weak.sel [(100, 100)] [0, 3] (by kernel_rfl) (by kernel_rfl) (by kernel_rfl))
      ) ?_
  refine CodeOk.cutR (tl 68 [(0, V.str a0), (3, .loc 100 0), (4, .own 101)]) [(101, .vec false 45 3 ([].map encSToken)), (100, .cells 36 [V.int 0, V.int 0])] mix (by
      refine W.run D_ok 2 101 (by kernel_rfl) ?_
      exact W.fin (by decide) (by kernel_rfl) (Weak.sel [(101, 101), (100, 100)] [0, 3, 4] (by kernel_rfl) (by kernel_rfl) (by kernel_rfl))
      ) ?_
  refine CodeOk.seq' ?_
  refine CodeOk.cutR (tl 68 [(0, V.str a0), (3, .loc 100 0), (4, .own 101), (11, V.bool (decide ((a0.length : Int) > 3000)))]) [(101, .vec false 45 3 ([].map encSToken)), (100, .cells 36 [V.int 0, V.int 0])] mix (by
      refine W.run D_ok 3 102 (by kernel_rfl) ?_
      exact W.fin (by decide) (by kernel_rfl) (Weak.sel [(101, 101), (100, 100)] [0, 3, 4, 11] (by kernel_rfl) (by kernel_rfl) (by kernel_rfl))
      ) ?_
  rcases cond_some h with ⟨hc2, h⟩ | ⟨hc2, h⟩
  · refine CodeOk.ifT hc2 (by kernel_rfl) ?_
    refine CodeOk.cutR (tl 68 [(2, .own 101), (3, .loc 100 0)]) [(100, .cells 36 [V.int 1, V.int 0]), (101, .vec false 45 3 ([].map encSToken))] mix (by
        refine W.run D_ok 4 102 (by kernel_rfl) ?_
        exact W.fin (by decide) (by kernel_rfl) (Weak.sel [(100, 100), (101, 101)] [2, 3] (by kernel_rfl) (by kernel_rfl) (by kernel_rfl))
        ) ?_
    refine CodeOk.ret ?_
    have h := Option.some.inj h
    subst h
    exact Ends.gen [(101, 100)] (.inr rfl) (RetV.two rfl (OneR.tmp (t := 2) (r := .own 101) (by kernel_rfl)) (OneR.cell D_ok (r := .agg [V.int 1, V.int 0]) (i := 100) (ety := 36) (cs := [V.int 1, V.int 0]) (by kernel_rfl) (by kernel_rfl) (by kernel_rfl))) (by kernel_rfl) (by kernel_rfl) (by kernel_rfl)
  · refine CodeOk.ifF hc2 (by kernel_rfl) ?_
    refine CodeOk.skip ?_
    refine CodeOk.weak (st' := ⟨tl 68 [(0, V.str a0), (3, .loc 100 0), (4, .own 101), (11, V.bool (decide ((a0.length : Int) > 3000)))], [(101, .vec false 45 3 ([].map encSToken)), (100, .cells 36 [V.int 0, V.int 0])]⟩) (Weak.refl _) ?_
    refine CodeOk.cutR (tl 68 [(0, V.str a0), (3, .loc 100 0), (4, .own 101), (5, V.int 0)]) [(101, .vec false 45 3 ([].map encSToken)), (100, .cells 36 [V.int 0, V.int 0])] mix (by
        refine W.run D_ok 1 102 (by kernel_rfl) ?_
        exact W.fin (by decide) (by kernel_rfl) (Weak.sel [(101, 101), (100, 100)] [0, 3, 4, 5] (by kernel_rfl) (by kernel_rfl) (by kernel_rfl))
        ) ?_
    refine CodeOk.seq' ?_
    refine CodeOk.cutR (tl 68 [(0, V.str a0), (3, .loc 100 0), (4, .own 101), (5, V.int 0), (6, V.int 0)]) [(101, .vec false 45 3 ([].map encSToken)), (100, .cells 36 [V.int 0, V.int 0])] mix (by
        refine W.run D_ok 1 102 (by kernel_rfl) ?_
        exact W.fin (by decide) (by kernel_rfl) (Weak.sel [(101, 101), (100, 100)] [0, 3, 4, 5, 6] (by kernel_rfl) (by kernel_rfl) (by kernel_rfl))
        ) ?_
    refine CodeOk.block' ?_
    refine CodeOk.loopJ (fun (⟨a0, y103, y104, y105⟩ : ((List UInt8) × Int × Int × (List SToken))) => ⟨tl 68 [(0, V.str a0), (3, .loc 100 0), (4, .own 101), (5, V.int y103), (6, V.int y104)], [(100, .cells 36 [V.int 0, V.int 0]), (101, .vec false 45 3 (y105.map encSToken))]⟩) (fun n i => m_spec_Lex_l1 N n i = some r) (n0 := N) (i0 := (a0, 0, 0, [])) (Weak.sel [(100, 100), (101, 101)] [0, 3, 4, 5, 6] (by kernel_rfl) (by kernel_rfl) (by kernel_rfl)) h (fun i h => by simp [m_spec_Lex_l1] at h) ?_
    rintro n1 ⟨a0, y103, y104, y105⟩ h195 ih196
    rw [m_spec_Lex_l1] at h195
    refine CodeOk.seq' ?_
    refine CodeOk.cutR (tl 68 [(0, V.str a0), (3, .loc 100 0), (4, .own 101), (5, V.int y103), (6, V.int y104), (17, V.bool (decide (y104 < (a0.length : Int))))]) [(100, .cells 36 [V.int 0, V.int 0]), (101, .vec false 45 3 (y105.map encSToken))] mix (by
        refine W.run D_ok 4 168 (by kernel_rfl) ?_
        exact W.fin (by decide) (by kernel_rfl) (Weak.sel [(100, 100), (101, 101)] [0, 3, 4, 5, 6, 17] (by kernel_rfl) (by kernel_rfl) (by kernel_rfl))
        ) ?_
    rcases cond_some h195 with ⟨hc198, h195⟩ | ⟨hc198, h195⟩
    · refine CodeOk.ifT hc198 (by kernel_rfl) ?_
      refine CodeOk.skip ?_
      refine CodeOk.weak (st' := ⟨tl 68 [(0, V.str a0), (3, .loc 100 0), (4, .own 101), (5, V.int y103), (6, V.int y104), (17, V.bool (decide (y104 < (a0.length : Int))))], [(100, .cells 36 [V.int 0, V.int 0]), (101, .vec false 45 3 (y105.map encSToken))]⟩) (Weak.refl _) ?_
      refine CodeOk.block' ?_
      refine CodeOk.seq' ?_
      obtain ⟨b139, hx206, h195⟩ := bind_some h195
      obtain ⟨r140, hx207, h195⟩ := bind_some h195
      refine CodeOk.cutR (tl 68 [(0, V.str a0), (3, .loc 100 0), (4, .own 101), (5, V.int y103), (6, V.int y104), (22, V.bool r140)]) [(100, .cells 36 [V.int 0, V.int 0]), (101, .vec false 45 3 (y105.map encSToken))] mix (by
          refine W.run D_ok 2 168 (by kernel_rfl) ?_
          refine W.ixS D_ok hx206 (by kernel_rfl) ?_
          refine W.run D_ok 1 168 (by kernel_rfl) ?_
          refine W.call0 (m_spec_IsBlank_ok (IntKind.wrap .i64 ((b139).toNat : Int)) hx207) cok48 rfl (by kernel_rfl) ?_
          exact W.fin (by decide) (by kernel_rfl) (Weak.sel [(100, 100), (101, 101)] [0, 3, 4, 5, 6, 22] (by kernel_rfl) (by kernel_rfl) (by kernel_rfl))
          ) ?_
      rcases cond_some h195 with ⟨hc208, h195⟩ | ⟨hc208, h195⟩
      · refine CodeOk.ifT hc208 (by kernel_rfl) ?_
        refine CodeOk.cutR (tl 68 [(0, V.str a0), (3, .loc 100 0), (4, .own 101), (5, V.int y103), (6, V.int (IntKind.wrap .i64 (y104 + 1)))]) [(100, .cells 36 [V.int 0, V.int 0]), (101, .vec false 45 3 (y105.map encSToken))] mix (by
            refine W.run D_ok 3 168 (by kernel_rfl) ?_
            exact W.fin (by decide) (by kernel_rfl) (Weak.sel [(100, 100), (101, 101)] [0, 3, 4, 5, 6] (by kernel_rfl) (by kernel_rfl) (by kernel_rfl))
            ) ?_
        refine CodeOk.exit ?_
        exact ih196 (a0, y103, (IntKind.wrap .i64 (y104 + 1)), y105) h195 _ (Weak.sel [(100, 100), (101, 101)] [0, 3, 4, 5, 6] (by kernel_rfl) (by kernel_rfl) (by kernel_rfl))
      · refine CodeOk.ifF hc208 (by kernel_rfl) ?_
        refine CodeOk.skip ?_
        refine CodeOk.weak (st' := ⟨tl 68 [(0, V.str a0), (3, .loc 100 0), (4, .own 101), (5, V.int y103), (6, V.int y104), (22, V.bool r140)], [(100, .cells 36 [V.int 0, V.int 0]), (101, .vec false 45 3 (y105.map encSToken))]⟩) (Weak.refl _) ?_
        refine CodeOk.seq' ?_
        obtain ⟨y148, hv220, h195⟩ := bind_some h195
        refine CodeOk.cutR (tl 68 [(0, V.str a0), (3, .loc 100 0), (4, .own 101), (5, V.int y103), (6, V.int y104), (35, V.bool y148)]) [(100, .cells 36 [V.int 0, V.int 0]), (101, .vec false 45 3 (y105.map encSToken))] mix (by
            refine W.run D_ok 2 168 (by kernel_rfl) ?_
            obtain ⟨b149, hx221, hv220⟩ := bind_some hv220
            refine W.ixS D_ok hx221 (by kernel_rfl) ?_
            refine W.run D_ok 2 168 (by kernel_rfl) ?_
            rcases cond_some hv220 with ⟨hc222, hv220⟩ | ⟨hc222, hv220⟩
            · refine W.is 29 hc222 (by kernel_rfl) ?_
              refine W.run D_ok 3 168 (by kernel_rfl) ?_
              obtain ⟨r150, hx223, hv220⟩ := bind_some hv220
              refine W.call0 (m_spec_l4Byte_ok a0 (IntKind.wrap .i64 (y104 + 1)) hx223) cok49 rfl (by kernel_rfl) ?_
              refine W.run D_ok 2 168 (by kernel_rfl) ?_
              have hv220 := Option.some.inj hv220
              subst hv220
              exact W.fin (by decide) (by kernel_rfl) (Weak.sel [(100, 100), (101, 101)] [0, 3, 4, 5, 6, 35] (by kernel_rfl) (by kernel_rfl) (by kernel_rfl))
            · refine W.is 29 hc222 (by kernel_rfl) ?_
              refine W.run D_ok 6 168 (by kernel_rfl) ?_
              have hv220 := Option.some.inj hv220
              subst hv220
              exact W.fin (by decide) (by kernel_rfl) (Weak.sel [(100, 100), (101, 101)] [0, 3, 4, 5, 6, 35] (by kernel_rfl) (by kernel_rfl) (by kernel_rfl))
            ) ?_
        rcases cond_some h195 with ⟨hc224, h195⟩ | ⟨hc224, h195⟩
        · refine CodeOk.ifT hc224 (by kernel_rfl) ?_
          refine CodeOk.cutR (tl 68 [(0, V.str a0), (3, .loc 100 0), (4, .own 101), (5, V.int y103), (6, V.int (IntKind.wrap .i64 (y104 + 2)))]) [(100, .cells 36 [V.int 0, V.int 0]), (101, .vec false 45 3 (y105.map encSToken))] mix (by
              refine W.run D_ok 3 168 (by kernel_rfl) ?_
              exact W.fin (by decide) (by kernel_rfl) (Weak.sel [(100, 100), (101, 101)] [0, 3, 4, 5, 6] (by kernel_rfl) (by kernel_rfl) (by kernel_rfl))
              ) ?_
          refine CodeOk.exit ?_
          exact ih196 (a0, y103, (IntKind.wrap .i64 (y104 + 2)), y105) h195 _ (Weak.sel [(100, 100), (101, 101)] [0, 3, 4, 5, 6] (by kernel_rfl) (by kernel_rfl) (by kernel_rfl))
        · refine CodeOk.ifF hc224 (by kernel_rfl) ?_
          refine CodeOk.skip ?_
          refine CodeOk.weak (st' := ⟨tl 68 [(0, V.str a0), (3, .loc 100 0), (4, .own 101), (5, V.int y103), (6, V.int y104), (35, V.bool y148)], [(100, .cells 36 [V.int 0, V.int 0]), (101, .vec false 45 3 (y105.map encSToken))]⟩) (Weak.refl _) ?_
          obtain ⟨r153, hx227, h195⟩ := bind_some h195
          obtain ⟨r154, hx228, h195⟩ := bind_some h195
          refine CodeOk.cutR (tl 68 [(0, V.str a0), (3, .loc 100 0), (4, .own 101), (6, V.int y104), (7, .loc 168 0)]) [(168, .cells 45 [V.int r154.Kind, V.str r154.Text, V.int r154.At]), (100, .cells 36 [V.int 0, V.int 0]), (101, .vec false 45 3 (y105.map encSToken))] mix (by
              refine W.run D_ok 3 168 (by kernel_rfl) ?_
              refine W.call0 (m_spec_EndsOperand_ok y103 hx227) cok51 rfl (by kernel_rfl) ?_
              refine W.run D_ok 1 168 (by kernel_rfl) ?_
              refine W.call0 (m_spec_l5Next_ok N a0 y104 (!r153) hx228) cok50 rfl (by kernel_rfl) ?_
              refine W.run D_ok 2 168 (by kernel_rfl) ?_
              exact W.fin (by decide) (by kernel_rfl) (Weak.sel [(168, 168), (100, 100), (101, 101)] [0, 3, 4, 6, 7] (by kernel_rfl) (by kernel_rfl) (by kernel_rfl))
              ) ?_
          refine CodeOk.seq' ?_
          refine CodeOk.cutR (tl 68 [(0, V.str a0), (3, .loc 100 0), (4, .own 101), (6, V.int y104), (7, .loc 168 0), (46, V.bool (r154.Kind == 0))]) [(168, .cells 45 [V.int r154.Kind, V.str r154.Text, V.int r154.At]), (100, .cells 36 [V.int 0, V.int 0]), (101, .vec false 45 3 (y105.map encSToken))] mix (by
              refine W.run D_ok 3 169 (by kernel_rfl) ?_
              exact W.fin (by decide) (by kernel_rfl) (Weak.sel [(168, 168), (100, 100), (101, 101)] [0, 3, 4, 6, 7, 46] (by kernel_rfl) (by kernel_rfl) (by kernel_rfl))
              ) ?_
          rcases cond_some h195 with ⟨hc230, h195⟩ | ⟨hc230, h195⟩
          · refine CodeOk.ifT hc230 (by kernel_rfl) ?_
            refine CodeOk.cutR (tl 68 [(2, .own 169), (3, .loc 100 0)]) [(100, .cells 36 [V.int 2, V.int y104]), (169, .vec false 45 3 ([].map encSToken))] mix (by
                refine W.run D_ok 5 169 (by kernel_rfl) ?_
                exact W.fin (by decide) (by kernel_rfl) (Weak.sel [(100, 100), (169, 169)] [2, 3] (by kernel_rfl) (by kernel_rfl) (by kernel_rfl))
                ) ?_
            refine CodeOk.ret ?_
            have h195 := Option.some.inj h195
            subst h195
            exact Ends.gen [(169, 100)] (.inr rfl) (RetV.two rfl (OneR.tmp (t := 2) (r := .own 169) (by kernel_rfl)) (OneR.cell D_ok (r := .agg [V.int 2, V.int y104]) (i := 100) (ety := 36) (cs := [V.int 2, V.int y104]) (by kernel_rfl) (by kernel_rfl) (by kernel_rfl))) (by kernel_rfl) (by kernel_rfl) (by kernel_rfl)
          · refine CodeOk.ifF hc230 (by kernel_rfl) ?_
            refine CodeOk.skip ?_
            refine CodeOk.weak (st' := ⟨tl 68 [(0, V.str a0), (3, .loc 100 0), (4, .own 101), (6, V.int y104), (7, .loc 168 0), (46, V.bool (r154.Kind == 0))], [(168, .cells 45 [V.int r154.Kind, V.str r154.Text, V.int r154.At]), (100, .cells 36 [V.int 0, V.int 0]), (101, .vec false 45 3 (y105.map encSToken))]⟩) (Weak.refl _) ?_
            refine CodeOk.seq' ?_
            refine CodeOk.cutR (tl 68 [(0, V.str a0), (3, .loc 100 0), (4, .own 101), (6, V.int y104), (7, .loc 168 0), (52, V.bool ((y105.length : Int) == 3000))]) [(168, .cells 45 [V.int r154.Kind, V.str r154.Text, V.int r154.At]), (100, .cells 36 [V.int 0, V.int 0]), (101, .vec false 45 3 (y105.map encSToken))] mix (by
                refine W.run D_ok 1 169 (by kernel_rfl) ?_
                refine W.len D_ok encSToken y105 [101] (by kernel_rfl) (by kernel_rfl) ?_
                refine W.run D_ok 1 169 (by kernel_rfl) ?_
                exact W.fin (by decide) (by kernel_rfl) (Weak.sel [(168, 168), (100, 100), (101, 101)] [0, 3, 4, 6, 7, 52] (by kernel_rfl) (by kernel_rfl) (by kernel_rfl))
                ) ?_
            rcases cond_some h195 with ⟨hc232, h195⟩ | ⟨hc232, h195⟩
            · refine CodeOk.ifT hc232 (by kernel_rfl) ?_
              refine CodeOk.cutR (tl 68 [(2, .own 169), (3, .loc 100 0)]) [(100, .cells 36 [V.int 1, V.int 0]), (169, .vec false 45 3 ([].map encSToken))] mix (by
                  refine W.run D_ok 4 169 (by kernel_rfl) ?_
                  exact W.fin (by decide) (by kernel_rfl) (Weak.sel [(100, 100), (169, 169)] [2, 3] (by kernel_rfl) (by kernel_rfl) (by kernel_rfl))
                  ) ?_
              refine CodeOk.ret ?_
              have h195 := Option.some.inj h195
              subst h195
              exact Ends.gen [(169, 100)] (.inr rfl) (RetV.two rfl (OneR.tmp (t := 2) (r := .own 169) (by kernel_rfl)) (OneR.cell D_ok (r := .agg [V.int 1, V.int 0]) (i := 100) (ety := 36) (cs := [V.int 1, V.int 0]) (by kernel_rfl) (by kernel_rfl) (by kernel_rfl))) (by kernel_rfl) (by kernel_rfl) (by kernel_rfl)
            · refine CodeOk.ifF hc232 (by kernel_rfl) ?_
              refine CodeOk.skip ?_
              refine CodeOk.weak (st' := ⟨tl 68 [(0, V.str a0), (3, .loc 100 0), (4, .own 101), (6, V.int y104), (7, .loc 168 0), (52, V.bool ((y105.length : Int) == 3000))], [(168, .cells 45 [V.int r154.Kind, V.str r154.Text, V.int r154.At]), (100, .cells 36 [V.int 0, V.int 0]), (101, .vec false 45 3 (y105.map encSToken))]⟩) (Weak.refl _) ?_
              obtain ⟨x156, hx234, h195⟩ := bind_some h195
              refine CodeOk.cutR (tl 68 [(0, V.str a0), (3, .loc 100 0), (4, .own 170), (6, V.int y104), (7, .loc 168 0)]) [(170, .vec false 45 3 (x156.map encSToken)), (168, .cells 45 [V.int r154.Kind, V.str r154.Text, V.int r154.At]), (100, .cells 36 [V.int 0, V.int 0])] mix (by
                  refine W.run D_ok 3 169 (by kernel_rfl) ?_
                  refine W.appO D_ok encSToken (a := 101) (c := 169) (el := 45) (sz := 3) 32 hx234 rfl 170 (by kernel_rfl) ?_
                  refine W.run D_ok 1 171 (by kernel_rfl) ?_
                  exact W.fin (by decide) (by kernel_rfl) (Weak.sel [(170, 170), (168, 168), (100, 100)] [0, 3, 4, 6, 7] (by kernel_rfl) (by kernel_rfl) (by kernel_rfl))
                  ) ?_
              refine CodeOk.cutR (tl 68 [(0, V.str a0), (3, .loc 100 0), (4, .own 170), (5, V.int r154.Kind), (6, V.int y104), (7, .loc 168 0)]) [(170, .vec false 45 3 (x156.map encSToken)), (168, .cells 45 [V.int r154.Kind, V.str r154.Text, V.int r154.At]), (100, .cells 36 [V.int 0, V.int 0])] mix (by
                  refine W.run D_ok 3 171 (by kernel_rfl) ?_
                  exact W.fin (by decide) (by kernel_rfl) (Weak.sel [(170, 170), (168, 168), (100, 100)] [0, 3, 4, 5, 6, 7] (by kernel_rfl) (by kernel_rfl) (by kernel_rfl))
                  ) ?_
              refine CodeOk.endR (tl 68 [(0, V.str a0), (3, .loc 100 0), (4, .own 170), (5, V.int r154.Kind), (6, V.int (IntKind.wrap .i64 (y104 + (r154.Text.length : Int))))]) [(170, .vec false 45 3 (x156.map encSToken)), (100, .cells 36 [V.int 0, V.int 0])] mix (by
                  refine W.run D_ok 6 171 (by kernel_rfl) ?_
                  exact W.fin (by decide) (by kernel_rfl) (Weak.sel [(170, 170), (100, 100)] [0, 3, 4, 5, 6] (by kernel_rfl) (by kernel_rfl) (by kernel_rfl))
                  ) (fun st hw => ?_)
              exact ih196 (a0, r154.Kind, (IntKind.wrap .i64 (y104 + (r154.Text.length : Int))), x156) h195 _ (hw.trans (Weak.sel [(100, 100), (170, 101)] [0, 3, 4, 5, 6] (by kernel_rfl) (by kernel_rfl) (by kernel_rfl)))
    · refine CodeOk.ifF hc198 (by kernel_rfl) ?_
      refine CodeOk.exit ?_
      refine CodeOk.weak (st' := ⟨tl 68 [(0, V.str a0), (3, .loc 100 0), (4, .own 101), (5, V.int y103), (6, V.int y104), (17, V.bool (decide (y104 < (a0.length : Int))))], [(100, .cells 36 [V.int 0, V.int 0]), (101, .vec false 45 3 (y105.map encSToken))]⟩) (Weak.refl _) ?_
      refine CodeOk.cutR (tl 68 [(2, .own 101), (3, .loc 100 0)]) [(100, .cells 36 [V.int 0, V.int 0]), (101, .vec false 45 3 (y105.map encSToken))] mix (by
          refine W.run D_ok 4 168 (by kernel_rfl) ?_
          exact W.fin (by decide) (by kernel_rfl) (Weak.sel [(100, 100), (101, 101)] [2, 3] (by kernel_rfl) (by kernel_rfl) (by kernel_rfl))
          ) ?_
      refine CodeOk.ret ?_
      have h195 := Option.some.inj h195
      subst h195
      exact Ends.gen [(101, 100)] (.inr rfl) (RetV.two rfl (OneR.tmp (t := 2) (r := .own 101) (by kernel_rfl)) (OneR.cell D_ok (r := .agg [V.int 0, V.int 0]) (i := 100) (ety := 36) (cs := [V.int 0, V.int 0]) (by kernel_rfl) (by kernel_rfl) (by kernel_rfl))) (by kernel_rfl) (by kernel_rfl) (by kernel_rfl)

theorem m_spec_ClassOf_ok (a0 : Int) {r : (List UInt8)} (h : m_spec_ClassOf a0 = some r) :
    AC Tryd.prog (GS []) 38 [V.int a0] [] (V.str r) [] := by
  rw [m_spec_ClassOf] at h
  refine AC.enter Tryd.func38 rfl ?_
  refine CodeOk.cutR (tl 33 [(0, V.int a0)]) [] mix (by
      refine W.run D_ok 1 100 (by kernel_rfl) ?_
      exact W.fin (by decide) (by kernel_rfl) (Weak.sel [] [0] (by kernel_rfl) (by kernel_rfl) (by kernel_rfl))
      ) ?_
  refine CodeOk.seq' ?_
  refine CodeOk.block' ?_
  refine CodeOk.cutR (tl 33 [(0, V.int a0), (3, V.bool (a0 == 1))]) [] mix (by
      refine W.run D_ok 3 100 (by kernel_rfl) ?_
      exact W.fin (by decide) (by kernel_rfl) (Weak.sel [] [0, 3] (by kernel_rfl) (by kernel_rfl) (by kernel_rfl))
      ) ?_
  rcases cond_some h with ⟨hc15, h⟩ | ⟨hc15, h⟩
  · refine CodeOk.ifT hc15 (by kernel_rfl) ?_
    refine CodeOk.cutR (tl 33 [(2, V.str [46])]) [] mix (by
        refine W.run D_ok 1 100 (by kernel_rfl) ?_
        exact W.fin (by decide) (by kernel_rfl) (Weak.sel [] [2] (by kernel_rfl) (by kernel_rfl) (by kernel_rfl))
        ) ?_
    refine CodeOk.ret ?_
    have h := Option.some.inj h
    subst h
    exact Ends.gen [] (.inr rfl) (RetV.one rfl (OneR.tmp (t := 2) (r := V.str [46]) (by kernel_rfl))) (by kernel_rfl) (by kernel_rfl) (by kernel_rfl)
  · refine CodeOk.ifF hc15 (by kernel_rfl) ?_
    refine CodeOk.cutR (tl 33 [(0, V.int a0), (6, V.bool (a0 == 2))]) [] mix (by
        refine W.run D_ok 3 100 (by kernel_rfl) ?_
        exact W.fin (by decide) (by kernel_rfl) (Weak.sel [] [0, 6] (by kernel_rfl) (by kernel_rfl) (by kernel_rfl))
        ) ?_
    rcases cond_some h with ⟨hc16, h⟩ | ⟨hc16, h⟩
    · refine CodeOk.ifT hc16 (by kernel_rfl) ?_
      refine CodeOk.cutR (tl 33 [(2, V.str [99])]) [] mix (by
          refine W.run D_ok 1 100 (by kernel_rfl) ?_
          exact W.fin (by decide) (by kernel_rfl) (Weak.sel [] [2] (by kernel_rfl) (by kernel_rfl) (by kernel_rfl))
          ) ?_
      refine CodeOk.ret ?_
      have h := Option.some.inj h
      subst h
      exact Ends.gen [] (.inr rfl) (RetV.one rfl (OneR.tmp (t := 2) (r := V.str [99]) (by kernel_rfl))) (by kernel_rfl) (by kernel_rfl) (by kernel_rfl)
    · refine CodeOk.ifF hc16 (by kernel_rfl) ?_
      refine CodeOk.cutR (tl 33 [(0, V.int a0), (9, V.bool (a0 == 3))]) [] mix (by
          refine W.run D_ok 3 100 (by kernel_rfl) ?_
          exact W.fin (by decide) (by kernel_rfl) (Weak.sel [] [0, 9] (by kernel_rfl) (by kernel_rfl) (by kernel_rfl))
          ) ?_
      rcases cond_some h with ⟨hc17, h⟩ | ⟨hc17, h⟩
      · refine CodeOk.ifT hc17 (by kernel_rfl) ?_
        refine CodeOk.cutR (tl 33 [(2, V.str [100])]) [] mix (by
            refine W.run D_ok 1 100 (by kernel_rfl) ?_
            exact W.fin (by decide) (by kernel_rfl) (Weak.sel [] [2] (by kernel_rfl) (by kernel_rfl) (by kernel_rfl))
            ) ?_
        refine CodeOk.ret ?_
        have h := Option.some.inj h
        subst h
        exact Ends.gen [] (.inr rfl) (RetV.one rfl (OneR.tmp (t := 2) (r := V.str [100]) (by kernel_rfl))) (by kernel_rfl) (by kernel_rfl) (by kernel_rfl)
      · refine CodeOk.ifF hc17 (by kernel_rfl) ?_
        refine CodeOk.cutR (tl 33 [(0, V.int a0), (12, V.bool (a0 == 4))]) [] mix (by
            refine W.run D_ok 3 100 (by kernel_rfl) ?_
            exact W.fin (by decide) (by kernel_rfl) (Weak.sel [] [0, 12] (by kernel_rfl) (by kernel_rfl) (by kernel_rfl))
            ) ?_
        rcases cond_some h with ⟨hc18, h⟩ | ⟨hc18, h⟩
        · refine CodeOk.ifT hc18 (by kernel_rfl) ?_
          refine CodeOk.cutR (tl 33 [(2, V.str [115])]) [] mix (by
              refine W.run D_ok 1 100 (by kernel_rfl) ?_
              exact W.fin (by decide) (by kernel_rfl) (Weak.sel [] [2] (by kernel_rfl) (by kernel_rfl) (by kernel_rfl))
              ) ?_
          refine CodeOk.ret ?_
          have h := Option.some.inj h
          subst h
          exact Ends.gen [] (.inr rfl) (RetV.one rfl (OneR.tmp (t := 2) (r := V.str [115]) (by kernel_rfl))) (by kernel_rfl) (by kernel_rfl) (by kernel_rfl)
        · refine CodeOk.ifF hc18 (by kernel_rfl) ?_
          refine CodeOk.cutR (tl 33 [(0, V.int a0), (15, V.bool (a0 == 5))]) [] mix (by
              refine W.run D_ok 3 100 (by kernel_rfl) ?_
              exact W.fin (by decide) (by kernel_rfl) (Weak.sel [] [0, 15] (by kernel_rfl) (by kernel_rfl) (by kernel_rfl))
              ) ?_
          rcases cond_some h with ⟨hc19, h⟩ | ⟨hc19, h⟩
          · refine CodeOk.ifT hc19 (by kernel_rfl) ?_
            refine CodeOk.cutR (tl 33 [(2, V.str [114])]) [] mix (by
                refine W.run D_ok 1 100 (by kernel_rfl) ?_
                exact W.fin (by decide) (by kernel_rfl) (Weak.sel [] [2] (by kernel_rfl) (by kernel_rfl) (by kernel_rfl))
                ) ?_
            refine CodeOk.ret ?_
            have h := Option.some.inj h
            subst h
            exact Ends.gen [] (.inr rfl) (RetV.one rfl (OneR.tmp (t := 2) (r := V.str [114]) (by kernel_rfl))) (by kernel_rfl) (by kernel_rfl) (by kernel_rfl)
          · refine CodeOk.ifF hc19 (by kernel_rfl) ?_
            refine CodeOk.cutR (tl 33 [(0, V.int a0), (18, V.bool (a0 == 6))]) [] mix (by
                refine W.run D_ok 3 100 (by kernel_rfl) ?_
                exact W.fin (by decide) (by kernel_rfl) (Weak.sel [] [0, 18] (by kernel_rfl) (by kernel_rfl) (by kernel_rfl))
                ) ?_
            rcases cond_some h with ⟨hc20, h⟩ | ⟨hc20, h⟩
            · refine CodeOk.ifT hc20 (by kernel_rfl) ?_
              refine CodeOk.cutR (tl 33 [(2, V.str [110])]) [] mix (by
                  refine W.run D_ok 1 100 (by kernel_rfl) ?_
                  exact W.fin (by decide) (by kernel_rfl) (Weak.sel [] [2] (by kernel_rfl) (by kernel_rfl) (by kernel_rfl))
                  ) ?_
              refine CodeOk.ret ?_
              have h := Option.some.inj h
              subst h
              exact Ends.gen [] (.inr rfl) (RetV.one rfl (OneR.tmp (t := 2) (r := V.str [110]) (by kernel_rfl))) (by kernel_rfl) (by kernel_rfl) (by kernel_rfl)
            · refine CodeOk.ifF hc20 (by kernel_rfl) ?_
              refine CodeOk.cutR (tl 33 [(0, V.int a0), (21, V.bool (a0 == 7))]) [] mix (by
                  refine W.run D_ok 3 100 (by kernel_rfl) ?_
                  exact W.fin (by decide) (by kernel_rfl) (Weak.sel [] [0, 21] (by kernel_rfl) (by kernel_rfl) (by kernel_rfl))
                  ) ?_
              rcases cond_some h with ⟨hc21, h⟩ | ⟨hc21, h⟩
              · refine CodeOk.ifT hc21 (by kernel_rfl) ?_
                refine CodeOk.cutR (tl 33 [(2, V.str [102])]) [] mix (by
                    refine W.run D_ok 1 100 (by kernel_rfl) ?_
                    exact W.fin (by decide) (by kernel_rfl) (Weak.sel [] [2] (by kernel_rfl) (by kernel_rfl) (by kernel_rfl))
                    ) ?_
                refine CodeOk.ret ?_
                have h := Option.some.inj h
                subst h
                exact Ends.gen [] (.inr rfl) (RetV.one rfl (OneR.tmp (t := 2) (r := V.str [102]) (by kernel_rfl))) (by kernel_rfl) (by kernel_rfl) (by kernel_rfl)
              · refine CodeOk.ifF hc21 (by kernel_rfl) ?_
                refine CodeOk.cutR (tl 33 [(0, V.int a0), (24, V.bool (a0 == 8))]) [] mix (by
                    refine W.run D_ok 3 100 (by kernel_rfl) ?_
                    exact W.fin (by decide) (by kernel_rfl) (Weak.sel [] [0, 24] (by kernel_rfl) (by kernel_rfl) (by kernel_rfl))
                    ) ?_
                rcases cond_some h with ⟨hc22, h⟩ | ⟨hc22, h⟩
                · refine CodeOk.ifT hc22 (by kernel_rfl) ?_
                  refine CodeOk.cutR (tl 33 [(2, V.str [98])]) [] mix (by
                      refine W.run D_ok 1 100 (by kernel_rfl) ?_
                      exact W.fin (by decide) (by kernel_rfl) (Weak.sel [] [2] (by kernel_rfl) (by kernel_rfl) (by kernel_rfl))
                      ) ?_
                  refine CodeOk.ret ?_
                  have h := Option.some.inj h
                  subst h
                  exact Ends.gen [] (.inr rfl) (RetV.one rfl (OneR.tmp (t := 2) (r := V.str [98]) (by kernel_rfl))) (by kernel_rfl) (by kernel_rfl) (by kernel_rfl)
                · refine CodeOk.ifF hc22 (by kernel_rfl) ?_
                  obtain ⟨r6, hx24, h⟩ := bind_some h
                  refine CodeOk.cutR (tl 33 [(0, V.int a0), (27, V.bool r6)]) [] mix (by
                      refine W.run D_ok 1 100 (by kernel_rfl) ?_
                      refine W.call0 (m_spec_l1In_ok a0 10 26 hx24) cok44 rfl (by kernel_rfl) ?_
                      refine W.run D_ok 1 100 (by kernel_rfl) ?_
                      exact W.fin (by decide) (by kernel_rfl) (Weak.sel [] [0, 27] (by kernel_rfl) (by kernel_rfl) (by kernel_rfl))
                      ) ?_
                  rcases cond_some h with ⟨hc25, h⟩ | ⟨hc25, h⟩
                  · refine CodeOk.ifT hc25 (by kernel_rfl) ?_
                    refine CodeOk.cutR (tl 33 [(2, V.str [107])]) [] mix (by
                        refine W.run D_ok 1 100 (by kernel_rfl) ?_
                        exact W.fin (by decide) (by kernel_rfl) (Weak.sel [] [2] (by kernel_rfl) (by kernel_rfl) (by kernel_rfl))
                        ) ?_
                    refine CodeOk.ret ?_
                    have h := Option.some.inj h
                    subst h
                    exact Ends.gen [] (.inr rfl) (RetV.one rfl (OneR.tmp (t := 2) (r := V.str [107]) (by kernel_rfl))) (by kernel_rfl) (by kernel_rfl) (by kernel_rfl)
                  · refine CodeOk.ifF hc25 (by kernel_rfl) ?_
                    obtain ⟨r8, hx27, h⟩ := bind_some h
                    refine CodeOk.cutR (tl 33 [(30, V.bool r8)]) [] mix (by
                        refine W.run D_ok 1 100 (by kernel_rfl) ?_
                        refine W.call0 (m_spec_l1In_ok a0 30 68 hx27) cok44 rfl (by kernel_rfl) ?_
                        refine W.run D_ok 1 100 (by kernel_rfl) ?_
                        exact W.fin (by decide) (by kernel_rfl) (Weak.sel [] [30] (by kernel_rfl) (by kernel_rfl) (by kernel_rfl))
                        ) ?_
                    rcases cond_some h with ⟨hc28, h⟩ | ⟨hc28, h⟩
                    · refine CodeOk.ifT hc28 (by kernel_rfl) ?_
                      refine CodeOk.cutR (tl 33 [(2, V.str [111])]) [] mix (by
                          refine W.run D_ok 1 100 (by kernel_rfl) ?_
                          exact W.fin (by decide) (by kernel_rfl) (Weak.sel [] [2] (by kernel_rfl) (by kernel_rfl) (by kernel_rfl))
                          ) ?_
                      refine CodeOk.ret ?_
                      have h := Option.some.inj h
                      subst h
                      exact Ends.gen [] (.inr rfl) (RetV.one rfl (OneR.tmp (t := 2) (r := V.str [111]) (by kernel_rfl))) (by kernel_rfl) (by kernel_rfl) (by kernel_rfl)
                    · refine CodeOk.ifF hc28 (by kernel_rfl) ?_
                      refine CodeOk.skip ?_
                      refine CodeOk.weak (st' := ⟨tl 33 [(30, V.bool r8)], []⟩) (Weak.refl _) ?_
                      refine CodeOk.cutR (tl 33 [(2, V.str [])]) [] mix (by
                          refine W.run D_ok 1 100 (by kernel_rfl) ?_
                          exact W.fin (by decide) (by kernel_rfl) (Weak.sel [] [2] (by kernel_rfl) (by kernel_rfl) (by kernel_rfl))
                          ) ?_
                      refine CodeOk.ret ?_
                      have h := Option.some.inj h
                      subst h
                      exact Ends.gen [] (.inr rfl) (RetV.one rfl (OneR.tmp (t := 2) (r := V.str []) (by kernel_rfl))) (by kernel_rfl) (by kernel_rfl) (by kernel_rfl)

theorem m_spec_Classes_ok (N : Nat) (a0 : List UInt8) {r : ((List UInt8) × Bool)} (h : m_spec_Classes N a0 = some r) :
    AC Tryd.prog (GS []) 19 [V.str a0] [] (.tup [V.str r.1, V.bool r.2]) [] := by
  rw [m_spec_Classes] at h
  refine AC.enter Tryd.func19 rfl ?_
  refine CodeOk.cutR (tl 64 [(0, V.str a0)]) [] mix (by
      refine W.run D_ok 2 100 (by kernel_rfl) ?_
      exact W.fin (by decide) (by kernel_rfl) (Weak.sel [] [0] (by kernel_rfl) (by kernel_rfl) (by kernel_rfl))
      ) ?_
  obtain ⟨r2, hx2, h⟩ := bind_some h
  refine CodeOk.cutR (tl 64 [(0, V.str a0), (4, .own 100), (5, .loc 101 0)]) [(101, .cells 36 [V.int r2.2.Kind, V.int r2.2.At]), (100, .vec false 45 3 (r2.1.map encSToken))] mix (by
      refine W.run D_ok 1 100 (by kernel_rfl) ?_
      refine W.call (m_spec_Lex_ok N a0 hx2) cok37 [] [(100, 100)] [100] (show LayOk _ [] from trivial) (by kernel_rfl) (by kernel_rfl) ?_
      refine W.run D_ok 6 101 (by kernel_rfl) ?_
      exact W.fin (by decide) (by kernel_rfl) (Weak.sel [(101, 101), (100, 100)] [0, 4, 5] (by kernel_rfl) (by kernel_rfl) (by kernel_rfl))
      ) ?_
  refine CodeOk.seq' ?_
  refine CodeOk.cutR (tl 64 [(0, V.str a0), (4, .own 100), (17, V.bool (r2.2.Kind != 0))]) [(100, .vec false 45 3 (r2.1.map encSToken))] mix (by
      refine W.run D_ok 3 102 (by kernel_rfl) ?_
      exact W.fin (by decide) (by kernel_rfl) (Weak.sel [(100, 100)] [0, 4, 17] (by kernel_rfl) (by kernel_rfl) (by kernel_rfl))
      ) ?_
  rcases cond_some h with ⟨hc4, h⟩ | ⟨hc4, h⟩
  · refine CodeOk.ifT hc4 (by kernel_rfl) ?_
    refine CodeOk.cutR (tl 64 [(2, V.str []), (3, V.bool false)]) [] mix (by
        refine W.run D_ok 2 102 (by kernel_rfl) ?_
        exact W.fin (by decide) (by kernel_rfl) (Weak.sel [] [2, 3] (by kernel_rfl) (by kernel_rfl) (by kernel_rfl))
        ) ?_
    refine CodeOk.ret ?_
    have h := Option.some.inj h
    subst h
    exact Ends.gen [] (.inr rfl) (RetV.two rfl (OneR.tmp (t := 2) (r := V.str []) (by kernel_rfl)) (OneR.tmp (t := 3) (r := V.bool false) (by kernel_rfl))) (by kernel_rfl) (by kernel_rfl) (by kernel_rfl)
  · refine CodeOk.ifF hc4 (by kernel_rfl) ?_
    refine CodeOk.skip ?_
    refine CodeOk.weak (st' := ⟨tl 64 [(0, V.str a0), (4, .own 100), (17, V.bool (r2.2.Kind != 0))], [(100, .vec false 45 3 (r2.1.map encSToken))]⟩) (Weak.refl _) ?_
    obtain ⟨x4, hx6, h⟩ := bind_some h
    refine CodeOk.cutR (tl 64 [(0, V.str a0), (4, .own 100), (6, .own 102)]) [(102, .vec false 5 1 (x4.map byteRow)), (100, .vec false 45 3 (r2.1.map encSToken))] mix (by
        refine W.run D_ok 2 102 (by kernel_rfl) ?_
        refine W.mk D_ok byteRow 1 hx6 102 5 1 [.int .u8 0] (by kernel_rfl) (by kernel_rfl) ?_
        refine W.run D_ok 1 103 (by kernel_rfl) ?_
        exact W.fin (by decide) (by kernel_rfl) (Weak.sel [(102, 102), (100, 100)] [0, 4, 6] (by kernel_rfl) (by kernel_rfl) (by kernel_rfl))
        ) ?_
    refine CodeOk.seq' ?_
    refine CodeOk.cutR (tl 64 [(0, V.str a0), (4, .own 100), (6, .own 102), (7, V.int 0)]) [(102, .vec false 5 1 (x4.map byteRow)), (100, .vec false 45 3 (r2.1.map encSToken))] mix (by
        refine W.run D_ok 1 103 (by kernel_rfl) ?_
        exact W.fin (by decide) (by kernel_rfl) (Weak.sel [(102, 102), (100, 100)] [0, 4, 6, 7] (by kernel_rfl) (by kernel_rfl) (by kernel_rfl))
        ) ?_
    refine CodeOk.block' ?_
    refine CodeOk.loopJ (fun (⟨a0, r2, y41, y42⟩ : ((List UInt8) × ((List SToken) × SFault) × Int × (List UInt8))) => ⟨tl 64 [(0, V.str a0), (4, .own 100), (6, .own 101), (7, V.int y41)], [(100, .vec false 45 3 (r2.1.map encSToken)), (101, .vec false 5 1 (y42.map byteRow))]⟩) (fun n i => m_spec_Classes_l1 N n i = some r) (n0 := N) (i0 := (a0, r2, 0, x4)) (Weak.sel [(100, 100), (102, 101)] [0, 4, 6, 7] (by kernel_rfl) (by kernel_rfl) (by kernel_rfl)) h (fun i h => by simp [m_spec_Classes_l1] at h) ?_
    rintro n1 ⟨a0, r2, y41, y42⟩ h59 ih60
    rw [m_spec_Classes_l1] at h59
    refine CodeOk.seq' ?_
    refine CodeOk.cutR (tl 64 [(0, V.str a0), (4, .own 100), (6, .own 101), (7, V.int y41), (24, V.bool (decide (y41 < (a0.length : Int))))]) [(100, .vec false 45 3 (r2.1.map encSToken)), (101, .vec false 5 1 (y42.map byteRow))] mix (by
        refine W.run D_ok 4 163 (by kernel_rfl) ?_
        exact W.fin (by decide) (by kernel_rfl) (Weak.sel [(100, 100), (101, 101)] [0, 4, 6, 7, 24] (by kernel_rfl) (by kernel_rfl) (by kernel_rfl))
        ) ?_
    rcases cond_some h59 with ⟨hc62, h59⟩ | ⟨hc62, h59⟩
    · refine CodeOk.ifT hc62 (by kernel_rfl) ?_
      refine CodeOk.skip ?_
      refine CodeOk.weak (st' := ⟨tl 64 [(0, V.str a0), (4, .own 100), (6, .own 101), (7, V.int y41), (24, V.bool (decide (y41 < (a0.length : Int))))], [(100, .vec false 45 3 (r2.1.map encSToken)), (101, .vec false 5 1 (y42.map byteRow))]⟩) (Weak.refl _) ?_
      refine CodeOk.seq' ?_
      refine CodeOk.block' ?_
      obtain ⟨e59, hx69, h59⟩ := bind_some h59
      obtain ⟨x60, hu70, h59⟩ := bind_some h59
      refine CodeOk.endR (tl 64 [(0, V.str a0), (4, .own 100), (6, .own 101), (7, V.int y41)]) [(101, .vec false 5 1 (x60.map byteRow)), (100, .vec false 45 3 (r2.1.map encSToken))] mix (by
          refine W.run D_ok 2 163 (by kernel_rfl) ?_
          refine W.ixO D_ok byteRow hx69 101 1 (by kernel_rfl) ?_
          refine W.stO D_ok byteRow (x' := 46) hx69 hu70 (j := 101) (nn := false) (ety := 5) (sz := 1) (b := 0) (ys := [.c (.int .u8 46)]) (C := []) (R := []) (by kernel_rfl) (by kernel_rfl) ?_
          exact W.fin (by decide) (by kernel_rfl) (Weak.sel [(101, 101), (100, 100)] [0, 4, 6, 7] (by kernel_rfl) (by kernel_rfl) (by kernel_rfl))
          ) (fun st hw => ?_)
      refine CodeOk.weak (st' := ⟨tl 64 [(0, V.str a0), (4, .own 100), (6, .own 101), (7, V.int y41)], [(101, .vec false 5 1 (x60.map byteRow)), (100, .vec false 45 3 (r2.1.map encSToken))]⟩) hw ?_
      refine CodeOk.endR (tl 64 [(0, V.str a0), (4, .own 100), (6, .own 101), (7, V.int (IntKind.wrap .i64 (y41 + 1)))]) [(101, .vec false 5 1 (x60.map byteRow)), (100, .vec false 45 3 (r2.1.map encSToken))] mix (by
          refine W.run D_ok 3 163 (by kernel_rfl) ?_
          exact W.fin (by decide) (by kernel_rfl) (Weak.sel [(101, 101), (100, 100)] [0, 4, 6, 7] (by kernel_rfl) (by kernel_rfl) (by kernel_rfl))
          ) (fun st hw => ?_)
      exact ih60 (a0, r2, (IntKind.wrap .i64 (y41 + 1)), x60) h59 _ (hw.trans (Weak.sel [(100, 100), (101, 101)] [0, 4, 6, 7] (by kernel_rfl) (by kernel_rfl) (by kernel_rfl)))
    · refine CodeOk.ifF hc62 (by kernel_rfl) ?_
      refine CodeOk.exit ?_
      refine CodeOk.weak (st' := ⟨tl 64 [(0, V.str a0), (4, .own 100), (6, .own 101), (7, V.int y41), (24, V.bool (decide (y41 < (a0.length : Int))))], [(100, .vec false 45 3 (r2.1.map encSToken)), (101, .vec false 5 1 (y42.map byteRow))]⟩) (Weak.refl _) ?_
      refine CodeOk.seq' ?_
      refine CodeOk.cutR (tl 64 [(4, .own 100), (6, .own 101), (8, V.int 0)]) [(100, .vec false 45 3 (r2.1.map encSToken)), (101, .vec false 5 1 (y42.map byteRow))] mix (by
          refine W.run D_ok 1 163 (by kernel_rfl) ?_
          exact W.fin (by decide) (by kernel_rfl) (Weak.sel [(100, 100), (101, 101)] [4, 6, 8] (by kernel_rfl) (by kernel_rfl) (by kernel_rfl))
          ) ?_
      refine CodeOk.block' ?_
      refine CodeOk.loopJ (fun (⟨r2, y769, y770⟩ : (((List SToken) × SFault) × Int × (List UInt8))) => ⟨tl 64 [(4, .own 100), (6, .own 101), (8, V.int y769)], [(100, .vec false 45 3 (r2.1.map encSToken)), (101, .vec false 5 1 (y770.map byteRow))]⟩) (fun n i => m_spec_Classes_l2 N (m_spec_Classes_l1 N n1) n i = some r) (n0 := N) (i0 := (r2, 0, y42)) (Weak.sel [(100, 100), (101, 101)] [4, 6, 8] (by kernel_rfl) (by kernel_rfl) (by kernel_rfl)) h59 (fun i h => by simp [m_spec_Classes_l2] at h) ?_
      rintro n2 ⟨r2, y769, y770⟩ h1003 ih1004
      rw [m_spec_Classes_l2] at h1003
      refine CodeOk.seq' ?_
      refine CodeOk.cutR (tl 64 [(4, .own 100), (6, .own 101), (8, V.int y769), (33, V.bool (decide (y769 < (r2.1.length : Int))))]) [(100, .vec false 45 3 (r2.1.map encSToken)), (101, .vec false 5 1 (y770.map byteRow))] mix (by
          refine W.run D_ok 2 343 (by kernel_rfl) ?_
          refine W.len D_ok encSToken r2.1 [100] (by kernel_rfl) (by kernel_rfl) ?_
          refine W.run D_ok 1 343 (by kernel_rfl) ?_
          exact W.fin (by decide) (by kernel_rfl) (Weak.sel [(100, 100), (101, 101)] [4, 6, 8, 33] (by kernel_rfl) (by kernel_rfl) (by kernel_rfl))
          ) ?_
      rcases cond_some h1003 with ⟨hc1006, h1003⟩ | ⟨hc1006, h1003⟩
      · refine CodeOk.ifT hc1006 (by kernel_rfl) ?_
        refine CodeOk.skip ?_
        refine CodeOk.weak (st' := ⟨tl 64 [(4, .own 100), (6, .own 101), (8, V.int y769), (33, V.bool (decide (y769 < (r2.1.length : Int))))], [(100, .vec false 45 3 (r2.1.map encSToken)), (101, .vec false 5 1 (y770.map byteRow))]⟩) (Weak.refl _) ?_
        refine CodeOk.seq' ?_
        refine CodeOk.block' ?_
        refine CodeOk.cutR (tl 64 [(4, .own 100), (6, .own 101), (8, V.int y769), (9, V.int 0)]) [(100, .vec false 45 3 (r2.1.map encSToken)), (101, .vec false 5 1 (y770.map byteRow))] mix (by
            refine W.run D_ok 1 343 (by kernel_rfl) ?_
            exact W.fin (by decide) (by kernel_rfl) (Weak.sel [(100, 100), (101, 101)] [4, 6, 8, 9] (by kernel_rfl) (by kernel_rfl) (by kernel_rfl))
            ) ?_
        refine CodeOk.block' ?_
        refine CodeOk.loopJ (fun (⟨y769, r2, y1065, y1066⟩ : (Int × ((List SToken) × SFault) × Int × (List UInt8))) => ⟨tl 64 [(4, .own 100), (6, .own 101), (8, V.int y769), (9, V.int y1065)], [(100, .vec false 45 3 (r2.1.map encSToken)), (101, .vec false 5 1 (y1066.map byteRow))]⟩) (fun n i => m_spec_Classes_l3 N (m_spec_Classes_l1 N n1) (m_spec_Classes_l2 N (m_spec_Classes_l1 N n1) n2) n i = some r) (n0 := N) (i0 := (y769, r2, 0, y770)) (Weak.sel [(100, 100), (101, 101)] [4, 6, 8, 9] (by kernel_rfl) (by kernel_rfl) (by kernel_rfl)) h1003 (fun i h => by simp [m_spec_Classes_l3] at h) ?_
        rintro n3 ⟨y769, r2, y1065, y1066⟩ h1159 ih1160
        rw [m_spec_Classes_l3] at h1159
        refine CodeOk.seq' ?_
        obtain ⟨e1100, hx1165, h1159⟩ := bind_some h1159
        refine CodeOk.cutR (tl 64 [(4, .own 100), (6, .own 101), (8, V.int y769), (9, V.int y1065), (43, V.bool (decide (y1065 < (e1100.Text.length : Int))))]) [(100, .vec false 45 3 (r2.1.map encSToken)), (101, .vec false 5 1 (y1066.map byteRow))] mix (by
            refine W.run D_ok 3 403 (by kernel_rfl) ?_
            refine W.ixO D_ok encSToken hx1165 100 3 (by kernel_rfl) ?_
            refine W.run D_ok 1 403 (by kernel_rfl) ?_
            refine W.ldO D_ok encSToken hx1165 9 100 1 (V.str e1100.Text) (by kernel_rfl) (by kernel_rfl) ?_
            refine W.run D_ok 2 403 (by kernel_rfl) ?_
            exact W.fin (by decide) (by kernel_rfl) (Weak.sel [(100, 100), (101, 101)] [4, 6, 8, 9, 43] (by kernel_rfl) (by kernel_rfl) (by kernel_rfl))
            ) ?_
        rcases cond_some h1159 with ⟨hc1166, h1159⟩ | ⟨hc1166, h1159⟩
        · refine CodeOk.ifT hc1166 (by kernel_rfl) ?_
          refine CodeOk.skip ?_
          refine CodeOk.weak (st' := ⟨tl 64 [(4, .own 100), (6, .own 101), (8, V.int y769), (9, V.int y1065), (43, V.bool (decide (y1065 < (e1100.Text.length : Int))))], [(100, .vec false 45 3 (r2.1.map encSToken)), (101, .vec false 5 1 (y1066.map byteRow))]⟩) (Weak.refl _) ?_
          refine CodeOk.seq' ?_
          refine CodeOk.block' ?_
          obtain ⟨e1119, hx1185, h1159⟩ := bind_some h1159
          obtain ⟨e1120, hx1186, h1159⟩ := bind_some h1159
          obtain ⟨r1121, hx1187, h1159⟩ := bind_some h1159
          obtain ⟨b1122, hx1188, h1159⟩ := bind_some h1159
          obtain ⟨e1123, hx1189, h1159⟩ := bind_some h1159
          obtain ⟨x1124, hu1190, h1159⟩ := bind_some h1159
          refine CodeOk.endR (tl 64 [(4, .own 100), (6, .own 101), (8, V.int y769), (9, V.int y1065)]) [(101, .vec false 5 1 (x1124.map byteRow)), (100, .vec false 45 3 (r2.1.map encSToken))] mix (by
              refine W.run D_ok 3 403 (by kernel_rfl) ?_
              refine W.ixO D_ok encSToken hx1185 100 3 (by kernel_rfl) ?_
              refine W.run D_ok 1 403 (by kernel_rfl) ?_
              refine W.ldO D_ok encSToken hx1185 3 100 2 (V.int e1119.At) (by kernel_rfl) (by kernel_rfl) ?_
              refine W.run D_ok 4 403 (by kernel_rfl) ?_
              refine W.ixO D_ok encSToken hx1186 100 3 (by kernel_rfl) ?_
              refine W.run D_ok 1 403 (by kernel_rfl) ?_
              refine W.ldO D_ok encSToken hx1186 3 100 0 (V.int e1120.Kind) (by kernel_rfl) (by kernel_rfl) ?_
              refine W.call0 (m_spec_ClassOf_ok e1120.Kind hx1187) cok38 rfl (by kernel_rfl) ?_
              refine W.ixS D_ok hx1188 (by kernel_rfl) ?_
              refine W.ixO D_ok byteRow hx1189 101 1 (by kernel_rfl) ?_
              refine W.stO D_ok byteRow (x' := b1122) hx1189 hu1190 (j := 101) (nn := false) (ety := 5) (sz := 1) (b := 0) (ys := [.c (.int .u8 ((b1122).toNat : Int))]) (C := []) (R := []) (by kernel_rfl) (by kernel_rfl) ?_
              exact W.fin (by decide) (by kernel_rfl) (Weak.sel [(101, 101), (100, 100)] [4, 6, 8, 9] (by kernel_rfl) (by kernel_rfl) (by kernel_rfl))
              ) (fun st hw => ?_)
          refine CodeOk.weak (st' := ⟨tl 64 [(4, .own 100), (6, .own 101), (8, V.int y769), (9, V.int y1065)], [(101, .vec false 5 1 (x1124.map byteRow)), (100, .vec false 45 3 (r2.1.map encSToken))]⟩) hw ?_
          refine CodeOk.endR (tl 64 [(4, .own 100), (6, .own 101), (8, V.int y769), (9, V.int (IntKind.wrap .i64 (y1065 + 1)))]) [(101, .vec false 5 1 (x1124.map byteRow)), (100, .vec false 45 3 (r2.1.map encSToken))] mix (by
              refine W.run D_ok 3 403 (by kernel_rfl) ?_
              exact W.fin (by decide) (by kernel_rfl) (Weak.sel [(101, 101), (100, 100)] [4, 6, 8, 9] (by kernel_rfl) (by kernel_rfl) (by kernel_rfl))
              ) (fun st hw => ?_)
          exact ih1160 (y769, r2, (IntKind.wrap .i64 (y1065 + 1)), x1124) h1159 _ (hw.trans (Weak.sel [(100, 100), (101, 101)] [4, 6, 8, 9] (by kernel_rfl) (by kernel_rfl) (by kernel_rfl)))
        · refine CodeOk.ifF hc1166 (by kernel_rfl) ?_
          refine CodeOk.exit ?_
          refine CodeOk.weak (st' := ⟨tl 64 [(4, .own 100), (6, .own 101), (8, V.int y769), (9, V.int y1065), (43, V.bool (decide (y1065 < (e1100.Text.length : Int))))], [(100, .vec false 45 3 (r2.1.map encSToken)), (101, .vec false 5 1 (y1066.map byteRow))]⟩) (Weak.refl _) ?_
          refine CodeOk.endR (tl 64 [(4, .own 100), (6, .own 101), (8, V.int (IntKind.wrap .i64 (y769 + 1)))]) [(100, .vec false 45 3 (r2.1.map encSToken)), (101, .vec false 5 1 (y1066.map byteRow))] mix (by
              refine W.run D_ok 3 403 (by kernel_rfl) ?_
              exact W.fin (by decide) (by kernel_rfl) (Weak.sel [(100, 100), (101, 101)] [4, 6, 8] (by kernel_rfl) (by kernel_rfl) (by kernel_rfl))
              ) (fun st hw => ?_)
          exact ih1004 (r2, (IntKind.wrap .i64 (y769 + 1)), y1066) h1159 _ (hw.trans (Weak.sel [(100, 100), (101, 101)] [4, 6, 8] (by kernel_rfl) (by kernel_rfl) (by kernel_rfl)))
      · refine CodeOk.ifF hc1006 (by kernel_rfl) ?_
        refine CodeOk.exit ?_
        refine CodeOk.weak (st' := ⟨tl 64 [(4, .own 100), (6, .own 101), (8, V.int y769), (33, V.bool (decide (y769 < (r2.1.length : Int))))], [(100, .vec false 45 3 (r2.1.map encSToken)), (101, .vec false 5 1 (y770.map byteRow))]⟩) (Weak.refl _) ?_
        refine CodeOk.cutR (tl 64 [(2, V.str y770), (3, V.bool true)]) [] mix (by
            refine W.run D_ok 1 343 (by kernel_rfl) ?_
            refine W.strO D_ok y770 (a := 101) (by kernel_rfl) ?_
            refine W.run D_ok 2 343 (by kernel_rfl) ?_
            exact W.fin (by decide) (by kernel_rfl) (Weak.sel [] [2, 3] (by kernel_rfl) (by kernel_rfl) (by kernel_rfl))
            ) ?_
        refine CodeOk.ret ?_
        have h1003 := Option.some.inj h1003
        subst h1003
        exact Ends.gen [] (.inr rfl) (RetV.two rfl (OneR.tmp (t := 2) (r := V.str y770) (by kernel_rfl)) (OneR.tmp (t := 3) (r := V.bool true) (by kernel_rfl))) (by kernel_rfl) (by kernel_rfl) (by kernel_rfl)

theorem m_impl_IsBlank_ok (a0 : Int) {r : Bool} (h : m_impl_IsBlank a0 = some r) :
    AC Tryd.prog (GS []) 72 [V.int a0] [] (V.bool r) [] := by
  rw [m_impl_IsBlank] at h
  refine AC.enter Tryd.func72 rfl ?_
  refine CodeOk.cutR (tl 9 [(0, V.int a0)]) [] mix (by
      refine W.run D_ok 1 100 (by kernel_rfl) ?_
      exact W.fin (by decide) (by kernel_rfl) (Weak.sel [] [0] (by kernel_rfl) (by kernel_rfl) (by kernel_rfl))
      ) ?_
  obtain ⟨y1, hv2, h⟩ := bind_some h
  refine CodeOk.cutR (tl 9 [(2, V.bool y1)]) [] mix (by
      refine W.run D_ok 3 100 (by kernel_rfl) ?_
      rcases cond_some hv2 with ⟨hc3, hv2⟩ | ⟨hc3, hv2⟩
      · refine W.is 5 hc3 (by kernel_rfl) ?_
        refine W.run D_ok 4 100 (by kernel_rfl) ?_
        have hv2 := Option.some.inj hv2
        subst hv2
        exact W.fin (by decide) (by kernel_rfl) (Weak.sel [] [2] (by kernel_rfl) (by kernel_rfl) (by kernel_rfl))
      · refine W.is 5 hc3 (by kernel_rfl) ?_
        refine W.run D_ok 4 100 (by kernel_rfl) ?_
        have hv2 := Option.some.inj hv2
        subst hv2
        exact W.fin (by decide) (by kernel_rfl) (Weak.sel [] [2] (by kernel_rfl) (by kernel_rfl) (by kernel_rfl))
      ) ?_
  refine CodeOk.ret ?_
  have h := Option.some.inj h
  subst h
  exact Ends.gen [] (.inr rfl) (RetV.one rfl (OneR.tmp (t := 2) (r := V.bool y1) (by kernel_rfl))) (by kernel_rfl) (by kernel_rfl) (by kernel_rfl)

theorem m_impl_byteAt_ok (a0 : List UInt8) (a1 : Int) {r : Int} (h : m_impl_byteAt a0 a1 = some r) :
    AC Tryd.prog (GS []) 73 [V.str a0, V.int a1] [] (V.int r) [] := by
  rw [m_impl_byteAt] at h
  refine AC.enter Tryd.func73 rfl ?_
  refine CodeOk.cutR (tl 15 [(0, V.str a0), (1, V.int a1)]) [] mix (by
      refine W.run D_ok 1 100 (by kernel_rfl) ?_
      exact W.fin (by decide) (by kernel_rfl) (Weak.sel [] [0, 1] (by kernel_rfl) (by kernel_rfl) (by kernel_rfl))
      ) ?_
  refine CodeOk.seq' ?_
  obtain ⟨r4, hx5, h⟩ := bind_some h
  refine CodeOk.cutR (tl 15 [(0, V.str a0), (1, V.int a1), (10, V.bool (!r4))]) [] mix (by
      refine W.run D_ok 4 100 (by kernel_rfl) ?_
      refine W.call0 (m_impl_within_ok a1 0 (IntKind.wrap .i64 ((a0.length : Int) - 1)) hx5) cok30 rfl (by kernel_rfl) ?_
      refine W.run D_ok 1 100 (by kernel_rfl) ?_
      exact W.fin (by decide) (by kernel_rfl) (Weak.sel [] [0, 1, 10] (by kernel_rfl) (by kernel_rfl) (by kernel_rfl))
      ) ?_
  rcases cond_some h with ⟨hc6, h⟩ | ⟨hc6, h⟩
  · refine CodeOk.ifT hc6 (by kernel_rfl) ?_
    refine CodeOk.cutR (tl 15 [(4, V.int (-1))]) [] mix (by
        refine W.run D_ok 1 100 (by kernel_rfl) ?_
        exact W.fin (by decide) (by kernel_rfl) (Weak.sel [] [4] (by kernel_rfl) (by kernel_rfl) (by kernel_rfl))
        ) ?_
    refine CodeOk.ret ?_
    have h := Option.some.inj h
    subst h
    exact Ends.gen [] (.inr rfl) (RetV.one rfl (OneR.tmp (t := 4) (r := V.int (-1)) (by kernel_rfl))) (by kernel_rfl) (by kernel_rfl) (by kernel_rfl)
  · refine CodeOk.ifF hc6 (by kernel_rfl) ?_
    refine CodeOk.skip ?_
    refine CodeOk.weak (st' := ⟨tl 15 [(0, V.str a0), (1, V.int a1), (10, V.bool (!r4))], []⟩) (Weak.refl _) ?_
    obtain ⟨b6, hx8, h⟩ := bind_some h
    refine CodeOk.cutR (tl 15 [(4, V.int (IntKind.wrap .i64 ((b6).toNat : Int)))]) [] mix (by
        refine W.run D_ok 2 100 (by kernel_rfl) ?_
        refine W.ixS D_ok hx8 (by kernel_rfl) ?_
        refine W.run D_ok 2 100 (by kernel_rfl) ?_
        exact W.fin (by decide) (by kernel_rfl) (Weak.sel [] [4] (by kernel_rfl) (by kernel_rfl) (by kernel_rfl))
        ) ?_
    refine CodeOk.ret ?_
    have h := Option.some.inj h
    subst h
    exact Ends.gen [] (.inr rfl) (RetV.one rfl (OneR.tmp (t := 4) (r := V.int (IntKind.wrap .i64 ((b6).toNat : Int))) (by kernel_rfl))) (by kernel_rfl) (by kernel_rfl) (by kernel_rfl)

theorem m_strings_IndexByte_ok (a0 : List UInt8) (a1 : Int) {r : Int} (h : m_strings_IndexByte a0 a1 = some r) :
    AC Tryd.prog (GS []) 83 [V.str a0, .c (.int .u8 a1)] [] (V.int r) [] := by
  rw [m_strings_IndexByte] at h
  refine AC.enter Tryd.func83 rfl ?_
  refine CodeOk.cutR (tl 8 [(0, V.str a0), (1, .c (.int .u8 a1))]) [] mix (by
      refine W.run D_ok 1 100 (by kernel_rfl) ?_
      exact W.fin (by decide) (by kernel_rfl) (Weak.sel [] [0, 1] (by kernel_rfl) (by kernel_rfl) (by kernel_rfl))
      ) ?_
  obtain ⟨r2, hx2, h⟩ := bind_some h
  refine CodeOk.cutR (tl 8 [(4, V.int r2)]) [] mix (by
      refine W.run D_ok 2 100 (by kernel_rfl) ?_
      refine W.call0 (m_stringslite_IndexByte_ok a0 a1 hx2) cok95 rfl (by kernel_rfl) ?_
      refine W.run D_ok 1 100 (by kernel_rfl) ?_
      exact W.fin (by decide) (by kernel_rfl) (Weak.sel [] [4] (by kernel_rfl) (by kernel_rfl) (by kernel_rfl))
      ) ?_
  refine CodeOk.ret ?_
  have h := Option.some.inj h
  subst h
  exact Ends.gen [] (.inr rfl) (RetV.one rfl (OneR.tmp (t := 4) (r := V.int r2) (by kernel_rfl))) (by kernel_rfl) (by kernel_rfl) (by kernel_rfl)

theorem m_impl_IsDigit_ok (a0 : Int) {r : Bool} (h : m_impl_IsDigit a0 = some r) :
    AC Tryd.prog (GS []) 84 [V.int a0] [] (V.bool r) [] := by
  rw [m_impl_IsDigit] at h
  refine AC.enter Tryd.func84 rfl ?_
  refine CodeOk.cutR (tl 9 [(0, V.int a0)]) [] mix (by
      refine W.run D_ok 1 100 (by kernel_rfl) ?_
      exact W.fin (by decide) (by kernel_rfl) (Weak.sel [] [0] (by kernel_rfl) (by kernel_rfl) (by kernel_rfl))
      ) ?_
  obtain ⟨y1, hv2, h⟩ := bind_some h
  refine CodeOk.cutR (tl 9 [(2, V.bool y1)]) [] mix (by
      refine W.run D_ok 3 100 (by kernel_rfl) ?_
      rcases cond_some hv2 with ⟨hc3, hv2⟩ | ⟨hc3, hv2⟩
      · refine W.is 5 hc3 (by kernel_rfl) ?_
        refine W.run D_ok 4 100 (by kernel_rfl) ?_
        have hv2 := Option.some.inj hv2
        subst hv2
        exact W.fin (by decide) (by kernel_rfl) (Weak.sel [] [2] (by kernel_rfl) (by kernel_rfl) (by kernel_rfl))
      · refine W.is 5 hc3 (by kernel_rfl) ?_
        refine W.run D_ok 4 100 (by kernel_rfl) ?_
        have hv2 := Option.some.inj hv2
        subst hv2
        exact W.fin (by decide) (by kernel_rfl) (Weak.sel [] [2] (by kernel_rfl) (by kernel_rfl) (by kernel_rfl))
      ) ?_
  refine CodeOk.ret ?_
  have h := Option.some.inj h
  subst h
  exact Ends.gen [] (.inr rfl) (RetV.one rfl (OneR.tmp (t := 2) (r := V.bool y1) (by kernel_rfl))) (by kernel_rfl) (by kernel_rfl) (by kernel_rfl)

theorem m_impl_digitsEnd_ok (N : Nat) (a0 : List UInt8) (a1 : Int) {r : Int} (h : m_impl_digitsEnd N a0 a1 = some r) :
    AC Tryd.prog (GS []) 105 [V.str a0, V.int a1] [] (V.int r) [] := by
  rw [m_impl_digitsEnd] at h
  refine AC.enter Tryd.func105 rfl ?_
  refine CodeOk.cutR (tl 12 [(0, V.str a0), (1, V.int a1)]) [] mix (by
      refine W.run D_ok 1 100 (by kernel_rfl) ?_
      exact W.fin (by decide) (by kernel_rfl) (Weak.sel [] [0, 1] (by kernel_rfl) (by kernel_rfl) (by kernel_rfl))
      ) ?_
  refine CodeOk.seq' ?_
  refine CodeOk.block' ?_
  refine CodeOk.loopJ (fun (⟨a0, a1⟩ : ((List UInt8) × Int)) => ⟨tl 12 [(0, V.str a0), (1, V.int a1)], []⟩) (fun n i => m_impl_digitsEnd_l1 N n i = some r) (n0 := N) (i0 := (a0, a1)) (Weak.sel [] [0, 1] (by kernel_rfl) (by kernel_rfl) (by kernel_rfl)) h (fun i h => by simp [m_impl_digitsEnd_l1] at h) ?_
  rintro n1 ⟨a0, a1⟩ h33 ih34
  rw [m_impl_digitsEnd_l1] at h33
  refine CodeOk.seq' ?_
  obtain ⟨r33, hx42, h33⟩ := bind_some h33
  obtain ⟨r34, hx43, h33⟩ := bind_some h33
  refine CodeOk.cutR (tl 12 [(0, V.str a0), (1, V.int a1), (8, V.bool r34)]) [] mix (by
      refine W.run D_ok 2 140 (by kernel_rfl) ?_
      refine W.call0 (m_impl_byteAt_ok a0 a1 hx42) cok73 rfl (by kernel_rfl) ?_
      refine W.call0 (m_impl_IsDigit_ok r33 hx43) cok84 rfl (by kernel_rfl) ?_
      exact W.fin (by decide) (by kernel_rfl) (Weak.sel [] [0, 1, 8] (by kernel_rfl) (by kernel_rfl) (by kernel_rfl))
      ) ?_
  rcases cond_some h33 with ⟨hc44, h33⟩ | ⟨hc44, h33⟩
  · refine CodeOk.ifT hc44 (by kernel_rfl) ?_
    refine CodeOk.skip ?_
    refine CodeOk.weak (st' := ⟨tl 12 [(0, V.str a0), (1, V.int a1), (8, V.bool r34)], []⟩) (Weak.refl _) ?_
    refine CodeOk.block' ?_
    refine CodeOk.endR (tl 12 [(0, V.str a0), (1, V.int (IntKind.wrap .i64 (a1 + 1)))]) [] mix (by
        refine W.run D_ok 3 140 (by kernel_rfl) ?_
        exact W.fin (by decide) (by kernel_rfl) (Weak.sel [] [0, 1] (by kernel_rfl) (by kernel_rfl) (by kernel_rfl))
        ) (fun st hw => ?_)
    exact ih34 (a0, (IntKind.wrap .i64 (a1 + 1))) h33 _ (hw.trans (Weak.sel [] [0, 1] (by kernel_rfl) (by kernel_rfl) (by kernel_rfl)))
  · refine CodeOk.ifF hc44 (by kernel_rfl) ?_
    refine CodeOk.exit ?_
    refine CodeOk.weak (st' := ⟨tl 12 [(0, V.str a0), (1, V.int a1), (8, V.bool r34)], []⟩) (Weak.refl _) ?_
    refine CodeOk.cutR (tl 12 [(4, V.int a1)]) [] mix (by
        refine W.run D_ok 2 140 (by kernel_rfl) ?_
        exact W.fin (by decide) (by kernel_rfl) (Weak.sel [] [4] (by kernel_rfl) (by kernel_rfl) (by kernel_rfl))
        ) ?_
    refine CodeOk.ret ?_
    have h33 := Option.some.inj h33
    subst h33
    exact Ends.gen [] (.inr rfl) (RetV.one rfl (OneR.tmp (t := 4) (r := V.int a1) (by kernel_rfl))) (by kernel_rfl) (by kernel_rfl) (by kernel_rfl)

theorem m_impl_NumEnd_ok (N : Nat) (a0 : List UInt8) (a1 : Int) {r : Int} (h : m_impl_NumEnd N a0 a1 = some r) :
    AC Tryd.prog (GS []) 85 [V.str a0, V.int a1] [] (V.int r) [] := by
  rw [m_impl_NumEnd] at h
  refine AC.enter Tryd.func85 rfl ?_
  refine CodeOk.cutR (tl 71 [(0, V.str a0), (1, V.int a1)]) [] mix (by
      refine W.run D_ok 1 100 (by kernel_rfl) ?_
      exact W.fin (by decide) (by kernel_rfl) (Weak.sel [] [0, 1] (by kernel_rfl) (by kernel_rfl) (by kernel_rfl))
      ) ?_
  refine CodeOk.seq' ?_
  obtain ⟨r4, hx5, h⟩ := bind_some h
  refine CodeOk.cutR (tl 71 [(0, V.str a0), (1, V.int a1), (17, V.bool (!r4))]) [] mix (by
      refine W.run D_ok 4 100 (by kernel_rfl) ?_
      refine W.call0 (m_impl_within_ok a1 0 (IntKind.wrap .i64 ((a0.length : Int) - 1)) hx5) cok30 rfl (by kernel_rfl) ?_
      refine W.run D_ok 1 100 (by kernel_rfl) ?_
      exact W.fin (by decide) (by kernel_rfl) (Weak.sel [] [0, 1, 17] (by kernel_rfl) (by kernel_rfl) (by kernel_rfl))
      ) ?_
  rcases cond_some h with ⟨hc6, h⟩ | ⟨hc6, h⟩
  · refine CodeOk.ifT hc6 (by kernel_rfl) ?_
    refine CodeOk.cutR (tl 71 [(4, V.int (-1))]) [] mix (by
        refine W.run D_ok 1 100 (by kernel_rfl) ?_
        exact W.fin (by decide) (by kernel_rfl) (Weak.sel [] [4] (by kernel_rfl) (by kernel_rfl) (by kernel_rfl))
        ) ?_
    refine CodeOk.ret ?_
    have h := Option.some.inj h
    subst h
    exact Ends.gen [] (.inr rfl) (RetV.one rfl (OneR.tmp (t := 4) (r := V.int (-1)) (by kernel_rfl))) (by kernel_rfl) (by kernel_rfl) (by kernel_rfl)
  · refine CodeOk.ifF hc6 (by kernel_rfl) ?_
    refine CodeOk.skip ?_
    refine CodeOk.weak (st' := ⟨tl 71 [(0, V.str a0), (1, V.int a1), (17, V.bool (!r4))], []⟩) (Weak.refl _) ?_
    obtain ⟨r6, hx8, h⟩ := bind_some h
    refine CodeOk.cutR (tl 71 [(0, V.str a0), (1, V.int a1), (5, V.int r6)]) [] mix (by
        refine W.run D_ok 2 100 (by kernel_rfl) ?_
        refine W.call0 (m_impl_digitsEnd_ok N a0 a1 hx8) cok105 rfl (by kernel_rfl) ?_
        refine W.run D_ok 1 100 (by kernel_rfl) ?_
        exact W.fin (by decide) (by kernel_rfl) (Weak.sel [] [0, 1, 5] (by kernel_rfl) (by kernel_rfl) (by kernel_rfl))
        ) ?_
    refine CodeOk.cutR (tl 71 [(0, V.str a0), (5, V.int r6), (6, V.int (IntKind.wrap .i64 (r6 - a1)))]) [] mix (by
        refine W.run D_ok 4 100 (by kernel_rfl) ?_
        exact W.fin (by decide) (by kernel_rfl) (Weak.sel [] [0, 5, 6] (by kernel_rfl) (by kernel_rfl) (by kernel_rfl))
        ) ?_
    refine CodeOk.join (fun (⟨a0, y11, y12⟩ : ((List UInt8) × Int × Int)) => ⟨tl 71 [(0, V.str a0), (5, V.int y11), (6, V.int y12)], []⟩) (fun i => m_impl_NumEnd_k1 N i = some r) ?_ ?_
    · rintro ⟨a0, y11, y12⟩ h14
      rw [m_impl_NumEnd_k1] at h14
      refine CodeOk.seq' ?_
      refine CodeOk.cutR (tl 71 [(0, V.str a0), (5, V.int y11), (40, V.bool (y12 == 0))]) [] mix (by
          refine W.run D_ok 2 100 (by kernel_rfl) ?_
          exact W.fin (by decide) (by kernel_rfl) (Weak.sel [] [0, 5, 40] (by kernel_rfl) (by kernel_rfl) (by kernel_rfl))
          ) ?_
      rcases cond_some h14 with ⟨hc16, h14⟩ | ⟨hc16, h14⟩
      · refine CodeOk.ifT hc16 (by kernel_rfl) ?_
        refine CodeOk.cutR (tl 71 [(4, V.int (-1))]) [] mix (by
            refine W.run D_ok 1 100 (by kernel_rfl) ?_
            exact W.fin (by decide) (by kernel_rfl) (Weak.sel [] [4] (by kernel_rfl) (by kernel_rfl) (by kernel_rfl))
            ) ?_
        refine CodeOk.ret ?_
        have h14 := Option.some.inj h14
        subst h14
        exact Ends.gen [] (.inr rfl) (RetV.one rfl (OneR.tmp (t := 4) (r := V.int (-1)) (by kernel_rfl))) (by kernel_rfl) (by kernel_rfl) (by kernel_rfl)
      · refine CodeOk.ifF hc16 (by kernel_rfl) ?_
        refine CodeOk.skip ?_
        refine CodeOk.weak (st' := ⟨tl 71 [(0, V.str a0), (5, V.int y11), (40, V.bool (y12 == 0))], []⟩) (Weak.refl _) ?_
        refine CodeOk.join (fun (y11 : Int) => ⟨tl 71 [(5, V.int y11)], []⟩) (fun i => m_impl_NumEnd_k2 N i = some r) ?_ ?_
        · rintro y11 h40
          rw [m_impl_NumEnd_k2] at h40
          refine CodeOk.cutR (tl 71 [(4, V.int y11)]) [] mix (by
              refine W.run D_ok 2 100 (by kernel_rfl) ?_
              exact W.fin (by decide) (by kernel_rfl) (Weak.sel [] [4] (by kernel_rfl) (by kernel_rfl) (by kernel_rfl))
              ) ?_
          refine CodeOk.ret ?_
          have h40 := Option.some.inj h40
          subst h40
          exact Ends.gen [] (.inr rfl) (RetV.one rfl (OneR.tmp (t := 4) (r := V.int y11) (by kernel_rfl))) (by kernel_rfl) (by kernel_rfl) (by kernel_rfl)
        intro hk41
        obtain ⟨r26, hx43, h14⟩ := bind_some h14
        refine CodeOk.cutR (tl 71 [(0, V.str a0), (5, V.int y11), (8, V.int r26)]) [] mix (by
            refine W.run D_ok 2 100 (by kernel_rfl) ?_
            refine W.call0 (m_impl_byteAt_ok a0 y11 hx43) cok73 rfl (by kernel_rfl) ?_
            refine W.run D_ok 1 100 (by kernel_rfl) ?_
            exact W.fin (by decide) (by kernel_rfl) (Weak.sel [] [0, 5, 8] (by kernel_rfl) (by kernel_rfl) (by kernel_rfl))
            ) ?_
        obtain ⟨y27, hv45, h14⟩ := bind_some h14
        refine CodeOk.cutR (tl 71 [(0, V.str a0), (5, V.int y11), (49, V.bool y27)]) [] mix (by
            refine W.run D_ok 3 100 (by kernel_rfl) ?_
            rcases cond_some hv45 with ⟨hc46, hv45⟩ | ⟨hc46, hv45⟩
            · refine W.is 46 hc46 (by kernel_rfl) ?_
              refine W.run D_ok 3 100 (by kernel_rfl) ?_
              have hv45 := Option.some.inj hv45
              subst hv45
              exact W.fin (by decide) (by kernel_rfl) (Weak.sel [] [0, 5, 49] (by kernel_rfl) (by kernel_rfl) (by kernel_rfl))
            · refine W.is 46 hc46 (by kernel_rfl) ?_
              refine W.run D_ok 3 100 (by kernel_rfl) ?_
              have hv45 := Option.some.inj hv45
              subst hv45
              exact W.fin (by decide) (by kernel_rfl) (Weak.sel [] [0, 5, 49] (by kernel_rfl) (by kernel_rfl) (by kernel_rfl))
            ) ?_
        rcases cond_some h14 with ⟨hc47, h14⟩ | ⟨hc47, h14⟩
        · refine CodeOk.ifT hc47 (by kernel_rfl) ?_
          refine CodeOk.cutR (tl 71 [(0, V.str a0), (5, V.int y11), (9, V.int (IntKind.wrap .i64 (y11 + 1)))]) [] mix (by
              refine W.run D_ok 3 100 (by kernel_rfl) ?_
              exact W.fin (by decide) (by kernel_rfl) (Weak.sel [] [0, 5, 9] (by kernel_rfl) (by kernel_rfl) (by kernel_rfl))
              ) ?_
          refine CodeOk.join (fun (⟨a0, y11, y31⟩ : ((List UInt8) × Int × Int)) => ⟨tl 71 [(0, V.str a0), (5, V.int y11), (9, V.int y31)], []⟩) (fun i => m_impl_NumEnd_k3 N i = some r) ?_ ?_
          · rintro ⟨a0, y11, y31⟩ h54
            rw [m_impl_NumEnd_k3] at h54
            obtain ⟨r33, hx56, h54⟩ := bind_some h54
            refine CodeOk.cutR (tl 71 [(5, V.int y11), (9, V.int y31), (11, V.int r33)]) [] mix (by
                refine W.run D_ok 2 100 (by kernel_rfl) ?_
                refine W.call0 (m_impl_digitsEnd_ok N a0 y31 hx56) cok105 rfl (by kernel_rfl) ?_
                refine W.run D_ok 1 100 (by kernel_rfl) ?_
                exact W.fin (by decide) (by kernel_rfl) (Weak.sel [] [5, 9, 11] (by kernel_rfl) (by kernel_rfl) (by kernel_rfl))
                ) ?_
            refine CodeOk.cutR (tl 71 [(5, V.int y11), (11, V.int r33), (68, V.bool (decide (r33 > y31)))]) [] mix (by
                refine W.run D_ok 3 100 (by kernel_rfl) ?_
                exact W.fin (by decide) (by kernel_rfl) (Weak.sel [] [5, 11, 68] (by kernel_rfl) (by kernel_rfl) (by kernel_rfl))
                ) ?_
            rcases cond_some h54 with ⟨hc57, h54⟩ | ⟨hc57, h54⟩
            · refine CodeOk.ifT hc57 (by kernel_rfl) ?_
              refine CodeOk.cutR (tl 71 [(4, V.int r33)]) [] mix (by
                  refine W.run D_ok 2 100 (by kernel_rfl) ?_
                  exact W.fin (by decide) (by kernel_rfl) (Weak.sel [] [4] (by kernel_rfl) (by kernel_rfl) (by kernel_rfl))
                  ) ?_
              refine CodeOk.ret ?_
              have h54 := Option.some.inj h54
              subst h54
              exact Ends.gen [] (.inr rfl) (RetV.one rfl (OneR.tmp (t := 4) (r := V.int r33) (by kernel_rfl))) (by kernel_rfl) (by kernel_rfl) (by kernel_rfl)
            · refine CodeOk.ifF hc57 (by kernel_rfl) ?_
              refine CodeOk.skip ?_
              exact hk41 y11 h54 _ (Weak.sel [] [5] (by kernel_rfl) (by kernel_rfl) (by kernel_rfl))
          intro hk58
          obtain ⟨r35, hx60, h14⟩ := bind_some h14
          refine CodeOk.cutR (tl 71 [(0, V.str a0), (5, V.int y11), (9, V.int (IntKind.wrap .i64 (y11 + 1))), (10, V.int r35)]) [] mix (by
              refine W.run D_ok 2 100 (by kernel_rfl) ?_
              refine W.call0 (m_impl_byteAt_ok a0 (IntKind.wrap .i64 (y11 + 1)) hx60) cok73 rfl (by kernel_rfl) ?_
              refine W.run D_ok 1 100 (by kernel_rfl) ?_
              exact W.fin (by decide) (by kernel_rfl) (Weak.sel [] [0, 5, 9, 10] (by kernel_rfl) (by kernel_rfl) (by kernel_rfl))
              ) ?_
          obtain ⟨y36, hv62, h14⟩ := bind_some h14
          refine CodeOk.cutR (tl 71 [(0, V.str a0), (5, V.int y11), (9, V.int (IntKind.wrap .i64 (y11 + 1))), (60, V.bool y36)]) [] mix (by
              refine W.run D_ok 3 100 (by kernel_rfl) ?_
              rcases cond_some hv62 with ⟨hc63, hv62⟩ | ⟨hc63, hv62⟩
              · refine W.is 57 hc63 (by kernel_rfl) ?_
                refine W.run D_ok 3 100 (by kernel_rfl) ?_
                have hv62 := Option.some.inj hv62
                subst hv62
                exact W.fin (by decide) (by kernel_rfl) (Weak.sel [] [0, 5, 9, 60] (by kernel_rfl) (by kernel_rfl) (by kernel_rfl))
              · refine W.is 57 hc63 (by kernel_rfl) ?_
                refine W.run D_ok 3 100 (by kernel_rfl) ?_
                have hv62 := Option.some.inj hv62
                subst hv62
                exact W.fin (by decide) (by kernel_rfl) (Weak.sel [] [0, 5, 9, 60] (by kernel_rfl) (by kernel_rfl) (by kernel_rfl))
              ) ?_
          rcases cond_some h14 with ⟨hc64, h14⟩ | ⟨hc64, h14⟩
          · refine CodeOk.ifT hc64 (by kernel_rfl) ?_
            refine CodeOk.endR (tl 71 [(0, V.str a0), (5, V.int y11), (9, V.int (IntKind.wrap .i64 ((IntKind.wrap .i64 (y11 + 1)) + 1)))]) [] mix (by
                refine W.run D_ok 3 100 (by kernel_rfl) ?_
                exact W.fin (by decide) (by kernel_rfl) (Weak.sel [] [0, 5, 9] (by kernel_rfl) (by kernel_rfl) (by kernel_rfl))
                ) (fun st hw => ?_)
            exact hk58 (a0, y11, (IntKind.wrap .i64 ((IntKind.wrap .i64 (y11 + 1)) + 1))) h14 _ (hw.trans (Weak.sel [] [0, 5, 9] (by kernel_rfl) (by kernel_rfl) (by kernel_rfl)))
          · refine CodeOk.ifF hc64 (by kernel_rfl) ?_
            refine CodeOk.skip ?_
            exact hk58 (a0, y11, (IntKind.wrap .i64 (y11 + 1))) h14 _ (Weak.sel [] [0, 5, 9] (by kernel_rfl) (by kernel_rfl) (by kernel_rfl))
        · refine CodeOk.ifF hc47 (by kernel_rfl) ?_
          refine CodeOk.skip ?_
          exact hk41 y11 h14 _ (Weak.sel [] [5] (by kernel_rfl) (by kernel_rfl) (by kernel_rfl))
    intro hk65
    obtain ⟨r38, hx67, h⟩ := bind_some h
    refine CodeOk.cutR (tl 71 [(0, V.str a0), (5, V.int r6), (6, V.int (IntKind.wrap .i64 (r6 - a1))), (27, V.bool (r38 == 46))]) [] mix (by
        refine W.run D_ok 2 100 (by kernel_rfl) ?_
        refine W.call0 (m_impl_byteAt_ok a0 r6 hx67) cok73 rfl (by kernel_rfl) ?_
        refine W.run D_ok 1 100 (by kernel_rfl) ?_
        exact W.fin (by decide) (by kernel_rfl) (Weak.sel [] [0, 5, 6, 27] (by kernel_rfl) (by kernel_rfl) (by kernel_rfl))
        ) ?_
    rcases cond_some h with ⟨hc68, h⟩ | ⟨hc68, h⟩
    · refine CodeOk.ifT hc68 (by kernel_rfl) ?_
      obtain ⟨r40, hx70, h⟩ := bind_some h
      refine CodeOk.cutR (tl 71 [(0, V.str a0), (5, V.int r6), (6, V.int (IntKind.wrap .i64 (r6 - a1))), (7, V.int r40)]) [] mix (by
          refine W.run D_ok 3 100 (by kernel_rfl) ?_
          refine W.call0 (m_impl_digitsEnd_ok N a0 (IntKind.wrap .i64 (r6 + 1)) hx70) cok105 rfl (by kernel_rfl) ?_
          refine W.run D_ok 1 100 (by kernel_rfl) ?_
          exact W.fin (by decide) (by kernel_rfl) (Weak.sel [] [0, 5, 6, 7] (by kernel_rfl) (by kernel_rfl) (by kernel_rfl))
          ) ?_
      refine CodeOk.cutR (tl 71 [(0, V.str a0), (6, V.int (IntKind.wrap .i64 ((IntKind.wrap .i64 (r6 - a1)) + (IntKind.wrap .i64 ((IntKind.wrap .i64 (r40 - r6)) - 1))))), (7, V.int r40)]) [] mix (by
          refine W.run D_ok 7 100 (by kernel_rfl) ?_
          exact W.fin (by decide) (by kernel_rfl) (Weak.sel [] [0, 6, 7] (by kernel_rfl) (by kernel_rfl) (by kernel_rfl))
          ) ?_
      refine CodeOk.endR (tl 71 [(0, V.str a0), (5, V.int r40), (6, V.int (IntKind.wrap .i64 ((IntKind.wrap .i64 (r6 - a1)) + (IntKind.wrap .i64 ((IntKind.wrap .i64 (r40 - r6)) - 1)))))]) [] mix (by
          refine W.run D_ok 2 100 (by kernel_rfl) ?_
          exact W.fin (by decide) (by kernel_rfl) (Weak.sel [] [0, 5, 6] (by kernel_rfl) (by kernel_rfl) (by kernel_rfl))
          ) (fun st hw => ?_)
      exact hk65 (a0, r40, (IntKind.wrap .i64 ((IntKind.wrap .i64 (r6 - a1)) + (IntKind.wrap .i64 ((IntKind.wrap .i64 (r40 - r6)) - 1))))) h _ (hw.trans (Weak.sel [] [0, 5, 6] (by kernel_rfl) (by kernel_rfl) (by kernel_rfl)))
    · refine CodeOk.ifF hc68 (by kernel_rfl) ?_
      refine CodeOk.skip ?_
      exact hk65 (a0, r6, (IntKind.wrap .i64 (r6 - a1))) h _ (Weak.sel [] [0, 5, 6] (by kernel_rfl) (by kernel_rfl) (by kernel_rfl))

end Go.Proofs.Tryd
