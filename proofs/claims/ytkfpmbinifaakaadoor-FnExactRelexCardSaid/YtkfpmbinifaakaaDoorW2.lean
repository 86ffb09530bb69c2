/-
  The walks that show that the code computes the models, part 2.
-/
import Derived.Test.YtkfpmbinifaakaaDoorW1
namespace Go.Proofs.Tryd
open Go.Av
set_option maxRecDepth 100000

theorem m_impl_quotedEnd_ok (N : Nat) (a0 : List UInt8) (a1 : Int) (a2 : Int) {r : Int} (h : m_impl_quotedEnd N a0 a1 a2 = some r) :
    AC Tryd.prog (GS []) 120 [V.str a0, V.int a1, V.int a2] [] (V.int r) [] := by
  rw [m_impl_quotedEnd] at h
  refine AC.enter Tryd.func120 rfl ?_
  refine CodeOk.cutR (tl 50 [(0, V.str a0), (1, V.int a1), (2, V.int a2)]) [] mix (by
      refine W.run D_ok 1 100 (by kernel_rfl) ?_
      exact W.fin (by decide) (by kernel_rfl) (Weak.sel [] [0, 1, 2] (by kernel_rfl) (by kernel_rfl) (by kernel_rfl))
      ) ?_
  refine CodeOk.seq' ?_
  obtain ⟨r4, hx5, h⟩ := bind_some h
  refine CodeOk.cutR (tl 50 [(0, V.str a0), (1, V.int a1), (2, V.int a2), (12, V.bool (r4 != a2))]) [] mix (by
      refine W.run D_ok 2 100 (by kernel_rfl) ?_
      refine W.call0 (m_impl_byteAt_ok a0 a1 hx5) cok54 rfl (by kernel_rfl) ?_
      refine W.run D_ok 2 100 (by kernel_rfl) ?_
      exact W.fin (by decide) (by kernel_rfl) (Weak.sel [] [0, 1, 2, 12] (by kernel_rfl) (by kernel_rfl) (by kernel_rfl))
      ) ?_
  rcases cond_some h with ⟨hc6, h⟩ | ⟨hc6, h⟩
  · refine CodeOk.ifT hc6 (by kernel_rfl) ?_
    refine CodeOk.cutR (tl 50 [(6, V.int (-1))]) [] mix (by
        refine W.run D_ok 1 100 (by kernel_rfl) ?_
        exact W.fin (by decide) (by kernel_rfl) (Weak.sel [] [6] (by kernel_rfl) (by kernel_rfl) (by kernel_rfl))
        ) ?_
    refine CodeOk.ret ?_
    have h := Option.some.inj h
    subst h
    exact Ends.gen [] (.inr rfl) (RetV.one rfl (OneR.tmp (t := 6) (r := V.int (-1)) (by kernel_rfl))) (by kernel_rfl) (by kernel_rfl) (by kernel_rfl)
  · refine CodeOk.ifF hc6 (by kernel_rfl) ?_
    refine CodeOk.skip ?_
    refine CodeOk.weak (st' := ⟨tl 50 [(0, V.str a0), (1, V.int a1), (2, V.int a2), (12, V.bool (r4 != a2))], []⟩) (Weak.refl _) ?_
    refine CodeOk.seq' ?_
    refine CodeOk.cutR (tl 50 [(0, V.str a0), (2, V.int a2), (7, V.int (IntKind.wrap .i64 (a1 + 1)))]) [] mix (by
        refine W.run D_ok 3 100 (by kernel_rfl) ?_
        exact W.fin (by decide) (by kernel_rfl) (Weak.sel [] [0, 2, 7] (by kernel_rfl) (by kernel_rfl) (by kernel_rfl))
        ) ?_
    refine CodeOk.block' ?_
    refine CodeOk.loopJ (fun (⟨a0, a2, y91⟩ : ((List UInt8) × Int × Int)) => ⟨tl 50 [(0, V.str a0), (2, V.int a2), (7, V.int y91)], []⟩) (fun n i => m_impl_quotedEnd_l1 N n i = some r) (n0 := N) (i0 := (a0, a2, (IntKind.wrap .i64 (a1 + 1)))) (Weak.sel [] [0, 2, 7] (by kernel_rfl) (by kernel_rfl) (by kernel_rfl)) h (fun i h => by simp [m_impl_quotedEnd_l1] at h) ?_
    rintro n1 ⟨a0, a2, y91⟩ h189 ih190
    rw [m_impl_quotedEnd_l1] at h189
    refine CodeOk.seq' ?_
    obtain ⟨y118, hv199, h189⟩ := bind_some h189
    refine CodeOk.cutR (tl 50 [(0, V.str a0), (2, V.int a2), (7, V.int y91), (24, V.bool y118)]) [] mix (by
        refine W.run D_ok 5 160 (by kernel_rfl) ?_
        rcases cond_some hv199 with ⟨hc200, hv199⟩ | ⟨hc200, hv199⟩
        · refine W.is 19 hc200 (by kernel_rfl) ?_
          refine W.run D_ok 2 160 (by kernel_rfl) ?_
          obtain ⟨b119, hx201, hv199⟩ := bind_some hv199
          refine W.ixS D_ok hx201 (by kernel_rfl) ?_
          refine W.run D_ok 2 160 (by kernel_rfl) ?_
          have hv199 := Option.some.inj hv199
          subst hv199
          exact W.fin (by decide) (by kernel_rfl) (Weak.sel [] [0, 2, 7, 24] (by kernel_rfl) (by kernel_rfl) (by kernel_rfl))
        · refine W.is 19 hc200 (by kernel_rfl) ?_
          refine W.run D_ok 5 160 (by kernel_rfl) ?_
          have hv199 := Option.some.inj hv199
          subst hv199
          exact W.fin (by decide) (by kernel_rfl) (Weak.sel [] [0, 2, 7, 24] (by kernel_rfl) (by kernel_rfl) (by kernel_rfl))
        ) ?_
    rcases cond_some h189 with ⟨hc202, h189⟩ | ⟨hc202, h189⟩
    · refine CodeOk.ifT hc202 (by kernel_rfl) ?_
      refine CodeOk.skip ?_
      refine CodeOk.weak (st' := ⟨tl 50 [(0, V.str a0), (2, V.int a2), (7, V.int y91), (24, V.bool y118)], []⟩) (Weak.refl _) ?_
      refine CodeOk.join (fun (⟨a0, a2, y127⟩ : ((List UInt8) × Int × Int)) => ⟨tl 50 [(0, V.str a0), (2, V.int a2), (7, V.int y127)], []⟩) (fun i => m_impl_quotedEnd_k2 N (m_impl_quotedEnd_l1 N n1) i = some r) ?_ ?_
      · rintro ⟨a0, a2, y127⟩ h214
        rw [m_impl_quotedEnd_k2] at h214
        refine CodeOk.endR (tl 50 [(0, V.str a0), (2, V.int a2), (7, V.int (IntKind.wrap .i64 (y127 + 1)))]) [] mix (by
            refine W.run D_ok 3 160 (by kernel_rfl) ?_
            exact W.fin (by decide) (by kernel_rfl) (Weak.sel [] [0, 2, 7] (by kernel_rfl) (by kernel_rfl) (by kernel_rfl))
            ) (fun st hw => ?_)
        exact ih190 (a0, a2, (IntKind.wrap .i64 (y127 + 1))) h214 _ (hw.trans (Weak.sel [] [0, 2, 7] (by kernel_rfl) (by kernel_rfl) (by kernel_rfl)))
      intro hk215
      refine CodeOk.block' ?_
      refine CodeOk.block' ?_
      obtain ⟨b129, hx217, h189⟩ := bind_some h189
      refine CodeOk.cutR (tl 50 [(0, V.str a0), (2, V.int a2), (7, V.int y91), (27, V.bool ((IntKind.wrap .i64 ((b129).toNat : Int)) == a2))]) [] mix (by
          refine W.run D_ok 2 160 (by kernel_rfl) ?_
          refine W.ixS D_ok hx217 (by kernel_rfl) ?_
          refine W.run D_ok 4 160 (by kernel_rfl) ?_
          exact W.fin (by decide) (by kernel_rfl) (Weak.sel [] [0, 2, 7, 27] (by kernel_rfl) (by kernel_rfl) (by kernel_rfl))
          ) ?_
      rcases cond_some h189 with ⟨hc218, h189⟩ | ⟨hc218, h189⟩
      · refine CodeOk.ifT hc218 (by kernel_rfl) ?_
        refine CodeOk.cutR (tl 50 [(6, V.int (IntKind.wrap .i64 (y91 + 1)))]) [] mix (by
            refine W.run D_ok 3 160 (by kernel_rfl) ?_
            exact W.fin (by decide) (by kernel_rfl) (Weak.sel [] [6] (by kernel_rfl) (by kernel_rfl) (by kernel_rfl))
            ) ?_
        refine CodeOk.ret ?_
        have h189 := Option.some.inj h189
        subst h189
        exact Ends.gen [] (.inr rfl) (RetV.one rfl (OneR.tmp (t := 6) (r := V.int (IntKind.wrap .i64 (y91 + 1))) (by kernel_rfl))) (by kernel_rfl) (by kernel_rfl) (by kernel_rfl)
      · refine CodeOk.ifF hc218 (by kernel_rfl) ?_
        obtain ⟨y132, hv222, h189⟩ := bind_some h189
        refine CodeOk.cutR (tl 50 [(0, V.str a0), (2, V.int a2), (7, V.int y91), (36, V.bool y132)]) [] mix (by
            refine W.run D_ok 2 160 (by kernel_rfl) ?_
            obtain ⟨b133, hx223, hv222⟩ := bind_some hv222
            refine W.ixS D_ok hx223 (by kernel_rfl) ?_
            refine W.run D_ok 2 160 (by kernel_rfl) ?_
            rcases cond_some hv222 with ⟨hc224, hv222⟩ | ⟨hc224, hv222⟩
            · refine W.is 41 hc224 (by kernel_rfl) ?_
              refine W.run D_ok 3 160 (by kernel_rfl) ?_
              obtain ⟨r134, hx225, hv222⟩ := bind_some hv222
              refine W.call0 (m_impl_byteAt_ok a0 (IntKind.wrap .i64 (y91 + 1)) hx225) cok54 rfl (by kernel_rfl) ?_
              refine W.run D_ok 3 160 (by kernel_rfl) ?_
              have hv222 := Option.some.inj hv222
              subst hv222
              exact W.fin (by decide) (by kernel_rfl) (Weak.sel [] [0, 2, 7, 36] (by kernel_rfl) (by kernel_rfl) (by kernel_rfl))
            · refine W.is 41 hc224 (by kernel_rfl) ?_
              refine W.run D_ok 7 160 (by kernel_rfl) ?_
              have hv222 := Option.some.inj hv222
              subst hv222
              exact W.fin (by decide) (by kernel_rfl) (Weak.sel [] [0, 2, 7, 36] (by kernel_rfl) (by kernel_rfl) (by kernel_rfl))
            ) ?_
        rcases cond_some h189 with ⟨hc226, h189⟩ | ⟨hc226, h189⟩
        · refine CodeOk.ifT hc226 (by kernel_rfl) ?_
          refine CodeOk.endR (tl 50 [(0, V.str a0), (2, V.int a2), (7, V.int (IntKind.wrap .i64 (y91 + 1)))]) [] mix (by
              refine W.run D_ok 3 160 (by kernel_rfl) ?_
              exact W.fin (by decide) (by kernel_rfl) (Weak.sel [] [0, 2, 7] (by kernel_rfl) (by kernel_rfl) (by kernel_rfl))
              ) (fun st hw => ?_)
          exact hk215 (a0, a2, (IntKind.wrap .i64 (y91 + 1))) h189 _ (hw.trans (Weak.sel [] [0, 2, 7] (by kernel_rfl) (by kernel_rfl) (by kernel_rfl)))
        · refine CodeOk.ifF hc226 (by kernel_rfl) ?_
          refine CodeOk.skip ?_
          exact hk215 (a0, a2, y91) h189 _ (Weak.sel [] [0, 2, 7] (by kernel_rfl) (by kernel_rfl) (by kernel_rfl))
    · refine CodeOk.ifF hc202 (by kernel_rfl) ?_
      refine CodeOk.exit ?_
      refine CodeOk.weak (st' := ⟨tl 50 [(0, V.str a0), (2, V.int a2), (7, V.int y91), (24, V.bool y118)], []⟩) (Weak.refl _) ?_
      refine CodeOk.cutR (tl 50 [(6, V.int (-1))]) [] mix (by
          refine W.run D_ok 1 160 (by kernel_rfl) ?_
          exact W.fin (by decide) (by kernel_rfl) (Weak.sel [] [6] (by kernel_rfl) (by kernel_rfl) (by kernel_rfl))
          ) ?_
      refine CodeOk.ret ?_
      have h189 := Option.some.inj h189
      subst h189
      exact Ends.gen [] (.inr rfl) (RetV.one rfl (OneR.tmp (t := 6) (r := V.int (-1)) (by kernel_rfl))) (by kernel_rfl) (by kernel_rfl) (by kernel_rfl)

theorem m_impl_StrEnd_ok (N : Nat) (a0 : List UInt8) (a1 : Int) {r : Int} (h : m_impl_StrEnd N a0 a1 = some r) :
    AC Tryd.prog (GS []) 77 [V.str a0, V.int a1] [] (V.int r) [] := by
  rw [m_impl_StrEnd] at h
  refine AC.enter Tryd.func77 rfl ?_
  refine CodeOk.cutR (tl 8 [(0, V.str a0), (1, V.int a1)]) [] mix (by
      refine W.run D_ok 1 100 (by kernel_rfl) ?_
      exact W.fin (by decide) (by kernel_rfl) (Weak.sel [] [0, 1] (by kernel_rfl) (by kernel_rfl) (by kernel_rfl))
      ) ?_
  obtain ⟨r2, hx2, h⟩ := bind_some h
  refine CodeOk.cutR (tl 8 [(4, V.int r2)]) [] mix (by
      refine W.run D_ok 2 100 (by kernel_rfl) ?_
      refine W.call0 (m_impl_quotedEnd_ok N a0 a1 34 hx2) cok120 rfl (by kernel_rfl) ?_
      refine W.run D_ok 1 100 (by kernel_rfl) ?_
      exact W.fin (by decide) (by kernel_rfl) (Weak.sel [] [4] (by kernel_rfl) (by kernel_rfl) (by kernel_rfl))
      ) ?_
  refine CodeOk.ret ?_
  have h := Option.some.inj h
  subst h
  exact Ends.gen [] (.inr rfl) (RetV.one rfl (OneR.tmp (t := 4) (r := V.int r2) (by kernel_rfl))) (by kernel_rfl) (by kernel_rfl) (by kernel_rfl)

theorem m_impl_EreEnd_ok (N : Nat) (a0 : List UInt8) (a1 : Int) {r : Int} (h : m_impl_EreEnd N a0 a1 = some r) :
    AC Tryd.prog (GS []) 78 [V.str a0, V.int a1] [] (V.int r) [] := by
  rw [m_impl_EreEnd] at h
  refine AC.enter Tryd.func78 rfl ?_
  refine CodeOk.cutR (tl 14 [(0, V.str a0), (1, V.int a1)]) [] mix (by
      refine W.run D_ok 1 100 (by kernel_rfl) ?_
      exact W.fin (by decide) (by kernel_rfl) (Weak.sel [] [0, 1] (by kernel_rfl) (by kernel_rfl) (by kernel_rfl))
      ) ?_
  obtain ⟨r2, hx2, h⟩ := bind_some h
  refine CodeOk.cutR (tl 14 [(1, V.int a1), (5, V.int r2)]) [] mix (by
      refine W.run D_ok 2 100 (by kernel_rfl) ?_
      refine W.call0 (m_impl_quotedEnd_ok N a0 a1 47 hx2) cok120 rfl (by kernel_rfl) ?_
      refine W.run D_ok 1 100 (by kernel_rfl) ?_
      exact W.fin (by decide) (by kernel_rfl) (Weak.sel [] [1, 5] (by kernel_rfl) (by kernel_rfl) (by kernel_rfl))
      ) ?_
  refine CodeOk.seq' ?_
  refine CodeOk.cutR (tl 14 [(5, V.int r2), (12, V.bool (r2 == (IntKind.wrap .i64 (a1 + 2))))]) [] mix (by
      refine W.run D_ok 4 100 (by kernel_rfl) ?_
      exact W.fin (by decide) (by kernel_rfl) (Weak.sel [] [5, 12] (by kernel_rfl) (by kernel_rfl) (by kernel_rfl))
      ) ?_
  rcases cond_some h with ⟨hc4, h⟩ | ⟨hc4, h⟩
  · refine CodeOk.ifT hc4 (by kernel_rfl) ?_
    refine CodeOk.cutR (tl 14 [(4, V.int (-1))]) [] mix (by
        refine W.run D_ok 1 100 (by kernel_rfl) ?_
        exact W.fin (by decide) (by kernel_rfl) (Weak.sel [] [4] (by kernel_rfl) (by kernel_rfl) (by kernel_rfl))
        ) ?_
    refine CodeOk.ret ?_
    have h := Option.some.inj h
    subst h
    exact Ends.gen [] (.inr rfl) (RetV.one rfl (OneR.tmp (t := 4) (r := V.int (-1)) (by kernel_rfl))) (by kernel_rfl) (by kernel_rfl) (by kernel_rfl)
  · refine CodeOk.ifF hc4 (by kernel_rfl) ?_
    refine CodeOk.skip ?_
    refine CodeOk.weak (st' := ⟨tl 14 [(5, V.int r2), (12, V.bool (r2 == (IntKind.wrap .i64 (a1 + 2))))], []⟩) (Weak.refl _) ?_
    refine CodeOk.cutR (tl 14 [(4, V.int r2)]) [] mix (by
        refine W.run D_ok 2 100 (by kernel_rfl) ?_
        exact W.fin (by decide) (by kernel_rfl) (Weak.sel [] [4] (by kernel_rfl) (by kernel_rfl) (by kernel_rfl))
        ) ?_
    refine CodeOk.ret ?_
    have h := Option.some.inj h
    subst h
    exact Ends.gen [] (.inr rfl) (RetV.one rfl (OneR.tmp (t := 4) (r := V.int r2) (by kernel_rfl))) (by kernel_rfl) (by kernel_rfl) (by kernel_rfl)

theorem m_impl_IsLetter_ok (a0 : Int) {r : Bool} (h : m_impl_IsLetter a0 = some r) :
    AC Tryd.prog (GS []) 90 [V.int a0] [] (V.bool r) [] := by
  rw [m_impl_IsLetter] at h
  refine AC.enter Tryd.func90 rfl ?_
  refine CodeOk.cutR (tl 21 [(0, V.int a0)]) [] mix (by
      refine W.run D_ok 1 100 (by kernel_rfl) ?_
      exact W.fin (by decide) (by kernel_rfl) (Weak.sel [] [0] (by kernel_rfl) (by kernel_rfl) (by kernel_rfl))
      ) ?_
  obtain ⟨y1, hv7, h⟩ := bind_some h
  refine CodeOk.cutR (tl 21 [(2, V.bool y1)]) [] mix (by
      refine W.run D_ok 3 100 (by kernel_rfl) ?_
      rcases cond_some hv7 with ⟨hc8, hv7⟩ | ⟨hc8, hv7⟩
      · refine W.is 5 hc8 (by kernel_rfl) ?_
        refine W.run D_ok 4 100 (by kernel_rfl) ?_
        rcases cond_some hv7 with ⟨hc9, hv7⟩ | ⟨hc9, hv7⟩
        · refine W.is 9 hc9 (by kernel_rfl) ?_
          refine W.run D_ok 12 100 (by kernel_rfl) ?_
          have hv7 := Option.some.inj hv7
          subst hv7
          exact W.fin (by decide) (by kernel_rfl) (Weak.sel [] [2] (by kernel_rfl) (by kernel_rfl) (by kernel_rfl))
        · refine W.is 9 hc9 (by kernel_rfl) ?_
          refine W.run D_ok 3 100 (by kernel_rfl) ?_
          rcases cond_some hv7 with ⟨hc10, hv7⟩ | ⟨hc10, hv7⟩
          · refine W.is 12 hc10 (by kernel_rfl) ?_
            refine W.run D_ok 5 100 (by kernel_rfl) ?_
            rcases cond_some hv7 with ⟨hc11, hv7⟩ | ⟨hc11, hv7⟩
            · refine W.is 17 hc11 (by kernel_rfl) ?_
              refine W.run D_ok 4 100 (by kernel_rfl) ?_
              have hv7 := Option.some.inj hv7
              subst hv7
              exact W.fin (by decide) (by kernel_rfl) (Weak.sel [] [2] (by kernel_rfl) (by kernel_rfl) (by kernel_rfl))
            · refine W.is 17 hc11 (by kernel_rfl) ?_
              refine W.run D_ok 4 100 (by kernel_rfl) ?_
              have hv7 := Option.some.inj hv7
              subst hv7
              exact W.fin (by decide) (by kernel_rfl) (Weak.sel [] [2] (by kernel_rfl) (by kernel_rfl) (by kernel_rfl))
          · refine W.is 12 hc10 (by kernel_rfl) ?_
            refine W.run D_ok 9 100 (by kernel_rfl) ?_
            have hv7 := Option.some.inj hv7
            subst hv7
            exact W.fin (by decide) (by kernel_rfl) (Weak.sel [] [2] (by kernel_rfl) (by kernel_rfl) (by kernel_rfl))
      · refine W.is 5 hc8 (by kernel_rfl) ?_
        refine W.run D_ok 7 100 (by kernel_rfl) ?_
        rcases cond_some hv7 with ⟨hc12, hv7⟩ | ⟨hc12, hv7⟩
        · refine W.is 12 hc12 (by kernel_rfl) ?_
          refine W.run D_ok 5 100 (by kernel_rfl) ?_
          rcases cond_some hv7 with ⟨hc13, hv7⟩ | ⟨hc13, hv7⟩
          · refine W.is 17 hc13 (by kernel_rfl) ?_
            refine W.run D_ok 4 100 (by kernel_rfl) ?_
            have hv7 := Option.some.inj hv7
            subst hv7
            exact W.fin (by decide) (by kernel_rfl) (Weak.sel [] [2] (by kernel_rfl) (by kernel_rfl) (by kernel_rfl))
          · refine W.is 17 hc13 (by kernel_rfl) ?_
            refine W.run D_ok 4 100 (by kernel_rfl) ?_
            have hv7 := Option.some.inj hv7
            subst hv7
            exact W.fin (by decide) (by kernel_rfl) (Weak.sel [] [2] (by kernel_rfl) (by kernel_rfl) (by kernel_rfl))
        · refine W.is 12 hc12 (by kernel_rfl) ?_
          refine W.run D_ok 9 100 (by kernel_rfl) ?_
          have hv7 := Option.some.inj hv7
          subst hv7
          exact W.fin (by decide) (by kernel_rfl) (Weak.sel [] [2] (by kernel_rfl) (by kernel_rfl) (by kernel_rfl))
      ) ?_
  refine CodeOk.ret ?_
  have h := Option.some.inj h
  subst h
  exact Ends.gen [] (.inr rfl) (RetV.one rfl (OneR.tmp (t := 2) (r := V.bool y1) (by kernel_rfl))) (by kernel_rfl) (by kernel_rfl) (by kernel_rfl)

theorem m_impl_IsWordByte_ok (a0 : Int) {r : Bool} (h : m_impl_IsWordByte a0 = some r) :
    AC Tryd.prog (GS []) 127 [V.int a0] [] (V.bool r) [] := by
  rw [m_impl_IsWordByte] at h
  refine AC.enter Tryd.func127 rfl ?_
  refine CodeOk.cutR (tl 9 [(0, V.int a0)]) [] mix (by
      refine W.run D_ok 1 100 (by kernel_rfl) ?_
      exact W.fin (by decide) (by kernel_rfl) (Weak.sel [] [0] (by kernel_rfl) (by kernel_rfl) (by kernel_rfl))
      ) ?_
  obtain ⟨y3, hv4, h⟩ := bind_some h
  refine CodeOk.cutR (tl 9 [(2, V.bool y3)]) [] mix (by
      refine W.run D_ok 1 100 (by kernel_rfl) ?_
      obtain ⟨r4, hx5, hv4⟩ := bind_some hv4
      refine W.call0 (m_impl_IsLetter_ok a0 hx5) cok90 rfl (by kernel_rfl) ?_
      refine W.run D_ok 1 100 (by kernel_rfl) ?_
      rcases cond_some hv4 with ⟨hc6, hv4⟩ | ⟨hc6, hv4⟩
      · refine W.is 5 hc6 (by kernel_rfl) ?_
        refine W.run D_ok 4 100 (by kernel_rfl) ?_
        have hv4 := Option.some.inj hv4
        subst hv4
        exact W.fin (by decide) (by kernel_rfl) (Weak.sel [] [2] (by kernel_rfl) (by kernel_rfl) (by kernel_rfl))
      · refine W.is 5 hc6 (by kernel_rfl) ?_
        refine W.run D_ok 1 100 (by kernel_rfl) ?_
        obtain ⟨r5, hx7, hv4⟩ := bind_some hv4
        refine W.call0 (m_impl_IsDigit_ok a0 hx7) cok89 rfl (by kernel_rfl) ?_
        refine W.run D_ok 2 100 (by kernel_rfl) ?_
        have hv4 := Option.some.inj hv4
        subst hv4
        exact W.fin (by decide) (by kernel_rfl) (Weak.sel [] [2] (by kernel_rfl) (by kernel_rfl) (by kernel_rfl))
      ) ?_
  refine CodeOk.ret ?_
  have h := Option.some.inj h
  subst h
  exact Ends.gen [] (.inr rfl) (RetV.one rfl (OneR.tmp (t := 2) (r := V.bool y3) (by kernel_rfl))) (by kernel_rfl) (by kernel_rfl) (by kernel_rfl)

theorem m_impl_NameShape_ok (N : Nat) (a0 : List UInt8) {r : Bool} (h : m_impl_NameShape N a0 = some r) :
    AC Tryd.prog (GS []) 92 [V.str a0] [] (V.bool r) [] := by
  rw [m_impl_NameShape] at h
  refine AC.enter Tryd.func92 rfl ?_
  refine CodeOk.cutR (tl 25 [(0, V.str a0)]) [] mix (by
      refine W.run D_ok 1 100 (by kernel_rfl) ?_
      exact W.fin (by decide) (by kernel_rfl) (Weak.sel [] [0] (by kernel_rfl) (by kernel_rfl) (by kernel_rfl))
      ) ?_
  refine CodeOk.seq' ?_
  refine CodeOk.cutR (tl 25 [(0, V.str a0), (5, V.int (a0.length : Int)), (6, V.int 0)]) [] mix (by
      refine W.run D_ok 3 100 (by kernel_rfl) ?_
      exact W.fin (by decide) (by kernel_rfl) (Weak.sel [] [0, 5, 6] (by kernel_rfl) (by kernel_rfl) (by kernel_rfl))
      ) ?_
  refine CodeOk.block' ?_
  refine CodeOk.loopJ (fun (⟨a0, y35⟩ : ((List UInt8) × Int)) => ⟨tl 25 [(0, V.str a0), (5, V.int (a0.length : Int)), (6, V.int y35)], []⟩) (fun n i => m_impl_NameShape_l1 N n i = some r) (n0 := N) (i0 := (a0, 0)) (Weak.sel [] [0, 5, 6] (by kernel_rfl) (by kernel_rfl) (by kernel_rfl)) h (fun i h => by simp [m_impl_NameShape_l1] at h) ?_
  rintro n1 ⟨a0, y35⟩ h63 ih64
  rw [m_impl_NameShape_l1] at h63
  refine CodeOk.cutR (tl 25 [(0, V.str a0), (5, V.int (a0.length : Int)), (6, V.int y35), (7, V.bool (decide (y35 < (a0.length : Int))))]) [] mix (by
      refine W.run D_ok 1 160 (by kernel_rfl) ?_
      exact W.fin (by decide) (by kernel_rfl) (Weak.sel [] [0, 5, 6, 7] (by kernel_rfl) (by kernel_rfl) (by kernel_rfl))
      ) ?_
  refine CodeOk.seq' ?_
  rcases cond_some h63 with ⟨hc66, h63⟩ | ⟨hc66, h63⟩
  · refine CodeOk.ifT hc66 (by kernel_rfl) ?_
    refine CodeOk.skip ?_
    refine CodeOk.weak (st' := ⟨tl 25 [(0, V.str a0), (5, V.int (a0.length : Int)), (6, V.int y35), (7, V.bool (decide (y35 < (a0.length : Int))))], []⟩) (Weak.refl _) ?_
    refine CodeOk.seq' ?_
    refine CodeOk.block' ?_
    refine CodeOk.cutR (tl 25 [(0, V.str a0), (3, V.int y35), (5, V.int (a0.length : Int)), (6, V.int y35)]) [] mix (by
        refine W.run D_ok 2 160 (by kernel_rfl) ?_
        exact W.fin (by decide) (by kernel_rfl) (Weak.sel [] [0, 3, 5, 6] (by kernel_rfl) (by kernel_rfl) (by kernel_rfl))
        ) ?_
    obtain ⟨b51, hx74, h63⟩ := bind_some h63
    obtain ⟨r52, hx75, h63⟩ := bind_some h63
    refine CodeOk.cutR (tl 25 [(0, V.str a0), (5, V.int (a0.length : Int)), (6, V.int y35), (14, V.bool (!r52))]) [] mix (by
        refine W.run D_ok 2 160 (by kernel_rfl) ?_
        refine W.ixS D_ok hx74 (by kernel_rfl) ?_
        refine W.run D_ok 1 160 (by kernel_rfl) ?_
        refine W.call0 (m_impl_IsWordByte_ok (IntKind.wrap .i64 ((b51).toNat : Int)) hx75) cok127 rfl (by kernel_rfl) ?_
        refine W.run D_ok 1 160 (by kernel_rfl) ?_
        exact W.fin (by decide) (by kernel_rfl) (Weak.sel [] [0, 5, 6, 14] (by kernel_rfl) (by kernel_rfl) (by kernel_rfl))
        ) ?_
    rcases cond_some h63 with ⟨hc76, h63⟩ | ⟨hc76, h63⟩
    · refine CodeOk.ifT hc76 (by kernel_rfl) ?_
      refine CodeOk.cutR (tl 25 [(2, V.bool false)]) [] mix (by
          refine W.run D_ok 1 160 (by kernel_rfl) ?_
          exact W.fin (by decide) (by kernel_rfl) (Weak.sel [] [2] (by kernel_rfl) (by kernel_rfl) (by kernel_rfl))
          ) ?_
      refine CodeOk.ret ?_
      have h63 := Option.some.inj h63
      subst h63
      exact Ends.gen [] (.inr rfl) (RetV.one rfl (OneR.tmp (t := 2) (r := V.bool false) (by kernel_rfl))) (by kernel_rfl) (by kernel_rfl) (by kernel_rfl)
    · refine CodeOk.ifF hc76 (by kernel_rfl) ?_
      refine CodeOk.skip ?_
      refine CodeOk.weak (st' := ⟨tl 25 [(0, V.str a0), (5, V.int (a0.length : Int)), (6, V.int y35), (14, V.bool (!r52))], []⟩) (Weak.refl _) ?_
      refine CodeOk.endR (tl 25 [(0, V.str a0), (5, V.int (a0.length : Int)), (6, V.int (IntKind.wrap .i64 (y35 + 1)))]) [] mix (by
          refine W.run D_ok 2 160 (by kernel_rfl) ?_
          exact W.fin (by decide) (by kernel_rfl) (Weak.sel [] [0, 5, 6] (by kernel_rfl) (by kernel_rfl) (by kernel_rfl))
          ) (fun st hw => ?_)
      exact ih64 (a0, (IntKind.wrap .i64 (y35 + 1))) h63 _ (hw.trans (Weak.sel [] [0, 5, 6] (by kernel_rfl) (by kernel_rfl) (by kernel_rfl)))
  · refine CodeOk.ifF hc66 (by kernel_rfl) ?_
    refine CodeOk.exit ?_
    refine CodeOk.weak (st' := ⟨tl 25 [(0, V.str a0), (5, V.int (a0.length : Int)), (6, V.int y35), (7, V.bool (decide (y35 < (a0.length : Int))))], []⟩) (Weak.refl _) ?_
    obtain ⟨y56, hv81, h63⟩ := bind_some h63
    refine CodeOk.cutR (tl 25 [(2, V.bool y56)]) [] mix (by
        refine W.run D_ok 2 160 (by kernel_rfl) ?_
        obtain ⟨r57, hx82, hv81⟩ := bind_some hv81
        refine W.call0 (m_impl_within_ok (a0.length : Int) 1 12 hx82) cok52 rfl (by kernel_rfl) ?_
        refine W.run D_ok 1 160 (by kernel_rfl) ?_
        rcases cond_some hv81 with ⟨hc83, hv81⟩ | ⟨hc83, hv81⟩
        · refine W.is 19 hc83 (by kernel_rfl) ?_
          refine W.run D_ok 1 160 (by kernel_rfl) ?_
          obtain ⟨b58, hx84, hv81⟩ := bind_some hv81
          refine W.ixS D_ok hx84 (by kernel_rfl) ?_
          refine W.run D_ok 1 160 (by kernel_rfl) ?_
          obtain ⟨r59, hx85, hv81⟩ := bind_some hv81
          refine W.call0 (m_impl_IsLetter_ok (IntKind.wrap .i64 ((b58).toNat : Int)) hx85) cok90 rfl (by kernel_rfl) ?_
          refine W.run D_ok 2 160 (by kernel_rfl) ?_
          have hv81 := Option.some.inj hv81
          subst hv81
          exact W.fin (by decide) (by kernel_rfl) (Weak.sel [] [2] (by kernel_rfl) (by kernel_rfl) (by kernel_rfl))
        · refine W.is 19 hc83 (by kernel_rfl) ?_
          refine W.run D_ok 6 160 (by kernel_rfl) ?_
          have hv81 := Option.some.inj hv81
          subst hv81
          exact W.fin (by decide) (by kernel_rfl) (Weak.sel [] [2] (by kernel_rfl) (by kernel_rfl) (by kernel_rfl))
        ) ?_
    refine CodeOk.ret ?_
    have h63 := Option.some.inj h63
    subst h63
    exact Ends.gen [] (.inr rfl) (RetV.one rfl (OneR.tmp (t := 2) (r := V.bool y56) (by kernel_rfl))) (by kernel_rfl) (by kernel_rfl) (by kernel_rfl)

theorem m_slices_Index_string_ok (N : Nat) (a0 : List (List UInt8)) (a1 : List UInt8) {r : Int} (h : m_slices_Index_string N a0 a1 = some r) :
    AC Tryd.prog (GS []) 135 [.sl false false (a0.map encS), V.str a1] [] (V.int r) [] := by
  rw [m_slices_Index_string] at h
  refine AC.enter Tryd.func135 rfl ?_
  refine CodeOk.cutR (tl 19 [(0, .sl false false (a0.map encS)), (1, V.str a1)]) [] mix (by
      refine W.run D_ok 1 100 (by kernel_rfl) ?_
      exact W.fin (by decide) (by kernel_rfl) (Weak.sel [] [0, 1] (by kernel_rfl) (by kernel_rfl) (by kernel_rfl))
      ) ?_
  refine CodeOk.seq' ?_
  refine CodeOk.cutR (tl 19 [(0, .sl false false (a0.map encS)), (1, V.str a1), (7, V.int (a0.length : Int)), (8, V.int 0)]) [] mix (by
      refine W.run D_ok 1 100 (by kernel_rfl) ?_
      refine W.len D_ok encS a0 [] (by kernel_rfl) (by kernel_rfl) ?_
      refine W.run D_ok 1 100 (by kernel_rfl) ?_
      exact W.fin (by decide) (by kernel_rfl) (Weak.sel [] [0, 1, 7, 8] (by kernel_rfl) (by kernel_rfl) (by kernel_rfl))
      ) ?_
  refine CodeOk.block' ?_
  refine CodeOk.loopJ (fun (⟨a0, a1, y19⟩ : ((List (List UInt8)) × (List UInt8) × Int)) => ⟨tl 19 [(0, .sl false false (a0.map encS)), (1, V.str a1), (7, V.int (a0.length : Int)), (8, V.int y19)], []⟩) (fun n i => m_slices_Index_string_l1 N n i = some r) (n0 := N) (i0 := (a0, a1, 0)) (Weak.sel [] [0, 1, 7, 8] (by kernel_rfl) (by kernel_rfl) (by kernel_rfl)) h (fun i h => by simp [m_slices_Index_string_l1] at h) ?_
  rintro n1 ⟨a0, a1, y19⟩ h43 ih44
  rw [m_slices_Index_string_l1] at h43
  refine CodeOk.cutR (tl 19 [(0, .sl false false (a0.map encS)), (1, V.str a1), (7, V.int (a0.length : Int)), (8, V.int y19), (9, V.bool (decide (y19 < (a0.length : Int))))]) [] mix (by
      refine W.run D_ok 1 160 (by kernel_rfl) ?_
      exact W.fin (by decide) (by kernel_rfl) (Weak.sel [] [0, 1, 7, 8, 9] (by kernel_rfl) (by kernel_rfl) (by kernel_rfl))
      ) ?_
  refine CodeOk.seq' ?_
  rcases cond_some h43 with ⟨hc46, h43⟩ | ⟨hc46, h43⟩
  · refine CodeOk.ifT hc46 (by kernel_rfl) ?_
    refine CodeOk.skip ?_
    refine CodeOk.weak (st' := ⟨tl 19 [(0, .sl false false (a0.map encS)), (1, V.str a1), (7, V.int (a0.length : Int)), (8, V.int y19), (9, V.bool (decide (y19 < (a0.length : Int))))], []⟩) (Weak.refl _) ?_
    refine CodeOk.seq' ?_
    refine CodeOk.block' ?_
    refine CodeOk.cutR (tl 19 [(0, .sl false false (a0.map encS)), (1, V.str a1), (5, V.int y19), (7, V.int (a0.length : Int)), (8, V.int y19)]) [] mix (by
        refine W.run D_ok 2 160 (by kernel_rfl) ?_
        exact W.fin (by decide) (by kernel_rfl) (Weak.sel [] [0, 1, 5, 7, 8] (by kernel_rfl) (by kernel_rfl) (by kernel_rfl))
        ) ?_
    obtain ⟨e28, hx51, h43⟩ := bind_some h43
    refine CodeOk.cutR (tl 19 [(0, .sl false false (a0.map encS)), (1, V.str a1), (5, V.int y19), (7, V.int (a0.length : Int)), (8, V.int y19), (16, V.bool (a1 == e28))]) [] mix (by
        refine W.run D_ok 3 160 (by kernel_rfl) ?_
        refine W.ixD D_ok encS hx51 1 (by kernel_rfl) (by kernel_rfl) ?_
        refine W.run D_ok 2 160 (by kernel_rfl) ?_
        exact W.fin (by decide) (by kernel_rfl) (Weak.sel [] [0, 1, 5, 7, 8, 16] (by kernel_rfl) (by kernel_rfl) (by kernel_rfl))
        ) ?_
    rcases cond_some h43 with ⟨hc52, h43⟩ | ⟨hc52, h43⟩
    · refine CodeOk.ifT hc52 (by kernel_rfl) ?_
      refine CodeOk.cutR (tl 19 [(4, V.int y19)]) [] mix (by
          refine W.run D_ok 2 160 (by kernel_rfl) ?_
          exact W.fin (by decide) (by kernel_rfl) (Weak.sel [] [4] (by kernel_rfl) (by kernel_rfl) (by kernel_rfl))
          ) ?_
      refine CodeOk.ret ?_
      have h43 := Option.some.inj h43
      subst h43
      exact Ends.gen [] (.inr rfl) (RetV.one rfl (OneR.tmp (t := 4) (r := V.int y19) (by kernel_rfl))) (by kernel_rfl) (by kernel_rfl) (by kernel_rfl)
    · refine CodeOk.ifF hc52 (by kernel_rfl) ?_
      refine CodeOk.skip ?_
      refine CodeOk.weak (st' := ⟨tl 19 [(0, .sl false false (a0.map encS)), (1, V.str a1), (5, V.int y19), (7, V.int (a0.length : Int)), (8, V.int y19), (16, V.bool (a1 == e28))], []⟩) (Weak.refl _) ?_
      refine CodeOk.endR (tl 19 [(0, .sl false false (a0.map encS)), (1, V.str a1), (7, V.int (a0.length : Int)), (8, V.int (IntKind.wrap .i64 (y19 + 1)))]) [] mix (by
          refine W.run D_ok 2 160 (by kernel_rfl) ?_
          exact W.fin (by decide) (by kernel_rfl) (Weak.sel [] [0, 1, 7, 8] (by kernel_rfl) (by kernel_rfl) (by kernel_rfl))
          ) (fun st hw => ?_)
      exact ih44 (a0, a1, (IntKind.wrap .i64 (y19 + 1))) h43 _ (hw.trans (Weak.sel [] [0, 1, 7, 8] (by kernel_rfl) (by kernel_rfl) (by kernel_rfl)))
  · refine CodeOk.ifF hc46 (by kernel_rfl) ?_
    refine CodeOk.exit ?_
    refine CodeOk.weak (st' := ⟨tl 19 [(0, .sl false false (a0.map encS)), (1, V.str a1), (7, V.int (a0.length : Int)), (8, V.int y19), (9, V.bool (decide (y19 < (a0.length : Int))))], []⟩) (Weak.refl _) ?_
    refine CodeOk.cutR (tl 19 [(4, V.int (-1))]) [] mix (by
        refine W.run D_ok 1 160 (by kernel_rfl) ?_
        exact W.fin (by decide) (by kernel_rfl) (Weak.sel [] [4] (by kernel_rfl) (by kernel_rfl) (by kernel_rfl))
        ) ?_
    refine CodeOk.ret ?_
    have h43 := Option.some.inj h43
    subst h43
    exact Ends.gen [] (.inr rfl) (RetV.one rfl (OneR.tmp (t := 4) (r := V.int (-1)) (by kernel_rfl))) (by kernel_rfl) (by kernel_rfl) (by kernel_rfl)

theorem m_impl_KeywordOf_ok (N : Nat) (a0 : List UInt8) {r : Int} (h : m_impl_KeywordOf N a0 = some r) :
    AC Tryd.prog (GS [1]) 121 [V.str a0] [] (V.int r) [] := by
  rw [m_impl_KeywordOf] at h
  refine AC.enter Tryd.func121 rfl ?_
  refine CodeOk.cutR (tl 11 [(0, V.str a0)]) [] mix (by
      refine W.run D_ok 1 100 (by kernel_rfl) ?_
      exact W.fin (by decide) (by kernel_rfl) (Weak.sel [] [0] (by kernel_rfl) (by kernel_rfl) (by kernel_rfl))
      ) ?_
  obtain ⟨r2, hx2, h⟩ := bind_some h
  refine CodeOk.cutR (tl 11 [(3, V.int r2)]) [] mix (by
      refine W.cutG D_ok V.str tab_keywords (by kernel_rfl) ?_
      refine W.run D_ok 1 100 (by kernel_rfl) ?_
      refine W.call0 (AC.gs (m_slices_Index_string_ok N tab_keywords a0 hx2) (by decide)) cok135 rfl (by kernel_rfl) ?_
      refine W.run D_ok 1 100 (by kernel_rfl) ?_
      exact W.fin (by decide) (by kernel_rfl) (Weak.sel [] [3] (by kernel_rfl) (by kernel_rfl) (by kernel_rfl))
      ) ?_
  refine CodeOk.seq' ?_
  refine CodeOk.cutR (tl 11 [(3, V.int r2), (8, V.bool (decide (r2 < 0)))]) [] mix (by
      refine W.run D_ok 2 100 (by kernel_rfl) ?_
      exact W.fin (by decide) (by kernel_rfl) (Weak.sel [] [3, 8] (by kernel_rfl) (by kernel_rfl) (by kernel_rfl))
      ) ?_
  rcases cond_some h with ⟨hc4, h⟩ | ⟨hc4, h⟩
  · refine CodeOk.ifT hc4 (by kernel_rfl) ?_
    refine CodeOk.cutR (tl 11 [(2, V.int 0)]) [] mix (by
        refine W.run D_ok 1 100 (by kernel_rfl) ?_
        exact W.fin (by decide) (by kernel_rfl) (Weak.sel [] [2] (by kernel_rfl) (by kernel_rfl) (by kernel_rfl))
        ) ?_
    refine CodeOk.ret ?_
    have h := Option.some.inj h
    subst h
    exact Ends.gen [] (.inr rfl) (RetV.one rfl (OneR.tmp (t := 2) (r := V.int 0) (by kernel_rfl))) (by kernel_rfl) (by kernel_rfl) (by kernel_rfl)
  · refine CodeOk.ifF hc4 (by kernel_rfl) ?_
    refine CodeOk.skip ?_
    refine CodeOk.weak (st' := ⟨tl 11 [(3, V.int r2), (8, V.bool (decide (r2 < 0)))], []⟩) (Weak.refl _) ?_
    refine CodeOk.cutR (tl 11 [(2, V.int (IntKind.wrap .i64 (10 + r2)))]) [] mix (by
        refine W.run D_ok 3 100 (by kernel_rfl) ?_
        exact W.fin (by decide) (by kernel_rfl) (Weak.sel [] [2] (by kernel_rfl) (by kernel_rfl) (by kernel_rfl))
        ) ?_
    refine CodeOk.ret ?_
    have h := Option.some.inj h
    subst h
    exact Ends.gen [] (.inr rfl) (RetV.one rfl (OneR.tmp (t := 2) (r := V.int (IntKind.wrap .i64 (10 + r2))) (by kernel_rfl))) (by kernel_rfl) (by kernel_rfl) (by kernel_rfl)

theorem m_slices_Contains_string_ok (N : Nat) (a0 : List (List UInt8)) (a1 : List UInt8) {r : Bool} (h : m_slices_Contains_string N a0 a1 = some r) :
    AC Tryd.prog (GS []) 122 [.sl false false (a0.map encS), V.str a1] [] (V.bool r) [] := by
  rw [m_slices_Contains_string] at h
  refine AC.enter Tryd.func122 rfl ?_
  refine CodeOk.cutR (tl 9 [(0, .sl false false (a0.map encS)), (1, V.str a1)]) [] mix (by
      refine W.run D_ok 1 100 (by kernel_rfl) ?_
      exact W.fin (by decide) (by kernel_rfl) (Weak.sel [] [0, 1] (by kernel_rfl) (by kernel_rfl) (by kernel_rfl))
      ) ?_
  obtain ⟨r2, hx2, h⟩ := bind_some h
  refine CodeOk.cutR (tl 9 [(4, V.bool (decide (r2 ≥ 0)))]) [] mix (by
      refine W.run D_ok 2 100 (by kernel_rfl) ?_
      refine W.call0 (m_slices_Index_string_ok N a0 a1 hx2) cok135 rfl (by kernel_rfl) ?_
      refine W.run D_ok 2 100 (by kernel_rfl) ?_
      exact W.fin (by decide) (by kernel_rfl) (Weak.sel [] [4] (by kernel_rfl) (by kernel_rfl) (by kernel_rfl))
      ) ?_
  refine CodeOk.ret ?_
  have h := Option.some.inj h
  subst h
  exact Ends.gen [] (.inr rfl) (RetV.one rfl (OneR.tmp (t := 4) (r := V.bool (decide (r2 ≥ 0))) (by kernel_rfl))) (by kernel_rfl) (by kernel_rfl) (by kernel_rfl)

theorem m_impl_IsBuiltin_ok (N : Nat) (a0 : List UInt8) {r : Bool} (h : m_impl_IsBuiltin N a0 = some r) :
    AC Tryd.prog (GS [0]) 80 [V.str a0] [] (V.bool r) [] := by
  rw [m_impl_IsBuiltin] at h
  refine AC.enter Tryd.func80 rfl ?_
  refine CodeOk.cutR (tl 6 [(0, V.str a0)]) [] mix (by
      refine W.run D_ok 1 100 (by kernel_rfl) ?_
      exact W.fin (by decide) (by kernel_rfl) (Weak.sel [] [0] (by kernel_rfl) (by kernel_rfl) (by kernel_rfl))
      ) ?_
  obtain ⟨r2, hx2, h⟩ := bind_some h
  refine CodeOk.cutR (tl 6 [(2, V.bool r2)]) [] mix (by
      refine W.cutG D_ok V.str tab_builtins (by kernel_rfl) ?_
      refine W.run D_ok 1 100 (by kernel_rfl) ?_
      refine W.call0 (AC.gs (m_slices_Contains_string_ok N tab_builtins a0 hx2) (by decide)) cok122 rfl (by kernel_rfl) ?_
      refine W.run D_ok 1 100 (by kernel_rfl) ?_
      exact W.fin (by decide) (by kernel_rfl) (Weak.sel [] [2] (by kernel_rfl) (by kernel_rfl) (by kernel_rfl))
      ) ?_
  refine CodeOk.ret ?_
  have h := Option.some.inj h
  subst h
  exact Ends.gen [] (.inr rfl) (RetV.one rfl (OneR.tmp (t := 2) (r := V.bool r2) (by kernel_rfl))) (by kernel_rfl) (by kernel_rfl) (by kernel_rfl)

theorem m_impl_NameOk_ok (N : Nat) (a0 : List UInt8) {r : Bool} (h : m_impl_NameOk N a0 = some r) :
    AC Tryd.prog (GS [0, 1]) 79 [V.str a0] [] (V.bool r) [] := by
  rw [m_impl_NameOk] at h
  refine AC.enter Tryd.func79 rfl ?_
  refine CodeOk.cutR (tl 15 [(0, V.str a0)]) [] mix (by
      refine W.run D_ok 1 100 (by kernel_rfl) ?_
      exact W.fin (by decide) (by kernel_rfl) (Weak.sel [] [0] (by kernel_rfl) (by kernel_rfl) (by kernel_rfl))
      ) ?_
  obtain ⟨y4, hv6, h⟩ := bind_some h
  refine CodeOk.cutR (tl 15 [(2, V.bool y4)]) [] mix (by
      refine W.run D_ok 1 100 (by kernel_rfl) ?_
      obtain ⟨r5, hx7, hv6⟩ := bind_some hv6
      refine W.call0 (AC.gs (m_impl_NameShape_ok N a0 hx7) (by decide)) cok92 rfl (by kernel_rfl) ?_
      refine W.run D_ok 1 100 (by kernel_rfl) ?_
      rcases cond_some hv6 with ⟨hc8, hv6⟩ | ⟨hc8, hv6⟩
      · refine W.is 5 hc8 (by kernel_rfl) ?_
        refine W.run D_ok 1 100 (by kernel_rfl) ?_
        obtain ⟨r6, hx9, hv6⟩ := bind_some hv6
        refine W.call0 (AC.gs (m_impl_KeywordOf_ok N a0 hx9) (by decide)) cok121 rfl (by kernel_rfl) ?_
        refine W.run D_ok 3 100 (by kernel_rfl) ?_
        rcases cond_some hv6 with ⟨hc10, hv6⟩ | ⟨hc10, hv6⟩
        · refine W.is 10 hc10 (by kernel_rfl) ?_
          refine W.run D_ok 1 100 (by kernel_rfl) ?_
          obtain ⟨r7, hx11, hv6⟩ := bind_some hv6
          refine W.call0 (AC.gs (m_impl_IsBuiltin_ok N a0 hx11) (by decide)) cok80 rfl (by kernel_rfl) ?_
          refine W.run D_ok 3 100 (by kernel_rfl) ?_
          have hv6 := Option.some.inj hv6
          subst hv6
          exact W.fin (by decide) (by kernel_rfl) (Weak.sel [] [2] (by kernel_rfl) (by kernel_rfl) (by kernel_rfl))
        · refine W.is 10 hc10 (by kernel_rfl) ?_
          refine W.run D_ok 5 100 (by kernel_rfl) ?_
          have hv6 := Option.some.inj hv6
          subst hv6
          exact W.fin (by decide) (by kernel_rfl) (Weak.sel [] [2] (by kernel_rfl) (by kernel_rfl) (by kernel_rfl))
      · refine W.is 5 hc8 (by kernel_rfl) ?_
        refine W.run D_ok 10 100 (by kernel_rfl) ?_
        have hv6 := Option.some.inj hv6
        subst hv6
        exact W.fin (by decide) (by kernel_rfl) (Weak.sel [] [2] (by kernel_rfl) (by kernel_rfl) (by kernel_rfl))
      ) ?_
  refine CodeOk.ret ?_
  have h := Option.some.inj h
  subst h
  exact Ends.gen [] (.inr rfl) (RetV.one rfl (OneR.tmp (t := 2) (r := V.bool y4) (by kernel_rfl))) (by kernel_rfl) (by kernel_rfl) (by kernel_rfl)

theorem m_impl_isKeywordKind_ok (a0 : Int) {r : Bool} (h : m_impl_isKeywordKind a0 = some r) :
    AC Tryd.prog (GS []) 123 [V.int a0] [] (V.bool r) [] := by
  rw [m_impl_isKeywordKind] at h
  refine AC.enter Tryd.func123 rfl ?_
  refine CodeOk.cutR (tl 5 [(0, V.int a0)]) [] mix (by
      refine W.run D_ok 1 100 (by kernel_rfl) ?_
      exact W.fin (by decide) (by kernel_rfl) (Weak.sel [] [0] (by kernel_rfl) (by kernel_rfl) (by kernel_rfl))
      ) ?_
  obtain ⟨r2, hx2, h⟩ := bind_some h
  refine CodeOk.cutR (tl 5 [(2, V.bool r2)]) [] mix (by
      refine W.run D_ok 1 100 (by kernel_rfl) ?_
      refine W.call0 (m_impl_within_ok a0 10 26 hx2) cok52 rfl (by kernel_rfl) ?_
      refine W.run D_ok 1 100 (by kernel_rfl) ?_
      exact W.fin (by decide) (by kernel_rfl) (Weak.sel [] [2] (by kernel_rfl) (by kernel_rfl) (by kernel_rfl))
      ) ?_
  refine CodeOk.ret ?_
  have h := Option.some.inj h
  subst h
  exact Ends.gen [] (.inr rfl) (RetV.one rfl (OneR.tmp (t := 2) (r := V.bool r2) (by kernel_rfl))) (by kernel_rfl) (by kernel_rfl) (by kernel_rfl)

theorem m_impl_isSignKind_ok (a0 : Int) {r : Bool} (h : m_impl_isSignKind a0 = some r) :
    AC Tryd.prog (GS []) 124 [V.int a0] [] (V.bool r) [] := by
  rw [m_impl_isSignKind] at h
  refine AC.enter Tryd.func124 rfl ?_
  refine CodeOk.cutR (tl 5 [(0, V.int a0)]) [] mix (by
      refine W.run D_ok 1 100 (by kernel_rfl) ?_
      exact W.fin (by decide) (by kernel_rfl) (Weak.sel [] [0] (by kernel_rfl) (by kernel_rfl) (by kernel_rfl))
      ) ?_
  obtain ⟨r2, hx2, h⟩ := bind_some h
  refine CodeOk.cutR (tl 5 [(2, V.bool r2)]) [] mix (by
      refine W.run D_ok 1 100 (by kernel_rfl) ?_
      refine W.call0 (m_impl_within_ok a0 30 68 hx2) cok52 rfl (by kernel_rfl) ?_
      refine W.run D_ok 1 100 (by kernel_rfl) ?_
      exact W.fin (by decide) (by kernel_rfl) (Weak.sel [] [2] (by kernel_rfl) (by kernel_rfl) (by kernel_rfl))
      ) ?_
  refine CodeOk.ret ?_
  have h := Option.some.inj h
  subst h
  exact Ends.gen [] (.inr rfl) (RetV.one rfl (OneR.tmp (t := 2) (r := V.bool r2) (by kernel_rfl))) (by kernel_rfl) (by kernel_rfl) (by kernel_rfl)

theorem m_impl_SpellOf_ok (a0 : Int) {r : (List UInt8)} (h : m_impl_SpellOf a0 = some r) :
    AC Tryd.prog (GS [1, 2]) 81 [V.int a0] [] (V.str r) [] := by
  rw [m_impl_SpellOf] at h
  refine AC.enter Tryd.func81 rfl ?_
  refine CodeOk.cutR (tl 20 [(0, V.int a0)]) [] mix (by
      refine W.run D_ok 1 100 (by kernel_rfl) ?_
      exact W.fin (by decide) (by kernel_rfl) (Weak.sel [] [0] (by kernel_rfl) (by kernel_rfl) (by kernel_rfl))
      ) ?_
  refine CodeOk.seq' ?_
  refine CodeOk.block' ?_
  refine CodeOk.cutR (tl 20 [(0, V.int a0), (3, V.bool (a0 == 1))]) [] mix (by
      refine W.run D_ok 3 100 (by kernel_rfl) ?_
      exact W.fin (by decide) (by kernel_rfl) (Weak.sel [] [0, 3] (by kernel_rfl) (by kernel_rfl) (by kernel_rfl))
      ) ?_
  rcases cond_some h with ⟨hc12, h⟩ | ⟨hc12, h⟩
  · refine CodeOk.ifT hc12 (by kernel_rfl) ?_
    refine CodeOk.cutR (tl 20 [(2, V.str [10])]) [] mix (by
        refine W.run D_ok 1 100 (by kernel_rfl) ?_
        exact W.fin (by decide) (by kernel_rfl) (Weak.sel [] [2] (by kernel_rfl) (by kernel_rfl) (by kernel_rfl))
        ) ?_
    refine CodeOk.ret ?_
    have h := Option.some.inj h
    subst h
    exact Ends.gen [] (.inr rfl) (RetV.one rfl (OneR.tmp (t := 2) (r := V.str [10]) (by kernel_rfl))) (by kernel_rfl) (by kernel_rfl) (by kernel_rfl)
  · refine CodeOk.ifF hc12 (by kernel_rfl) ?_
    obtain ⟨r10, hx14, h⟩ := bind_some h
    refine CodeOk.cutR (tl 20 [(0, V.int a0), (6, V.bool r10)]) [] mix (by
        refine W.run D_ok 1 100 (by kernel_rfl) ?_
        refine W.call0 (AC.gs (m_impl_isKeywordKind_ok a0 hx14) (by decide)) cok123 rfl (by kernel_rfl) ?_
        refine W.run D_ok 1 100 (by kernel_rfl) ?_
        exact W.fin (by decide) (by kernel_rfl) (Weak.sel [] [0, 6] (by kernel_rfl) (by kernel_rfl) (by kernel_rfl))
        ) ?_
    rcases cond_some h with ⟨hc15, h⟩ | ⟨hc15, h⟩
    · refine CodeOk.ifT hc15 (by kernel_rfl) ?_
      obtain ⟨e12, hx17, h⟩ := bind_some h
      refine CodeOk.cutR (tl 20 [(2, V.str e12)]) [] mix (by
          refine W.run D_ok 2 100 (by kernel_rfl) ?_
          refine W.ixG D_ok V.str (l := tab_keywords) hx17 (by kernel_rfl) ?_
          refine W.run D_ok 2 100 (by kernel_rfl) ?_
          exact W.fin (by decide) (by kernel_rfl) (Weak.sel [] [2] (by kernel_rfl) (by kernel_rfl) (by kernel_rfl))
          ) ?_
      refine CodeOk.ret ?_
      have h := Option.some.inj h
      subst h
      exact Ends.gen [] (.inr rfl) (RetV.one rfl (OneR.tmp (t := 2) (r := V.str e12) (by kernel_rfl))) (by kernel_rfl) (by kernel_rfl) (by kernel_rfl)
    · refine CodeOk.ifF hc15 (by kernel_rfl) ?_
      obtain ⟨r14, hx19, h⟩ := bind_some h
      refine CodeOk.cutR (tl 20 [(0, V.int a0), (13, V.bool r14)]) [] mix (by
          refine W.run D_ok 1 100 (by kernel_rfl) ?_
          refine W.call0 (AC.gs (m_impl_isSignKind_ok a0 hx19) (by decide)) cok124 rfl (by kernel_rfl) ?_
          refine W.run D_ok 1 100 (by kernel_rfl) ?_
          exact W.fin (by decide) (by kernel_rfl) (Weak.sel [] [0, 13] (by kernel_rfl) (by kernel_rfl) (by kernel_rfl))
          ) ?_
      rcases cond_some h with ⟨hc20, h⟩ | ⟨hc20, h⟩
      · refine CodeOk.ifT hc20 (by kernel_rfl) ?_
        obtain ⟨e16, hx22, h⟩ := bind_some h
        refine CodeOk.cutR (tl 20 [(2, V.str e16)]) [] mix (by
            refine W.run D_ok 2 100 (by kernel_rfl) ?_
            refine W.ixG D_ok V.str (l := tab_signs) hx22 (by kernel_rfl) ?_
            refine W.run D_ok 2 100 (by kernel_rfl) ?_
            exact W.fin (by decide) (by kernel_rfl) (Weak.sel [] [2] (by kernel_rfl) (by kernel_rfl) (by kernel_rfl))
            ) ?_
        refine CodeOk.ret ?_
        have h := Option.some.inj h
        subst h
        exact Ends.gen [] (.inr rfl) (RetV.one rfl (OneR.tmp (t := 2) (r := V.str e16) (by kernel_rfl))) (by kernel_rfl) (by kernel_rfl) (by kernel_rfl)
      · refine CodeOk.ifF hc20 (by kernel_rfl) ?_
        refine CodeOk.skip ?_
        refine CodeOk.weak (st' := ⟨tl 20 [(0, V.int a0), (13, V.bool r14)], []⟩) (Weak.refl _) ?_
        refine CodeOk.cutR (tl 20 [(2, V.str [])]) [] mix (by
            refine W.run D_ok 1 100 (by kernel_rfl) ?_
            exact W.fin (by decide) (by kernel_rfl) (Weak.sel [] [2] (by kernel_rfl) (by kernel_rfl) (by kernel_rfl))
            ) ?_
        refine CodeOk.ret ?_
        have h := Option.some.inj h
        subst h
        exact Ends.gen [] (.inr rfl) (RetV.one rfl (OneR.tmp (t := 2) (r := V.str []) (by kernel_rfl))) (by kernel_rfl) (by kernel_rfl) (by kernel_rfl)

theorem m_impl_TokenOk_ok (N : Nat) (a0 : SToken) {r : Bool} (h : m_impl_TokenOk N a0 = some r) :
    AC Tryd.prog (GS [0, 1, 2]) 46 [.agg [V.int a0.Kind, V.str a0.Text, V.int a0.At]] [] (V.bool r) [] := by
  rw [m_impl_TokenOk] at h
  refine AC.enter Tryd.func46 rfl ?_
  refine CodeOk.cutR (tl 64 [(1, .loc 100 0)]) [(100, .cells 46 [V.int a0.Kind, V.str a0.Text, V.int a0.At])] mix (by
      refine W.run D_ok 2 100 (by kernel_rfl) ?_
      exact W.fin (by decide) (by kernel_rfl) (Weak.sel [(100, 100)] [1] (by kernel_rfl) (by kernel_rfl) (by kernel_rfl))
      ) ?_
  refine CodeOk.seq' ?_
  refine CodeOk.cutR (tl 64 [(1, .loc 100 0), (5, V.bool (a0.Text == []))]) [(100, .cells 46 [V.int a0.Kind, V.str a0.Text, V.int a0.At])] mix (by
      refine W.run D_ok 3 101 (by kernel_rfl) ?_
      exact W.fin (by decide) (by kernel_rfl) (Weak.sel [(100, 100)] [1, 5] (by kernel_rfl) (by kernel_rfl) (by kernel_rfl))
      ) ?_
  rcases cond_some h with ⟨hc2, h⟩ | ⟨hc2, h⟩
  · refine CodeOk.ifT hc2 (by kernel_rfl) ?_
    refine CodeOk.cutR (tl 64 [(2, V.bool false)]) [] mix (by
        refine W.run D_ok 1 101 (by kernel_rfl) ?_
        exact W.fin (by decide) (by kernel_rfl) (Weak.sel [] [2] (by kernel_rfl) (by kernel_rfl) (by kernel_rfl))
        ) ?_
    refine CodeOk.ret ?_
    have h := Option.some.inj h
    subst h
    exact Ends.gen [] (.inr rfl) (RetV.one rfl (OneR.tmp (t := 2) (r := V.bool false) (by kernel_rfl))) (by kernel_rfl) (by kernel_rfl) (by kernel_rfl)
  · refine CodeOk.ifF hc2 (by kernel_rfl) ?_
    refine CodeOk.skip ?_
    refine CodeOk.weak (st' := ⟨tl 64 [(1, .loc 100 0), (5, V.bool (a0.Text == []))], [(100, .cells 46 [V.int a0.Kind, V.str a0.Text, V.int a0.At])]⟩) (Weak.refl _) ?_
    refine CodeOk.seq' ?_
    refine CodeOk.cutR (tl 64 [(1, .loc 100 0), (7, V.int a0.Kind)]) [(100, .cells 46 [V.int a0.Kind, V.str a0.Text, V.int a0.At])] mix (by
        refine W.run D_ok 2 101 (by kernel_rfl) ?_
        exact W.fin (by decide) (by kernel_rfl) (Weak.sel [(100, 100)] [1, 7] (by kernel_rfl) (by kernel_rfl) (by kernel_rfl))
        ) ?_
    refine CodeOk.block' ?_
    refine CodeOk.cutR (tl 64 [(1, .loc 100 0), (7, V.int a0.Kind), (8, V.bool (a0.Kind == 2))]) [(100, .cells 46 [V.int a0.Kind, V.str a0.Text, V.int a0.At])] mix (by
        refine W.run D_ok 2 101 (by kernel_rfl) ?_
        exact W.fin (by decide) (by kernel_rfl) (Weak.sel [(100, 100)] [1, 7, 8] (by kernel_rfl) (by kernel_rfl) (by kernel_rfl))
        ) ?_
    rcases cond_some h with ⟨hc30, h⟩ | ⟨hc30, h⟩
    · refine CodeOk.ifT hc30 (by kernel_rfl) ?_
      obtain ⟨y19, hv34, h⟩ := bind_some h
      refine CodeOk.cutR (tl 64 [(2, V.bool y19)]) [] mix (by
          refine W.run D_ok 2 101 (by kernel_rfl) ?_
          obtain ⟨b20, hx35, hv34⟩ := bind_some hv34
          refine W.ixS D_ok hx35 (by kernel_rfl) ?_
          refine W.run D_ok 2 101 (by kernel_rfl) ?_
          rcases cond_some hv34 with ⟨hc36, hv34⟩ | ⟨hc36, hv34⟩
          · refine W.is 14 hc36 (by kernel_rfl) ?_
            refine W.run D_ok 2 101 (by kernel_rfl) ?_
            obtain ⟨r21, hx37, hv34⟩ := bind_some hv34
            refine W.call0 (AC.gs (m_strings_Contains_ok a0.Text hx37) (by decide)) cok75 rfl (by kernel_rfl) ?_
            refine W.run D_ok 3 101 (by kernel_rfl) ?_
            have hv34 := Option.some.inj hv34
            subst hv34
            exact W.fin (by decide) (by kernel_rfl) (Weak.sel [] [2] (by kernel_rfl) (by kernel_rfl) (by kernel_rfl))
          · refine W.is 14 hc36 (by kernel_rfl) ?_
            refine W.run D_ok 6 101 (by kernel_rfl) ?_
            have hv34 := Option.some.inj hv34
            subst hv34
            exact W.fin (by decide) (by kernel_rfl) (Weak.sel [] [2] (by kernel_rfl) (by kernel_rfl) (by kernel_rfl))
          ) ?_
      refine CodeOk.ret ?_
      have h := Option.some.inj h
      subst h
      exact Ends.gen [] (.inr rfl) (RetV.one rfl (OneR.tmp (t := 2) (r := V.bool y19) (by kernel_rfl))) (by kernel_rfl) (by kernel_rfl) (by kernel_rfl)
    · refine CodeOk.ifF hc30 (by kernel_rfl) ?_
      refine CodeOk.cutR (tl 64 [(1, .loc 100 0), (7, V.int a0.Kind), (20, V.bool (a0.Kind == 3))]) [(100, .cells 46 [V.int a0.Kind, V.str a0.Text, V.int a0.At])] mix (by
          refine W.run D_ok 2 101 (by kernel_rfl) ?_
          exact W.fin (by decide) (by kernel_rfl) (Weak.sel [(100, 100)] [1, 7, 20] (by kernel_rfl) (by kernel_rfl) (by kernel_rfl))
          ) ?_
      rcases cond_some h with ⟨hc38, h⟩ | ⟨hc38, h⟩
      · refine CodeOk.ifT hc38 (by kernel_rfl) ?_
        obtain ⟨r23, hx40, h⟩ := bind_some h
        refine CodeOk.cutR (tl 64 [(2, V.bool (r23 == (a0.Text.length : Int)))]) [] mix (by
            refine W.run D_ok 2 101 (by kernel_rfl) ?_
            refine W.call0 (AC.gs (m_impl_NumEnd_ok N a0.Text 0 hx40) (by decide)) cok76 rfl (by kernel_rfl) ?_
            refine W.run D_ok 5 101 (by kernel_rfl) ?_
            exact W.fin (by decide) (by kernel_rfl) (Weak.sel [] [2] (by kernel_rfl) (by kernel_rfl) (by kernel_rfl))
            ) ?_
        refine CodeOk.ret ?_
        have h := Option.some.inj h
        subst h
        exact Ends.gen [] (.inr rfl) (RetV.one rfl (OneR.tmp (t := 2) (r := V.bool (r23 == (a0.Text.length : Int))) (by kernel_rfl))) (by kernel_rfl) (by kernel_rfl) (by kernel_rfl)
      · refine CodeOk.ifF hc38 (by kernel_rfl) ?_
        refine CodeOk.cutR (tl 64 [(1, .loc 100 0), (7, V.int a0.Kind), (29, V.bool (a0.Kind == 4))]) [(100, .cells 46 [V.int a0.Kind, V.str a0.Text, V.int a0.At])] mix (by
            refine W.run D_ok 2 101 (by kernel_rfl) ?_
            exact W.fin (by decide) (by kernel_rfl) (Weak.sel [(100, 100)] [1, 7, 29] (by kernel_rfl) (by kernel_rfl) (by kernel_rfl))
            ) ?_
        rcases cond_some h with ⟨hc41, h⟩ | ⟨hc41, h⟩
        · refine CodeOk.ifT hc41 (by kernel_rfl) ?_
          obtain ⟨r25, hx43, h⟩ := bind_some h
          refine CodeOk.cutR (tl 64 [(2, V.bool (r25 == (a0.Text.length : Int)))]) [] mix (by
              refine W.run D_ok 2 101 (by kernel_rfl) ?_
              refine W.call0 (AC.gs (m_impl_StrEnd_ok N a0.Text 0 hx43) (by decide)) cok77 rfl (by kernel_rfl) ?_
              refine W.run D_ok 5 101 (by kernel_rfl) ?_
              exact W.fin (by decide) (by kernel_rfl) (Weak.sel [] [2] (by kernel_rfl) (by kernel_rfl) (by kernel_rfl))
              ) ?_
          refine CodeOk.ret ?_
          have h := Option.some.inj h
          subst h
          exact Ends.gen [] (.inr rfl) (RetV.one rfl (OneR.tmp (t := 2) (r := V.bool (r25 == (a0.Text.length : Int))) (by kernel_rfl))) (by kernel_rfl) (by kernel_rfl) (by kernel_rfl)
        · refine CodeOk.ifF hc41 (by kernel_rfl) ?_
          refine CodeOk.cutR (tl 64 [(1, .loc 100 0), (7, V.int a0.Kind), (38, V.bool (a0.Kind == 5))]) [(100, .cells 46 [V.int a0.Kind, V.str a0.Text, V.int a0.At])] mix (by
              refine W.run D_ok 2 101 (by kernel_rfl) ?_
              exact W.fin (by decide) (by kernel_rfl) (Weak.sel [(100, 100)] [1, 7, 38] (by kernel_rfl) (by kernel_rfl) (by kernel_rfl))
              ) ?_
          rcases cond_some h with ⟨hc44, h⟩ | ⟨hc44, h⟩
          · refine CodeOk.ifT hc44 (by kernel_rfl) ?_
            obtain ⟨r27, hx46, h⟩ := bind_some h
            refine CodeOk.cutR (tl 64 [(2, V.bool (r27 == (a0.Text.length : Int)))]) [] mix (by
                refine W.run D_ok 2 101 (by kernel_rfl) ?_
                refine W.call0 (AC.gs (m_impl_EreEnd_ok N a0.Text 0 hx46) (by decide)) cok78 rfl (by kernel_rfl) ?_
                refine W.run D_ok 5 101 (by kernel_rfl) ?_
                exact W.fin (by decide) (by kernel_rfl) (Weak.sel [] [2] (by kernel_rfl) (by kernel_rfl) (by kernel_rfl))
                ) ?_
            refine CodeOk.ret ?_
            have h := Option.some.inj h
            subst h
            exact Ends.gen [] (.inr rfl) (RetV.one rfl (OneR.tmp (t := 2) (r := V.bool (r27 == (a0.Text.length : Int))) (by kernel_rfl))) (by kernel_rfl) (by kernel_rfl) (by kernel_rfl)
          · refine CodeOk.ifF hc44 (by kernel_rfl) ?_
            refine CodeOk.join (fun (⟨a0, y28⟩ : (SToken × Bool)) => ⟨tl 64 [(1, .loc 100 0), (7, V.int a0.Kind), (47, V.bool y28)], [(100, .cells 46 [V.int a0.Kind, V.str a0.Text, V.int a0.At])]⟩) (fun i => m_impl_TokenOk_k1 N i = some r) ?_ ?_
            · rintro ⟨a0, y28⟩ h48
              rw [m_impl_TokenOk_k1] at h48
              rcases cond_some h48 with ⟨hc49, h48⟩ | ⟨hc49, h48⟩
              · refine CodeOk.ifT hc49 (by kernel_rfl) ?_
                obtain ⟨r30, hx51, h48⟩ := bind_some h48
                refine CodeOk.cutR (tl 64 [(2, V.bool r30)]) [] mix (by
                    refine W.run D_ok 2 101 (by kernel_rfl) ?_
                    refine W.call0 (AC.gs (m_impl_NameOk_ok N a0.Text hx51) (by decide)) cok79 rfl (by kernel_rfl) ?_
                    refine W.run D_ok 1 101 (by kernel_rfl) ?_
                    exact W.fin (by decide) (by kernel_rfl) (Weak.sel [] [2] (by kernel_rfl) (by kernel_rfl) (by kernel_rfl))
                    ) ?_
                refine CodeOk.ret ?_
                have h48 := Option.some.inj h48
                subst h48
                exact Ends.gen [] (.inr rfl) (RetV.one rfl (OneR.tmp (t := 2) (r := V.bool r30) (by kernel_rfl))) (by kernel_rfl) (by kernel_rfl) (by kernel_rfl)
              · refine CodeOk.ifF hc49 (by kernel_rfl) ?_
                refine CodeOk.cutR (tl 64 [(1, .loc 100 0), (53, V.bool (a0.Kind == 8))]) [(100, .cells 46 [V.int a0.Kind, V.str a0.Text, V.int a0.At])] mix (by
                    refine W.run D_ok 2 101 (by kernel_rfl) ?_
                    exact W.fin (by decide) (by kernel_rfl) (Weak.sel [(100, 100)] [1, 53] (by kernel_rfl) (by kernel_rfl) (by kernel_rfl))
                    ) ?_
                rcases cond_some h48 with ⟨hc52, h48⟩ | ⟨hc52, h48⟩
                · refine CodeOk.ifT hc52 (by kernel_rfl) ?_
                  obtain ⟨r32, hx54, h48⟩ := bind_some h48
                  refine CodeOk.cutR (tl 64 [(2, V.bool r32)]) [] mix (by
                      refine W.run D_ok 2 101 (by kernel_rfl) ?_
                      refine W.call0 (AC.gs (m_impl_IsBuiltin_ok N a0.Text hx54) (by decide)) cok80 rfl (by kernel_rfl) ?_
                      refine W.run D_ok 1 101 (by kernel_rfl) ?_
                      exact W.fin (by decide) (by kernel_rfl) (Weak.sel [] [2] (by kernel_rfl) (by kernel_rfl) (by kernel_rfl))
                      ) ?_
                  refine CodeOk.ret ?_
                  have h48 := Option.some.inj h48
                  subst h48
                  exact Ends.gen [] (.inr rfl) (RetV.one rfl (OneR.tmp (t := 2) (r := V.bool r32) (by kernel_rfl))) (by kernel_rfl) (by kernel_rfl) (by kernel_rfl)
                · refine CodeOk.ifF hc52 (by kernel_rfl) ?_
                  refine CodeOk.skip ?_
                  refine CodeOk.weak (st' := ⟨tl 64 [(1, .loc 100 0), (53, V.bool (a0.Kind == 8))], [(100, .cells 46 [V.int a0.Kind, V.str a0.Text, V.int a0.At])]⟩) (Weak.refl _) ?_
                  obtain ⟨r34, hx56, h48⟩ := bind_some h48
                  refine CodeOk.cutR (tl 64 [(2, V.bool (a0.Text == r34))]) [] mix (by
                      refine W.run D_ok 4 101 (by kernel_rfl) ?_
                      refine W.call0 (AC.gs (m_impl_SpellOf_ok a0.Kind hx56) (by decide)) cok81 rfl (by kernel_rfl) ?_
                      refine W.run D_ok 2 101 (by kernel_rfl) ?_
                      exact W.fin (by decide) (by kernel_rfl) (Weak.sel [] [2] (by kernel_rfl) (by kernel_rfl) (by kernel_rfl))
                      ) ?_
                  refine CodeOk.ret ?_
                  have h48 := Option.some.inj h48
                  subst h48
                  exact Ends.gen [] (.inr rfl) (RetV.one rfl (OneR.tmp (t := 2) (r := V.bool (a0.Text == r34)) (by kernel_rfl))) (by kernel_rfl) (by kernel_rfl) (by kernel_rfl)
            intro hk57
            refine CodeOk.cutR (tl 64 [(1, .loc 100 0), (7, V.int a0.Kind), (47, V.bool (a0.Kind == 6))]) [(100, .cells 46 [V.int a0.Kind, V.str a0.Text, V.int a0.At])] mix (by
                refine W.run D_ok 2 101 (by kernel_rfl) ?_
                exact W.fin (by decide) (by kernel_rfl) (Weak.sel [(100, 100)] [1, 7, 47] (by kernel_rfl) (by kernel_rfl) (by kernel_rfl))
                ) ?_
            rcases cond_some h with ⟨hc58, h⟩ | ⟨hc58, h⟩
            · refine CodeOk.ifT hc58 (by kernel_rfl) ?_
              refine CodeOk.skip ?_
              exact hk57 (a0, (a0.Kind == 6)) h _ (Weak.sel [(100, 100)] [1, 7, 47] (by kernel_rfl) (by kernel_rfl) (by kernel_rfl))
            · refine CodeOk.ifF hc58 (by kernel_rfl) ?_
              refine CodeOk.endR (tl 64 [(1, .loc 100 0), (7, V.int a0.Kind), (47, V.bool (a0.Kind == 7))]) [(100, .cells 46 [V.int a0.Kind, V.str a0.Text, V.int a0.At])] mix (by
                  refine W.run D_ok 2 101 (by kernel_rfl) ?_
                  exact W.fin (by decide) (by kernel_rfl) (Weak.sel [(100, 100)] [1, 7, 47] (by kernel_rfl) (by kernel_rfl) (by kernel_rfl))
                  ) (fun st hw => ?_)
              exact hk57 (a0, (a0.Kind == 7)) h _ (hw.trans (Weak.sel [(100, 100)] [1, 7, 47] (by kernel_rfl) (by kernel_rfl) (by kernel_rfl)))

theorem m_impl_EndsOperand_ok (a0 : Int) {r : Bool} (h : m_impl_EndsOperand a0 = some r) :
    AC Tryd.prog (GS []) 47 [V.int a0] [] (V.bool r) [] := by
  rw [m_impl_EndsOperand] at h
  refine AC.enter Tryd.func47 rfl ?_
  refine CodeOk.cutR (tl 14 [(0, V.int a0)]) [] mix (by
      refine W.run D_ok 1 100 (by kernel_rfl) ?_
      exact W.fin (by decide) (by kernel_rfl) (Weak.sel [] [0] (by kernel_rfl) (by kernel_rfl) (by kernel_rfl))
      ) ?_
  refine CodeOk.seq' ?_
  refine CodeOk.cutR (tl 14 [(3, V.int a0)]) [] mix (by
      refine W.run D_ok 1 100 (by kernel_rfl) ?_
      exact W.fin (by decide) (by kernel_rfl) (Weak.sel [] [3] (by kernel_rfl) (by kernel_rfl) (by kernel_rfl))
      ) ?_
  refine CodeOk.block' ?_
  refine CodeOk.join (fun (y2 : Bool) => ⟨tl 14 [(4, V.bool y2)], []⟩) (fun i => m_impl_EndsOperand_k1 i = some r) ?_ ?_
  · rintro y2 h28
    rw [m_impl_EndsOperand_k1] at h28
    rcases cond_some h28 with ⟨hc29, h28⟩ | ⟨hc29, h28⟩
    · refine CodeOk.ifT hc29 (by kernel_rfl) ?_
      refine CodeOk.cutR (tl 14 [(2, V.bool true)]) [] mix (by
          refine W.run D_ok 1 100 (by kernel_rfl) ?_
          exact W.fin (by decide) (by kernel_rfl) (Weak.sel [] [2] (by kernel_rfl) (by kernel_rfl) (by kernel_rfl))
          ) ?_
      refine CodeOk.ret ?_
      have h28 := Option.some.inj h28
      subst h28
      exact Ends.gen [] (.inr rfl) (RetV.one rfl (OneR.tmp (t := 2) (r := V.bool true) (by kernel_rfl))) (by kernel_rfl) (by kernel_rfl) (by kernel_rfl)
    · refine CodeOk.ifF hc29 (by kernel_rfl) ?_
      refine CodeOk.skip ?_
      refine CodeOk.weak (st' := ⟨tl 14 [(4, V.bool y2)], []⟩) (Weak.refl _) ?_
      refine CodeOk.cutR (tl 14 [(2, V.bool false)]) [] mix (by
          refine W.run D_ok 1 100 (by kernel_rfl) ?_
          exact W.fin (by decide) (by kernel_rfl) (Weak.sel [] [2] (by kernel_rfl) (by kernel_rfl) (by kernel_rfl))
          ) ?_
      refine CodeOk.ret ?_
      have h28 := Option.some.inj h28
      subst h28
      exact Ends.gen [] (.inr rfl) (RetV.one rfl (OneR.tmp (t := 2) (r := V.bool false) (by kernel_rfl))) (by kernel_rfl) (by kernel_rfl) (by kernel_rfl)
  intro hk30
  refine CodeOk.cutR (tl 14 [(3, V.int a0), (4, V.bool (a0 == 3))]) [] mix (by
      refine W.run D_ok 2 100 (by kernel_rfl) ?_
      exact W.fin (by decide) (by kernel_rfl) (Weak.sel [] [3, 4] (by kernel_rfl) (by kernel_rfl) (by kernel_rfl))
      ) ?_
  rcases cond_some h with ⟨hc31, h⟩ | ⟨hc31, h⟩
  · refine CodeOk.ifT hc31 (by kernel_rfl) ?_
    refine CodeOk.skip ?_
    exact hk30 (a0 == 3) h _ (Weak.sel [] [4] (by kernel_rfl) (by kernel_rfl) (by kernel_rfl))
  · refine CodeOk.ifF hc31 (by kernel_rfl) ?_
    refine CodeOk.cutR (tl 14 [(3, V.int a0), (4, V.bool (a0 == 4))]) [] mix (by
        refine W.run D_ok 2 100 (by kernel_rfl) ?_
        exact W.fin (by decide) (by kernel_rfl) (Weak.sel [] [3, 4] (by kernel_rfl) (by kernel_rfl) (by kernel_rfl))
        ) ?_
    rcases cond_some h with ⟨hc32, h⟩ | ⟨hc32, h⟩
    · refine CodeOk.ifT hc32 (by kernel_rfl) ?_
      refine CodeOk.skip ?_
      exact hk30 (a0 == 4) h _ (Weak.sel [] [4] (by kernel_rfl) (by kernel_rfl) (by kernel_rfl))
    · refine CodeOk.ifF hc32 (by kernel_rfl) ?_
      refine CodeOk.cutR (tl 14 [(3, V.int a0), (4, V.bool (a0 == 5))]) [] mix (by
          refine W.run D_ok 2 100 (by kernel_rfl) ?_
          exact W.fin (by decide) (by kernel_rfl) (Weak.sel [] [3, 4] (by kernel_rfl) (by kernel_rfl) (by kernel_rfl))
          ) ?_
      rcases cond_some h with ⟨hc33, h⟩ | ⟨hc33, h⟩
      · refine CodeOk.ifT hc33 (by kernel_rfl) ?_
        refine CodeOk.skip ?_
        exact hk30 (a0 == 5) h _ (Weak.sel [] [4] (by kernel_rfl) (by kernel_rfl) (by kernel_rfl))
      · refine CodeOk.ifF hc33 (by kernel_rfl) ?_
        refine CodeOk.cutR (tl 14 [(3, V.int a0), (4, V.bool (a0 == 6))]) [] mix (by
            refine W.run D_ok 2 100 (by kernel_rfl) ?_
            exact W.fin (by decide) (by kernel_rfl) (Weak.sel [] [3, 4] (by kernel_rfl) (by kernel_rfl) (by kernel_rfl))
            ) ?_
        rcases cond_some h with ⟨hc34, h⟩ | ⟨hc34, h⟩
        · refine CodeOk.ifT hc34 (by kernel_rfl) ?_
          refine CodeOk.skip ?_
          exact hk30 (a0 == 6) h _ (Weak.sel [] [4] (by kernel_rfl) (by kernel_rfl) (by kernel_rfl))
        · refine CodeOk.ifF hc34 (by kernel_rfl) ?_
          refine CodeOk.cutR (tl 14 [(3, V.int a0), (4, V.bool (a0 == 8))]) [] mix (by
              refine W.run D_ok 2 100 (by kernel_rfl) ?_
              exact W.fin (by decide) (by kernel_rfl) (Weak.sel [] [3, 4] (by kernel_rfl) (by kernel_rfl) (by kernel_rfl))
              ) ?_
          rcases cond_some h with ⟨hc35, h⟩ | ⟨hc35, h⟩
          · refine CodeOk.ifT hc35 (by kernel_rfl) ?_
            refine CodeOk.skip ?_
            exact hk30 (a0 == 8) h _ (Weak.sel [] [4] (by kernel_rfl) (by kernel_rfl) (by kernel_rfl))
          · refine CodeOk.ifF hc35 (by kernel_rfl) ?_
            refine CodeOk.cutR (tl 14 [(3, V.int a0), (4, V.bool (a0 == 33))]) [] mix (by
                refine W.run D_ok 2 100 (by kernel_rfl) ?_
                exact W.fin (by decide) (by kernel_rfl) (Weak.sel [] [3, 4] (by kernel_rfl) (by kernel_rfl) (by kernel_rfl))
                ) ?_
            rcases cond_some h with ⟨hc36, h⟩ | ⟨hc36, h⟩
            · refine CodeOk.ifT hc36 (by kernel_rfl) ?_
              refine CodeOk.skip ?_
              exact hk30 (a0 == 33) h _ (Weak.sel [] [4] (by kernel_rfl) (by kernel_rfl) (by kernel_rfl))
            · refine CodeOk.ifF hc36 (by kernel_rfl) ?_
              refine CodeOk.cutR (tl 14 [(3, V.int a0), (4, V.bool (a0 == 35))]) [] mix (by
                  refine W.run D_ok 2 100 (by kernel_rfl) ?_
                  exact W.fin (by decide) (by kernel_rfl) (Weak.sel [] [3, 4] (by kernel_rfl) (by kernel_rfl) (by kernel_rfl))
                  ) ?_
              rcases cond_some h with ⟨hc37, h⟩ | ⟨hc37, h⟩
              · refine CodeOk.ifT hc37 (by kernel_rfl) ?_
                refine CodeOk.skip ?_
                exact hk30 (a0 == 35) h _ (Weak.sel [] [4] (by kernel_rfl) (by kernel_rfl) (by kernel_rfl))
              · refine CodeOk.ifF hc37 (by kernel_rfl) ?_
                refine CodeOk.cutR (tl 14 [(3, V.int a0), (4, V.bool (a0 == 51))]) [] mix (by
                    refine W.run D_ok 2 100 (by kernel_rfl) ?_
                    exact W.fin (by decide) (by kernel_rfl) (Weak.sel [] [3, 4] (by kernel_rfl) (by kernel_rfl) (by kernel_rfl))
                    ) ?_
                rcases cond_some h with ⟨hc38, h⟩ | ⟨hc38, h⟩
                · refine CodeOk.ifT hc38 (by kernel_rfl) ?_
                  refine CodeOk.skip ?_
                  exact hk30 (a0 == 51) h _ (Weak.sel [] [4] (by kernel_rfl) (by kernel_rfl) (by kernel_rfl))
                · refine CodeOk.ifF hc38 (by kernel_rfl) ?_
                  refine CodeOk.endR (tl 14 [(4, V.bool (a0 == 52))]) [] mix (by
                      refine W.run D_ok 2 100 (by kernel_rfl) ?_
                      exact W.fin (by decide) (by kernel_rfl) (Weak.sel [] [4] (by kernel_rfl) (by kernel_rfl) (by kernel_rfl))
                      ) (fun st hw => ?_)
                  exact hk30 (a0 == 52) h _ (hw.trans (Weak.sel [] [4] (by kernel_rfl) (by kernel_rfl) (by kernel_rfl)))

theorem m_impl_TokensOk_ok (N : Nat) (a0 : List SToken) {r : Bool} (h : m_impl_TokensOk N a0 = some r) :
    AC Tryd.prog (GS [0, 1, 2]) 25 [.sl false false (a0.map encSToken)] [] (V.bool r) [] := by
  rw [m_impl_TokensOk] at h
  refine AC.enter Tryd.func25 rfl ?_
  refine CodeOk.cutR (tl 76 [(0, .sl false false (a0.map encSToken))]) [] mix (by
      refine W.run D_ok 1 100 (by kernel_rfl) ?_
      exact W.fin (by decide) (by kernel_rfl) (Weak.sel [] [0] (by kernel_rfl) (by kernel_rfl) (by kernel_rfl))
      ) ?_
  refine CodeOk.seq' ?_
  refine CodeOk.cutR (tl 76 [(0, .sl false false (a0.map encSToken)), (9, V.bool (decide ((a0.length : Int) > 3000)))]) [] mix (by
      refine W.run D_ok 1 100 (by kernel_rfl) ?_
      refine W.len D_ok encSToken a0 [] (by kernel_rfl) (by kernel_rfl) ?_
      refine W.run D_ok 1 100 (by kernel_rfl) ?_
      exact W.fin (by decide) (by kernel_rfl) (Weak.sel [] [0, 9] (by kernel_rfl) (by kernel_rfl) (by kernel_rfl))
      ) ?_
  rcases cond_some h with ⟨hc2, h⟩ | ⟨hc2, h⟩
  · refine CodeOk.ifT hc2 (by kernel_rfl) ?_
    refine CodeOk.cutR (tl 76 [(2, V.bool false)]) [] mix (by
        refine W.run D_ok 1 100 (by kernel_rfl) ?_
        exact W.fin (by decide) (by kernel_rfl) (Weak.sel [] [2] (by kernel_rfl) (by kernel_rfl) (by kernel_rfl))
        ) ?_
    refine CodeOk.ret ?_
    have h := Option.some.inj h
    subst h
    exact Ends.gen [] (.inr rfl) (RetV.one rfl (OneR.tmp (t := 2) (r := V.bool false) (by kernel_rfl))) (by kernel_rfl) (by kernel_rfl) (by kernel_rfl)
  · refine CodeOk.ifF hc2 (by kernel_rfl) ?_
    refine CodeOk.skip ?_
    refine CodeOk.weak (st' := ⟨tl 76 [(0, .sl false false (a0.map encSToken)), (9, V.bool (decide ((a0.length : Int) > 3000)))], []⟩) (Weak.refl _) ?_
    refine CodeOk.cutR (tl 76 [(0, .sl false false (a0.map encSToken)), (3, V.int 0)]) [] mix (by
        refine W.run D_ok 1 100 (by kernel_rfl) ?_
        exact W.fin (by decide) (by kernel_rfl) (Weak.sel [] [0, 3] (by kernel_rfl) (by kernel_rfl) (by kernel_rfl))
        ) ?_
    refine CodeOk.seq' ?_
    refine CodeOk.cutR (tl 76 [(0, .sl false false (a0.map encSToken)), (3, V.int 0), (10, .sl false false (a0.map encSToken)), (11, V.int (a0.length : Int)), (12, V.int 0)]) [] mix (by
        refine W.run D_ok 1 100 (by kernel_rfl) ?_
        refine W.len D_ok encSToken a0 [] (by kernel_rfl) (by kernel_rfl) ?_
        refine W.run D_ok 1 100 (by kernel_rfl) ?_
        exact W.fin (by decide) (by kernel_rfl) (Weak.sel [] [0, 3, 10, 11, 12] (by kernel_rfl) (by kernel_rfl) (by kernel_rfl))
        ) ?_
    refine CodeOk.block' ?_
    refine CodeOk.loopJ (fun (⟨a0, y397, y398⟩ : ((List SToken) × Int × Int)) => ⟨tl 76 [(0, .sl false false (a0.map encSToken)), (3, V.int y397), (10, .sl false false (a0.map encSToken)), (11, V.int (a0.length : Int)), (12, V.int y398)], []⟩) (fun n i => m_impl_TokensOk_l1 N n i = some r) (n0 := N) (i0 := (a0, 0, 0)) (Weak.sel [] [0, 3, 10, 11, 12] (by kernel_rfl) (by kernel_rfl) (by kernel_rfl)) h (fun i h => by simp [m_impl_TokensOk_l1] at h) ?_
    rintro n1 ⟨a0, y397, y398⟩ h1035 ih1036
    rw [m_impl_TokensOk_l1] at h1035
    refine CodeOk.cutR (tl 76 [(0, .sl false false (a0.map encSToken)), (3, V.int y397), (10, .sl false false (a0.map encSToken)), (11, V.int (a0.length : Int)), (12, V.int y398), (13, V.bool (decide (y398 < (a0.length : Int))))]) [] mix (by
        refine W.run D_ok 1 162 (by kernel_rfl) ?_
        exact W.fin (by decide) (by kernel_rfl) (Weak.sel [] [0, 3, 10, 11, 12, 13] (by kernel_rfl) (by kernel_rfl) (by kernel_rfl))
        ) ?_
    refine CodeOk.seq' ?_
    rcases cond_some h1035 with ⟨hc1038, h1035⟩ | ⟨hc1038, h1035⟩
    · refine CodeOk.ifT hc1038 (by kernel_rfl) ?_
      refine CodeOk.skip ?_
      refine CodeOk.weak (st' := ⟨tl 76 [(0, .sl false false (a0.map encSToken)), (3, V.int y397), (10, .sl false false (a0.map encSToken)), (11, V.int (a0.length : Int)), (12, V.int y398), (13, V.bool (decide (y398 < (a0.length : Int))))], []⟩) (Weak.refl _) ?_
      refine CodeOk.seq' ?_
      refine CodeOk.block' ?_
      obtain ⟨e549, hx1142, h1035⟩ := bind_some h1035
      refine CodeOk.cutR (tl 76 [(0, .sl false false (a0.map encSToken)), (3, V.int y397), (4, V.int y398), (5, .loc 162 0), (10, .sl false false (a0.map encSToken)), (11, V.int (a0.length : Int)), (12, V.int y398)]) [(162, .cells 46 [V.int e549.Kind, V.str e549.Text, V.int e549.At])] mix (by
          refine W.run D_ok 1 162 (by kernel_rfl) ?_
          refine W.ixD D_ok encSToken hx1142 3 (by kernel_rfl) (by kernel_rfl) ?_
          refine W.run D_ok 4 162 (by kernel_rfl) ?_
          exact W.fin (by decide) (by kernel_rfl) (Weak.sel [(162, 162)] [0, 3, 4, 5, 10, 11, 12] (by kernel_rfl) (by kernel_rfl) (by kernel_rfl))
          ) ?_
      refine CodeOk.cutR (tl 76 [(0, .sl false false (a0.map encSToken)), (3, V.int y397), (4, V.int y398), (5, .loc 162 0), (6, V.int 0), (10, .sl false false (a0.map encSToken)), (11, V.int (a0.length : Int)), (12, V.int y398)]) [(162, .cells 46 [V.int e549.Kind, V.str e549.Text, V.int e549.At])] mix (by
          refine W.run D_ok 1 163 (by kernel_rfl) ?_
          exact W.fin (by decide) (by kernel_rfl) (Weak.sel [(162, 162)] [0, 3, 4, 5, 6, 10, 11, 12] (by kernel_rfl) (by kernel_rfl) (by kernel_rfl))
          ) ?_
      refine CodeOk.join (fun (⟨a0, y397, y398, e549, y552⟩ : ((List SToken) × Int × Int × SToken × Int)) => ⟨tl 76 [(0, .sl false false (a0.map encSToken)), (3, V.int y397), (5, .loc 100 0), (6, V.int y552), (10, .sl false false (a0.map encSToken)), (11, V.int (a0.length : Int)), (12, V.int y398)], [(100, .cells 46 [V.int e549.Kind, V.str e549.Text, V.int e549.At])]⟩) (fun i => m_impl_TokensOk_k2 N (m_impl_TokensOk_l1 N n1) i = some r) ?_ ?_
      · rintro ⟨a0, y397, y398, e549, y552⟩ h1146
        rw [m_impl_TokensOk_k2] at h1146
        refine CodeOk.seq' ?_
        refine CodeOk.block' ?_
        obtain ⟨r575, hx1194, h1146⟩ := bind_some h1146
        refine CodeOk.cutR (tl 76 [(0, .sl false false (a0.map encSToken)), (3, V.int y397), (5, .loc 100 0), (6, V.int y552), (10, .sl false false (a0.map encSToken)), (11, V.int (a0.length : Int)), (12, V.int y398), (28, V.bool (!r575))]) [(100, .cells 46 [V.int e549.Kind, V.str e549.Text, V.int e549.At])] mix (by
            refine W.run D_ok 1 163 (by kernel_rfl) ?_
            refine W.call0 (m_impl_TokenOk_ok N e549 hx1194) cok46 rfl (by kernel_rfl) ?_
            refine W.run D_ok 2 163 (by kernel_rfl) ?_
            exact W.fin (by decide) (by kernel_rfl) (Weak.sel [(100, 100)] [0, 3, 5, 6, 10, 11, 12, 28] (by kernel_rfl) (by kernel_rfl) (by kernel_rfl))
            ) ?_
        rcases cond_some h1146 with ⟨hc1195, h1146⟩ | ⟨hc1195, h1146⟩
        · refine CodeOk.ifT hc1195 (by kernel_rfl) ?_
          refine CodeOk.cutR (tl 76 [(2, V.bool false)]) [] mix (by
              refine W.run D_ok 1 163 (by kernel_rfl) ?_
              exact W.fin (by decide) (by kernel_rfl) (Weak.sel [] [2] (by kernel_rfl) (by kernel_rfl) (by kernel_rfl))
              ) ?_
          refine CodeOk.ret ?_
          have h1146 := Option.some.inj h1146
          subst h1146
          exact Ends.gen [] (.inr rfl) (RetV.one rfl (OneR.tmp (t := 2) (r := V.bool false) (by kernel_rfl))) (by kernel_rfl) (by kernel_rfl) (by kernel_rfl)
        · refine CodeOk.ifF hc1195 (by kernel_rfl) ?_
          obtain ⟨y576, hv1197, h1146⟩ := bind_some h1146
          refine CodeOk.cutR (tl 76 [(0, .sl false false (a0.map encSToken)), (3, V.int y397), (5, .loc 100 0), (6, V.int y552), (10, .sl false false (a0.map encSToken)), (11, V.int (a0.length : Int)), (12, V.int y398), (32, V.bool y576)]) [(100, .cells 46 [V.int e549.Kind, V.str e549.Text, V.int e549.At])] mix (by
              refine W.run D_ok 4 163 (by kernel_rfl) ?_
              rcases cond_some hv1197 with ⟨hc1198, hv1197⟩ | ⟨hc1198, hv1197⟩
              · refine W.is 36 hc1198 (by kernel_rfl) ?_
                refine W.run D_ok 4 163 (by kernel_rfl) ?_
                have hv1197 := Option.some.inj hv1197
                subst hv1197
                exact W.fin (by decide) (by kernel_rfl) (Weak.sel [(100, 100)] [0, 3, 5, 6, 10, 11, 12, 32] (by kernel_rfl) (by kernel_rfl) (by kernel_rfl))
              · refine W.is 36 hc1198 (by kernel_rfl) ?_
                refine W.run D_ok 4 163 (by kernel_rfl) ?_
                have hv1197 := Option.some.inj hv1197
                subst hv1197
                exact W.fin (by decide) (by kernel_rfl) (Weak.sel [(100, 100)] [0, 3, 5, 6, 10, 11, 12, 32] (by kernel_rfl) (by kernel_rfl) (by kernel_rfl))
              ) ?_
          rcases cond_some h1146 with ⟨hc1199, h1146⟩ | ⟨hc1199, h1146⟩
          · refine CodeOk.ifT hc1199 (by kernel_rfl) ?_
            refine CodeOk.cutR (tl 76 [(2, V.bool false)]) [] mix (by
                refine W.run D_ok 1 163 (by kernel_rfl) ?_
                exact W.fin (by decide) (by kernel_rfl) (Weak.sel [] [2] (by kernel_rfl) (by kernel_rfl) (by kernel_rfl))
                ) ?_
            refine CodeOk.ret ?_
            have h1146 := Option.some.inj h1146
            subst h1146
            exact Ends.gen [] (.inr rfl) (RetV.one rfl (OneR.tmp (t := 2) (r := V.bool false) (by kernel_rfl))) (by kernel_rfl) (by kernel_rfl) (by kernel_rfl)
          · refine CodeOk.ifF hc1199 (by kernel_rfl) ?_
            obtain ⟨y577, hv1202, h1146⟩ := bind_some h1146
            refine CodeOk.cutR (tl 76 [(0, .sl false false (a0.map encSToken)), (3, V.int y397), (5, .loc 100 0), (10, .sl false false (a0.map encSToken)), (11, V.int (a0.length : Int)), (12, V.int y398), (40, V.bool y577)]) [(100, .cells 46 [V.int e549.Kind, V.str e549.Text, V.int e549.At])] mix (by
                refine W.run D_ok 4 163 (by kernel_rfl) ?_
                rcases cond_some hv1202 with ⟨hc1203, hv1202⟩ | ⟨hc1203, hv1202⟩
                · refine W.is 44 hc1203 (by kernel_rfl) ?_
                  refine W.run D_ok 4 163 (by kernel_rfl) ?_
                  rcases cond_some hv1202 with ⟨hc1204, hv1202⟩ | ⟨hc1204, hv1202⟩
                  · refine W.is 48 hc1204 (by kernel_rfl) ?_
                    refine W.run D_ok 4 163 (by kernel_rfl) ?_
                    have hv1202 := Option.some.inj hv1202
                    subst hv1202
                    exact W.fin (by decide) (by kernel_rfl) (Weak.sel [(100, 100)] [0, 3, 5, 10, 11, 12, 40] (by kernel_rfl) (by kernel_rfl) (by kernel_rfl))
                  · refine W.is 48 hc1204 (by kernel_rfl) ?_
                    refine W.run D_ok 4 163 (by kernel_rfl) ?_
                    have hv1202 := Option.some.inj hv1202
                    subst hv1202
                    exact W.fin (by decide) (by kernel_rfl) (Weak.sel [(100, 100)] [0, 3, 5, 10, 11, 12, 40] (by kernel_rfl) (by kernel_rfl) (by kernel_rfl))
                · refine W.is 44 hc1203 (by kernel_rfl) ?_
                  refine W.run D_ok 8 163 (by kernel_rfl) ?_
                  have hv1202 := Option.some.inj hv1202
                  subst hv1202
                  exact W.fin (by decide) (by kernel_rfl) (Weak.sel [(100, 100)] [0, 3, 5, 10, 11, 12, 40] (by kernel_rfl) (by kernel_rfl) (by kernel_rfl))
                ) ?_
            rcases cond_some h1146 with ⟨hc1205, h1146⟩ | ⟨hc1205, h1146⟩
            · refine CodeOk.ifT hc1205 (by kernel_rfl) ?_
              refine CodeOk.cutR (tl 76 [(2, V.bool false)]) [] mix (by
                  refine W.run D_ok 1 163 (by kernel_rfl) ?_
                  exact W.fin (by decide) (by kernel_rfl) (Weak.sel [] [2] (by kernel_rfl) (by kernel_rfl) (by kernel_rfl))
                  ) ?_
              refine CodeOk.ret ?_
              have h1146 := Option.some.inj h1146
              subst h1146
              exact Ends.gen [] (.inr rfl) (RetV.one rfl (OneR.tmp (t := 2) (r := V.bool false) (by kernel_rfl))) (by kernel_rfl) (by kernel_rfl) (by kernel_rfl)
            · refine CodeOk.ifF hc1205 (by kernel_rfl) ?_
              refine CodeOk.join (fun (⟨a0, y398, e549, y586⟩ : ((List SToken) × Int × SToken × Bool)) => ⟨tl 76 [(0, .sl false false (a0.map encSToken)), (5, .loc 100 0), (10, .sl false false (a0.map encSToken)), (11, V.int (a0.length : Int)), (12, V.int y398), (52, V.bool y586)], [(100, .cells 46 [V.int e549.Kind, V.str e549.Text, V.int e549.At])]⟩) (fun i => m_impl_TokensOk_k3 N (m_impl_TokensOk_l1 N n1) i = some r) ?_ ?_
              · rintro ⟨a0, y398, e549, y586⟩ h1221
                rw [m_impl_TokensOk_k3] at h1221
                rcases cond_some h1221 with ⟨hc1222, h1221⟩ | ⟨hc1222, h1221⟩
                · refine CodeOk.ifT hc1222 (by kernel_rfl) ?_
                  refine CodeOk.cutR (tl 76 [(2, V.bool false)]) [] mix (by
                      refine W.run D_ok 1 163 (by kernel_rfl) ?_
                      exact W.fin (by decide) (by kernel_rfl) (Weak.sel [] [2] (by kernel_rfl) (by kernel_rfl) (by kernel_rfl))
                      ) ?_
                  refine CodeOk.ret ?_
                  have h1221 := Option.some.inj h1221
                  subst h1221
                  exact Ends.gen [] (.inr rfl) (RetV.one rfl (OneR.tmp (t := 2) (r := V.bool false) (by kernel_rfl))) (by kernel_rfl) (by kernel_rfl) (by kernel_rfl)
                · refine CodeOk.ifF hc1222 (by kernel_rfl) ?_
                  refine CodeOk.skip ?_
                  refine CodeOk.weak (st' := ⟨tl 76 [(0, .sl false false (a0.map encSToken)), (5, .loc 100 0), (10, .sl false false (a0.map encSToken)), (11, V.int (a0.length : Int)), (12, V.int y398), (52, V.bool y586)], [(100, .cells 46 [V.int e549.Kind, V.str e549.Text, V.int e549.At])]⟩) (Weak.refl _) ?_
                  refine CodeOk.endR (tl 76 [(0, .sl false false (a0.map encSToken)), (3, V.int e549.Kind), (10, .sl false false (a0.map encSToken)), (11, V.int (a0.length : Int)), (12, V.int y398)]) [] mix (by
                      refine W.run D_ok 3 163 (by kernel_rfl) ?_
                      exact W.fin (by decide) (by kernel_rfl) (Weak.sel [] [0, 3, 10, 11, 12] (by kernel_rfl) (by kernel_rfl) (by kernel_rfl))
                      ) (fun st hw => ?_)
                  refine CodeOk.weak (st' := ⟨tl 76 [(0, .sl false false (a0.map encSToken)), (3, V.int e549.Kind), (10, .sl false false (a0.map encSToken)), (11, V.int (a0.length : Int)), (12, V.int y398)], []⟩) hw ?_
                  refine CodeOk.endR (tl 76 [(0, .sl false false (a0.map encSToken)), (3, V.int e549.Kind), (10, .sl false false (a0.map encSToken)), (11, V.int (a0.length : Int)), (12, V.int (IntKind.wrap .i64 (y398 + 1)))]) [] mix (by
                      refine W.run D_ok 2 163 (by kernel_rfl) ?_
                      exact W.fin (by decide) (by kernel_rfl) (Weak.sel [] [0, 3, 10, 11, 12] (by kernel_rfl) (by kernel_rfl) (by kernel_rfl))
                      ) (fun st hw => ?_)
                  exact ih1036 (a0, e549.Kind, (IntKind.wrap .i64 (y398 + 1))) h1221 _ (hw.trans (Weak.sel [] [0, 3, 10, 11, 12] (by kernel_rfl) (by kernel_rfl) (by kernel_rfl)))
              intro hk1223
              obtain ⟨y588, hv1226, h1146⟩ := bind_some h1146
              refine CodeOk.cutR (tl 76 [(0, .sl false false (a0.map encSToken)), (3, V.int y397), (5, .loc 100 0), (10, .sl false false (a0.map encSToken)), (11, V.int (a0.length : Int)), (12, V.int y398), (52, V.bool y588)]) [(100, .cells 46 [V.int e549.Kind, V.str e549.Text, V.int e549.At])] mix (by
                  refine W.run D_ok 4 163 (by kernel_rfl) ?_
                  rcases cond_some hv1226 with ⟨hc1227, hv1226⟩ | ⟨hc1227, hv1226⟩
                  · refine W.is 56 hc1227 (by kernel_rfl) ?_
                    refine W.run D_ok 1 163 (by kernel_rfl) ?_
                    obtain ⟨r589, hx1228, hv1226⟩ := bind_some hv1226
                    refine W.call0 (AC.gs (m_impl_EndsOperand_ok y397 hx1228) (by decide)) cok47 rfl (by kernel_rfl) ?_
                    refine W.run D_ok 2 163 (by kernel_rfl) ?_
                    have hv1226 := Option.some.inj hv1226
                    subst hv1226
                    exact W.fin (by decide) (by kernel_rfl) (Weak.sel [(100, 100)] [0, 3, 5, 10, 11, 12, 52] (by kernel_rfl) (by kernel_rfl) (by kernel_rfl))
                  · refine W.is 56 hc1227 (by kernel_rfl) ?_
                    refine W.run D_ok 4 163 (by kernel_rfl) ?_
                    have hv1226 := Option.some.inj hv1226
                    subst hv1226
                    exact W.fin (by decide) (by kernel_rfl) (Weak.sel [(100, 100)] [0, 3, 5, 10, 11, 12, 52] (by kernel_rfl) (by kernel_rfl) (by kernel_rfl))
                  ) ?_
              rcases cond_some h1146 with ⟨hc1229, h1146⟩ | ⟨hc1229, h1146⟩
              · refine CodeOk.ifT hc1229 (by kernel_rfl) ?_
                refine CodeOk.skip ?_
                exact hk1223 (a0, y398, e549, y588) h1146 _ (Weak.sel [(100, 100)] [0, 5, 10, 11, 12, 52] (by kernel_rfl) (by kernel_rfl) (by kernel_rfl))
              · refine CodeOk.ifF hc1229 (by kernel_rfl) ?_
                obtain ⟨y592, hv1234, h1146⟩ := bind_some h1146
                refine CodeOk.endR (tl 76 [(0, .sl false false (a0.map encSToken)), (5, .loc 100 0), (10, .sl false false (a0.map encSToken)), (11, V.int (a0.length : Int)), (12, V.int y398), (52, V.bool y592)]) [(100, .cells 46 [V.int e549.Kind, V.str e549.Text, V.int e549.At])] mix (by
                    refine W.run D_ok 4 163 (by kernel_rfl) ?_
                    rcases cond_some hv1234 with ⟨hc1235, hv1234⟩ | ⟨hc1235, hv1234⟩
                    · refine W.is 63 hc1235 (by kernel_rfl) ?_
                      refine W.run D_ok 6 163 (by kernel_rfl) ?_
                      obtain ⟨r593, hx1236, hv1234⟩ := bind_some hv1234
                      refine W.call0 (AC.gs (m_impl_EndsOperand_ok y397 hx1236) (by decide)) cok47 rfl (by kernel_rfl) ?_
                      refine W.run D_ok 3 163 (by kernel_rfl) ?_
                      have hv1234 := Option.some.inj hv1234
                      subst hv1234
                      exact W.fin (by decide) (by kernel_rfl) (Weak.sel [(100, 100)] [0, 5, 10, 11, 12, 52] (by kernel_rfl) (by kernel_rfl) (by kernel_rfl))
                    · refine W.is 63 hc1235 (by kernel_rfl) ?_
                      refine W.run D_ok 5 163 (by kernel_rfl) ?_
                      rcases cond_some hv1234 with ⟨hc1237, hv1234⟩ | ⟨hc1237, hv1234⟩
                      · refine W.is 68 hc1237 (by kernel_rfl) ?_
                        refine W.run D_ok 1 163 (by kernel_rfl) ?_
                        obtain ⟨r594, hx1238, hv1234⟩ := bind_some hv1234
                        refine W.call0 (AC.gs (m_impl_EndsOperand_ok y397 hx1238) (by decide)) cok47 rfl (by kernel_rfl) ?_
                        refine W.run D_ok 3 163 (by kernel_rfl) ?_
                        have hv1234 := Option.some.inj hv1234
                        subst hv1234
                        exact W.fin (by decide) (by kernel_rfl) (Weak.sel [(100, 100)] [0, 5, 10, 11, 12, 52] (by kernel_rfl) (by kernel_rfl) (by kernel_rfl))
                      · refine W.is 68 hc1237 (by kernel_rfl) ?_
                        refine W.run D_ok 5 163 (by kernel_rfl) ?_
                        have hv1234 := Option.some.inj hv1234
                        subst hv1234
                        exact W.fin (by decide) (by kernel_rfl) (Weak.sel [(100, 100)] [0, 5, 10, 11, 12, 52] (by kernel_rfl) (by kernel_rfl) (by kernel_rfl))
                    ) (fun st hw => ?_)
                exact hk1223 (a0, y398, e549, y592) h1146 _ (hw.trans (Weak.sel [(100, 100)] [0, 5, 10, 11, 12, 52] (by kernel_rfl) (by kernel_rfl) (by kernel_rfl)))
      intro hk1239
      refine CodeOk.cutR (tl 76 [(0, .sl false false (a0.map encSToken)), (3, V.int y397), (4, V.int y398), (5, .loc 162 0), (6, V.int 0), (10, .sl false false (a0.map encSToken)), (11, V.int (a0.length : Int)), (12, V.int y398), (21, V.bool (decide ((IntKind.wrap .i64 (y398 + 1)) < (a0.length : Int))))]) [(162, .cells 46 [V.int e549.Kind, V.str e549.Text, V.int e549.At])] mix (by
          refine W.run D_ok 3 163 (by kernel_rfl) ?_
          refine W.len D_ok encSToken a0 [] (by kernel_rfl) (by kernel_rfl) ?_
          refine W.run D_ok 1 163 (by kernel_rfl) ?_
          exact W.fin (by decide) (by kernel_rfl) (Weak.sel [(162, 162)] [0, 3, 4, 5, 6, 10, 11, 12, 21] (by kernel_rfl) (by kernel_rfl) (by kernel_rfl))
          ) ?_
      rcases cond_some h1035 with ⟨hc1240, h1035⟩ | ⟨hc1240, h1035⟩
      · refine CodeOk.ifT hc1240 (by kernel_rfl) ?_
        obtain ⟨e596, hx1242, h1035⟩ := bind_some h1035
        refine CodeOk.endR (tl 76 [(0, .sl false false (a0.map encSToken)), (3, V.int y397), (5, .loc 162 0), (6, V.int e596.Kind), (10, .sl false false (a0.map encSToken)), (11, V.int (a0.length : Int)), (12, V.int y398)]) [(162, .cells 46 [V.int e549.Kind, V.str e549.Text, V.int e549.At])] mix (by
            refine W.run D_ok 3 163 (by kernel_rfl) ?_
            refine W.ixD D_ok encSToken hx1242 3 (by kernel_rfl) (by kernel_rfl) ?_
            refine W.run D_ok 3 163 (by kernel_rfl) ?_
            exact W.fin (by decide) (by kernel_rfl) (Weak.sel [(162, 162)] [0, 3, 5, 6, 10, 11, 12] (by kernel_rfl) (by kernel_rfl) (by kernel_rfl))
            ) (fun st hw => ?_)
        exact hk1239 (a0, y397, y398, e549, e596.Kind) h1035 _ (hw.trans (Weak.sel [(162, 100)] [0, 3, 5, 6, 10, 11, 12] (by kernel_rfl) (by kernel_rfl) (by kernel_rfl)))
      · refine CodeOk.ifF hc1240 (by kernel_rfl) ?_
        refine CodeOk.skip ?_
        exact hk1239 (a0, y397, y398, e549, 0) h1035 _ (Weak.sel [(162, 100)] [0, 3, 5, 6, 10, 11, 12] (by kernel_rfl) (by kernel_rfl) (by kernel_rfl))
    · refine CodeOk.ifF hc1038 (by kernel_rfl) ?_
      refine CodeOk.exit ?_
      refine CodeOk.weak (st' := ⟨tl 76 [(0, .sl false false (a0.map encSToken)), (3, V.int y397), (10, .sl false false (a0.map encSToken)), (11, V.int (a0.length : Int)), (12, V.int y398), (13, V.bool (decide (y398 < (a0.length : Int))))], []⟩) (Weak.refl _) ?_
      refine CodeOk.cutR (tl 76 [(2, V.bool true)]) [] mix (by
          refine W.run D_ok 1 162 (by kernel_rfl) ?_
          exact W.fin (by decide) (by kernel_rfl) (Weak.sel [] [2] (by kernel_rfl) (by kernel_rfl) (by kernel_rfl))
          ) ?_
      refine CodeOk.ret ?_
      have h1035 := Option.some.inj h1035
      subst h1035
      exact Ends.gen [] (.inr rfl) (RetV.one rfl (OneR.tmp (t := 2) (r := V.bool true) (by kernel_rfl))) (by kernel_rfl) (by kernel_rfl) (by kernel_rfl)

theorem m_impl_OpLevel_ok (a0 : Int) {r : Int} (h : m_impl_OpLevel a0 = some r) :
    AC Tryd.prog (GS []) 26 [V.int a0] [] (V.int r) [] := by
  rw [m_impl_OpLevel] at h
  refine AC.enter Tryd.func26 rfl ?_
  refine CodeOk.cutR (tl 29 [(0, V.int a0)]) [] mix (by
      refine W.run D_ok 1 100 (by kernel_rfl) ?_
      exact W.fin (by decide) (by kernel_rfl) (Weak.sel [] [0] (by kernel_rfl) (by kernel_rfl) (by kernel_rfl))
      ) ?_
  refine CodeOk.seq' ?_
  refine CodeOk.cutR (tl 29 [(3, V.int a0)]) [] mix (by
      refine W.run D_ok 1 100 (by kernel_rfl) ?_
      exact W.fin (by decide) (by kernel_rfl) (Weak.sel [] [3] (by kernel_rfl) (by kernel_rfl) (by kernel_rfl))
      ) ?_
  refine CodeOk.block' ?_
  refine CodeOk.cutR (tl 29 [(3, V.int a0), (4, V.bool (a0 == 44))]) [] mix (by
      refine W.run D_ok 2 100 (by kernel_rfl) ?_
      exact W.fin (by decide) (by kernel_rfl) (Weak.sel [] [3, 4] (by kernel_rfl) (by kernel_rfl) (by kernel_rfl))
      ) ?_
  rcases cond_some h with ⟨hc35, h⟩ | ⟨hc35, h⟩
  · refine CodeOk.ifT hc35 (by kernel_rfl) ?_
    refine CodeOk.cutR (tl 29 [(2, V.int 3)]) [] mix (by
        refine W.run D_ok 1 100 (by kernel_rfl) ?_
        exact W.fin (by decide) (by kernel_rfl) (Weak.sel [] [2] (by kernel_rfl) (by kernel_rfl) (by kernel_rfl))
        ) ?_
    refine CodeOk.ret ?_
    have h := Option.some.inj h
    subst h
    exact Ends.gen [] (.inr rfl) (RetV.one rfl (OneR.tmp (t := 2) (r := V.int 3) (by kernel_rfl))) (by kernel_rfl) (by kernel_rfl) (by kernel_rfl)
  · refine CodeOk.ifF hc35 (by kernel_rfl) ?_
    refine CodeOk.cutR (tl 29 [(3, V.int a0), (6, V.bool (a0 == 45))]) [] mix (by
        refine W.run D_ok 2 100 (by kernel_rfl) ?_
        exact W.fin (by decide) (by kernel_rfl) (Weak.sel [] [3, 6] (by kernel_rfl) (by kernel_rfl) (by kernel_rfl))
        ) ?_
    rcases cond_some h with ⟨hc36, h⟩ | ⟨hc36, h⟩
    · refine CodeOk.ifT hc36 (by kernel_rfl) ?_
      refine CodeOk.cutR (tl 29 [(2, V.int 4)]) [] mix (by
          refine W.run D_ok 1 100 (by kernel_rfl) ?_
          exact W.fin (by decide) (by kernel_rfl) (Weak.sel [] [2] (by kernel_rfl) (by kernel_rfl) (by kernel_rfl))
          ) ?_
      refine CodeOk.ret ?_
      have h := Option.some.inj h
      subst h
      exact Ends.gen [] (.inr rfl) (RetV.one rfl (OneR.tmp (t := 2) (r := V.int 4) (by kernel_rfl))) (by kernel_rfl) (by kernel_rfl) (by kernel_rfl)
    · refine CodeOk.ifF hc36 (by kernel_rfl) ?_
      refine CodeOk.join (fun (⟨a0, y5⟩ : (Int × Bool)) => ⟨tl 29 [(3, V.int a0), (8, V.bool y5)], []⟩) (fun i => m_impl_OpLevel_k1 i = some r) ?_ ?_
      · rintro ⟨a0, y5⟩ h38
        rw [m_impl_OpLevel_k1] at h38
        rcases cond_some h38 with ⟨hc39, h38⟩ | ⟨hc39, h38⟩
        · refine CodeOk.ifT hc39 (by kernel_rfl) ?_
          refine CodeOk.cutR (tl 29 [(2, V.int 6)]) [] mix (by
              refine W.run D_ok 1 100 (by kernel_rfl) ?_
              exact W.fin (by decide) (by kernel_rfl) (Weak.sel [] [2] (by kernel_rfl) (by kernel_rfl) (by kernel_rfl))
              ) ?_
          refine CodeOk.ret ?_
          have h38 := Option.some.inj h38
          subst h38
          exact Ends.gen [] (.inr rfl) (RetV.one rfl (OneR.tmp (t := 2) (r := V.int 6) (by kernel_rfl))) (by kernel_rfl) (by kernel_rfl) (by kernel_rfl)
        · refine CodeOk.ifF hc39 (by kernel_rfl) ?_
          refine CodeOk.join (fun (⟨a0, y6⟩ : (Int × Bool)) => ⟨tl 29 [(3, V.int a0), (11, V.bool y6)], []⟩) (fun i => m_impl_OpLevel_k2 i = some r) ?_ ?_
          · rintro ⟨a0, y6⟩ h45
            rw [m_impl_OpLevel_k2] at h45
            rcases cond_some h45 with ⟨hc46, h45⟩ | ⟨hc46, h45⟩
            · refine CodeOk.ifT hc46 (by kernel_rfl) ?_
              refine CodeOk.cutR (tl 29 [(2, V.int 7)]) [] mix (by
                  refine W.run D_ok 1 100 (by kernel_rfl) ?_
                  exact W.fin (by decide) (by kernel_rfl) (Weak.sel [] [2] (by kernel_rfl) (by kernel_rfl) (by kernel_rfl))
                  ) ?_
              refine CodeOk.ret ?_
              have h45 := Option.some.inj h45
              subst h45
              exact Ends.gen [] (.inr rfl) (RetV.one rfl (OneR.tmp (t := 2) (r := V.int 7) (by kernel_rfl))) (by kernel_rfl) (by kernel_rfl) (by kernel_rfl)
            · refine CodeOk.ifF hc46 (by kernel_rfl) ?_
              refine CodeOk.cutR (tl 29 [(3, V.int a0), (18, V.bool (a0 == 99))]) [] mix (by
                  refine W.run D_ok 2 100 (by kernel_rfl) ?_
                  exact W.fin (by decide) (by kernel_rfl) (Weak.sel [] [3, 18] (by kernel_rfl) (by kernel_rfl) (by kernel_rfl))
                  ) ?_
              rcases cond_some h45 with ⟨hc47, h45⟩ | ⟨hc47, h45⟩
              · refine CodeOk.ifT hc47 (by kernel_rfl) ?_
                refine CodeOk.cutR (tl 29 [(2, V.int 8)]) [] mix (by
                    refine W.run D_ok 1 100 (by kernel_rfl) ?_
                    exact W.fin (by decide) (by kernel_rfl) (Weak.sel [] [2] (by kernel_rfl) (by kernel_rfl) (by kernel_rfl))
                    ) ?_
                refine CodeOk.ret ?_
                have h45 := Option.some.inj h45
                subst h45
                exact Ends.gen [] (.inr rfl) (RetV.one rfl (OneR.tmp (t := 2) (r := V.int 8) (by kernel_rfl))) (by kernel_rfl) (by kernel_rfl) (by kernel_rfl)
              · refine CodeOk.ifF hc47 (by kernel_rfl) ?_
                refine CodeOk.join (fun (⟨a0, y7⟩ : (Int × Bool)) => ⟨tl 29 [(3, V.int a0), (20, V.bool y7)], []⟩) (fun i => m_impl_OpLevel_k3 i = some r) ?_ ?_
                · rintro ⟨a0, y7⟩ h49
                  rw [m_impl_OpLevel_k3] at h49
                  rcases cond_some h49 with ⟨hc50, h49⟩ | ⟨hc50, h49⟩
                  · refine CodeOk.ifT hc50 (by kernel_rfl) ?_
                    refine CodeOk.cutR (tl 29 [(2, V.int 9)]) [] mix (by
                        refine W.run D_ok 1 100 (by kernel_rfl) ?_
                        exact W.fin (by decide) (by kernel_rfl) (Weak.sel [] [2] (by kernel_rfl) (by kernel_rfl) (by kernel_rfl))
                        ) ?_
                    refine CodeOk.ret ?_
                    have h49 := Option.some.inj h49
                    subst h49
                    exact Ends.gen [] (.inr rfl) (RetV.one rfl (OneR.tmp (t := 2) (r := V.int 9) (by kernel_rfl))) (by kernel_rfl) (by kernel_rfl) (by kernel_rfl)
                  · refine CodeOk.ifF hc50 (by kernel_rfl) ?_
                    refine CodeOk.join (fun (⟨a0, y8⟩ : (Int × Bool)) => ⟨tl 29 [(3, V.int a0), (23, V.bool y8)], []⟩) (fun i => m_impl_OpLevel_k4 i = some r) ?_ ?_
                    · rintro ⟨a0, y8⟩ h53
                      rw [m_impl_OpLevel_k4] at h53
                      rcases cond_some h53 with ⟨hc54, h53⟩ | ⟨hc54, h53⟩
                      · refine CodeOk.ifT hc54 (by kernel_rfl) ?_
                        refine CodeOk.cutR (tl 29 [(2, V.int 10)]) [] mix (by
                            refine W.run D_ok 1 100 (by kernel_rfl) ?_
                            exact W.fin (by decide) (by kernel_rfl) (Weak.sel [] [2] (by kernel_rfl) (by kernel_rfl) (by kernel_rfl))
                            ) ?_
                        refine CodeOk.ret ?_
                        have h53 := Option.some.inj h53
                        subst h53
                        exact Ends.gen [] (.inr rfl) (RetV.one rfl (OneR.tmp (t := 2) (r := V.int 10) (by kernel_rfl))) (by kernel_rfl) (by kernel_rfl) (by kernel_rfl)
                      · refine CodeOk.ifF hc54 (by kernel_rfl) ?_
                        refine CodeOk.cutR (tl 29 [(27, V.bool (a0 == 60))]) [] mix (by
                            refine W.run D_ok 2 100 (by kernel_rfl) ?_
                            exact W.fin (by decide) (by kernel_rfl) (Weak.sel [] [27] (by kernel_rfl) (by kernel_rfl) (by kernel_rfl))
                            ) ?_
                        rcases cond_some h53 with ⟨hc55, h53⟩ | ⟨hc55, h53⟩
                        · refine CodeOk.ifT hc55 (by kernel_rfl) ?_
                          refine CodeOk.cutR (tl 29 [(2, V.int 12)]) [] mix (by
                              refine W.run D_ok 1 100 (by kernel_rfl) ?_
                              exact W.fin (by decide) (by kernel_rfl) (Weak.sel [] [2] (by kernel_rfl) (by kernel_rfl) (by kernel_rfl))
                              ) ?_
                          refine CodeOk.ret ?_
                          have h53 := Option.some.inj h53
                          subst h53
                          exact Ends.gen [] (.inr rfl) (RetV.one rfl (OneR.tmp (t := 2) (r := V.int 12) (by kernel_rfl))) (by kernel_rfl) (by kernel_rfl) (by kernel_rfl)
                        · refine CodeOk.ifF hc55 (by kernel_rfl) ?_
                          refine CodeOk.skip ?_
                          refine CodeOk.weak (st' := ⟨tl 29 [(27, V.bool (a0 == 60))], []⟩) (Weak.refl _) ?_
                          refine CodeOk.cutR (tl 29 [(2, V.int 0)]) [] mix (by
                              refine W.run D_ok 1 100 (by kernel_rfl) ?_
                              exact W.fin (by decide) (by kernel_rfl) (Weak.sel [] [2] (by kernel_rfl) (by kernel_rfl) (by kernel_rfl))
                              ) ?_
                          refine CodeOk.ret ?_
                          have h53 := Option.some.inj h53
                          subst h53
                          exact Ends.gen [] (.inr rfl) (RetV.one rfl (OneR.tmp (t := 2) (r := V.int 0) (by kernel_rfl))) (by kernel_rfl) (by kernel_rfl) (by kernel_rfl)
                    intro hk56
                    refine CodeOk.cutR (tl 29 [(3, V.int a0), (23, V.bool (a0 == 57))]) [] mix (by
                        refine W.run D_ok 2 100 (by kernel_rfl) ?_
                        exact W.fin (by decide) (by kernel_rfl) (Weak.sel [] [3, 23] (by kernel_rfl) (by kernel_rfl) (by kernel_rfl))
                        ) ?_
                    rcases cond_some h49 with ⟨hc57, h49⟩ | ⟨hc57, h49⟩
                    · refine CodeOk.ifT hc57 (by kernel_rfl) ?_
                      refine CodeOk.skip ?_
                      exact hk56 (a0, (a0 == 57)) h49 _ (Weak.sel [] [3, 23] (by kernel_rfl) (by kernel_rfl) (by kernel_rfl))
                    · refine CodeOk.ifF hc57 (by kernel_rfl) ?_
                      refine CodeOk.cutR (tl 29 [(3, V.int a0), (23, V.bool (a0 == 58))]) [] mix (by
                          refine W.run D_ok 2 100 (by kernel_rfl) ?_
                          exact W.fin (by decide) (by kernel_rfl) (Weak.sel [] [3, 23] (by kernel_rfl) (by kernel_rfl) (by kernel_rfl))
                          ) ?_
                      rcases cond_some h49 with ⟨hc58, h49⟩ | ⟨hc58, h49⟩
                      · refine CodeOk.ifT hc58 (by kernel_rfl) ?_
                        refine CodeOk.skip ?_
                        exact hk56 (a0, (a0 == 58)) h49 _ (Weak.sel [] [3, 23] (by kernel_rfl) (by kernel_rfl) (by kernel_rfl))
                      · refine CodeOk.ifF hc58 (by kernel_rfl) ?_
                        refine CodeOk.endR (tl 29 [(3, V.int a0), (23, V.bool (a0 == 59))]) [] mix (by
                            refine W.run D_ok 2 100 (by kernel_rfl) ?_
                            exact W.fin (by decide) (by kernel_rfl) (Weak.sel [] [3, 23] (by kernel_rfl) (by kernel_rfl) (by kernel_rfl))
                            ) (fun st hw => ?_)
                        exact hk56 (a0, (a0 == 59)) h49 _ (hw.trans (Weak.sel [] [3, 23] (by kernel_rfl) (by kernel_rfl) (by kernel_rfl)))
                intro hk59
                refine CodeOk.cutR (tl 29 [(3, V.int a0), (20, V.bool (a0 == 55))]) [] mix (by
                    refine W.run D_ok 2 100 (by kernel_rfl) ?_
                    exact W.fin (by decide) (by kernel_rfl) (Weak.sel [] [3, 20] (by kernel_rfl) (by kernel_rfl) (by kernel_rfl))
                    ) ?_
                rcases cond_some h45 with ⟨hc60, h45⟩ | ⟨hc60, h45⟩
                · refine CodeOk.ifT hc60 (by kernel_rfl) ?_
                  refine CodeOk.skip ?_
                  exact hk59 (a0, (a0 == 55)) h45 _ (Weak.sel [] [3, 20] (by kernel_rfl) (by kernel_rfl) (by kernel_rfl))
                · refine CodeOk.ifF hc60 (by kernel_rfl) ?_
                  refine CodeOk.endR (tl 29 [(3, V.int a0), (20, V.bool (a0 == 56))]) [] mix (by
                      refine W.run D_ok 2 100 (by kernel_rfl) ?_
                      exact W.fin (by decide) (by kernel_rfl) (Weak.sel [] [3, 20] (by kernel_rfl) (by kernel_rfl) (by kernel_rfl))
                      ) (fun st hw => ?_)
                  exact hk59 (a0, (a0 == 56)) h45 _ (hw.trans (Weak.sel [] [3, 20] (by kernel_rfl) (by kernel_rfl) (by kernel_rfl)))
          intro hk61
          refine CodeOk.cutR (tl 29 [(3, V.int a0), (11, V.bool (a0 == 63))]) [] mix (by
              refine W.run D_ok 2 100 (by kernel_rfl) ?_
              exact W.fin (by decide) (by kernel_rfl) (Weak.sel [] [3, 11] (by kernel_rfl) (by kernel_rfl) (by kernel_rfl))
              ) ?_
          rcases cond_some h38 with ⟨hc62, h38⟩ | ⟨hc62, h38⟩
          · refine CodeOk.ifT hc62 (by kernel_rfl) ?_
            refine CodeOk.skip ?_
            exact hk61 (a0, (a0 == 63)) h38 _ (Weak.sel [] [3, 11] (by kernel_rfl) (by kernel_rfl) (by kernel_rfl))
          · refine CodeOk.ifF hc62 (by kernel_rfl) ?_
            refine CodeOk.cutR (tl 29 [(3, V.int a0), (11, V.bool (a0 == 48))]) [] mix (by
                refine W.run D_ok 2 100 (by kernel_rfl) ?_
                exact W.fin (by decide) (by kernel_rfl) (Weak.sel [] [3, 11] (by kernel_rfl) (by kernel_rfl) (by kernel_rfl))
                ) ?_
            rcases cond_some h38 with ⟨hc63, h38⟩ | ⟨hc63, h38⟩
            · refine CodeOk.ifT hc63 (by kernel_rfl) ?_
              refine CodeOk.skip ?_
              exact hk61 (a0, (a0 == 48)) h38 _ (Weak.sel [] [3, 11] (by kernel_rfl) (by kernel_rfl) (by kernel_rfl))
            · refine CodeOk.ifF hc63 (by kernel_rfl) ?_
              refine CodeOk.cutR (tl 29 [(3, V.int a0), (11, V.bool (a0 == 47))]) [] mix (by
                  refine W.run D_ok 2 100 (by kernel_rfl) ?_
                  exact W.fin (by decide) (by kernel_rfl) (Weak.sel [] [3, 11] (by kernel_rfl) (by kernel_rfl) (by kernel_rfl))
                  ) ?_
              rcases cond_some h38 with ⟨hc64, h38⟩ | ⟨hc64, h38⟩
              · refine CodeOk.ifT hc64 (by kernel_rfl) ?_
                refine CodeOk.skip ?_
                exact hk61 (a0, (a0 == 47)) h38 _ (Weak.sel [] [3, 11] (by kernel_rfl) (by kernel_rfl) (by kernel_rfl))
              · refine CodeOk.ifF hc64 (by kernel_rfl) ?_
                refine CodeOk.cutR (tl 29 [(3, V.int a0), (11, V.bool (a0 == 50))]) [] mix (by
                    refine W.run D_ok 2 100 (by kernel_rfl) ?_
                    exact W.fin (by decide) (by kernel_rfl) (Weak.sel [] [3, 11] (by kernel_rfl) (by kernel_rfl) (by kernel_rfl))
                    ) ?_
                rcases cond_some h38 with ⟨hc65, h38⟩ | ⟨hc65, h38⟩
                · refine CodeOk.ifT hc65 (by kernel_rfl) ?_
                  refine CodeOk.skip ?_
                  exact hk61 (a0, (a0 == 50)) h38 _ (Weak.sel [] [3, 11] (by kernel_rfl) (by kernel_rfl) (by kernel_rfl))
                · refine CodeOk.ifF hc65 (by kernel_rfl) ?_
                  refine CodeOk.cutR (tl 29 [(3, V.int a0), (11, V.bool (a0 == 62))]) [] mix (by
                      refine W.run D_ok 2 100 (by kernel_rfl) ?_
                      exact W.fin (by decide) (by kernel_rfl) (Weak.sel [] [3, 11] (by kernel_rfl) (by kernel_rfl) (by kernel_rfl))
                      ) ?_
                  rcases cond_some h38 with ⟨hc66, h38⟩ | ⟨hc66, h38⟩
                  · refine CodeOk.ifT hc66 (by kernel_rfl) ?_
                    refine CodeOk.skip ?_
                    exact hk61 (a0, (a0 == 62)) h38 _ (Weak.sel [] [3, 11] (by kernel_rfl) (by kernel_rfl) (by kernel_rfl))
                  · refine CodeOk.ifF hc66 (by kernel_rfl) ?_
                    refine CodeOk.endR (tl 29 [(3, V.int a0), (11, V.bool (a0 == 49))]) [] mix (by
                        refine W.run D_ok 2 100 (by kernel_rfl) ?_
                        exact W.fin (by decide) (by kernel_rfl) (Weak.sel [] [3, 11] (by kernel_rfl) (by kernel_rfl) (by kernel_rfl))
                        ) (fun st hw => ?_)
                    exact hk61 (a0, (a0 == 49)) h38 _ (hw.trans (Weak.sel [] [3, 11] (by kernel_rfl) (by kernel_rfl) (by kernel_rfl)))
      intro hk67
      refine CodeOk.cutR (tl 29 [(3, V.int a0), (8, V.bool (a0 == 67))]) [] mix (by
          refine W.run D_ok 2 100 (by kernel_rfl) ?_
          exact W.fin (by decide) (by kernel_rfl) (Weak.sel [] [3, 8] (by kernel_rfl) (by kernel_rfl) (by kernel_rfl))
          ) ?_
      rcases cond_some h with ⟨hc68, h⟩ | ⟨hc68, h⟩
      · refine CodeOk.ifT hc68 (by kernel_rfl) ?_
        refine CodeOk.skip ?_
        exact hk67 (a0, (a0 == 67)) h _ (Weak.sel [] [3, 8] (by kernel_rfl) (by kernel_rfl) (by kernel_rfl))
      · refine CodeOk.ifF hc68 (by kernel_rfl) ?_
        refine CodeOk.endR (tl 29 [(3, V.int a0), (8, V.bool (a0 == 46))]) [] mix (by
            refine W.run D_ok 2 100 (by kernel_rfl) ?_
            exact W.fin (by decide) (by kernel_rfl) (Weak.sel [] [3, 8] (by kernel_rfl) (by kernel_rfl) (by kernel_rfl))
            ) (fun st hw => ?_)
        exact hk67 (a0, (a0 == 46)) h _ (hw.trans (Weak.sel [] [3, 8] (by kernel_rfl) (by kernel_rfl) (by kernel_rfl)))

theorem m_impl_Shunts_ok (N : Nat) (a0 : List SToken) {r : Bool} (h : m_impl_Shunts N a0 = some r) :
    AC Tryd.prog (GS [0, 1, 2]) 9 [.sl false false (a0.map encSToken)] [] (V.bool r) [] := by
  rw [m_impl_Shunts] at h
  refine AC.enter Tryd.func9 rfl ?_
  refine CodeOk.cutR (tl 71 [(0, .sl false false (a0.map encSToken))]) [] mix (by
      refine W.run D_ok 1 100 (by kernel_rfl) ?_
      exact W.fin (by decide) (by kernel_rfl) (Weak.sel [] [0] (by kernel_rfl) (by kernel_rfl) (by kernel_rfl))
      ) ?_
  refine CodeOk.seq' ?_
  obtain ⟨r4, hx5, h⟩ := bind_some h
  refine CodeOk.cutR (tl 71 [(0, .sl false false (a0.map encSToken)), (9, V.bool (!r4))]) [] mix (by
      refine W.run D_ok 1 100 (by kernel_rfl) ?_
      refine W.call0 (m_impl_TokensOk_ok N a0 hx5) cok25 rfl (by kernel_rfl) ?_
      refine W.run D_ok 1 100 (by kernel_rfl) ?_
      exact W.fin (by decide) (by kernel_rfl) (Weak.sel [] [0, 9] (by kernel_rfl) (by kernel_rfl) (by kernel_rfl))
      ) ?_
  rcases cond_some h with ⟨hc6, h⟩ | ⟨hc6, h⟩
  · refine CodeOk.ifT hc6 (by kernel_rfl) ?_
    refine CodeOk.cutR (tl 71 [(2, V.bool false)]) [] mix (by
        refine W.run D_ok 1 100 (by kernel_rfl) ?_
        exact W.fin (by decide) (by kernel_rfl) (Weak.sel [] [2] (by kernel_rfl) (by kernel_rfl) (by kernel_rfl))
        ) ?_
    refine CodeOk.ret ?_
    have h := Option.some.inj h
    subst h
    exact Ends.gen [] (.inr rfl) (RetV.one rfl (OneR.tmp (t := 2) (r := V.bool false) (by kernel_rfl))) (by kernel_rfl) (by kernel_rfl) (by kernel_rfl)
  · refine CodeOk.ifF hc6 (by kernel_rfl) ?_
    refine CodeOk.skip ?_
    refine CodeOk.weak (st' := ⟨tl 71 [(0, .sl false false (a0.map encSToken)), (9, V.bool (!r4))], []⟩) (Weak.refl _) ?_
    refine CodeOk.cutR (tl 71 [(0, .sl false false (a0.map encSToken)), (3, V.int 0), (4, V.bool false)]) [] mix (by
        refine W.run D_ok 2 100 (by kernel_rfl) ?_
        exact W.fin (by decide) (by kernel_rfl) (Weak.sel [] [0, 3, 4] (by kernel_rfl) (by kernel_rfl) (by kernel_rfl))
        ) ?_
    refine CodeOk.seq' ?_
    refine CodeOk.cutR (tl 71 [(3, V.int 0), (4, V.bool false), (10, .sl false false (a0.map encSToken)), (11, V.int (a0.length : Int)), (12, V.int 0)]) [] mix (by
        refine W.run D_ok 1 100 (by kernel_rfl) ?_
        refine W.len D_ok encSToken a0 [] (by kernel_rfl) (by kernel_rfl) ?_
        refine W.run D_ok 1 100 (by kernel_rfl) ?_
        exact W.fin (by decide) (by kernel_rfl) (Weak.sel [] [3, 4, 10, 11, 12] (by kernel_rfl) (by kernel_rfl) (by kernel_rfl))
        ) ?_
    refine CodeOk.block' ?_
    refine CodeOk.loopJ (fun (⟨a0, y75, y76, y77⟩ : ((List SToken) × Int × Bool × Int)) => ⟨tl 71 [(3, V.int y75), (4, V.bool y76), (10, .sl false false (a0.map encSToken)), (11, V.int (a0.length : Int)), (12, V.int y77)], []⟩) (fun n i => m_impl_Shunts_l1 N n i = some r) (n0 := N) (i0 := (a0, 0, false, 0)) (Weak.sel [] [3, 4, 10, 11, 12] (by kernel_rfl) (by kernel_rfl) (by kernel_rfl)) h (fun i h => by simp [m_impl_Shunts_l1] at h) ?_
    rintro n1 ⟨a0, y75, y76, y77⟩ h273 ih274
    rw [m_impl_Shunts_l1] at h273
    refine CodeOk.cutR (tl 71 [(3, V.int y75), (4, V.bool y76), (10, .sl false false (a0.map encSToken)), (11, V.int (a0.length : Int)), (12, V.int y77), (13, V.bool (decide (y77 < (a0.length : Int))))]) [] mix (by
        refine W.run D_ok 1 162 (by kernel_rfl) ?_
        exact W.fin (by decide) (by kernel_rfl) (Weak.sel [] [3, 4, 10, 11, 12, 13] (by kernel_rfl) (by kernel_rfl) (by kernel_rfl))
        ) ?_
    refine CodeOk.seq' ?_
    rcases cond_some h273 with ⟨hc276, h273⟩ | ⟨hc276, h273⟩
    · refine CodeOk.ifT hc276 (by kernel_rfl) ?_
      refine CodeOk.skip ?_
      refine CodeOk.weak (st' := ⟨tl 71 [(3, V.int y75), (4, V.bool y76), (10, .sl false false (a0.map encSToken)), (11, V.int (a0.length : Int)), (12, V.int y77), (13, V.bool (decide (y77 < (a0.length : Int))))], []⟩) (Weak.refl _) ?_
      refine CodeOk.join (fun (⟨a0, y77, y107, y108⟩ : ((List SToken) × Int × Int × Bool)) => ⟨tl 71 [(3, V.int y107), (4, V.bool y108), (10, .sl false false (a0.map encSToken)), (11, V.int (a0.length : Int)), (12, V.int y77)], []⟩) (fun i => m_impl_Shunts_k2 N (m_impl_Shunts_l1 N n1) i = some r) ?_ ?_
      · rintro ⟨a0, y77, y107, y108⟩ h303
        rw [m_impl_Shunts_k2] at h303
        refine CodeOk.endR (tl 71 [(3, V.int y107), (4, V.bool y108), (10, .sl false false (a0.map encSToken)), (11, V.int (a0.length : Int)), (12, V.int (IntKind.wrap .i64 (y77 + 1)))]) [] mix (by
            refine W.run D_ok 2 163 (by kernel_rfl) ?_
            exact W.fin (by decide) (by kernel_rfl) (Weak.sel [] [3, 4, 10, 11, 12] (by kernel_rfl) (by kernel_rfl) (by kernel_rfl))
            ) (fun st hw => ?_)
        exact ih274 (a0, y107, y108, (IntKind.wrap .i64 (y77 + 1))) h303 _ (hw.trans (Weak.sel [] [3, 4, 10, 11, 12] (by kernel_rfl) (by kernel_rfl) (by kernel_rfl)))
      intro hk304
      refine CodeOk.block' ?_
      obtain ⟨e110, hx306, h273⟩ := bind_some h273
      refine CodeOk.cutR (tl 71 [(3, V.int y75), (4, V.bool y76), (6, .loc 162 0), (10, .sl false false (a0.map encSToken)), (11, V.int (a0.length : Int)), (12, V.int y77)]) [(162, .cells 46 [V.int e110.Kind, V.str e110.Text, V.int e110.At])] mix (by
          refine W.ixD D_ok encSToken hx306 3 (by kernel_rfl) (by kernel_rfl) ?_
          refine W.run D_ok 3 162 (by kernel_rfl) ?_
          exact W.fin (by decide) (by kernel_rfl) (Weak.sel [(162, 162)] [3, 4, 6, 10, 11, 12] (by kernel_rfl) (by kernel_rfl) (by kernel_rfl))
          ) ?_
      refine CodeOk.block' ?_
      obtain ⟨y111, hv308, h273⟩ := bind_some h273
      refine CodeOk.cutR (tl 71 [(3, V.int y75), (4, V.bool y76), (6, .loc 100 0), (10, .sl false false (a0.map encSToken)), (11, V.int (a0.length : Int)), (12, V.int y77), (16, V.bool y111)]) [(100, .cells 46 [V.int e110.Kind, V.str e110.Text, V.int e110.At])] mix (by
          refine W.run D_ok 4 163 (by kernel_rfl) ?_
          rcases cond_some hv308 with ⟨hc309, hv308⟩ | ⟨hc309, hv308⟩
          · refine W.is 20 hc309 (by kernel_rfl) ?_
            refine W.run D_ok 4 163 (by kernel_rfl) ?_
            have hv308 := Option.some.inj hv308
            subst hv308
            exact W.fin (by decide) (by kernel_rfl) (Weak.sel [(162, 100)] [3, 4, 6, 10, 11, 12, 16] (by kernel_rfl) (by kernel_rfl) (by kernel_rfl))
          · refine W.is 20 hc309 (by kernel_rfl) ?_
            refine W.run D_ok 4 163 (by kernel_rfl) ?_
            have hv308 := Option.some.inj hv308
            subst hv308
            exact W.fin (by decide) (by kernel_rfl) (Weak.sel [(162, 100)] [3, 4, 6, 10, 11, 12, 16] (by kernel_rfl) (by kernel_rfl) (by kernel_rfl))
          ) ?_
      rcases cond_some h273 with ⟨hc310, h273⟩ | ⟨hc310, h273⟩
      · refine CodeOk.ifT hc310 (by kernel_rfl) ?_
        refine CodeOk.endR (tl 71 [(3, V.int (IntKind.wrap .i64 (y75 + 1))), (4, V.bool y76), (10, .sl false false (a0.map encSToken)), (11, V.int (a0.length : Int)), (12, V.int y77)]) [] mix (by
            refine W.run D_ok 3 163 (by kernel_rfl) ?_
            exact W.fin (by decide) (by kernel_rfl) (Weak.sel [] [3, 4, 10, 11, 12] (by kernel_rfl) (by kernel_rfl) (by kernel_rfl))
            ) (fun st hw => ?_)
        exact hk304 (a0, y77, (IntKind.wrap .i64 (y75 + 1)), y76) h273 _ (hw.trans (Weak.sel [] [3, 4, 10, 11, 12] (by kernel_rfl) (by kernel_rfl) (by kernel_rfl)))
      · refine CodeOk.ifF hc310 (by kernel_rfl) ?_
        obtain ⟨y112, hv313, h273⟩ := bind_some h273
        refine CodeOk.cutR (tl 71 [(3, V.int y75), (4, V.bool y76), (6, .loc 100 0), (10, .sl false false (a0.map encSToken)), (11, V.int (a0.length : Int)), (12, V.int y77), (26, V.bool y112)]) [(100, .cells 46 [V.int e110.Kind, V.str e110.Text, V.int e110.At])] mix (by
            refine W.run D_ok 4 163 (by kernel_rfl) ?_
            rcases cond_some hv313 with ⟨hc314, hv313⟩ | ⟨hc314, hv313⟩
            · refine W.is 30 hc314 (by kernel_rfl) ?_
              refine W.run D_ok 9 163 (by kernel_rfl) ?_
              have hv313 := Option.some.inj hv313
              subst hv313
              exact W.fin (by decide) (by kernel_rfl) (Weak.sel [(100, 100)] [3, 4, 6, 10, 11, 12, 26] (by kernel_rfl) (by kernel_rfl) (by kernel_rfl))
            · refine W.is 30 hc314 (by kernel_rfl) ?_
              refine W.run D_ok 5 163 (by kernel_rfl) ?_
              rcases cond_some hv313 with ⟨hc315, hv313⟩ | ⟨hc315, hv313⟩
              · refine W.is 35 hc315 (by kernel_rfl) ?_
                refine W.run D_ok 4 163 (by kernel_rfl) ?_
                have hv313 := Option.some.inj hv313
                subst hv313
                exact W.fin (by decide) (by kernel_rfl) (Weak.sel [(100, 100)] [3, 4, 6, 10, 11, 12, 26] (by kernel_rfl) (by kernel_rfl) (by kernel_rfl))
              · refine W.is 35 hc315 (by kernel_rfl) ?_
                refine W.run D_ok 4 163 (by kernel_rfl) ?_
                have hv313 := Option.some.inj hv313
                subst hv313
                exact W.fin (by decide) (by kernel_rfl) (Weak.sel [(100, 100)] [3, 4, 6, 10, 11, 12, 26] (by kernel_rfl) (by kernel_rfl) (by kernel_rfl))
            ) ?_
        rcases cond_some h273 with ⟨hc316, h273⟩ | ⟨hc316, h273⟩
        · refine CodeOk.ifT hc316 (by kernel_rfl) ?_
          refine CodeOk.endR (tl 71 [(3, V.int y75), (4, V.bool true), (10, .sl false false (a0.map encSToken)), (11, V.int (a0.length : Int)), (12, V.int y77)]) [] mix (by
              refine W.run D_ok 1 163 (by kernel_rfl) ?_
              exact W.fin (by decide) (by kernel_rfl) (Weak.sel [] [3, 4, 10, 11, 12] (by kernel_rfl) (by kernel_rfl) (by kernel_rfl))
              ) (fun st hw => ?_)
          exact hk304 (a0, y77, y75, true) h273 _ (hw.trans (Weak.sel [] [3, 4, 10, 11, 12] (by kernel_rfl) (by kernel_rfl) (by kernel_rfl)))
        · refine CodeOk.ifF hc316 (by kernel_rfl) ?_
          obtain ⟨y113, hv319, h273⟩ := bind_some h273
          refine CodeOk.cutR (tl 71 [(3, V.int y75), (4, V.bool y76), (6, .loc 100 0), (10, .sl false false (a0.map encSToken)), (11, V.int (a0.length : Int)), (12, V.int y77), (39, V.bool y113)]) [(100, .cells 46 [V.int e110.Kind, V.str e110.Text, V.int e110.At])] mix (by
              refine W.run D_ok 4 163 (by kernel_rfl) ?_
              rcases cond_some hv319 with ⟨hc320, hv319⟩ | ⟨hc320, hv319⟩
              · refine W.is 43 hc320 (by kernel_rfl) ?_
                refine W.run D_ok 3 163 (by kernel_rfl) ?_
                rcases cond_some hv319 with ⟨hc321, hv319⟩ | ⟨hc321, hv319⟩
                · refine W.is 46 hc321 (by kernel_rfl) ?_
                  refine W.run D_ok 4 163 (by kernel_rfl) ?_
                  have hv319 := Option.some.inj hv319
                  subst hv319
                  exact W.fin (by decide) (by kernel_rfl) (Weak.sel [(100, 100)] [3, 4, 6, 10, 11, 12, 39] (by kernel_rfl) (by kernel_rfl) (by kernel_rfl))
                · refine W.is 46 hc321 (by kernel_rfl) ?_
                  refine W.run D_ok 4 163 (by kernel_rfl) ?_
                  have hv319 := Option.some.inj hv319
                  subst hv319
                  exact W.fin (by decide) (by kernel_rfl) (Weak.sel [(100, 100)] [3, 4, 6, 10, 11, 12, 39] (by kernel_rfl) (by kernel_rfl) (by kernel_rfl))
              · refine W.is 43 hc320 (by kernel_rfl) ?_
                refine W.run D_ok 7 163 (by kernel_rfl) ?_
                have hv319 := Option.some.inj hv319
                subst hv319
                exact W.fin (by decide) (by kernel_rfl) (Weak.sel [(100, 100)] [3, 4, 6, 10, 11, 12, 39] (by kernel_rfl) (by kernel_rfl) (by kernel_rfl))
              ) ?_
          rcases cond_some h273 with ⟨hc322, h273⟩ | ⟨hc322, h273⟩
          · refine CodeOk.ifT hc322 (by kernel_rfl) ?_
            refine CodeOk.endR (tl 71 [(3, V.int (IntKind.wrap .i64 (y75 - 1))), (4, V.bool y76), (10, .sl false false (a0.map encSToken)), (11, V.int (a0.length : Int)), (12, V.int y77)]) [] mix (by
                refine W.run D_ok 3 163 (by kernel_rfl) ?_
                exact W.fin (by decide) (by kernel_rfl) (Weak.sel [] [3, 4, 10, 11, 12] (by kernel_rfl) (by kernel_rfl) (by kernel_rfl))
                ) (fun st hw => ?_)
            exact hk304 (a0, y77, (IntKind.wrap .i64 (y75 - 1)), y76) h273 _ (hw.trans (Weak.sel [] [3, 4, 10, 11, 12] (by kernel_rfl) (by kernel_rfl) (by kernel_rfl)))
          · refine CodeOk.ifF hc322 (by kernel_rfl) ?_
            obtain ⟨y115, hv326, h273⟩ := bind_some h273
            refine CodeOk.cutR (tl 71 [(3, V.int y75), (10, .sl false false (a0.map encSToken)), (11, V.int (a0.length : Int)), (12, V.int y77), (52, V.bool y115)]) [] mix (by
                refine W.run D_ok 2 163 (by kernel_rfl) ?_
                obtain ⟨r116, hx327, hv326⟩ := bind_some hv326
                refine W.call0 (AC.gs (m_impl_OpLevel_ok e110.Kind hx327) (by decide)) cok26 rfl (by kernel_rfl) ?_
                refine W.run D_ok 2 163 (by kernel_rfl) ?_
                rcases cond_some hv326 with ⟨hc328, hv326⟩ | ⟨hc328, hv326⟩
                · refine W.is 57 hc328 (by kernel_rfl) ?_
                  refine W.run D_ok 5 163 (by kernel_rfl) ?_
                  rcases cond_some hv326 with ⟨hc329, hv326⟩ | ⟨hc329, hv326⟩
                  · refine W.is 62 hc329 (by kernel_rfl) ?_
                    refine W.run D_ok 3 163 (by kernel_rfl) ?_
                    have hv326 := Option.some.inj hv326
                    subst hv326
                    exact W.fin (by decide) (by kernel_rfl) (Weak.sel [] [3, 10, 11, 12, 52] (by kernel_rfl) (by kernel_rfl) (by kernel_rfl))
                  · refine W.is 62 hc329 (by kernel_rfl) ?_
                    refine W.run D_ok 3 163 (by kernel_rfl) ?_
                    have hv326 := Option.some.inj hv326
                    subst hv326
                    exact W.fin (by decide) (by kernel_rfl) (Weak.sel [] [3, 10, 11, 12, 52] (by kernel_rfl) (by kernel_rfl) (by kernel_rfl))
                · refine W.is 57 hc328 (by kernel_rfl) ?_
                  refine W.run D_ok 8 163 (by kernel_rfl) ?_
                  have hv326 := Option.some.inj hv326
                  subst hv326
                  exact W.fin (by decide) (by kernel_rfl) (Weak.sel [] [3, 10, 11, 12, 52] (by kernel_rfl) (by kernel_rfl) (by kernel_rfl))
                ) ?_
            rcases cond_some h273 with ⟨hc330, h273⟩ | ⟨hc330, h273⟩
            · refine CodeOk.ifT hc330 (by kernel_rfl) ?_
              refine CodeOk.endR (tl 71 [(3, V.int y75), (4, V.bool false), (10, .sl false false (a0.map encSToken)), (11, V.int (a0.length : Int)), (12, V.int y77)]) [] mix (by
                  refine W.run D_ok 1 163 (by kernel_rfl) ?_
                  exact W.fin (by decide) (by kernel_rfl) (Weak.sel [] [3, 4, 10, 11, 12] (by kernel_rfl) (by kernel_rfl) (by kernel_rfl))
                  ) (fun st hw => ?_)
              exact hk304 (a0, y77, y75, false) h273 _ (hw.trans (Weak.sel [] [3, 4, 10, 11, 12] (by kernel_rfl) (by kernel_rfl) (by kernel_rfl)))
            · refine CodeOk.ifF hc330 (by kernel_rfl) ?_
              refine CodeOk.cutR (tl 71 [(2, V.bool false)]) [] mix (by
                  refine W.run D_ok 1 163 (by kernel_rfl) ?_
                  exact W.fin (by decide) (by kernel_rfl) (Weak.sel [] [2] (by kernel_rfl) (by kernel_rfl) (by kernel_rfl))
                  ) ?_
              refine CodeOk.ret ?_
              have h273 := Option.some.inj h273
              subst h273
              exact Ends.gen [] (.inr rfl) (RetV.one rfl (OneR.tmp (t := 2) (r := V.bool false) (by kernel_rfl))) (by kernel_rfl) (by kernel_rfl) (by kernel_rfl)
    · refine CodeOk.ifF hc276 (by kernel_rfl) ?_
      refine CodeOk.exit ?_
      refine CodeOk.weak (st' := ⟨tl 71 [(3, V.int y75), (4, V.bool y76), (10, .sl false false (a0.map encSToken)), (11, V.int (a0.length : Int)), (12, V.int y77), (13, V.bool (decide (y77 < (a0.length : Int))))], []⟩) (Weak.refl _) ?_
      obtain ⟨y117, hv332, h273⟩ := bind_some h273
      refine CodeOk.cutR (tl 71 [(2, V.bool y117)]) [] mix (by
          refine W.run D_ok 2 162 (by kernel_rfl) ?_
          rcases cond_some hv332 with ⟨hc333, hv332⟩ | ⟨hc333, hv332⟩
          · refine W.is 67 hc333 (by kernel_rfl) ?_
            refine W.run D_ok 4 162 (by kernel_rfl) ?_
            have hv332 := Option.some.inj hv332
            subst hv332
            exact W.fin (by decide) (by kernel_rfl) (Weak.sel [] [2] (by kernel_rfl) (by kernel_rfl) (by kernel_rfl))
          · refine W.is 67 hc333 (by kernel_rfl) ?_
            refine W.run D_ok 4 162 (by kernel_rfl) ?_
            have hv332 := Option.some.inj hv332
            subst hv332
            exact W.fin (by decide) (by kernel_rfl) (Weak.sel [] [2] (by kernel_rfl) (by kernel_rfl) (by kernel_rfl))
          ) ?_
      refine CodeOk.ret ?_
      have h273 := Option.some.inj h273
      subst h273
      exact Ends.gen [] (.inr rfl) (RetV.one rfl (OneR.tmp (t := 2) (r := V.bool y117) (by kernel_rfl))) (by kernel_rfl) (by kernel_rfl) (by kernel_rfl)

theorem m_laws_eqToken_ok (a0 : SToken) (a1 : SToken) {r : Bool} (h : m_laws_eqToken a0 a1 = some r) :
    AC Tryd.prog (GS []) 27 [.agg [V.int a0.Kind, V.str a0.Text, V.int a0.At], .agg [V.int a1.Kind, V.str a1.Text, V.int a1.At]] [] (V.bool r) [] := by
  rw [m_laws_eqToken] at h
  refine AC.enter Tryd.func27 rfl ?_
  refine CodeOk.cutR (tl 20 [(2, .loc 100 0), (3, .loc 101 0)]) [(101, .cells 46 [V.int a1.Kind, V.str a1.Text, V.int a1.At]), (100, .cells 46 [V.int a0.Kind, V.str a0.Text, V.int a0.At])] mix (by
      refine W.run D_ok 3 100 (by kernel_rfl) ?_
      exact W.fin (by decide) (by kernel_rfl) (Weak.sel [(101, 101), (100, 100)] [2, 3] (by kernel_rfl) (by kernel_rfl) (by kernel_rfl))
      ) ?_
  refine CodeOk.seq' ?_
  refine CodeOk.cutR (tl 20 [(2, .loc 100 0), (3, .loc 101 0), (9, V.bool (a0.Kind != a1.Kind))]) [(101, .cells 46 [V.int a1.Kind, V.str a1.Text, V.int a1.At]), (100, .cells 46 [V.int a0.Kind, V.str a0.Text, V.int a0.At])] mix (by
      refine W.run D_ok 5 102 (by kernel_rfl) ?_
      exact W.fin (by decide) (by kernel_rfl) (Weak.sel [(101, 101), (100, 100)] [2, 3, 9] (by kernel_rfl) (by kernel_rfl) (by kernel_rfl))
      ) ?_
  rcases cond_some h with ⟨hc2, h⟩ | ⟨hc2, h⟩
  · refine CodeOk.ifT hc2 (by kernel_rfl) ?_
    refine CodeOk.cutR (tl 20 [(4, V.bool false)]) [] mix (by
        refine W.run D_ok 1 102 (by kernel_rfl) ?_
        exact W.fin (by decide) (by kernel_rfl) (Weak.sel [] [4] (by kernel_rfl) (by kernel_rfl) (by kernel_rfl))
        ) ?_
    refine CodeOk.ret ?_
    have h := Option.some.inj h
    subst h
    exact Ends.gen [] (.inr rfl) (RetV.one rfl (OneR.tmp (t := 4) (r := V.bool false) (by kernel_rfl))) (by kernel_rfl) (by kernel_rfl) (by kernel_rfl)
  · refine CodeOk.ifF hc2 (by kernel_rfl) ?_
    refine CodeOk.skip ?_
    refine CodeOk.weak (st' := ⟨tl 20 [(2, .loc 100 0), (3, .loc 101 0), (9, V.bool (a0.Kind != a1.Kind))], [(101, .cells 46 [V.int a1.Kind, V.str a1.Text, V.int a1.At]), (100, .cells 46 [V.int a0.Kind, V.str a0.Text, V.int a0.At])]⟩) (Weak.refl _) ?_
    refine CodeOk.seq' ?_
    refine CodeOk.cutR (tl 20 [(2, .loc 100 0), (3, .loc 101 0), (14, V.bool (!(a0.Text == a1.Text)))]) [(101, .cells 46 [V.int a1.Kind, V.str a1.Text, V.int a1.At]), (100, .cells 46 [V.int a0.Kind, V.str a0.Text, V.int a0.At])] mix (by
        refine W.run D_ok 5 102 (by kernel_rfl) ?_
        exact W.fin (by decide) (by kernel_rfl) (Weak.sel [(101, 101), (100, 100)] [2, 3, 14] (by kernel_rfl) (by kernel_rfl) (by kernel_rfl))
        ) ?_
    rcases cond_some h with ⟨hc4, h⟩ | ⟨hc4, h⟩
    · refine CodeOk.ifT hc4 (by kernel_rfl) ?_
      refine CodeOk.cutR (tl 20 [(4, V.bool false)]) [] mix (by
          refine W.run D_ok 1 102 (by kernel_rfl) ?_
          exact W.fin (by decide) (by kernel_rfl) (Weak.sel [] [4] (by kernel_rfl) (by kernel_rfl) (by kernel_rfl))
          ) ?_
      refine CodeOk.ret ?_
      have h := Option.some.inj h
      subst h
      exact Ends.gen [] (.inr rfl) (RetV.one rfl (OneR.tmp (t := 4) (r := V.bool false) (by kernel_rfl))) (by kernel_rfl) (by kernel_rfl) (by kernel_rfl)
    · refine CodeOk.ifF hc4 (by kernel_rfl) ?_
      refine CodeOk.skip ?_
      refine CodeOk.weak (st' := ⟨tl 20 [(2, .loc 100 0), (3, .loc 101 0), (14, V.bool (!(a0.Text == a1.Text)))], [(101, .cells 46 [V.int a1.Kind, V.str a1.Text, V.int a1.At]), (100, .cells 46 [V.int a0.Kind, V.str a0.Text, V.int a0.At])]⟩) (Weak.refl _) ?_
      refine CodeOk.seq' ?_
      refine CodeOk.cutR (tl 20 [(19, V.bool (a0.At != a1.At))]) [] mix (by
          refine W.run D_ok 5 102 (by kernel_rfl) ?_
          exact W.fin (by decide) (by kernel_rfl) (Weak.sel [] [19] (by kernel_rfl) (by kernel_rfl) (by kernel_rfl))
          ) ?_
      rcases cond_some h with ⟨hc6, h⟩ | ⟨hc6, h⟩
      · refine CodeOk.ifT hc6 (by kernel_rfl) ?_
        refine CodeOk.cutR (tl 20 [(4, V.bool false)]) [] mix (by
            refine W.run D_ok 1 102 (by kernel_rfl) ?_
            exact W.fin (by decide) (by kernel_rfl) (Weak.sel [] [4] (by kernel_rfl) (by kernel_rfl) (by kernel_rfl))
            ) ?_
        refine CodeOk.ret ?_
        have h := Option.some.inj h
        subst h
        exact Ends.gen [] (.inr rfl) (RetV.one rfl (OneR.tmp (t := 4) (r := V.bool false) (by kernel_rfl))) (by kernel_rfl) (by kernel_rfl) (by kernel_rfl)
      · refine CodeOk.ifF hc6 (by kernel_rfl) ?_
        refine CodeOk.skip ?_
        refine CodeOk.weak (st' := ⟨tl 20 [(19, V.bool (a0.At != a1.At))], []⟩) (Weak.refl _) ?_
        refine CodeOk.cutR (tl 20 [(4, V.bool true)]) [] mix (by
            refine W.run D_ok 1 102 (by kernel_rfl) ?_
            exact W.fin (by decide) (by kernel_rfl) (Weak.sel [] [4] (by kernel_rfl) (by kernel_rfl) (by kernel_rfl))
            ) ?_
        refine CodeOk.ret ?_
        have h := Option.some.inj h
        subst h
        exact Ends.gen [] (.inr rfl) (RetV.one rfl (OneR.tmp (t := 4) (r := V.bool true) (by kernel_rfl))) (by kernel_rfl) (by kernel_rfl) (by kernel_rfl)

theorem m_laws_eqTokenS_ok (N : Nat) (a0 : List SToken) (a1 : List SToken) {r : Bool} (h : m_laws_eqTokenS N a0 a1 = some r) :
    AC Tryd.prog (GS []) 10 [.sl false false (a0.map encSToken), .sl false false (a1.map encSToken)] [] (V.bool r) [] := by
  rw [m_laws_eqTokenS] at h
  refine AC.enter Tryd.func10 rfl ?_
  refine CodeOk.cutR (tl 27 [(0, .sl false false (a0.map encSToken)), (1, .sl false false (a1.map encSToken))]) [] mix (by
      refine W.run D_ok 1 100 (by kernel_rfl) ?_
      exact W.fin (by decide) (by kernel_rfl) (Weak.sel [] [0, 1] (by kernel_rfl) (by kernel_rfl) (by kernel_rfl))
      ) ?_
  refine CodeOk.seq' ?_
  refine CodeOk.cutR (tl 27 [(0, .sl false false (a0.map encSToken)), (1, .sl false false (a1.map encSToken)), (10, V.bool ((a0.length : Int) != (a1.length : Int)))]) [] mix (by
      refine W.run D_ok 1 100 (by kernel_rfl) ?_
      refine W.len D_ok encSToken a0 [] (by kernel_rfl) (by kernel_rfl) ?_
      refine W.run D_ok 1 100 (by kernel_rfl) ?_
      refine W.len D_ok encSToken a1 [] (by kernel_rfl) (by kernel_rfl) ?_
      refine W.run D_ok 1 100 (by kernel_rfl) ?_
      exact W.fin (by decide) (by kernel_rfl) (Weak.sel [] [0, 1, 10] (by kernel_rfl) (by kernel_rfl) (by kernel_rfl))
      ) ?_
  rcases cond_some h with ⟨hc2, h⟩ | ⟨hc2, h⟩
  · refine CodeOk.ifT hc2 (by kernel_rfl) ?_
    refine CodeOk.cutR (tl 27 [(4, V.bool false)]) [] mix (by
        refine W.run D_ok 1 100 (by kernel_rfl) ?_
        exact W.fin (by decide) (by kernel_rfl) (Weak.sel [] [4] (by kernel_rfl) (by kernel_rfl) (by kernel_rfl))
        ) ?_
    refine CodeOk.ret ?_
    have h := Option.some.inj h
    subst h
    exact Ends.gen [] (.inr rfl) (RetV.one rfl (OneR.tmp (t := 4) (r := V.bool false) (by kernel_rfl))) (by kernel_rfl) (by kernel_rfl) (by kernel_rfl)
  · refine CodeOk.ifF hc2 (by kernel_rfl) ?_
    refine CodeOk.skip ?_
    refine CodeOk.weak (st' := ⟨tl 27 [(0, .sl false false (a0.map encSToken)), (1, .sl false false (a1.map encSToken)), (10, V.bool ((a0.length : Int) != (a1.length : Int)))], []⟩) (Weak.refl _) ?_
    refine CodeOk.seq' ?_
    refine CodeOk.cutR (tl 27 [(0, .sl false false (a0.map encSToken)), (1, .sl false false (a1.map encSToken)), (5, V.int 0)]) [] mix (by
        refine W.run D_ok 1 100 (by kernel_rfl) ?_
        exact W.fin (by decide) (by kernel_rfl) (Weak.sel [] [0, 1, 5] (by kernel_rfl) (by kernel_rfl) (by kernel_rfl))
        ) ?_
    refine CodeOk.block' ?_
    refine CodeOk.loopJ (fun (⟨a0, a1, y51⟩ : ((List SToken) × (List SToken) × Int)) => ⟨tl 27 [(0, .sl false false (a0.map encSToken)), (1, .sl false false (a1.map encSToken)), (5, V.int y51)], []⟩) (fun n i => m_laws_eqTokenS_l1 N n i = some r) (n0 := N) (i0 := (a0, a1, 0)) (Weak.sel [] [0, 1, 5] (by kernel_rfl) (by kernel_rfl) (by kernel_rfl)) h (fun i h => by simp [m_laws_eqTokenS_l1] at h) ?_
    rintro n1 ⟨a0, a1, y51⟩ h85 ih86
    rw [m_laws_eqTokenS_l1] at h85
    refine CodeOk.seq' ?_
    refine CodeOk.cutR (tl 27 [(0, .sl false false (a0.map encSToken)), (1, .sl false false (a1.map encSToken)), (5, V.int y51), (14, V.bool (decide (y51 < (a0.length : Int))))]) [] mix (by
        refine W.run D_ok 2 160 (by kernel_rfl) ?_
        refine W.len D_ok encSToken a0 [] (by kernel_rfl) (by kernel_rfl) ?_
        refine W.run D_ok 1 160 (by kernel_rfl) ?_
        exact W.fin (by decide) (by kernel_rfl) (Weak.sel [] [0, 1, 5, 14] (by kernel_rfl) (by kernel_rfl) (by kernel_rfl))
        ) ?_
    rcases cond_some h85 with ⟨hc88, h85⟩ | ⟨hc88, h85⟩
    · refine CodeOk.ifT hc88 (by kernel_rfl) ?_
      refine CodeOk.skip ?_
      refine CodeOk.weak (st' := ⟨tl 27 [(0, .sl false false (a0.map encSToken)), (1, .sl false false (a1.map encSToken)), (5, V.int y51), (14, V.bool (decide (y51 < (a0.length : Int))))], []⟩) (Weak.refl _) ?_
      refine CodeOk.seq' ?_
      refine CodeOk.block' ?_
      obtain ⟨e74, hx99, h85⟩ := bind_some h85
      obtain ⟨e75, hx100, h85⟩ := bind_some h85
      obtain ⟨r76, hx101, h85⟩ := bind_some h85
      refine CodeOk.cutR (tl 27 [(0, .sl false false (a0.map encSToken)), (1, .sl false false (a1.map encSToken)), (5, V.int y51), (26, V.bool (!r76))]) [] mix (by
          refine W.run D_ok 2 160 (by kernel_rfl) ?_
          refine W.ixD D_ok encSToken hx99 3 (by kernel_rfl) (by kernel_rfl) ?_
          refine W.run D_ok 3 160 (by kernel_rfl) ?_
          refine W.ixD D_ok encSToken hx100 3 (by kernel_rfl) (by kernel_rfl) ?_
          refine W.run D_ok 1 160 (by kernel_rfl) ?_
          refine W.call0 (m_laws_eqToken_ok e74 e75 hx101) cok27 rfl (by kernel_rfl) ?_
          refine W.run D_ok 1 160 (by kernel_rfl) ?_
          exact W.fin (by decide) (by kernel_rfl) (Weak.sel [] [0, 1, 5, 26] (by kernel_rfl) (by kernel_rfl) (by kernel_rfl))
          ) ?_
      rcases cond_some h85 with ⟨hc102, h85⟩ | ⟨hc102, h85⟩
      · refine CodeOk.ifT hc102 (by kernel_rfl) ?_
        refine CodeOk.cutR (tl 27 [(4, V.bool false)]) [] mix (by
            refine W.run D_ok 1 160 (by kernel_rfl) ?_
            exact W.fin (by decide) (by kernel_rfl) (Weak.sel [] [4] (by kernel_rfl) (by kernel_rfl) (by kernel_rfl))
            ) ?_
        refine CodeOk.ret ?_
        have h85 := Option.some.inj h85
        subst h85
        exact Ends.gen [] (.inr rfl) (RetV.one rfl (OneR.tmp (t := 4) (r := V.bool false) (by kernel_rfl))) (by kernel_rfl) (by kernel_rfl) (by kernel_rfl)
      · refine CodeOk.ifF hc102 (by kernel_rfl) ?_
        refine CodeOk.skip ?_
        refine CodeOk.weak (st' := ⟨tl 27 [(0, .sl false false (a0.map encSToken)), (1, .sl false false (a1.map encSToken)), (5, V.int y51), (26, V.bool (!r76))], []⟩) (Weak.refl _) ?_
        refine CodeOk.endR (tl 27 [(0, .sl false false (a0.map encSToken)), (1, .sl false false (a1.map encSToken)), (5, V.int (IntKind.wrap .i64 (y51 + 1)))]) [] mix (by
            refine W.run D_ok 3 160 (by kernel_rfl) ?_
            exact W.fin (by decide) (by kernel_rfl) (Weak.sel [] [0, 1, 5] (by kernel_rfl) (by kernel_rfl) (by kernel_rfl))
            ) (fun st hw => ?_)
        exact ih86 (a0, a1, (IntKind.wrap .i64 (y51 + 1))) h85 _ (hw.trans (Weak.sel [] [0, 1, 5] (by kernel_rfl) (by kernel_rfl) (by kernel_rfl)))
    · refine CodeOk.ifF hc88 (by kernel_rfl) ?_
      refine CodeOk.exit ?_
      refine CodeOk.weak (st' := ⟨tl 27 [(0, .sl false false (a0.map encSToken)), (1, .sl false false (a1.map encSToken)), (5, V.int y51), (14, V.bool (decide (y51 < (a0.length : Int))))], []⟩) (Weak.refl _) ?_
      refine CodeOk.cutR (tl 27 [(4, V.bool true)]) [] mix (by
          refine W.run D_ok 1 160 (by kernel_rfl) ?_
          exact W.fin (by decide) (by kernel_rfl) (Weak.sel [] [4] (by kernel_rfl) (by kernel_rfl) (by kernel_rfl))
          ) ?_
      refine CodeOk.ret ?_
      have h85 := Option.some.inj h85
      subst h85
      exact Ends.gen [] (.inr rfl) (RetV.one rfl (OneR.tmp (t := 4) (r := V.bool true) (by kernel_rfl))) (by kernel_rfl) (by kernel_rfl) (by kernel_rfl)

theorem m_laws_FnExactShunts_ok (N : Nat) (a0 : List SToken) {r : Bool} (h : m_laws_FnExactShunts N a0 = some r) :
    AC Tryd.prog (GS [0, 1, 2]) 3 [.sl false false (a0.map encSToken)] [] (V.bool r) [] := by
  rw [m_laws_FnExactShunts] at h
  refine AC.enter Tryd.func3 rfl ?_
  refine CodeOk.cutR (tl 27 [(0, .sl false false (a0.map encSToken))]) [] mix (by
      refine W.run D_ok 1 100 (by kernel_rfl) ?_
      exact W.fin (by decide) (by kernel_rfl) (Weak.sel [] [0] (by kernel_rfl) (by kernel_rfl) (by kernel_rfl))
      ) ?_
  refine CodeOk.cutR (tl 27 [(0, .sl false false (a0.map encSToken)), (3, V.int 1048576)]) [] mix (by
      refine W.run D_ok 1 100 (by kernel_rfl) ?_
      exact W.fin (by decide) (by kernel_rfl) (Weak.sel [] [0, 3] (by kernel_rfl) (by kernel_rfl) (by kernel_rfl))
      ) ?_
  obtain ⟨r2, hx2, h⟩ := bind_some h
  refine CodeOk.cutR (tl 27 [(0, .sl false false (a0.map encSToken)), (3, V.int r2)]) [] mix (by
      refine W.run D_ok 2 100 (by kernel_rfl) ?_
      refine W.call0 (AC.gs (m_laws_szTokenS_ok N a0 1048576 hx2) (by decide)) cok6 rfl (by kernel_rfl) ?_
      refine W.run D_ok 1 100 (by kernel_rfl) ?_
      exact W.fin (by decide) (by kernel_rfl) (Weak.sel [] [0, 3] (by kernel_rfl) (by kernel_rfl) (by kernel_rfl))
      ) ?_
  refine CodeOk.seq' ?_
  refine CodeOk.cutR (tl 27 [(0, .sl false false (a0.map encSToken)), (11, V.bool (decide (r2 < 0)))]) [] mix (by
      refine W.run D_ok 2 100 (by kernel_rfl) ?_
      exact W.fin (by decide) (by kernel_rfl) (Weak.sel [] [0, 11] (by kernel_rfl) (by kernel_rfl) (by kernel_rfl))
      ) ?_
  rcases cond_some h with ⟨hc4, h⟩ | ⟨hc4, h⟩
  · refine CodeOk.ifT hc4 (by kernel_rfl) ?_
    refine CodeOk.cutR (tl 27 [(2, V.bool true)]) [] mix (by
        refine W.run D_ok 1 100 (by kernel_rfl) ?_
        exact W.fin (by decide) (by kernel_rfl) (Weak.sel [] [2] (by kernel_rfl) (by kernel_rfl) (by kernel_rfl))
        ) ?_
    refine CodeOk.ret ?_
    have h := Option.some.inj h
    subst h
    exact Ends.gen [] (.inr rfl) (RetV.one rfl (OneR.tmp (t := 2) (r := V.bool true) (by kernel_rfl))) (by kernel_rfl) (by kernel_rfl) (by kernel_rfl)
  · refine CodeOk.ifF hc4 (by kernel_rfl) ?_
    refine CodeOk.skip ?_
    refine CodeOk.weak (st' := ⟨tl 27 [(0, .sl false false (a0.map encSToken)), (11, V.bool (decide (r2 < 0)))], []⟩) (Weak.refl _) ?_
    obtain ⟨r5, hx7, h⟩ := bind_some h
    obtain ⟨r6, hx8, h⟩ := bind_some h
    refine CodeOk.cutR (tl 27 [(0, .sl false false (a0.map encSToken)), (4, V.bool r6)]) [] mix (by
        refine W.run D_ok 1 100 (by kernel_rfl) ?_
        refine W.call (AC.gs (m_laws_toTokenS_ok N a0 hx7) (by decide)) cok8 [] [(100, 100)] [100] (show LayOk _ [] from trivial) (by kernel_rfl) (by kernel_rfl) ?_
        refine W.lend (AC.gs (m_spec_Shunts_ok N r5 hx8) (by decide)) cok7 [] [] (LayOk.cons (j := 100) encSToken encSToken r5 (by kernel_rfl) (fun _ => rfl) (show LayOk _ [] from trivial)) (.c _) .nil (by kernel_rfl) (by kernel_rfl) ?_
        refine W.run D_ok 1 101 (by kernel_rfl) ?_
        exact W.fin (by decide) (by kernel_rfl) (Weak.sel [] [0, 4] (by kernel_rfl) (by kernel_rfl) (by kernel_rfl))
        ) ?_
    obtain ⟨r8, hx10, h⟩ := bind_some h
    refine CodeOk.cutR (tl 27 [(0, .sl false false (a0.map encSToken)), (4, V.bool r6), (5, .own 101)]) [(101, .vec false 46 3 (r8.map encSToken))] mix (by
        refine W.run D_ok 1 101 (by kernel_rfl) ?_
        refine W.call (AC.gs (m_laws_toTokenS_ok N a0 hx10) (by decide)) cok8 [] [(100, 101)] [101] (show LayOk _ [] from trivial) (by kernel_rfl) (by kernel_rfl) ?_
        refine W.run D_ok 1 102 (by kernel_rfl) ?_
        exact W.fin (by decide) (by kernel_rfl) (Weak.sel [(101, 101)] [0, 4, 5] (by kernel_rfl) (by kernel_rfl) (by kernel_rfl))
        ) ?_
    obtain ⟨r10, hx12, h⟩ := bind_some h
    refine CodeOk.cutR (tl 27 [(0, .sl false false (a0.map encSToken)), (4, V.bool r6), (5, .own 101), (6, V.bool r10)]) [(101, .vec false 46 3 (r8.map encSToken))] mix (by
        refine W.run D_ok 1 102 (by kernel_rfl) ?_
        refine W.lend (m_impl_Shunts_ok N r8 hx12) cok9 [] [] (LayOk.cons (j := 101) encSToken encSToken r8 (by kernel_rfl) (fun _ => rfl) (show LayOk _ [] from trivial)) (.c _) .nil (by kernel_rfl) (by kernel_rfl) ?_
        refine W.run D_ok 1 102 (by kernel_rfl) ?_
        exact W.fin (by decide) (by kernel_rfl) (Weak.sel [(101, 101)] [0, 4, 5, 6] (by kernel_rfl) (by kernel_rfl) (by kernel_rfl))
        ) ?_
    refine CodeOk.seq' ?_
    refine CodeOk.cutR (tl 27 [(0, .sl false false (a0.map encSToken)), (5, .own 101), (21, V.bool (!(r10 == r6)))]) [(101, .vec false 46 3 (r8.map encSToken))] mix (by
        refine W.run D_ok 3 102 (by kernel_rfl) ?_
        exact W.fin (by decide) (by kernel_rfl) (Weak.sel [(101, 101)] [0, 5, 21] (by kernel_rfl) (by kernel_rfl) (by kernel_rfl))
        ) ?_
    rcases cond_some h with ⟨hc14, h⟩ | ⟨hc14, h⟩
    · refine CodeOk.ifT hc14 (by kernel_rfl) ?_
      refine CodeOk.cutR (tl 27 [(2, V.bool false)]) [] mix (by
          refine W.run D_ok 1 102 (by kernel_rfl) ?_
          exact W.fin (by decide) (by kernel_rfl) (Weak.sel [] [2] (by kernel_rfl) (by kernel_rfl) (by kernel_rfl))
          ) ?_
      refine CodeOk.ret ?_
      have h := Option.some.inj h
      subst h
      exact Ends.gen [] (.inr rfl) (RetV.one rfl (OneR.tmp (t := 2) (r := V.bool false) (by kernel_rfl))) (by kernel_rfl) (by kernel_rfl) (by kernel_rfl)
    · refine CodeOk.ifF hc14 (by kernel_rfl) ?_
      refine CodeOk.skip ?_
      refine CodeOk.weak (st' := ⟨tl 27 [(0, .sl false false (a0.map encSToken)), (5, .own 101), (21, V.bool (!(r10 == r6)))], [(101, .vec false 46 3 (r8.map encSToken))]⟩) (Weak.refl _) ?_
      refine CodeOk.seq' ?_
      obtain ⟨r17, hx22, h⟩ := bind_some h
      obtain ⟨r18, hx23, h⟩ := bind_some h
      refine CodeOk.cutR (tl 27 [(26, V.bool (!r18))]) [] mix (by
          refine W.run D_ok 2 102 (by kernel_rfl) ?_
          refine W.call (AC.gs (m_laws_toTokenS_ok N a0 hx22) (by decide)) cok8 [] [(100, 102)] [102] (show LayOk _ [] from trivial) (by kernel_rfl) (by kernel_rfl) ?_
          refine W.lend (AC.gs (m_laws_eqTokenS_ok N r8 r17 hx23) (by decide)) cok10 [] [] (LayOk.cons (j := 101) encSToken encSToken r8 (by kernel_rfl) (fun _ => rfl) (LayOk.cons (j := 102) encSToken encSToken r17 (by kernel_rfl) (fun _ => rfl) (show LayOk _ [] from trivial))) (.c _) .nil (by kernel_rfl) (by kernel_rfl) ?_
          refine W.run D_ok 1 103 (by kernel_rfl) ?_
          exact W.fin (by decide) (by kernel_rfl) (Weak.sel [] [26] (by kernel_rfl) (by kernel_rfl) (by kernel_rfl))
          ) ?_
      rcases cond_some h with ⟨hc24, h⟩ | ⟨hc24, h⟩
      · refine CodeOk.ifT hc24 (by kernel_rfl) ?_
        refine CodeOk.cutR (tl 27 [(2, V.bool false)]) [] mix (by
            refine W.run D_ok 1 103 (by kernel_rfl) ?_
            exact W.fin (by decide) (by kernel_rfl) (Weak.sel [] [2] (by kernel_rfl) (by kernel_rfl) (by kernel_rfl))
            ) ?_
        refine CodeOk.ret ?_
        have h := Option.some.inj h
        subst h
        exact Ends.gen [] (.inr rfl) (RetV.one rfl (OneR.tmp (t := 2) (r := V.bool false) (by kernel_rfl))) (by kernel_rfl) (by kernel_rfl) (by kernel_rfl)
      · refine CodeOk.ifF hc24 (by kernel_rfl) ?_
        refine CodeOk.skip ?_
        refine CodeOk.weak (st' := ⟨tl 27 [(26, V.bool (!r18))], []⟩) (Weak.refl _) ?_
        refine CodeOk.cutR (tl 27 [(2, V.bool true)]) [] mix (by
            refine W.run D_ok 1 103 (by kernel_rfl) ?_
            exact W.fin (by decide) (by kernel_rfl) (Weak.sel [] [2] (by kernel_rfl) (by kernel_rfl) (by kernel_rfl))
            ) ?_
        refine CodeOk.ret ?_
        have h := Option.some.inj h
        subst h
        exact Ends.gen [] (.inr rfl) (RetV.one rfl (OneR.tmp (t := 2) (r := V.bool true) (by kernel_rfl))) (by kernel_rfl) (by kernel_rfl) (by kernel_rfl)

theorem m_spec_Splice_ok (a0 : List UInt8) (a1 : Int) (a2 : Int) (a3 : List UInt8) {r : ((List UInt8) × Bool)} (h : m_spec_Splice a0 a1 a2 a3 = some r) :
    AC Tryd.prog (GS []) 28 [V.str a0, V.int a1, V.int a2, V.str a3] [] (.tup [V.str r.1, V.bool r.2]) [] := by
  rw [m_spec_Splice] at h
  refine AC.enter Tryd.func28 rfl ?_
  refine CodeOk.cutR (tl 36 [(0, V.str a0), (1, V.int a1), (2, V.int a2), (3, V.str a3)]) [] mix (by
      refine W.run D_ok 2 100 (by kernel_rfl) ?_
      exact W.fin (by decide) (by kernel_rfl) (Weak.sel [] [0, 1, 2, 3] (by kernel_rfl) (by kernel_rfl) (by kernel_rfl))
      ) ?_
  refine CodeOk.seq' ?_
  obtain ⟨y8, hv12, h⟩ := bind_some h
  refine CodeOk.cutR (tl 36 [(0, V.str a0), (1, V.int a1), (2, V.int a2), (3, V.str a3), (23, V.bool y8)]) [] mix (by
      refine W.run D_ok 3 100 (by kernel_rfl) ?_
      obtain ⟨r9, hx13, hv12⟩ := bind_some hv12
      refine W.call0 (m_spec_l1In_ok a1 0 (a0.length : Int) hx13) cok48 rfl (by kernel_rfl) ?_
      refine W.run D_ok 2 100 (by kernel_rfl) ?_
      rcases cond_some hv12 with ⟨hc14, hv12⟩ | ⟨hc14, hv12⟩
      · refine W.is 15 hc14 (by kernel_rfl) ?_
        refine W.run D_ok 8 100 (by kernel_rfl) ?_
        have hv12 := Option.some.inj hv12
        subst hv12
        exact W.fin (by decide) (by kernel_rfl) (Weak.sel [] [0, 1, 2, 3, 23] (by kernel_rfl) (by kernel_rfl) (by kernel_rfl))
      · refine W.is 15 hc14 (by kernel_rfl) ?_
        refine W.run D_ok 5 100 (by kernel_rfl) ?_
        obtain ⟨r10, hx15, hv12⟩ := bind_some hv12
        refine W.call0 (m_spec_l1In_ok a2 0 (IntKind.wrap .i64 ((a0.length : Int) - a1)) hx15) cok48 rfl (by kernel_rfl) ?_
        refine W.run D_ok 2 100 (by kernel_rfl) ?_
        have hv12 := Option.some.inj hv12
        subst hv12
        exact W.fin (by decide) (by kernel_rfl) (Weak.sel [] [0, 1, 2, 3, 23] (by kernel_rfl) (by kernel_rfl) (by kernel_rfl))
      ) ?_
  rcases cond_some h with ⟨hc16, h⟩ | ⟨hc16, h⟩
  · refine CodeOk.ifT hc16 (by kernel_rfl) ?_
    refine CodeOk.cutR (tl 36 [(8, V.str a0), (9, V.bool false)]) [] mix (by
        refine W.run D_ok 3 100 (by kernel_rfl) ?_
        exact W.fin (by decide) (by kernel_rfl) (Weak.sel [] [8, 9] (by kernel_rfl) (by kernel_rfl) (by kernel_rfl))
        ) ?_
    refine CodeOk.ret ?_
    have h := Option.some.inj h
    subst h
    exact Ends.gen [] (.inr rfl) (RetV.two rfl (OneR.tmp (t := 8) (r := V.str a0) (by kernel_rfl)) (OneR.tmp (t := 9) (r := V.bool false) (by kernel_rfl))) (by kernel_rfl) (by kernel_rfl) (by kernel_rfl)
  · refine CodeOk.ifF hc16 (by kernel_rfl) ?_
    refine CodeOk.skip ?_
    refine CodeOk.weak (st' := ⟨tl 36 [(0, V.str a0), (1, V.int a1), (2, V.int a2), (3, V.str a3), (23, V.bool y8)], []⟩) (Weak.refl _) ?_
    obtain ⟨s15, hx21, h⟩ := bind_some h
    obtain ⟨s16, hx22, h⟩ := bind_some h
    obtain ⟨s17, hx23, h⟩ := bind_some h
    obtain ⟨s18, hx24, h⟩ := bind_some h
    refine CodeOk.cutR (tl 36 [(8, V.str s18), (9, V.bool true)]) [] mix (by
        refine W.run D_ok 2 100 (by kernel_rfl) ?_
        refine W.cutS D_ok hx21 (by kernel_rfl) ?_
        refine W.run D_ok 1 100 (by kernel_rfl) ?_
        refine W.cat hx22 (by kernel_rfl) ?_
        refine W.run D_ok 4 100 (by kernel_rfl) ?_
        refine W.cutS D_ok hx23 (by kernel_rfl) ?_
        refine W.cat hx24 (by kernel_rfl) ?_
        refine W.run D_ok 2 100 (by kernel_rfl) ?_
        exact W.fin (by decide) (by kernel_rfl) (Weak.sel [] [8, 9] (by kernel_rfl) (by kernel_rfl) (by kernel_rfl))
        ) ?_
    refine CodeOk.ret ?_
    have h := Option.some.inj h
    subst h
    exact Ends.gen [] (.inr rfl) (RetV.two rfl (OneR.tmp (t := 8) (r := V.str s18) (by kernel_rfl)) (OneR.tmp (t := 9) (r := V.bool true) (by kernel_rfl))) (by kernel_rfl) (by kernel_rfl) (by kernel_rfl)

theorem m_spec_KeptTokens_ok (N : Nat) (a0 : List SToken) (a1 : Int) {r : Int} (h : m_spec_KeptTokens N a0 a1 = some r) :
    AC Tryd.prog (GS []) 29 [.sl false false (a0.map encSToken), V.int a1] [] (V.int r) [] := by
  rw [m_spec_KeptTokens] at h
  refine AC.enter Tryd.func29 rfl ?_
  refine CodeOk.cutR (tl 39 [(0, .sl false false (a0.map encSToken)), (1, V.int a1)]) [] mix (by
      refine W.run D_ok 1 100 (by kernel_rfl) ?_
      exact W.fin (by decide) (by kernel_rfl) (Weak.sel [] [0, 1] (by kernel_rfl) (by kernel_rfl) (by kernel_rfl))
      ) ?_
  refine CodeOk.cutR (tl 39 [(0, .sl false false (a0.map encSToken)), (1, V.int a1), (5, V.int 0)]) [] mix (by
      refine W.run D_ok 1 100 (by kernel_rfl) ?_
      exact W.fin (by decide) (by kernel_rfl) (Weak.sel [] [0, 1, 5] (by kernel_rfl) (by kernel_rfl) (by kernel_rfl))
      ) ?_
  refine CodeOk.seq' ?_
  refine CodeOk.block' ?_
  refine CodeOk.loopJ (fun (⟨a0, a1, y75⟩ : ((List SToken) × Int × Int)) => ⟨tl 39 [(0, .sl false false (a0.map encSToken)), (1, V.int a1), (5, V.int y75)], []⟩) (fun n i => m_spec_KeptTokens_l1 N n i = some r) (n0 := N) (i0 := (a0, a1, 0)) (Weak.sel [] [0, 1, 5] (by kernel_rfl) (by kernel_rfl) (by kernel_rfl)) h (fun i h => by simp [m_spec_KeptTokens_l1] at h) ?_
  rintro n1 ⟨a0, a1, y75⟩ h143 ih144
  rw [m_spec_KeptTokens_l1] at h143
  refine CodeOk.seq' ?_
  obtain ⟨y108, hv165, h143⟩ := bind_some h143
  refine CodeOk.cutR (tl 39 [(0, .sl false false (a0.map encSToken)), (1, V.int a1), (5, V.int y75), (35, V.bool y108)]) [] mix (by
      refine W.run D_ok 2 160 (by kernel_rfl) ?_
      refine W.len D_ok encSToken a0 [] (by kernel_rfl) (by kernel_rfl) ?_
      refine W.run D_ok 2 160 (by kernel_rfl) ?_
      rcases cond_some hv165 with ⟨hc166, hv165⟩ | ⟨hc166, hv165⟩
      · refine W.is 10 hc166 (by kernel_rfl) ?_
        refine W.run D_ok 2 160 (by kernel_rfl) ?_
        obtain ⟨e109, hx167, hv165⟩ := bind_some hv165
        refine W.ixD D_ok encSToken hx167 3 (by kernel_rfl) (by kernel_rfl) ?_
        refine W.run D_ok 3 160 (by kernel_rfl) ?_
        obtain ⟨r110, hx168, hv165⟩ := bind_some hv165
        refine W.call0 (m_spec_l1In_ok e109.At 0 a1 hx168) cok48 rfl (by kernel_rfl) ?_
        refine W.run D_ok 2 160 (by kernel_rfl) ?_
        rcases cond_some hv165 with ⟨hc169, hv165⟩ | ⟨hc169, hv165⟩
        · refine W.is 19 hc169 (by kernel_rfl) ?_
          refine W.run D_ok 2 160 (by kernel_rfl) ?_
          obtain ⟨e111, hx170, hv165⟩ := bind_some hv165
          refine W.ixD D_ok encSToken hx170 3 (by kernel_rfl) (by kernel_rfl) ?_
          refine W.run D_ok 7 160 (by kernel_rfl) ?_
          obtain ⟨e112, hx171, hv165⟩ := bind_some hv165
          refine W.ixD D_ok encSToken hx171 3 (by kernel_rfl) (by kernel_rfl) ?_
          refine W.run D_ok 5 160 (by kernel_rfl) ?_
          have hv165 := Option.some.inj hv165
          subst hv165
          exact W.fin (by decide) (by kernel_rfl) (Weak.sel [] [0, 1, 5, 35] (by kernel_rfl) (by kernel_rfl) (by kernel_rfl))
        · refine W.is 19 hc169 (by kernel_rfl) ?_
          refine W.run D_ok 16 160 (by kernel_rfl) ?_
          have hv165 := Option.some.inj hv165
          subst hv165
          exact W.fin (by decide) (by kernel_rfl) (Weak.sel [] [0, 1, 5, 35] (by kernel_rfl) (by kernel_rfl) (by kernel_rfl))
      · refine W.is 10 hc166 (by kernel_rfl) ?_
        refine W.run D_ok 25 160 (by kernel_rfl) ?_
        have hv165 := Option.some.inj hv165
        subst hv165
        exact W.fin (by decide) (by kernel_rfl) (Weak.sel [] [0, 1, 5, 35] (by kernel_rfl) (by kernel_rfl) (by kernel_rfl))
      ) ?_
  rcases cond_some h143 with ⟨hc172, h143⟩ | ⟨hc172, h143⟩
  · refine CodeOk.ifT hc172 (by kernel_rfl) ?_
    refine CodeOk.skip ?_
    refine CodeOk.weak (st' := ⟨tl 39 [(0, .sl false false (a0.map encSToken)), (1, V.int a1), (5, V.int y75), (35, V.bool y108)], []⟩) (Weak.refl _) ?_
    refine CodeOk.block' ?_
    refine CodeOk.endR (tl 39 [(0, .sl false false (a0.map encSToken)), (1, V.int a1), (5, V.int (IntKind.wrap .i64 (y75 + 1)))]) [] mix (by
        refine W.run D_ok 3 160 (by kernel_rfl) ?_
        exact W.fin (by decide) (by kernel_rfl) (Weak.sel [] [0, 1, 5] (by kernel_rfl) (by kernel_rfl) (by kernel_rfl))
        ) (fun st hw => ?_)
    exact ih144 (a0, a1, (IntKind.wrap .i64 (y75 + 1))) h143 _ (hw.trans (Weak.sel [] [0, 1, 5] (by kernel_rfl) (by kernel_rfl) (by kernel_rfl)))
  · refine CodeOk.ifF hc172 (by kernel_rfl) ?_
    refine CodeOk.exit ?_
    refine CodeOk.weak (st' := ⟨tl 39 [(0, .sl false false (a0.map encSToken)), (1, V.int a1), (5, V.int y75), (35, V.bool y108)], []⟩) (Weak.refl _) ?_
    refine CodeOk.cutR (tl 39 [(4, V.int y75)]) [] mix (by
        refine W.run D_ok 2 160 (by kernel_rfl) ?_
        exact W.fin (by decide) (by kernel_rfl) (Weak.sel [] [4] (by kernel_rfl) (by kernel_rfl) (by kernel_rfl))
        ) ?_
    refine CodeOk.ret ?_
    have h143 := Option.some.inj h143
    subst h143
    exact Ends.gen [] (.inr rfl) (RetV.one rfl (OneR.tmp (t := 4) (r := V.int y75) (by kernel_rfl))) (by kernel_rfl) (by kernel_rfl) (by kernel_rfl)

theorem m_spec_IsBlank_ok (a0 : Int) {r : Bool} (h : m_spec_IsBlank a0 = some r) :
    AC Tryd.prog (GS []) 49 [V.int a0] [] (V.bool r) [] := by
  rw [m_spec_IsBlank] at h
  refine AC.enter Tryd.func49 rfl ?_
  refine CodeOk.cutR (tl 9 [(0, V.int a0)]) [] mix (by
      refine W.run D_ok 1 100 (by kernel_rfl) ?_
      exact W.fin (by decide) (by kernel_rfl) (Weak.sel [] [0] (by kernel_rfl) (by kernel_rfl) (by kernel_rfl))
      ) ?_
  obtain ⟨y1, hv2, h⟩ := bind_some h
  refine CodeOk.cutR (tl 9 [(2, V.bool y1)]) [] mix (by
      refine W.run D_ok 3 100 (by kernel_rfl) ?_
      rcases cond_some hv2 with ⟨hc3, hv2⟩ | ⟨hc3, hv2⟩
      · refine W.is 5 hc3 (by kernel_rfl) ?_
        refine W.run D_ok 4 100 (by kernel_rfl) ?_
        have hv2 := Option.some.inj hv2
        subst hv2
        exact W.fin (by decide) (by kernel_rfl) (Weak.sel [] [2] (by kernel_rfl) (by kernel_rfl) (by kernel_rfl))
      · refine W.is 5 hc3 (by kernel_rfl) ?_
        refine W.run D_ok 4 100 (by kernel_rfl) ?_
        have hv2 := Option.some.inj hv2
        subst hv2
        exact W.fin (by decide) (by kernel_rfl) (Weak.sel [] [2] (by kernel_rfl) (by kernel_rfl) (by kernel_rfl))
      ) ?_
  refine CodeOk.ret ?_
  have h := Option.some.inj h
  subst h
  exact Ends.gen [] (.inr rfl) (RetV.one rfl (OneR.tmp (t := 2) (r := V.bool y1) (by kernel_rfl))) (by kernel_rfl) (by kernel_rfl) (by kernel_rfl)

theorem m_spec_NameEnd_ok (N : Nat) (a0 : List UInt8) (a1 : Int) {r : Int} (h : m_spec_NameEnd N a0 a1 = some r) :
    AC Tryd.prog (GS []) 85 [V.str a0, V.int a1] [] (V.int r) [] := by
  rw [m_spec_NameEnd] at h
  refine AC.enter Tryd.func85 rfl ?_
  refine CodeOk.cutR (tl 17 [(0, V.str a0), (1, V.int a1)]) [] mix (by
      refine W.run D_ok 1 100 (by kernel_rfl) ?_
      exact W.fin (by decide) (by kernel_rfl) (Weak.sel [] [0, 1] (by kernel_rfl) (by kernel_rfl) (by kernel_rfl))
      ) ?_
  refine CodeOk.seq' ?_
  obtain ⟨r7, hx8, h⟩ := bind_some h
  obtain ⟨r8, hx9, h⟩ := bind_some h
  refine CodeOk.cutR (tl 17 [(0, V.str a0), (1, V.int a1), (9, V.bool (!r8))]) [] mix (by
      refine W.run D_ok 2 100 (by kernel_rfl) ?_
      refine W.call0 (m_spec_l4Byte_ok a0 a1 hx8) cok50 rfl (by kernel_rfl) ?_
      refine W.call0 (m_spec_IsLetter_ok r7 hx9) cok83 rfl (by kernel_rfl) ?_
      refine W.run D_ok 1 100 (by kernel_rfl) ?_
      exact W.fin (by decide) (by kernel_rfl) (Weak.sel [] [0, 1, 9] (by kernel_rfl) (by kernel_rfl) (by kernel_rfl))
      ) ?_
  rcases cond_some h with ⟨hc10, h⟩ | ⟨hc10, h⟩
  · refine CodeOk.ifT hc10 (by kernel_rfl) ?_
    refine CodeOk.cutR (tl 17 [(4, V.int (-1))]) [] mix (by
        refine W.run D_ok 1 100 (by kernel_rfl) ?_
        exact W.fin (by decide) (by kernel_rfl) (Weak.sel [] [4] (by kernel_rfl) (by kernel_rfl) (by kernel_rfl))
        ) ?_
    refine CodeOk.ret ?_
    have h := Option.some.inj h
    subst h
    exact Ends.gen [] (.inr rfl) (RetV.one rfl (OneR.tmp (t := 4) (r := V.int (-1)) (by kernel_rfl))) (by kernel_rfl) (by kernel_rfl) (by kernel_rfl)
  · refine CodeOk.ifF hc10 (by kernel_rfl) ?_
    refine CodeOk.skip ?_
    refine CodeOk.weak (st' := ⟨tl 17 [(0, V.str a0), (1, V.int a1), (9, V.bool (!r8))], []⟩) (Weak.refl _) ?_
    refine CodeOk.seq' ?_
    refine CodeOk.block' ?_
    refine CodeOk.loopJ (fun (⟨a0, a1⟩ : ((List UInt8) × Int)) => ⟨tl 17 [(0, V.str a0), (1, V.int a1)], []⟩) (fun n i => m_spec_NameEnd_l1 N n i = some r) (n0 := N) (i0 := (a0, a1)) (Weak.sel [] [0, 1] (by kernel_rfl) (by kernel_rfl) (by kernel_rfl)) h (fun i h => by simp [m_spec_NameEnd_l1] at h) ?_
    rintro n1 ⟨a0, a1⟩ h43 ih44
    rw [m_spec_NameEnd_l1] at h43
    refine CodeOk.seq' ?_
    obtain ⟨r41, hx52, h43⟩ := bind_some h43
    obtain ⟨r42, hx53, h43⟩ := bind_some h43
    refine CodeOk.cutR (tl 17 [(0, V.str a0), (1, V.int a1), (13, V.bool r42)]) [] mix (by
        refine W.run D_ok 2 140 (by kernel_rfl) ?_
        refine W.call0 (m_spec_l4Byte_ok a0 a1 hx52) cok50 rfl (by kernel_rfl) ?_
        refine W.call0 (m_spec_IsWordByte_ok r41 hx53) cok125 rfl (by kernel_rfl) ?_
        exact W.fin (by decide) (by kernel_rfl) (Weak.sel [] [0, 1, 13] (by kernel_rfl) (by kernel_rfl) (by kernel_rfl))
        ) ?_
    rcases cond_some h43 with ⟨hc54, h43⟩ | ⟨hc54, h43⟩
    · refine CodeOk.ifT hc54 (by kernel_rfl) ?_
      refine CodeOk.skip ?_
      refine CodeOk.weak (st' := ⟨tl 17 [(0, V.str a0), (1, V.int a1), (13, V.bool r42)], []⟩) (Weak.refl _) ?_
      refine CodeOk.block' ?_
      refine CodeOk.endR (tl 17 [(0, V.str a0), (1, V.int (IntKind.wrap .i64 (a1 + 1)))]) [] mix (by
          refine W.run D_ok 3 140 (by kernel_rfl) ?_
          exact W.fin (by decide) (by kernel_rfl) (Weak.sel [] [0, 1] (by kernel_rfl) (by kernel_rfl) (by kernel_rfl))
          ) (fun st hw => ?_)
      exact ih44 (a0, (IntKind.wrap .i64 (a1 + 1))) h43 _ (hw.trans (Weak.sel [] [0, 1] (by kernel_rfl) (by kernel_rfl) (by kernel_rfl)))
    · refine CodeOk.ifF hc54 (by kernel_rfl) ?_
      refine CodeOk.exit ?_
      refine CodeOk.weak (st' := ⟨tl 17 [(0, V.str a0), (1, V.int a1), (13, V.bool r42)], []⟩) (Weak.refl _) ?_
      refine CodeOk.cutR (tl 17 [(4, V.int a1)]) [] mix (by
          refine W.run D_ok 2 140 (by kernel_rfl) ?_
          exact W.fin (by decide) (by kernel_rfl) (Weak.sel [] [4] (by kernel_rfl) (by kernel_rfl) (by kernel_rfl))
          ) ?_
      refine CodeOk.ret ?_
      have h43 := Option.some.inj h43
      subst h43
      exact Ends.gen [] (.inr rfl) (RetV.one rfl (OneR.tmp (t := 4) (r := V.int a1) (by kernel_rfl))) (by kernel_rfl) (by kernel_rfl) (by kernel_rfl)

theorem m_spec_l5Word_ok (N : Nat) (a0 : List UInt8) (a1 : Int) (a2 : Int) {r : SToken} (h : m_spec_l5Word N a0 a1 a2 = some r) :
    AC Tryd.prog (GS []) 84 [V.str a0, V.int a1, V.int a2] [] (.agg [V.int r.Kind, V.str r.Text, V.int r.At]) [] := by
  rw [m_spec_l5Word] at h
  refine AC.enter Tryd.func84 rfl ?_
  refine CodeOk.cutR (tl 35 [(0, V.str a0), (1, V.int a1), (2, V.int a2), (6, .loc 100 0)]) [(100, .cells 46 [V.int 0, V.str [], V.int 0])] mix (by
      refine W.run D_ok 1 100 (by kernel_rfl) ?_
      exact W.fin (by decide) (by kernel_rfl) (Weak.sel [(100, 100)] [0, 1, 2, 6] (by kernel_rfl) (by kernel_rfl) (by kernel_rfl))
      ) ?_
  obtain ⟨s2, hx2, h⟩ := bind_some h
  refine CodeOk.cutR (tl 35 [(0, V.str a0), (2, V.int a2), (6, .loc 100 0), (7, .loc 101 0)]) [(101, .cells 46 [V.int 6, V.str s2, V.int a1]), (100, .cells 46 [V.int 0, V.str [], V.int 0])] mix (by
      refine W.run D_ok 3 101 (by kernel_rfl) ?_
      refine W.cutS D_ok hx2 (by kernel_rfl) ?_
      refine W.run D_ok 4 101 (by kernel_rfl) ?_
      exact W.fin (by decide) (by kernel_rfl) (Weak.sel [(101, 101), (100, 100)] [0, 2, 6, 7] (by kernel_rfl) (by kernel_rfl) (by kernel_rfl))
      ) ?_
  refine CodeOk.join (fun (⟨s2, a1, y11⟩ : ((List UInt8) × Int × Int)) => ⟨tl 35 [(6, .loc 100 0), (7, .loc 101 0)], [(100, .cells 46 [V.int 0, V.str [], V.int 0]), (101, .cells 46 [V.int y11, V.str s2, V.int a1])]⟩) (fun i => m_spec_l5Word_k1 N i = some r) ?_ ?_
  · rintro ⟨s2, a1, y11⟩ h14
    rw [m_spec_l5Word_k1] at h14
    refine CodeOk.cutR (tl 35 [(6, .loc 100 0)]) [(100, .cells 46 [V.int y11, V.str s2, V.int a1])] mix (by
        refine W.run D_ok 2 102 (by kernel_rfl) ?_
        exact W.fin (by decide) (by kernel_rfl) (Weak.sel [(100, 100)] [6] (by kernel_rfl) (by kernel_rfl) (by kernel_rfl))
        ) ?_
    refine CodeOk.ret ?_
    have h14 := Option.some.inj h14
    subst h14
    exact Ends.gen [] (.inr rfl) (RetV.one rfl (OneR.cell D_ok (r := .agg [V.int y11, V.str s2, V.int a1]) (i := 100) (ety := 46) (cs := [V.int y11, V.str s2, V.int a1]) (by kernel_rfl) (by kernel_rfl) (by kernel_rfl))) (by kernel_rfl) (by kernel_rfl) (by kernel_rfl)
  intro hk15
  refine CodeOk.block' ?_
  obtain ⟨r13, hx17, h⟩ := bind_some h
  refine CodeOk.cutR (tl 35 [(0, V.str a0), (2, V.int a2), (6, .loc 100 0), (7, .loc 101 0), (14, V.bool (r13 != 0))]) [(101, .cells 46 [V.int 6, V.str s2, V.int a1]), (100, .cells 46 [V.int 0, V.str [], V.int 0])] mix (by
      refine W.run D_ok 2 102 (by kernel_rfl) ?_
      refine W.call0 (m_spec_KeywordOf_ok N s2 hx17) cok113 rfl (by kernel_rfl) ?_
      refine W.run D_ok 2 102 (by kernel_rfl) ?_
      exact W.fin (by decide) (by kernel_rfl) (Weak.sel [(101, 101), (100, 100)] [0, 2, 6, 7, 14] (by kernel_rfl) (by kernel_rfl) (by kernel_rfl))
      ) ?_
  rcases cond_some h with ⟨hc18, h⟩ | ⟨hc18, h⟩
  · refine CodeOk.ifT hc18 (by kernel_rfl) ?_
    obtain ⟨r15, hx20, h⟩ := bind_some h
    refine CodeOk.endR (tl 35 [(6, .loc 100 0), (7, .loc 101 0)]) [(101, .cells 46 [V.int r15, V.str s2, V.int a1]), (100, .cells 46 [V.int 0, V.str [], V.int 0])] mix (by
        refine W.run D_ok 2 102 (by kernel_rfl) ?_
        refine W.call0 (m_spec_KeywordOf_ok N s2 hx20) cok113 rfl (by kernel_rfl) ?_
        refine W.run D_ok 2 102 (by kernel_rfl) ?_
        exact W.fin (by decide) (by kernel_rfl) (Weak.sel [(101, 101), (100, 100)] [6, 7] (by kernel_rfl) (by kernel_rfl) (by kernel_rfl))
        ) (fun st hw => ?_)
    exact hk15 (s2, a1, r15) h _ (hw.trans (Weak.sel [(100, 100), (101, 101)] [6, 7] (by kernel_rfl) (by kernel_rfl) (by kernel_rfl)))
  · refine CodeOk.ifF hc18 (by kernel_rfl) ?_
    obtain ⟨r17, hx22, h⟩ := bind_some h
    refine CodeOk.cutR (tl 35 [(0, V.str a0), (2, V.int a2), (6, .loc 100 0), (7, .loc 101 0), (23, V.bool r17)]) [(101, .cells 46 [V.int 6, V.str s2, V.int a1]), (100, .cells 46 [V.int 0, V.str [], V.int 0])] mix (by
        refine W.run D_ok 2 102 (by kernel_rfl) ?_
        refine W.call0 (m_spec_IsBuiltin_ok N s2 hx22) cok73 rfl (by kernel_rfl) ?_
        refine W.run D_ok 1 102 (by kernel_rfl) ?_
        exact W.fin (by decide) (by kernel_rfl) (Weak.sel [(101, 101), (100, 100)] [0, 2, 6, 7, 23] (by kernel_rfl) (by kernel_rfl) (by kernel_rfl))
        ) ?_
    rcases cond_some h with ⟨hc23, h⟩ | ⟨hc23, h⟩
    · refine CodeOk.ifT hc23 (by kernel_rfl) ?_
      refine CodeOk.endR (tl 35 [(6, .loc 100 0), (7, .loc 101 0)]) [(101, .cells 46 [V.int 8, V.str s2, V.int a1]), (100, .cells 46 [V.int 0, V.str [], V.int 0])] mix (by
          refine W.run D_ok 2 102 (by kernel_rfl) ?_
          exact W.fin (by decide) (by kernel_rfl) (Weak.sel [(101, 101), (100, 100)] [6, 7] (by kernel_rfl) (by kernel_rfl) (by kernel_rfl))
          ) (fun st hw => ?_)
      exact hk15 (s2, a1, 8) h _ (hw.trans (Weak.sel [(100, 100), (101, 101)] [6, 7] (by kernel_rfl) (by kernel_rfl) (by kernel_rfl)))
    · refine CodeOk.ifF hc23 (by kernel_rfl) ?_
      obtain ⟨r19, hx25, h⟩ := bind_some h
      refine CodeOk.cutR (tl 35 [(6, .loc 100 0), (7, .loc 101 0), (28, V.bool (r19 == 40))]) [(101, .cells 46 [V.int 6, V.str s2, V.int a1]), (100, .cells 46 [V.int 0, V.str [], V.int 0])] mix (by
          refine W.run D_ok 2 102 (by kernel_rfl) ?_
          refine W.call0 (m_spec_l4Byte_ok a0 a2 hx25) cok50 rfl (by kernel_rfl) ?_
          refine W.run D_ok 2 102 (by kernel_rfl) ?_
          exact W.fin (by decide) (by kernel_rfl) (Weak.sel [(101, 101), (100, 100)] [6, 7, 28] (by kernel_rfl) (by kernel_rfl) (by kernel_rfl))
          ) ?_
      rcases cond_some h with ⟨hc26, h⟩ | ⟨hc26, h⟩
      · refine CodeOk.ifT hc26 (by kernel_rfl) ?_
        refine CodeOk.endR (tl 35 [(6, .loc 100 0), (7, .loc 101 0)]) [(101, .cells 46 [V.int 7, V.str s2, V.int a1]), (100, .cells 46 [V.int 0, V.str [], V.int 0])] mix (by
            refine W.run D_ok 2 102 (by kernel_rfl) ?_
            exact W.fin (by decide) (by kernel_rfl) (Weak.sel [(101, 101), (100, 100)] [6, 7] (by kernel_rfl) (by kernel_rfl) (by kernel_rfl))
            ) (fun st hw => ?_)
        exact hk15 (s2, a1, 7) h _ (hw.trans (Weak.sel [(100, 100), (101, 101)] [6, 7] (by kernel_rfl) (by kernel_rfl) (by kernel_rfl)))
      · refine CodeOk.ifF hc26 (by kernel_rfl) ?_
        refine CodeOk.skip ?_
        exact hk15 (s2, a1, 6) h _ (Weak.sel [(100, 100), (101, 101)] [6, 7] (by kernel_rfl) (by kernel_rfl) (by kernel_rfl))

theorem m_spec_OpAt_ok (N : Nat) (a0 : List UInt8) (a1 : Int) {r : (Int × Int)} (h : m_spec_OpAt N a0 a1 = some r) :
    AC Tryd.prog (GS []) 87 [V.str a0, V.int a1] [] (.tup [V.int r.1, V.int r.2]) [] := by
  rw [m_spec_OpAt] at h
  refine AC.enter Tryd.func87 rfl ?_
  refine CodeOk.cutR (tl 62 [(0, V.str a0), (1, V.int a1)]) [] mix (by
      refine W.run D_ok 2 100 (by kernel_rfl) ?_
      exact W.fin (by decide) (by kernel_rfl) (Weak.sel [] [0, 1] (by kernel_rfl) (by kernel_rfl) (by kernel_rfl))
      ) ?_
  refine CodeOk.cutR (tl 62 [(0, V.str a0), (1, V.int a1), (6, V.int 0)]) [] mix (by
      refine W.run D_ok 1 100 (by kernel_rfl) ?_
      exact W.fin (by decide) (by kernel_rfl) (Weak.sel [] [0, 1, 6] (by kernel_rfl) (by kernel_rfl) (by kernel_rfl))
      ) ?_
  refine CodeOk.cutR (tl 62 [(0, V.str a0), (1, V.int a1), (6, V.int 0), (7, V.int 0)]) [] mix (by
      refine W.run D_ok 1 100 (by kernel_rfl) ?_
      exact W.fin (by decide) (by kernel_rfl) (Weak.sel [] [0, 1, 6, 7] (by kernel_rfl) (by kernel_rfl) (by kernel_rfl))
      ) ?_
  obtain ⟨r2, hx2, h⟩ := bind_some h
  refine CodeOk.cutR (tl 62 [(0, V.str a0), (1, V.int a1), (6, V.int 0), (7, V.int 0), (8, .own 100)]) [(100, .vec false 9 1 (r2.map encS))] mix (by
      refine W.call (m_spec_l3Signs_ok  hx2) cok117 [] [(100, 100)] [100] (show LayOk _ [] from trivial) (by kernel_rfl) (by kernel_rfl) ?_
      refine W.run D_ok 1 101 (by kernel_rfl) ?_
      exact W.fin (by decide) (by kernel_rfl) (Weak.sel [(100, 100)] [0, 1, 6, 7, 8] (by kernel_rfl) (by kernel_rfl) (by kernel_rfl))
      ) ?_
  refine CodeOk.seq' ?_
  refine CodeOk.cutR (tl 62 [(0, V.str a0), (1, V.int a1), (6, V.int 0), (7, V.int 0), (8, .own 100), (9, V.int 0)]) [(100, .vec false 9 1 (r2.map encS))] mix (by
      refine W.run D_ok 1 101 (by kernel_rfl) ?_
      exact W.fin (by decide) (by kernel_rfl) (Weak.sel [(100, 100)] [0, 1, 6, 7, 8, 9] (by kernel_rfl) (by kernel_rfl) (by kernel_rfl))
      ) ?_
  refine CodeOk.block' ?_
  refine CodeOk.loopJ (fun (⟨a0, a1, r2, y73, y74, y75⟩ : ((List UInt8) × Int × (List (List UInt8)) × Int × Int × Int)) => ⟨tl 62 [(0, V.str a0), (1, V.int a1), (6, V.int y73), (7, V.int y74), (8, .own 100), (9, V.int y75)], [(100, .vec false 9 1 (r2.map encS))]⟩) (fun n i => m_spec_OpAt_l1 N n i = some r) (n0 := N) (i0 := (a0, a1, r2, 0, 0, 0)) (Weak.sel [(100, 100)] [0, 1, 6, 7, 8, 9] (by kernel_rfl) (by kernel_rfl) (by kernel_rfl)) h (fun i h => by simp [m_spec_OpAt_l1] at h) ?_
  rintro n1 ⟨a0, a1, r2, y73, y74, y75⟩ h185 ih186
  rw [m_spec_OpAt_l1] at h185
  refine CodeOk.seq' ?_
  refine CodeOk.cutR (tl 62 [(0, V.str a0), (1, V.int a1), (6, V.int y73), (7, V.int y74), (8, .own 100), (9, V.int y75), (15, V.bool (decide (y75 < (r2.length : Int))))]) [(100, .vec false 9 1 (r2.map encS))] mix (by
      refine W.run D_ok 2 161 (by kernel_rfl) ?_
      refine W.len D_ok encS r2 [100] (by kernel_rfl) (by kernel_rfl) ?_
      refine W.run D_ok 1 161 (by kernel_rfl) ?_
      exact W.fin (by decide) (by kernel_rfl) (Weak.sel [(100, 100)] [0, 1, 6, 7, 8, 9, 15] (by kernel_rfl) (by kernel_rfl) (by kernel_rfl))
      ) ?_
  rcases cond_some h185 with ⟨hc188, h185⟩ | ⟨hc188, h185⟩
  · refine CodeOk.ifT hc188 (by kernel_rfl) ?_
    refine CodeOk.skip ?_
    refine CodeOk.weak (st' := ⟨tl 62 [(0, V.str a0), (1, V.int a1), (6, V.int y73), (7, V.int y74), (8, .own 100), (9, V.int y75), (15, V.bool (decide (y75 < (r2.length : Int))))], [(100, .vec false 9 1 (r2.map encS))]⟩) (Weak.refl _) ?_
    refine CodeOk.join (fun (⟨a0, a1, y75, r2, y102, y103⟩ : ((List UInt8) × Int × Int × (List (List UInt8)) × Int × Int)) => ⟨tl 62 [(0, V.str a0), (1, V.int a1), (6, V.int y102), (7, V.int y103), (8, .own 100), (9, V.int y75)], [(100, .vec false 9 1 (r2.map encS))]⟩) (fun i => m_spec_OpAt_k2 N (m_spec_OpAt_l1 N n1) i = some r) ?_ ?_
    · rintro ⟨a0, a1, y75, r2, y102, y103⟩ h205
      rw [m_spec_OpAt_k2] at h205
      refine CodeOk.endR (tl 62 [(0, V.str a0), (1, V.int a1), (6, V.int y102), (7, V.int y103), (8, .own 100), (9, V.int (IntKind.wrap .i64 (y75 + 1)))]) [(100, .vec false 9 1 (r2.map encS))] mix (by
          refine W.run D_ok 3 161 (by kernel_rfl) ?_
          exact W.fin (by decide) (by kernel_rfl) (Weak.sel [(100, 100)] [0, 1, 6, 7, 8, 9] (by kernel_rfl) (by kernel_rfl) (by kernel_rfl))
          ) (fun st hw => ?_)
      exact ih186 (a0, a1, r2, y102, y103, (IntKind.wrap .i64 (y75 + 1))) h205 _ (hw.trans (Weak.sel [(100, 100)] [0, 1, 6, 7, 8, 9] (by kernel_rfl) (by kernel_rfl) (by kernel_rfl)))
    intro hk206
    refine CodeOk.block' ?_
    obtain ⟨e105, hx208, h185⟩ := bind_some h185
    refine CodeOk.cutR (tl 62 [(0, V.str a0), (1, V.int a1), (6, V.int y73), (7, V.int y74), (8, .own 100), (9, V.int y75), (10, V.int (e105.length : Int))]) [(100, .vec false 9 1 (r2.map encS))] mix (by
        refine W.run D_ok 2 161 (by kernel_rfl) ?_
        refine W.ixO D_ok encS hx208 100 1 (by kernel_rfl) ?_
        refine W.ldO D_ok encS hx208 9 100 0 (V.str e105) (by kernel_rfl) (by kernel_rfl) ?_
        refine W.run D_ok 2 161 (by kernel_rfl) ?_
        exact W.fin (by decide) (by kernel_rfl) (Weak.sel [(100, 100)] [0, 1, 6, 7, 8, 9, 10] (by kernel_rfl) (by kernel_rfl) (by kernel_rfl))
        ) ?_
    obtain ⟨y108, hv215, h185⟩ := bind_some h185
    refine CodeOk.cutR (tl 62 [(0, V.str a0), (1, V.int a1), (6, V.int y73), (7, V.int y74), (8, .own 100), (9, V.int y75), (10, V.int (e105.length : Int)), (56, V.bool y108)]) [(100, .vec false 9 1 (r2.map encS))] mix (by
        refine W.run D_ok 3 161 (by kernel_rfl) ?_
        rcases cond_some hv215 with ⟨hc216, hv215⟩ | ⟨hc216, hv215⟩
        · refine W.is 25 hc216 (by kernel_rfl) ?_
          refine W.run D_ok 6 161 (by kernel_rfl) ?_
          rcases cond_some hv215 with ⟨hc217, hv215⟩ | ⟨hc217, hv215⟩
          · refine W.is 31 hc217 (by kernel_rfl) ?_
            refine W.run D_ok 8 161 (by kernel_rfl) ?_
            rcases cond_some hv215 with ⟨hc218, hv215⟩ | ⟨hc218, hv215⟩
            · refine W.is 39 hc218 (by kernel_rfl) ?_
              refine W.run D_ok 5 161 (by kernel_rfl) ?_
              obtain ⟨s109, hx219, hv215⟩ := bind_some hv215
              refine W.cutS D_ok hx219 (by kernel_rfl) ?_
              refine W.run D_ok 2 161 (by kernel_rfl) ?_
              obtain ⟨e110, hx220, hv215⟩ := bind_some hv215
              refine W.ixO D_ok encS hx220 100 1 (by kernel_rfl) ?_
              refine W.ldO D_ok encS hx220 9 100 0 (V.str e110) (by kernel_rfl) (by kernel_rfl) ?_
              refine W.run D_ok 3 161 (by kernel_rfl) ?_
              rcases cond_some hv215 with ⟨hc221, hv215⟩ | ⟨hc221, hv215⟩
              · refine W.is 52 hc221 (by kernel_rfl) ?_
                refine W.run D_ok 4 161 (by kernel_rfl) ?_
                have hv215 := Option.some.inj hv215
                subst hv215
                exact W.fin (by decide) (by kernel_rfl) (Weak.sel [(100, 100)] [0, 1, 6, 7, 8, 9, 10, 56] (by kernel_rfl) (by kernel_rfl) (by kernel_rfl))
              · refine W.is 52 hc221 (by kernel_rfl) ?_
                refine W.run D_ok 4 161 (by kernel_rfl) ?_
                have hv215 := Option.some.inj hv215
                subst hv215
                exact W.fin (by decide) (by kernel_rfl) (Weak.sel [(100, 100)] [0, 1, 6, 7, 8, 9, 10, 56] (by kernel_rfl) (by kernel_rfl) (by kernel_rfl))
            · refine W.is 39 hc218 (by kernel_rfl) ?_
              refine W.run D_ok 17 161 (by kernel_rfl) ?_
              have hv215 := Option.some.inj hv215
              subst hv215
              exact W.fin (by decide) (by kernel_rfl) (Weak.sel [(100, 100)] [0, 1, 6, 7, 8, 9, 10, 56] (by kernel_rfl) (by kernel_rfl) (by kernel_rfl))
          · refine W.is 31 hc217 (by kernel_rfl) ?_
            refine W.run D_ok 25 161 (by kernel_rfl) ?_
            have hv215 := Option.some.inj hv215
            subst hv215
            exact W.fin (by decide) (by kernel_rfl) (Weak.sel [(100, 100)] [0, 1, 6, 7, 8, 9, 10, 56] (by kernel_rfl) (by kernel_rfl) (by kernel_rfl))
        · refine W.is 25 hc216 (by kernel_rfl) ?_
          refine W.run D_ok 31 161 (by kernel_rfl) ?_
          have hv215 := Option.some.inj hv215
          subst hv215
          exact W.fin (by decide) (by kernel_rfl) (Weak.sel [(100, 100)] [0, 1, 6, 7, 8, 9, 10, 56] (by kernel_rfl) (by kernel_rfl) (by kernel_rfl))
        ) ?_
    rcases cond_some h185 with ⟨hc222, h185⟩ | ⟨hc222, h185⟩
    · refine CodeOk.ifT hc222 (by kernel_rfl) ?_
      refine CodeOk.cutR (tl 62 [(0, V.str a0), (1, V.int a1), (6, V.int (IntKind.wrap .i64 (30 + y75))), (8, .own 100), (9, V.int y75), (10, V.int (e105.length : Int))]) [(100, .vec false 9 1 (r2.map encS))] mix (by
          refine W.run D_ok 3 161 (by kernel_rfl) ?_
          exact W.fin (by decide) (by kernel_rfl) (Weak.sel [(100, 100)] [0, 1, 6, 8, 9, 10] (by kernel_rfl) (by kernel_rfl) (by kernel_rfl))
          ) ?_
      refine CodeOk.endR (tl 62 [(0, V.str a0), (1, V.int a1), (6, V.int (IntKind.wrap .i64 (30 + y75))), (7, V.int (e105.length : Int)), (8, .own 100), (9, V.int y75)]) [(100, .vec false 9 1 (r2.map encS))] mix (by
          refine W.run D_ok 2 161 (by kernel_rfl) ?_
          exact W.fin (by decide) (by kernel_rfl) (Weak.sel [(100, 100)] [0, 1, 6, 7, 8, 9] (by kernel_rfl) (by kernel_rfl) (by kernel_rfl))
          ) (fun st hw => ?_)
      exact hk206 (a0, a1, y75, r2, (IntKind.wrap .i64 (30 + y75)), (e105.length : Int)) h185 _ (hw.trans (Weak.sel [(100, 100)] [0, 1, 6, 7, 8, 9] (by kernel_rfl) (by kernel_rfl) (by kernel_rfl)))
    · refine CodeOk.ifF hc222 (by kernel_rfl) ?_
      refine CodeOk.skip ?_
      exact hk206 (a0, a1, y75, r2, y73, y74) h185 _ (Weak.sel [(100, 100)] [0, 1, 6, 7, 8, 9] (by kernel_rfl) (by kernel_rfl) (by kernel_rfl))
  · refine CodeOk.ifF hc188 (by kernel_rfl) ?_
    refine CodeOk.exit ?_
    refine CodeOk.weak (st' := ⟨tl 62 [(0, V.str a0), (1, V.int a1), (6, V.int y73), (7, V.int y74), (8, .own 100), (9, V.int y75), (15, V.bool (decide (y75 < (r2.length : Int))))], [(100, .vec false 9 1 (r2.map encS))]⟩) (Weak.refl _) ?_
    refine CodeOk.cutR (tl 62 [(4, V.int y73), (5, V.int y74)]) [] mix (by
        refine W.run D_ok 4 161 (by kernel_rfl) ?_
        exact W.fin (by decide) (by kernel_rfl) (Weak.sel [] [4, 5] (by kernel_rfl) (by kernel_rfl) (by kernel_rfl))
        ) ?_
    refine CodeOk.ret ?_
    have h185 := Option.some.inj h185
    subst h185
    exact Ends.gen [] (.inr rfl) (RetV.two rfl (OneR.tmp (t := 4) (r := V.int y73) (by kernel_rfl)) (OneR.tmp (t := 5) (r := V.int y74) (by kernel_rfl))) (by kernel_rfl) (by kernel_rfl) (by kernel_rfl)

theorem m_spec_l5Next_ok (N : Nat) (a0 : List UInt8) (a1 : Int) (a2 : Bool) {r : SToken} (h : m_spec_l5Next N a0 a1 a2 = some r) :
    AC Tryd.prog (GS []) 51 [V.str a0, V.int a1, V.bool a2] [] (.agg [V.int r.Kind, V.str r.Text, V.int r.At]) [] := by
  rw [m_spec_l5Next] at h
  refine AC.enter Tryd.func51 rfl ?_
  refine CodeOk.cutR (tl 108 [(0, V.str a0), (1, V.int a1), (2, V.bool a2), (6, .loc 100 0)]) [(100, .cells 46 [V.int 0, V.str [], V.int 0])] mix (by
      refine W.run D_ok 1 100 (by kernel_rfl) ?_
      exact W.fin (by decide) (by kernel_rfl) (Weak.sel [(100, 100)] [0, 1, 2, 6] (by kernel_rfl) (by kernel_rfl) (by kernel_rfl))
      ) ?_
  obtain ⟨b2, hx2, h⟩ := bind_some h
  refine CodeOk.cutR (tl 108 [(0, V.str a0), (1, V.int a1), (2, V.bool a2), (6, .loc 100 0), (7, V.int (IntKind.wrap .i64 ((b2).toNat : Int)))]) [(100, .cells 46 [V.int 0, V.str [], V.int 0])] mix (by
      refine W.run D_ok 2 101 (by kernel_rfl) ?_
      refine W.ixS D_ok hx2 (by kernel_rfl) ?_
      refine W.run D_ok 2 101 (by kernel_rfl) ?_
      exact W.fin (by decide) (by kernel_rfl) (Weak.sel [(100, 100)] [0, 1, 2, 6, 7] (by kernel_rfl) (by kernel_rfl) (by kernel_rfl))
      ) ?_
  refine CodeOk.cutR (tl 108 [(0, V.str a0), (1, V.int a1), (2, V.bool a2), (6, .loc 100 0), (7, V.int (IntKind.wrap .i64 ((b2).toNat : Int))), (8, .loc 101 0)]) [(101, .cells 46 [V.int 0, V.str [], V.int a1]), (100, .cells 46 [V.int 0, V.str [], V.int 0])] mix (by
      refine W.run D_ok 4 101 (by kernel_rfl) ?_
      exact W.fin (by decide) (by kernel_rfl) (Weak.sel [(101, 101), (100, 100)] [0, 1, 2, 6, 7, 8] (by kernel_rfl) (by kernel_rfl) (by kernel_rfl))
      ) ?_
  refine CodeOk.cutR (tl 108 [(0, V.str a0), (1, V.int a1), (2, V.bool a2), (6, .loc 100 0), (7, V.int (IntKind.wrap .i64 ((b2).toNat : Int))), (8, .loc 101 0)]) [(101, .cells 46 [V.int 0, V.str [], V.int a1]), (100, .cells 46 [V.int 0, V.str [], V.int 0])] mix (by
      refine W.run D_ok 1 102 (by kernel_rfl) ?_
      exact W.fin (by decide) (by kernel_rfl) (Weak.sel [(101, 101), (100, 100)] [0, 1, 2, 6, 7, 8] (by kernel_rfl) (by kernel_rfl) (by kernel_rfl))
      ) ?_
  refine CodeOk.join (fun (⟨a0, a1, y65, y66⟩ : ((List UInt8) × Int × Int × Int)) => ⟨tl 108 [(0, V.str a0), (1, V.int a1), (6, .loc 100 0), (8, .loc 101 0), (9, V.int y65)], [(100, .cells 46 [V.int 0, V.str [], V.int 0]), (101, .cells 46 [V.int y66, V.str [], V.int a1])]⟩) (fun i => m_spec_l5Next_k1 N i = some r) ?_ ?_
  · rintro ⟨a0, a1, y65, y66⟩ h115
    rw [m_spec_l5Next_k1] at h115
    refine CodeOk.seq' ?_
    refine CodeOk.cutR (tl 108 [(0, V.str a0), (1, V.int a1), (6, .loc 100 0), (8, .loc 101 0), (9, V.int y65), (99, V.bool (decide (y65 < 0)))]) [(100, .cells 46 [V.int 0, V.str [], V.int 0]), (101, .cells 46 [V.int y66, V.str [], V.int a1])] mix (by
        refine W.run D_ok 2 162 (by kernel_rfl) ?_
        exact W.fin (by decide) (by kernel_rfl) (Weak.sel [(100, 100), (101, 101)] [0, 1, 6, 8, 9, 99] (by kernel_rfl) (by kernel_rfl) (by kernel_rfl))
        ) ?_
    rcases cond_some h115 with ⟨hc117, h115⟩ | ⟨hc117, h115⟩
    · refine CodeOk.ifT hc117 (by kernel_rfl) ?_
      refine CodeOk.cutR (tl 108 [(6, .loc 100 0)]) [(100, .cells 46 [V.int 0, V.str [], V.int a1])] mix (by
          refine W.run D_ok 3 162 (by kernel_rfl) ?_
          exact W.fin (by decide) (by kernel_rfl) (Weak.sel [(100, 100)] [6] (by kernel_rfl) (by kernel_rfl) (by kernel_rfl))
          ) ?_
      refine CodeOk.ret ?_
      have h115 := Option.some.inj h115
      subst h115
      exact Ends.gen [] (.inr rfl) (RetV.one rfl (OneR.cell D_ok (r := .agg [V.int 0, V.str [], V.int a1]) (i := 100) (ety := 46) (cs := [V.int 0, V.str [], V.int a1]) (by kernel_rfl) (by kernel_rfl) (by kernel_rfl))) (by kernel_rfl) (by kernel_rfl) (by kernel_rfl)
    · refine CodeOk.ifF hc117 (by kernel_rfl) ?_
      refine CodeOk.skip ?_
      refine CodeOk.weak (st' := ⟨tl 108 [(0, V.str a0), (1, V.int a1), (6, .loc 100 0), (8, .loc 101 0), (9, V.int y65), (99, V.bool (decide (y65 < 0)))], [(100, .cells 46 [V.int 0, V.str [], V.int 0]), (101, .cells 46 [V.int y66, V.str [], V.int a1])]⟩) (Weak.refl _) ?_
      obtain ⟨s68, hx119, h115⟩ := bind_some h115
      refine CodeOk.cutR (tl 108 [(6, .loc 100 0), (8, .loc 101 0)]) [(101, .cells 46 [V.int y66, V.str s68, V.int a1]), (100, .cells 46 [V.int 0, V.str [], V.int 0])] mix (by
          refine W.run D_ok 3 162 (by kernel_rfl) ?_
          refine W.cutS D_ok hx119 (by kernel_rfl) ?_
          refine W.run D_ok 2 162 (by kernel_rfl) ?_
          exact W.fin (by decide) (by kernel_rfl) (Weak.sel [(101, 101), (100, 100)] [6, 8] (by kernel_rfl) (by kernel_rfl) (by kernel_rfl))
          ) ?_
      refine CodeOk.cutR (tl 108 [(6, .loc 100 0)]) [(100, .cells 46 [V.int y66, V.str s68, V.int a1])] mix (by
          refine W.run D_ok 2 162 (by kernel_rfl) ?_
          exact W.fin (by decide) (by kernel_rfl) (Weak.sel [(100, 100)] [6] (by kernel_rfl) (by kernel_rfl) (by kernel_rfl))
          ) ?_
      refine CodeOk.ret ?_
      have h115 := Option.some.inj h115
      subst h115
      exact Ends.gen [] (.inr rfl) (RetV.one rfl (OneR.cell D_ok (r := .agg [V.int y66, V.str s68, V.int a1]) (i := 100) (ety := 46) (cs := [V.int y66, V.str s68, V.int a1]) (by kernel_rfl) (by kernel_rfl) (by kernel_rfl))) (by kernel_rfl) (by kernel_rfl) (by kernel_rfl)
  intro hk120
  refine CodeOk.block' ?_
  refine CodeOk.cutR (tl 108 [(0, V.str a0), (1, V.int a1), (2, V.bool a2), (6, .loc 100 0), (7, V.int (IntKind.wrap .i64 ((b2).toNat : Int))), (8, .loc 101 0), (33, V.bool ((IntKind.wrap .i64 ((b2).toNat : Int)) == 10))]) [(101, .cells 46 [V.int 0, V.str [], V.int a1]), (100, .cells 46 [V.int 0, V.str [], V.int 0])] mix (by
      refine W.run D_ok 3 102 (by kernel_rfl) ?_
      exact W.fin (by decide) (by kernel_rfl) (Weak.sel [(101, 101), (100, 100)] [0, 1, 2, 6, 7, 8, 33] (by kernel_rfl) (by kernel_rfl) (by kernel_rfl))
      ) ?_
  rcases cond_some h with ⟨hc121, h⟩ | ⟨hc121, h⟩
  · refine CodeOk.ifT hc121 (by kernel_rfl) ?_
    refine CodeOk.cutR (tl 108 [(6, .loc 100 0)]) [(100, .cells 46 [V.int 1, V.str [10], V.int a1])] mix (by
        refine W.run D_ok 3 102 (by kernel_rfl) ?_
        exact W.fin (by decide) (by kernel_rfl) (Weak.sel [(100, 100)] [6] (by kernel_rfl) (by kernel_rfl) (by kernel_rfl))
        ) ?_
    refine CodeOk.ret ?_
    have h := Option.some.inj h
    subst h
    exact Ends.gen [] (.inr rfl) (RetV.one rfl (OneR.cell D_ok (r := .agg [V.int 1, V.str [10], V.int a1]) (i := 100) (ety := 46) (cs := [V.int 1, V.str [10], V.int a1]) (by kernel_rfl) (by kernel_rfl) (by kernel_rfl))) (by kernel_rfl) (by kernel_rfl) (by kernel_rfl)
  · refine CodeOk.ifF hc121 (by kernel_rfl) ?_
    refine CodeOk.cutR (tl 108 [(0, V.str a0), (1, V.int a1), (2, V.bool a2), (6, .loc 100 0), (7, V.int (IntKind.wrap .i64 ((b2).toNat : Int))), (8, .loc 101 0), (38, V.bool ((IntKind.wrap .i64 ((b2).toNat : Int)) == 35))]) [(101, .cells 46 [V.int 0, V.str [], V.int a1]), (100, .cells 46 [V.int 0, V.str [], V.int 0])] mix (by
        refine W.run D_ok 3 102 (by kernel_rfl) ?_
        exact W.fin (by decide) (by kernel_rfl) (Weak.sel [(101, 101), (100, 100)] [0, 1, 2, 6, 7, 8, 38] (by kernel_rfl) (by kernel_rfl) (by kernel_rfl))
        ) ?_
    rcases cond_some h with ⟨hc122, h⟩ | ⟨hc122, h⟩
    · refine CodeOk.ifT hc122 (by kernel_rfl) ?_
      refine CodeOk.cutR (tl 108 [(0, V.str a0), (1, V.int a1), (6, .loc 100 0), (8, .loc 101 0), (9, V.int a1)]) [(101, .cells 46 [V.int 0, V.str [], V.int a1]), (100, .cells 46 [V.int 0, V.str [], V.int 0])] mix (by
          refine W.run D_ok 2 102 (by kernel_rfl) ?_
          exact W.fin (by decide) (by kernel_rfl) (Weak.sel [(101, 101), (100, 100)] [0, 1, 6, 8, 9] (by kernel_rfl) (by kernel_rfl) (by kernel_rfl))
          ) ?_
      refine CodeOk.seq' ?_
      refine CodeOk.block' ?_
      refine CodeOk.loopJ (fun (⟨a0, a1, y95⟩ : ((List UInt8) × Int × Int)) => ⟨tl 108 [(0, V.str a0), (1, V.int a1), (6, .loc 100 0), (8, .loc 101 0), (9, V.int y95)], [(100, .cells 46 [V.int 0, V.str [], V.int 0]), (101, .cells 46 [V.int 0, V.str [], V.int a1])]⟩) (fun n i => m_spec_l5Next_l2 N n i = some r) (n0 := N) (i0 := (a0, a1, a1)) (Weak.sel [(100, 100), (101, 101)] [0, 1, 6, 8, 9] (by kernel_rfl) (by kernel_rfl) (by kernel_rfl)) h (fun i h => by simp [m_spec_l5Next_l2] at h) ?_
      rintro n2 ⟨a0, a1, y95⟩ h185 ih186
      rw [m_spec_l5Next_l2] at h185
      refine CodeOk.seq' ?_
      obtain ⟨y107, hv195, h185⟩ := bind_some h185
      refine CodeOk.cutR (tl 108 [(0, V.str a0), (1, V.int a1), (6, .loc 100 0), (8, .loc 101 0), (9, V.int y95), (51, V.bool y107)]) [(100, .cells 46 [V.int 0, V.str [], V.int 0]), (101, .cells 46 [V.int 0, V.str [], V.int a1])] mix (by
          refine W.run D_ok 5 162 (by kernel_rfl) ?_
          rcases cond_some hv195 with ⟨hc196, hv195⟩ | ⟨hc196, hv195⟩
          · refine W.is 46 hc196 (by kernel_rfl) ?_
            refine W.run D_ok 2 162 (by kernel_rfl) ?_
            obtain ⟨b108, hx197, hv195⟩ := bind_some hv195
            refine W.ixS D_ok hx197 (by kernel_rfl) ?_
            refine W.run D_ok 2 162 (by kernel_rfl) ?_
            have hv195 := Option.some.inj hv195
            subst hv195
            exact W.fin (by decide) (by kernel_rfl) (Weak.sel [(100, 100), (101, 101)] [0, 1, 6, 8, 9, 51] (by kernel_rfl) (by kernel_rfl) (by kernel_rfl))
          · refine W.is 46 hc196 (by kernel_rfl) ?_
            refine W.run D_ok 5 162 (by kernel_rfl) ?_
            have hv195 := Option.some.inj hv195
            subst hv195
            exact W.fin (by decide) (by kernel_rfl) (Weak.sel [(100, 100), (101, 101)] [0, 1, 6, 8, 9, 51] (by kernel_rfl) (by kernel_rfl) (by kernel_rfl))
          ) ?_
      rcases cond_some h185 with ⟨hc198, h185⟩ | ⟨hc198, h185⟩
      · refine CodeOk.ifT hc198 (by kernel_rfl) ?_
        refine CodeOk.skip ?_
        refine CodeOk.weak (st' := ⟨tl 108 [(0, V.str a0), (1, V.int a1), (6, .loc 100 0), (8, .loc 101 0), (9, V.int y95), (51, V.bool y107)], [(100, .cells 46 [V.int 0, V.str [], V.int 0]), (101, .cells 46 [V.int 0, V.str [], V.int a1])]⟩) (Weak.refl _) ?_
        refine CodeOk.block' ?_
        refine CodeOk.endR (tl 108 [(0, V.str a0), (1, V.int a1), (6, .loc 100 0), (8, .loc 101 0), (9, V.int (IntKind.wrap .i64 (y95 + 1)))]) [(100, .cells 46 [V.int 0, V.str [], V.int 0]), (101, .cells 46 [V.int 0, V.str [], V.int a1])] mix (by
            refine W.run D_ok 3 162 (by kernel_rfl) ?_
            exact W.fin (by decide) (by kernel_rfl) (Weak.sel [(100, 100), (101, 101)] [0, 1, 6, 8, 9] (by kernel_rfl) (by kernel_rfl) (by kernel_rfl))
            ) (fun st hw => ?_)
        exact ih186 (a0, a1, (IntKind.wrap .i64 (y95 + 1))) h185 _ (hw.trans (Weak.sel [(100, 100), (101, 101)] [0, 1, 6, 8, 9] (by kernel_rfl) (by kernel_rfl) (by kernel_rfl)))
      · refine CodeOk.ifF hc198 (by kernel_rfl) ?_
        refine CodeOk.exit ?_
        refine CodeOk.weak (st' := ⟨tl 108 [(0, V.str a0), (1, V.int a1), (6, .loc 100 0), (8, .loc 101 0), (9, V.int y95), (51, V.bool y107)], [(100, .cells 46 [V.int 0, V.str [], V.int 0]), (101, .cells 46 [V.int 0, V.str [], V.int a1])]⟩) (Weak.refl _) ?_
        refine CodeOk.endR (tl 108 [(0, V.str a0), (1, V.int a1), (6, .loc 100 0), (8, .loc 101 0), (9, V.int y95)]) [(101, .cells 46 [V.int 2, V.str [], V.int a1]), (100, .cells 46 [V.int 0, V.str [], V.int 0])] mix (by
            refine W.run D_ok 2 162 (by kernel_rfl) ?_
            exact W.fin (by decide) (by kernel_rfl) (Weak.sel [(101, 101), (100, 100)] [0, 1, 6, 8, 9] (by kernel_rfl) (by kernel_rfl) (by kernel_rfl))
            ) (fun st hw => ?_)
        exact hk120 (a0, a1, y95, 2) h185 _ (hw.trans (Weak.sel [(100, 100), (101, 101)] [0, 1, 6, 8, 9] (by kernel_rfl) (by kernel_rfl) (by kernel_rfl)))
    · refine CodeOk.ifF hc122 (by kernel_rfl) ?_
      obtain ⟨y110, hv201, h⟩ := bind_some h
      refine CodeOk.cutR (tl 108 [(0, V.str a0), (1, V.int a1), (2, V.bool a2), (6, .loc 100 0), (7, V.int (IntKind.wrap .i64 ((b2).toNat : Int))), (8, .loc 101 0), (55, V.bool y110)]) [(100, .cells 46 [V.int 0, V.str [], V.int 0]), (101, .cells 46 [V.int 0, V.str [], V.int a1])] mix (by
          refine W.run D_ok 1 102 (by kernel_rfl) ?_
          obtain ⟨r111, hx202, hv201⟩ := bind_some hv201
          refine W.call0 (m_spec_IsDigit_ok (IntKind.wrap .i64 ((b2).toNat : Int)) hx202) cok82 rfl (by kernel_rfl) ?_
          refine W.run D_ok 1 102 (by kernel_rfl) ?_
          rcases cond_some hv201 with ⟨hc203, hv201⟩ | ⟨hc203, hv201⟩
          · refine W.is 58 hc203 (by kernel_rfl) ?_
            refine W.run D_ok 4 102 (by kernel_rfl) ?_
            have hv201 := Option.some.inj hv201
            subst hv201
            exact W.fin (by decide) (by kernel_rfl) (Weak.sel [(100, 100), (101, 101)] [0, 1, 2, 6, 7, 8, 55] (by kernel_rfl) (by kernel_rfl) (by kernel_rfl))
          · refine W.is 58 hc203 (by kernel_rfl) ?_
            refine W.run D_ok 4 102 (by kernel_rfl) ?_
            have hv201 := Option.some.inj hv201
            subst hv201
            exact W.fin (by decide) (by kernel_rfl) (Weak.sel [(100, 100), (101, 101)] [0, 1, 2, 6, 7, 8, 55] (by kernel_rfl) (by kernel_rfl) (by kernel_rfl))
          ) ?_
      rcases cond_some h with ⟨hc204, h⟩ | ⟨hc204, h⟩
      · refine CodeOk.ifT hc204 (by kernel_rfl) ?_
        obtain ⟨r113, hx206, h⟩ := bind_some h
        refine CodeOk.cutR (tl 108 [(0, V.str a0), (1, V.int a1), (6, .loc 100 0), (8, .loc 101 0), (9, V.int r113)]) [(100, .cells 46 [V.int 0, V.str [], V.int 0]), (101, .cells 46 [V.int 0, V.str [], V.int a1])] mix (by
            refine W.run D_ok 2 102 (by kernel_rfl) ?_
            refine W.call0 (m_spec_NumEnd_ok N a0 a1 hx206) cok69 rfl (by kernel_rfl) ?_
            refine W.run D_ok 1 102 (by kernel_rfl) ?_
            exact W.fin (by decide) (by kernel_rfl) (Weak.sel [(100, 100), (101, 101)] [0, 1, 6, 8, 9] (by kernel_rfl) (by kernel_rfl) (by kernel_rfl))
            ) ?_
        refine CodeOk.endR (tl 108 [(0, V.str a0), (1, V.int a1), (6, .loc 100 0), (8, .loc 101 0), (9, V.int r113)]) [(101, .cells 46 [V.int 3, V.str [], V.int a1]), (100, .cells 46 [V.int 0, V.str [], V.int 0])] mix (by
            refine W.run D_ok 2 102 (by kernel_rfl) ?_
            exact W.fin (by decide) (by kernel_rfl) (Weak.sel [(101, 101), (100, 100)] [0, 1, 6, 8, 9] (by kernel_rfl) (by kernel_rfl) (by kernel_rfl))
            ) (fun st hw => ?_)
        exact hk120 (a0, a1, r113, 3) h _ (hw.trans (Weak.sel [(100, 100), (101, 101)] [0, 1, 6, 8, 9] (by kernel_rfl) (by kernel_rfl) (by kernel_rfl)))
      · refine CodeOk.ifF hc204 (by kernel_rfl) ?_
        refine CodeOk.cutR (tl 108 [(0, V.str a0), (1, V.int a1), (2, V.bool a2), (6, .loc 100 0), (7, V.int (IntKind.wrap .i64 ((b2).toNat : Int))), (8, .loc 101 0), (66, V.bool ((IntKind.wrap .i64 ((b2).toNat : Int)) == 34))]) [(100, .cells 46 [V.int 0, V.str [], V.int 0]), (101, .cells 46 [V.int 0, V.str [], V.int a1])] mix (by
            refine W.run D_ok 3 102 (by kernel_rfl) ?_
            exact W.fin (by decide) (by kernel_rfl) (Weak.sel [(100, 100), (101, 101)] [0, 1, 2, 6, 7, 8, 66] (by kernel_rfl) (by kernel_rfl) (by kernel_rfl))
            ) ?_
        rcases cond_some h with ⟨hc207, h⟩ | ⟨hc207, h⟩
        · refine CodeOk.ifT hc207 (by kernel_rfl) ?_
          obtain ⟨r115, hx209, h⟩ := bind_some h
          refine CodeOk.cutR (tl 108 [(0, V.str a0), (1, V.int a1), (6, .loc 100 0), (8, .loc 101 0), (9, V.int r115)]) [(100, .cells 46 [V.int 0, V.str [], V.int 0]), (101, .cells 46 [V.int 0, V.str [], V.int a1])] mix (by
              refine W.run D_ok 2 102 (by kernel_rfl) ?_
              refine W.call0 (m_spec_StrEnd_ok N a0 a1 hx209) cok70 rfl (by kernel_rfl) ?_
              refine W.run D_ok 1 102 (by kernel_rfl) ?_
              exact W.fin (by decide) (by kernel_rfl) (Weak.sel [(100, 100), (101, 101)] [0, 1, 6, 8, 9] (by kernel_rfl) (by kernel_rfl) (by kernel_rfl))
              ) ?_
          refine CodeOk.endR (tl 108 [(0, V.str a0), (1, V.int a1), (6, .loc 100 0), (8, .loc 101 0), (9, V.int r115)]) [(101, .cells 46 [V.int 4, V.str [], V.int a1]), (100, .cells 46 [V.int 0, V.str [], V.int 0])] mix (by
              refine W.run D_ok 2 102 (by kernel_rfl) ?_
              exact W.fin (by decide) (by kernel_rfl) (Weak.sel [(101, 101), (100, 100)] [0, 1, 6, 8, 9] (by kernel_rfl) (by kernel_rfl) (by kernel_rfl))
              ) (fun st hw => ?_)
          exact hk120 (a0, a1, r115, 4) h _ (hw.trans (Weak.sel [(100, 100), (101, 101)] [0, 1, 6, 8, 9] (by kernel_rfl) (by kernel_rfl) (by kernel_rfl)))
        · refine CodeOk.ifF hc207 (by kernel_rfl) ?_
          obtain ⟨y116, hv211, h⟩ := bind_some h
          refine CodeOk.cutR (tl 108 [(0, V.str a0), (1, V.int a1), (6, .loc 100 0), (7, V.int (IntKind.wrap .i64 ((b2).toNat : Int))), (8, .loc 101 0), (73, V.bool y116)]) [(100, .cells 46 [V.int 0, V.str [], V.int 0]), (101, .cells 46 [V.int 0, V.str [], V.int a1])] mix (by
              refine W.run D_ok 3 102 (by kernel_rfl) ?_
              rcases cond_some hv211 with ⟨hc212, hv211⟩ | ⟨hc212, hv211⟩
              · refine W.is 76 hc212 (by kernel_rfl) ?_
                refine W.run D_ok 3 102 (by kernel_rfl) ?_
                have hv211 := Option.some.inj hv211
                subst hv211
                exact W.fin (by decide) (by kernel_rfl) (Weak.sel [(100, 100), (101, 101)] [0, 1, 6, 7, 8, 73] (by kernel_rfl) (by kernel_rfl) (by kernel_rfl))
              · refine W.is 76 hc212 (by kernel_rfl) ?_
                refine W.run D_ok 3 102 (by kernel_rfl) ?_
                have hv211 := Option.some.inj hv211
                subst hv211
                exact W.fin (by decide) (by kernel_rfl) (Weak.sel [(100, 100), (101, 101)] [0, 1, 6, 7, 8, 73] (by kernel_rfl) (by kernel_rfl) (by kernel_rfl))
              ) ?_
          rcases cond_some h with ⟨hc213, h⟩ | ⟨hc213, h⟩
          · refine CodeOk.ifT hc213 (by kernel_rfl) ?_
            obtain ⟨r118, hx215, h⟩ := bind_some h
            refine CodeOk.cutR (tl 108 [(0, V.str a0), (1, V.int a1), (6, .loc 100 0), (8, .loc 101 0), (9, V.int r118)]) [(100, .cells 46 [V.int 0, V.str [], V.int 0]), (101, .cells 46 [V.int 0, V.str [], V.int a1])] mix (by
                refine W.run D_ok 2 102 (by kernel_rfl) ?_
                refine W.call0 (m_spec_EreEnd_ok N a0 a1 hx215) cok71 rfl (by kernel_rfl) ?_
                refine W.run D_ok 1 102 (by kernel_rfl) ?_
                exact W.fin (by decide) (by kernel_rfl) (Weak.sel [(100, 100), (101, 101)] [0, 1, 6, 8, 9] (by kernel_rfl) (by kernel_rfl) (by kernel_rfl))
                ) ?_
            refine CodeOk.endR (tl 108 [(0, V.str a0), (1, V.int a1), (6, .loc 100 0), (8, .loc 101 0), (9, V.int r118)]) [(101, .cells 46 [V.int 5, V.str [], V.int a1]), (100, .cells 46 [V.int 0, V.str [], V.int 0])] mix (by
                refine W.run D_ok 2 102 (by kernel_rfl) ?_
                exact W.fin (by decide) (by kernel_rfl) (Weak.sel [(101, 101), (100, 100)] [0, 1, 6, 8, 9] (by kernel_rfl) (by kernel_rfl) (by kernel_rfl))
                ) (fun st hw => ?_)
            exact hk120 (a0, a1, r118, 5) h _ (hw.trans (Weak.sel [(100, 100), (101, 101)] [0, 1, 6, 8, 9] (by kernel_rfl) (by kernel_rfl) (by kernel_rfl)))
          · refine CodeOk.ifF hc213 (by kernel_rfl) ?_
            obtain ⟨r120, hx217, h⟩ := bind_some h
            refine CodeOk.cutR (tl 108 [(0, V.str a0), (1, V.int a1), (6, .loc 100 0), (8, .loc 101 0), (83, V.bool r120)]) [(100, .cells 46 [V.int 0, V.str [], V.int 0]), (101, .cells 46 [V.int 0, V.str [], V.int a1])] mix (by
                refine W.run D_ok 1 102 (by kernel_rfl) ?_
                refine W.call0 (m_spec_IsLetter_ok (IntKind.wrap .i64 ((b2).toNat : Int)) hx217) cok83 rfl (by kernel_rfl) ?_
                refine W.run D_ok 1 102 (by kernel_rfl) ?_
                exact W.fin (by decide) (by kernel_rfl) (Weak.sel [(100, 100), (101, 101)] [0, 1, 6, 8, 83] (by kernel_rfl) (by kernel_rfl) (by kernel_rfl))
                ) ?_
            rcases cond_some h with ⟨hc218, h⟩ | ⟨hc218, h⟩
            · refine CodeOk.ifT hc218 (by kernel_rfl) ?_
              obtain ⟨r123, hx221, h⟩ := bind_some h
              obtain ⟨r124, hx222, h⟩ := bind_some h
              refine CodeOk.cutR (tl 108 [(6, .loc 100 0), (8, .loc 101 0), (10, .loc 102 0)]) [(102, .cells 46 [V.int r124.Kind, V.str r124.Text, V.int r124.At]), (100, .cells 46 [V.int 0, V.str [], V.int 0]), (101, .cells 46 [V.int 0, V.str [], V.int a1])] mix (by
                  refine W.run D_ok 4 102 (by kernel_rfl) ?_
                  refine W.call0 (m_spec_NameEnd_ok N a0 a1 hx221) cok85 rfl (by kernel_rfl) ?_
                  refine W.call0 (m_spec_l5Word_ok N a0 a1 r123 hx222) cok84 rfl (by kernel_rfl) ?_
                  refine W.run D_ok 2 102 (by kernel_rfl) ?_
                  exact W.fin (by decide) (by kernel_rfl) (Weak.sel [(102, 102), (100, 100), (101, 101)] [6, 8, 10] (by kernel_rfl) (by kernel_rfl) (by kernel_rfl))
                  ) ?_
              refine CodeOk.seq' ?_
              obtain ⟨r128, hx227, h⟩ := bind_some h
              refine CodeOk.cutR (tl 108 [(6, .loc 100 0), (8, .loc 101 0), (10, .loc 102 0), (95, V.bool (!r128))]) [(102, .cells 46 [V.int r124.Kind, V.str r124.Text, V.int r124.At]), (100, .cells 46 [V.int 0, V.str [], V.int 0]), (101, .cells 46 [V.int 0, V.str [], V.int a1])] mix (by
                  refine W.run D_ok 2 103 (by kernel_rfl) ?_
                  refine W.call0 (m_spec_NameShape_ok N r124.Text hx227) cok86 rfl (by kernel_rfl) ?_
                  refine W.run D_ok 1 103 (by kernel_rfl) ?_
                  exact W.fin (by decide) (by kernel_rfl) (Weak.sel [(102, 102), (100, 100), (101, 101)] [6, 8, 10, 95] (by kernel_rfl) (by kernel_rfl) (by kernel_rfl))
                  ) ?_
              rcases cond_some h with ⟨hc228, h⟩ | ⟨hc228, h⟩
              · refine CodeOk.ifT hc228 (by kernel_rfl) ?_
                refine CodeOk.cutR (tl 108 [(6, .loc 100 0)]) [(100, .cells 46 [V.int 0, V.str [], V.int a1])] mix (by
                    refine W.run D_ok 2 103 (by kernel_rfl) ?_
                    exact W.fin (by decide) (by kernel_rfl) (Weak.sel [(100, 100)] [6] (by kernel_rfl) (by kernel_rfl) (by kernel_rfl))
                    ) ?_
                refine CodeOk.ret ?_
                have h := Option.some.inj h
                subst h
                exact Ends.gen [] (.inr rfl) (RetV.one rfl (OneR.cell D_ok (r := .agg [V.int 0, V.str [], V.int a1]) (i := 100) (ety := 46) (cs := [V.int 0, V.str [], V.int a1]) (by kernel_rfl) (by kernel_rfl) (by kernel_rfl))) (by kernel_rfl) (by kernel_rfl) (by kernel_rfl)
              · refine CodeOk.ifF hc228 (by kernel_rfl) ?_
                refine CodeOk.skip ?_
                refine CodeOk.weak (st' := ⟨tl 108 [(6, .loc 100 0), (8, .loc 101 0), (10, .loc 102 0), (95, V.bool (!r128))], [(102, .cells 46 [V.int r124.Kind, V.str r124.Text, V.int r124.At]), (100, .cells 46 [V.int 0, V.str [], V.int 0]), (101, .cells 46 [V.int 0, V.str [], V.int a1])]⟩) (Weak.refl _) ?_
                refine CodeOk.cutR (tl 108 [(6, .loc 100 0)]) [(100, .cells 46 [V.int r124.Kind, V.str r124.Text, V.int r124.At])] mix (by
                    refine W.run D_ok 2 103 (by kernel_rfl) ?_
                    exact W.fin (by decide) (by kernel_rfl) (Weak.sel [(100, 100)] [6] (by kernel_rfl) (by kernel_rfl) (by kernel_rfl))
                    ) ?_
                refine CodeOk.ret ?_
                have h := Option.some.inj h
                subst h
                exact Ends.gen [] (.inr rfl) (RetV.one rfl (OneR.cell D_ok (r := .agg [V.int r124.Kind, V.str r124.Text, V.int r124.At]) (i := 100) (ety := 46) (cs := [V.int r124.Kind, V.str r124.Text, V.int r124.At]) (by kernel_rfl) (by kernel_rfl) (by kernel_rfl))) (by kernel_rfl) (by kernel_rfl) (by kernel_rfl)
            · refine CodeOk.ifF hc218 (by kernel_rfl) ?_
              obtain ⟨r130, hx230, h⟩ := bind_some h
              refine CodeOk.cutR (tl 108 [(0, V.str a0), (1, V.int a1), (6, .loc 100 0), (8, .loc 101 0), (11, V.int r130.1), (12, V.int r130.2)]) [(100, .cells 46 [V.int 0, V.str [], V.int 0]), (101, .cells 46 [V.int 0, V.str [], V.int a1])] mix (by
                  refine W.run D_ok 2 102 (by kernel_rfl) ?_
                  refine W.call0 (m_spec_OpAt_ok N a0 a1 hx230) cok87 rfl (by kernel_rfl) ?_
                  refine W.run D_ok 5 102 (by kernel_rfl) ?_
                  exact W.fin (by decide) (by kernel_rfl) (Weak.sel [(100, 100), (101, 101)] [0, 1, 6, 8, 11, 12] (by kernel_rfl) (by kernel_rfl) (by kernel_rfl))
                  ) ?_
              refine CodeOk.seq' ?_
              refine CodeOk.cutR (tl 108 [(0, V.str a0), (1, V.int a1), (6, .loc 100 0), (8, .loc 101 0), (11, V.int r130.1), (12, V.int r130.2), (26, V.bool (r130.2 == 0))]) [(100, .cells 46 [V.int 0, V.str [], V.int 0]), (101, .cells 46 [V.int 0, V.str [], V.int a1])] mix (by
                  refine W.run D_ok 2 102 (by kernel_rfl) ?_
                  exact W.fin (by decide) (by kernel_rfl) (Weak.sel [(100, 100), (101, 101)] [0, 1, 6, 8, 11, 12, 26] (by kernel_rfl) (by kernel_rfl) (by kernel_rfl))
                  ) ?_
              rcases cond_some h with ⟨hc232, h⟩ | ⟨hc232, h⟩
              · refine CodeOk.ifT hc232 (by kernel_rfl) ?_
                refine CodeOk.cutR (tl 108 [(6, .loc 100 0)]) [(100, .cells 46 [V.int 0, V.str [], V.int a1])] mix (by
                    refine W.run D_ok 2 102 (by kernel_rfl) ?_
                    exact W.fin (by decide) (by kernel_rfl) (Weak.sel [(100, 100)] [6] (by kernel_rfl) (by kernel_rfl) (by kernel_rfl))
                    ) ?_
                refine CodeOk.ret ?_
                have h := Option.some.inj h
                subst h
                exact Ends.gen [] (.inr rfl) (RetV.one rfl (OneR.cell D_ok (r := .agg [V.int 0, V.str [], V.int a1]) (i := 100) (ety := 46) (cs := [V.int 0, V.str [], V.int a1]) (by kernel_rfl) (by kernel_rfl) (by kernel_rfl))) (by kernel_rfl) (by kernel_rfl) (by kernel_rfl)
              · refine CodeOk.ifF hc232 (by kernel_rfl) ?_
                refine CodeOk.skip ?_
                refine CodeOk.weak (st' := ⟨tl 108 [(0, V.str a0), (1, V.int a1), (6, .loc 100 0), (8, .loc 101 0), (11, V.int r130.1), (12, V.int r130.2), (26, V.bool (r130.2 == 0))], [(100, .cells 46 [V.int 0, V.str [], V.int 0]), (101, .cells 46 [V.int 0, V.str [], V.int a1])]⟩) (Weak.refl _) ?_
                refine CodeOk.cutR (tl 108 [(0, V.str a0), (1, V.int a1), (6, .loc 100 0), (8, .loc 101 0), (12, V.int r130.2)]) [(101, .cells 46 [V.int r130.1, V.str [], V.int a1]), (100, .cells 46 [V.int 0, V.str [], V.int 0])] mix (by
                    refine W.run D_ok 3 102 (by kernel_rfl) ?_
                    exact W.fin (by decide) (by kernel_rfl) (Weak.sel [(101, 101), (100, 100)] [0, 1, 6, 8, 12] (by kernel_rfl) (by kernel_rfl) (by kernel_rfl))
                    ) ?_
                refine CodeOk.endR (tl 108 [(0, V.str a0), (1, V.int a1), (6, .loc 100 0), (8, .loc 101 0), (9, V.int (IntKind.wrap .i64 (a1 + r130.2)))]) [(101, .cells 46 [V.int r130.1, V.str [], V.int a1]), (100, .cells 46 [V.int 0, V.str [], V.int 0])] mix (by
                    refine W.run D_ok 4 102 (by kernel_rfl) ?_
                    exact W.fin (by decide) (by kernel_rfl) (Weak.sel [(101, 101), (100, 100)] [0, 1, 6, 8, 9] (by kernel_rfl) (by kernel_rfl) (by kernel_rfl))
                    ) (fun st hw => ?_)
                exact hk120 (a0, a1, (IntKind.wrap .i64 (a1 + r130.2)), r130.1) h _ (hw.trans (Weak.sel [(100, 100), (101, 101)] [0, 1, 6, 8, 9] (by kernel_rfl) (by kernel_rfl) (by kernel_rfl)))

end Go.Proofs.Tryd
