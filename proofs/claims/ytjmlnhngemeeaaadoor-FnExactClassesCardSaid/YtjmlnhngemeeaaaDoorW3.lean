/-
  The walks that show that the code computes the models, part 3.
-/
import Derived.Test.YtjmlnhngemeeaaaDoorW2
namespace Go.Proofs.Tryd
open Go.Av
set_option maxRecDepth 100000

theorem m_impl_quotedEnd_ok (N : Nat) (a0 : List UInt8) (a1 : Int) (a2 : Int) {r : Int} (h : m_impl_quotedEnd N a0 a1 a2 = some r) :
    AC Tryd.prog (GS []) 106 [V.str a0, V.int a1, V.int a2] [] (V.int r) [] := by
  rw [m_impl_quotedEnd] at h
  refine AC.enter Tryd.func106 rfl ?_
  refine CodeOk.cutR (tl 50 [(0, V.str a0), (1, V.int a1), (2, V.int a2)]) [] mix (by
      refine W.run D_ok 1 100 (by kernel_rfl) ?_
      exact W.fin (by decide) (by kernel_rfl) (Weak.sel [] [0, 1, 2] (by kernel_rfl) (by kernel_rfl) (by kernel_rfl))
      ) ?_
  refine CodeOk.seq' ?_
  obtain ⟨r4, hx5, h⟩ := bind_some h
  refine CodeOk.cutR (tl 50 [(0, V.str a0), (1, V.int a1), (2, V.int a2), (12, V.bool (r4 != a2))]) [] mix (by
      refine W.run D_ok 2 100 (by kernel_rfl) ?_
      refine W.call0 (m_impl_byteAt_ok a0 a1 hx5) cok73 rfl (by kernel_rfl) ?_
      refine W.run D_ok 2 100 (by kernel_rfl) ?_
      exact W.fin (by decide) (by kernel_rfl) (Weak.sel [] [0, 1, 2, 12] (by kernel_rfl) (by kernel_rfl) (by kernel_rfl))
      ) ?_
  rcases cond_some h with ⟨hc6, h⟩ | ⟨hc6, h⟩
  · refine CodeOk.ifT hc6 (by kernel_rfl) ?_
    refine CodeOk.cutR (tl 50 [(6, V.int (-1))]) [] mix (by
        refine W.run D_ok 1 100 (by kernel_rfl) ?_
        exact W.fin (by decide) (by kernel_rfl) (Weak.sel [] [6] (by kernel_rfl) (by kernel_rfl) (by kernel_rfl))
        ) ?_
    refine CodeOk.ret ?_
    have h := Option.some.inj h
    subst h
    exact Ends.gen [] (.inr rfl) (RetV.one rfl (OneR.tmp (t := 6) (r := V.int (-1)) (by kernel_rfl))) (by kernel_rfl) (by kernel_rfl) (by kernel_rfl)
  · refine CodeOk.ifF hc6 (by kernel_rfl) ?_
    refine CodeOk.skip ?_
    refine CodeOk.weak (st' := ⟨tl 50 [(0, V.str a0), (1, V.int a1), (2, V.int a2), (12, V.bool (r4 != a2))], []⟩) (Weak.refl _) ?_
    refine CodeOk.seq' ?_
    refine CodeOk.cutR (tl 50 [(0, V.str a0), (2, V.int a2), (7, V.int (IntKind.wrap .i64 (a1 + 1)))]) [] mix (by
        refine W.run D_ok 3 100 (by kernel_rfl) ?_
        exact W.fin (by decide) (by kernel_rfl) (Weak.sel [] [0, 2, 7] (by kernel_rfl) (by kernel_rfl) (by kernel_rfl))
        ) ?_
    refine CodeOk.block' ?_
    refine CodeOk.loopJ (fun (⟨a0, a2, y91⟩ : ((List UInt8) × Int × Int)) => ⟨tl 50 [(0, V.str a0), (2, V.int a2), (7, V.int y91)], []⟩) (fun n i => m_impl_quotedEnd_l1 N n i = some r) (n0 := N) (i0 := (a0, a2, (IntKind.wrap .i64 (a1 + 1)))) (Weak.sel [] [0, 2, 7] (by kernel_rfl) (by kernel_rfl) (by kernel_rfl)) h (fun i h => by simp [m_impl_quotedEnd_l1] at h) ?_
    rintro n1 ⟨a0, a2, y91⟩ h189 ih190
    rw [m_impl_quotedEnd_l1] at h189
    refine CodeOk.seq' ?_
    obtain ⟨y118, hv199, h189⟩ := bind_some h189
    refine CodeOk.cutR (tl 50 [(0, V.str a0), (2, V.int a2), (7, V.int y91), (24, V.bool y118)]) [] mix (by
        refine W.run D_ok 5 160 (by kernel_rfl) ?_
        rcases cond_some hv199 with ⟨hc200, hv199⟩ | ⟨hc200, hv199⟩
        · refine W.is 19 hc200 (by kernel_rfl) ?_
          refine W.run D_ok 2 160 (by kernel_rfl) ?_
          obtain ⟨b119, hx201, hv199⟩ := bind_some hv199
          refine W.ixS D_ok hx201 (by kernel_rfl) ?_
          refine W.run D_ok 2 160 (by kernel_rfl) ?_
          have hv199 := Option.some.inj hv199
          subst hv199
          exact W.fin (by decide) (by kernel_rfl) (Weak.sel [] [0, 2, 7, 24] (by kernel_rfl) (by kernel_rfl) (by kernel_rfl))
        · refine W.is 19 hc200 (by kernel_rfl) ?_
          refine W.run D_ok 5 160 (by kernel_rfl) ?_
          have hv199 := Option.some.inj hv199
          subst hv199
          exact W.fin (by decide) (by kernel_rfl) (Weak.sel [] [0, 2, 7, 24] (by kernel_rfl) (by kernel_rfl) (by kernel_rfl))
        ) ?_
    rcases cond_some h189 with ⟨hc202, h189⟩ | ⟨hc202, h189⟩
    · refine CodeOk.ifT hc202 (by kernel_rfl) ?_
      refine CodeOk.skip ?_
      refine CodeOk.weak (st' := ⟨tl 50 [(0, V.str a0), (2, V.int a2), (7, V.int y91), (24, V.bool y118)], []⟩) (Weak.refl _) ?_
      refine CodeOk.join (fun (⟨a0, a2, y127⟩ : ((List UInt8) × Int × Int)) => ⟨tl 50 [(0, V.str a0), (2, V.int a2), (7, V.int y127)], []⟩) (fun i => m_impl_quotedEnd_k2 N (m_impl_quotedEnd_l1 N n1) i = some r) ?_ ?_
      · rintro ⟨a0, a2, y127⟩ h214
        rw [m_impl_quotedEnd_k2] at h214
        refine CodeOk.endR (tl 50 [(0, V.str a0), (2, V.int a2), (7, V.int (IntKind.wrap .i64 (y127 + 1)))]) [] mix (by
            refine W.run D_ok 3 160 (by kernel_rfl) ?_
            exact W.fin (by decide) (by kernel_rfl) (Weak.sel [] [0, 2, 7] (by kernel_rfl) (by kernel_rfl) (by kernel_rfl))
            ) (fun st hw => ?_)
        exact ih190 (a0, a2, (IntKind.wrap .i64 (y127 + 1))) h214 _ (hw.trans (Weak.sel [] [0, 2, 7] (by kernel_rfl) (by kernel_rfl) (by kernel_rfl)))
      intro hk215
      refine CodeOk.block' ?_
      refine CodeOk.block' ?_
      obtain ⟨b129, hx217, h189⟩ := bind_some h189
      refine CodeOk.cutR (tl 50 [(0, V.str a0), (2, V.int a2), (7, V.int y91), (27, V.bool ((IntKind.wrap .i64 ((b129).toNat : Int)) == a2))]) [] mix (by
          refine W.run D_ok 2 160 (by kernel_rfl) ?_
          refine W.ixS D_ok hx217 (by kernel_rfl) ?_
          refine W.run D_ok 4 160 (by kernel_rfl) ?_
          exact W.fin (by decide) (by kernel_rfl) (Weak.sel [] [0, 2, 7, 27] (by kernel_rfl) (by kernel_rfl) (by kernel_rfl))
          ) ?_
      rcases cond_some h189 with ⟨hc218, h189⟩ | ⟨hc218, h189⟩
      · refine CodeOk.ifT hc218 (by kernel_rfl) ?_
        refine CodeOk.cutR (tl 50 [(6, V.int (IntKind.wrap .i64 (y91 + 1)))]) [] mix (by
            refine W.run D_ok 3 160 (by kernel_rfl) ?_
            exact W.fin (by decide) (by kernel_rfl) (Weak.sel [] [6] (by kernel_rfl) (by kernel_rfl) (by kernel_rfl))
            ) ?_
        refine CodeOk.ret ?_
        have h189 := Option.some.inj h189
        subst h189
        exact Ends.gen [] (.inr rfl) (RetV.one rfl (OneR.tmp (t := 6) (r := V.int (IntKind.wrap .i64 (y91 + 1))) (by kernel_rfl))) (by kernel_rfl) (by kernel_rfl) (by kernel_rfl)
      · refine CodeOk.ifF hc218 (by kernel_rfl) ?_
        obtain ⟨y132, hv222, h189⟩ := bind_some h189
        refine CodeOk.cutR (tl 50 [(0, V.str a0), (2, V.int a2), (7, V.int y91), (36, V.bool y132)]) [] mix (by
            refine W.run D_ok 2 160 (by kernel_rfl) ?_
            obtain ⟨b133, hx223, hv222⟩ := bind_some hv222
            refine W.ixS D_ok hx223 (by kernel_rfl) ?_
            refine W.run D_ok 2 160 (by kernel_rfl) ?_
            rcases cond_some hv222 with ⟨hc224, hv222⟩ | ⟨hc224, hv222⟩
            · refine W.is 41 hc224 (by kernel_rfl) ?_
              refine W.run D_ok 3 160 (by kernel_rfl) ?_
              obtain ⟨r134, hx225, hv222⟩ := bind_some hv222
              refine W.call0 (m_impl_byteAt_ok a0 (IntKind.wrap .i64 (y91 + 1)) hx225) cok73 rfl (by kernel_rfl) ?_
              refine W.run D_ok 3 160 (by kernel_rfl) ?_
              have hv222 := Option.some.inj hv222
              subst hv222
              exact W.fin (by decide) (by kernel_rfl) (Weak.sel [] [0, 2, 7, 36] (by kernel_rfl) (by kernel_rfl) (by kernel_rfl))
            · refine W.is 41 hc224 (by kernel_rfl) ?_
              refine W.run D_ok 7 160 (by kernel_rfl) ?_
              have hv222 := Option.some.inj hv222
              subst hv222
              exact W.fin (by decide) (by kernel_rfl) (Weak.sel [] [0, 2, 7, 36] (by kernel_rfl) (by kernel_rfl) (by kernel_rfl))
            ) ?_
        rcases cond_some h189 with ⟨hc226, h189⟩ | ⟨hc226, h189⟩
        · refine CodeOk.ifT hc226 (by kernel_rfl) ?_
          refine CodeOk.endR (tl 50 [(0, V.str a0), (2, V.int a2), (7, V.int (IntKind.wrap .i64 (y91 + 1)))]) [] mix (by
              refine W.run D_ok 3 160 (by kernel_rfl) ?_
              exact W.fin (by decide) (by kernel_rfl) (Weak.sel [] [0, 2, 7] (by kernel_rfl) (by kernel_rfl) (by kernel_rfl))
              ) (fun st hw => ?_)
          exact hk215 (a0, a2, (IntKind.wrap .i64 (y91 + 1))) h189 _ (hw.trans (Weak.sel [] [0, 2, 7] (by kernel_rfl) (by kernel_rfl) (by kernel_rfl)))
        · refine CodeOk.ifF hc226 (by kernel_rfl) ?_
          refine CodeOk.skip ?_
          exact hk215 (a0, a2, y91) h189 _ (Weak.sel [] [0, 2, 7] (by kernel_rfl) (by kernel_rfl) (by kernel_rfl))
    · refine CodeOk.ifF hc202 (by kernel_rfl) ?_
      refine CodeOk.exit ?_
      refine CodeOk.weak (st' := ⟨tl 50 [(0, V.str a0), (2, V.int a2), (7, V.int y91), (24, V.bool y118)], []⟩) (Weak.refl _) ?_
      refine CodeOk.cutR (tl 50 [(6, V.int (-1))]) [] mix (by
          refine W.run D_ok 1 160 (by kernel_rfl) ?_
          exact W.fin (by decide) (by kernel_rfl) (Weak.sel [] [6] (by kernel_rfl) (by kernel_rfl) (by kernel_rfl))
          ) ?_
      refine CodeOk.ret ?_
      have h189 := Option.some.inj h189
      subst h189
      exact Ends.gen [] (.inr rfl) (RetV.one rfl (OneR.tmp (t := 6) (r := V.int (-1)) (by kernel_rfl))) (by kernel_rfl) (by kernel_rfl) (by kernel_rfl)

theorem m_impl_StrEnd_ok (N : Nat) (a0 : List UInt8) (a1 : Int) {r : Int} (h : m_impl_StrEnd N a0 a1 = some r) :
    AC Tryd.prog (GS []) 86 [V.str a0, V.int a1] [] (V.int r) [] := by
  rw [m_impl_StrEnd] at h
  refine AC.enter Tryd.func86 rfl ?_
  refine CodeOk.cutR (tl 8 [(0, V.str a0), (1, V.int a1)]) [] mix (by
      refine W.run D_ok 1 100 (by kernel_rfl) ?_
      exact W.fin (by decide) (by kernel_rfl) (Weak.sel [] [0, 1] (by kernel_rfl) (by kernel_rfl) (by kernel_rfl))
      ) ?_
  obtain ⟨r2, hx2, h⟩ := bind_some h
  refine CodeOk.cutR (tl 8 [(4, V.int r2)]) [] mix (by
      refine W.run D_ok 2 100 (by kernel_rfl) ?_
      refine W.call0 (m_impl_quotedEnd_ok N a0 a1 34 hx2) cok106 rfl (by kernel_rfl) ?_
      refine W.run D_ok 1 100 (by kernel_rfl) ?_
      exact W.fin (by decide) (by kernel_rfl) (Weak.sel [] [4] (by kernel_rfl) (by kernel_rfl) (by kernel_rfl))
      ) ?_
  refine CodeOk.ret ?_
  have h := Option.some.inj h
  subst h
  exact Ends.gen [] (.inr rfl) (RetV.one rfl (OneR.tmp (t := 4) (r := V.int r2) (by kernel_rfl))) (by kernel_rfl) (by kernel_rfl) (by kernel_rfl)

theorem m_impl_EndsOperand_ok (a0 : Int) {r : Bool} (h : m_impl_EndsOperand a0 = some r) :
    AC Tryd.prog (GS []) 87 [V.int a0] [] (V.bool r) [] := by
  rw [m_impl_EndsOperand] at h
  refine AC.enter Tryd.func87 rfl ?_
  refine CodeOk.cutR (tl 14 [(0, V.int a0)]) [] mix (by
      refine W.run D_ok 1 100 (by kernel_rfl) ?_
      exact W.fin (by decide) (by kernel_rfl) (Weak.sel [] [0] (by kernel_rfl) (by kernel_rfl) (by kernel_rfl))
      ) ?_
  refine CodeOk.seq' ?_
  refine CodeOk.cutR (tl 14 [(3, V.int a0)]) [] mix (by
      refine W.run D_ok 1 100 (by kernel_rfl) ?_
      exact W.fin (by decide) (by kernel_rfl) (Weak.sel [] [3] (by kernel_rfl) (by kernel_rfl) (by kernel_rfl))
      ) ?_
  refine CodeOk.block' ?_
  refine CodeOk.join (fun (y2 : Bool) => ⟨tl 14 [(4, V.bool y2)], []⟩) (fun i => m_impl_EndsOperand_k1 i = some r) ?_ ?_
  · rintro y2 h28
    rw [m_impl_EndsOperand_k1] at h28
    rcases cond_some h28 with ⟨hc29, h28⟩ | ⟨hc29, h28⟩
    · refine CodeOk.ifT hc29 (by kernel_rfl) ?_
      refine CodeOk.cutR (tl 14 [(2, V.bool true)]) [] mix (by
          refine W.run D_ok 1 100 (by kernel_rfl) ?_
          exact W.fin (by decide) (by kernel_rfl) (Weak.sel [] [2] (by kernel_rfl) (by kernel_rfl) (by kernel_rfl))
          ) ?_
      refine CodeOk.ret ?_
      have h28 := Option.some.inj h28
      subst h28
      exact Ends.gen [] (.inr rfl) (RetV.one rfl (OneR.tmp (t := 2) (r := V.bool true) (by kernel_rfl))) (by kernel_rfl) (by kernel_rfl) (by kernel_rfl)
    · refine CodeOk.ifF hc29 (by kernel_rfl) ?_
      refine CodeOk.skip ?_
      refine CodeOk.weak (st' := ⟨tl 14 [(4, V.bool y2)], []⟩) (Weak.refl _) ?_
      refine CodeOk.cutR (tl 14 [(2, V.bool false)]) [] mix (by
          refine W.run D_ok 1 100 (by kernel_rfl) ?_
          exact W.fin (by decide) (by kernel_rfl) (Weak.sel [] [2] (by kernel_rfl) (by kernel_rfl) (by kernel_rfl))
          ) ?_
      refine CodeOk.ret ?_
      have h28 := Option.some.inj h28
      subst h28
      exact Ends.gen [] (.inr rfl) (RetV.one rfl (OneR.tmp (t := 2) (r := V.bool false) (by kernel_rfl))) (by kernel_rfl) (by kernel_rfl) (by kernel_rfl)
  intro hk30
  refine CodeOk.cutR (tl 14 [(3, V.int a0), (4, V.bool (a0 == 3))]) [] mix (by
      refine W.run D_ok 2 100 (by kernel_rfl) ?_
      exact W.fin (by decide) (by kernel_rfl) (Weak.sel [] [3, 4] (by kernel_rfl) (by kernel_rfl) (by kernel_rfl))
      ) ?_
  rcases cond_some h with ⟨hc31, h⟩ | ⟨hc31, h⟩
  · refine CodeOk.ifT hc31 (by kernel_rfl) ?_
    refine CodeOk.skip ?_
    exact hk30 (a0 == 3) h _ (Weak.sel [] [4] (by kernel_rfl) (by kernel_rfl) (by kernel_rfl))
  · refine CodeOk.ifF hc31 (by kernel_rfl) ?_
    refine CodeOk.cutR (tl 14 [(3, V.int a0), (4, V.bool (a0 == 4))]) [] mix (by
        refine W.run D_ok 2 100 (by kernel_rfl) ?_
        exact W.fin (by decide) (by kernel_rfl) (Weak.sel [] [3, 4] (by kernel_rfl) (by kernel_rfl) (by kernel_rfl))
        ) ?_
    rcases cond_some h with ⟨hc32, h⟩ | ⟨hc32, h⟩
    · refine CodeOk.ifT hc32 (by kernel_rfl) ?_
      refine CodeOk.skip ?_
      exact hk30 (a0 == 4) h _ (Weak.sel [] [4] (by kernel_rfl) (by kernel_rfl) (by kernel_rfl))
    · refine CodeOk.ifF hc32 (by kernel_rfl) ?_
      refine CodeOk.cutR (tl 14 [(3, V.int a0), (4, V.bool (a0 == 5))]) [] mix (by
          refine W.run D_ok 2 100 (by kernel_rfl) ?_
          exact W.fin (by decide) (by kernel_rfl) (Weak.sel [] [3, 4] (by kernel_rfl) (by kernel_rfl) (by kernel_rfl))
          ) ?_
      rcases cond_some h with ⟨hc33, h⟩ | ⟨hc33, h⟩
      · refine CodeOk.ifT hc33 (by kernel_rfl) ?_
        refine CodeOk.skip ?_
        exact hk30 (a0 == 5) h _ (Weak.sel [] [4] (by kernel_rfl) (by kernel_rfl) (by kernel_rfl))
      · refine CodeOk.ifF hc33 (by kernel_rfl) ?_
        refine CodeOk.cutR (tl 14 [(3, V.int a0), (4, V.bool (a0 == 6))]) [] mix (by
            refine W.run D_ok 2 100 (by kernel_rfl) ?_
            exact W.fin (by decide) (by kernel_rfl) (Weak.sel [] [3, 4] (by kernel_rfl) (by kernel_rfl) (by kernel_rfl))
            ) ?_
        rcases cond_some h with ⟨hc34, h⟩ | ⟨hc34, h⟩
        · refine CodeOk.ifT hc34 (by kernel_rfl) ?_
          refine CodeOk.skip ?_
          exact hk30 (a0 == 6) h _ (Weak.sel [] [4] (by kernel_rfl) (by kernel_rfl) (by kernel_rfl))
        · refine CodeOk.ifF hc34 (by kernel_rfl) ?_
          refine CodeOk.cutR (tl 14 [(3, V.int a0), (4, V.bool (a0 == 8))]) [] mix (by
              refine W.run D_ok 2 100 (by kernel_rfl) ?_
              exact W.fin (by decide) (by kernel_rfl) (Weak.sel [] [3, 4] (by kernel_rfl) (by kernel_rfl) (by kernel_rfl))
              ) ?_
          rcases cond_some h with ⟨hc35, h⟩ | ⟨hc35, h⟩
          · refine CodeOk.ifT hc35 (by kernel_rfl) ?_
            refine CodeOk.skip ?_
            exact hk30 (a0 == 8) h _ (Weak.sel [] [4] (by kernel_rfl) (by kernel_rfl) (by kernel_rfl))
          · refine CodeOk.ifF hc35 (by kernel_rfl) ?_
            refine CodeOk.cutR (tl 14 [(3, V.int a0), (4, V.bool (a0 == 33))]) [] mix (by
                refine W.run D_ok 2 100 (by kernel_rfl) ?_
                exact W.fin (by decide) (by kernel_rfl) (Weak.sel [] [3, 4] (by kernel_rfl) (by kernel_rfl) (by kernel_rfl))
                ) ?_
            rcases cond_some h with ⟨hc36, h⟩ | ⟨hc36, h⟩
            · refine CodeOk.ifT hc36 (by kernel_rfl) ?_
              refine CodeOk.skip ?_
              exact hk30 (a0 == 33) h _ (Weak.sel [] [4] (by kernel_rfl) (by kernel_rfl) (by kernel_rfl))
            · refine CodeOk.ifF hc36 (by kernel_rfl) ?_
              refine CodeOk.cutR (tl 14 [(3, V.int a0), (4, V.bool (a0 == 35))]) [] mix (by
                  refine W.run D_ok 2 100 (by kernel_rfl) ?_
                  exact W.fin (by decide) (by kernel_rfl) (Weak.sel [] [3, 4] (by kernel_rfl) (by kernel_rfl) (by kernel_rfl))
                  ) ?_
              rcases cond_some h with ⟨hc37, h⟩ | ⟨hc37, h⟩
              · refine CodeOk.ifT hc37 (by kernel_rfl) ?_
                refine CodeOk.skip ?_
                exact hk30 (a0 == 35) h _ (Weak.sel [] [4] (by kernel_rfl) (by kernel_rfl) (by kernel_rfl))
              · refine CodeOk.ifF hc37 (by kernel_rfl) ?_
                refine CodeOk.cutR (tl 14 [(3, V.int a0), (4, V.bool (a0 == 51))]) [] mix (by
                    refine W.run D_ok 2 100 (by kernel_rfl) ?_
                    exact W.fin (by decide) (by kernel_rfl) (Weak.sel [] [3, 4] (by kernel_rfl) (by kernel_rfl) (by kernel_rfl))
                    ) ?_
                rcases cond_some h with ⟨hc38, h⟩ | ⟨hc38, h⟩
                · refine CodeOk.ifT hc38 (by kernel_rfl) ?_
                  refine CodeOk.skip ?_
                  exact hk30 (a0 == 51) h _ (Weak.sel [] [4] (by kernel_rfl) (by kernel_rfl) (by kernel_rfl))
                · refine CodeOk.ifF hc38 (by kernel_rfl) ?_
                  refine CodeOk.endR (tl 14 [(4, V.bool (a0 == 52))]) [] mix (by
                      refine W.run D_ok 2 100 (by kernel_rfl) ?_
                      exact W.fin (by decide) (by kernel_rfl) (Weak.sel [] [4] (by kernel_rfl) (by kernel_rfl) (by kernel_rfl))
                      ) (fun st hw => ?_)
                  exact hk30 (a0 == 52) h _ (hw.trans (Weak.sel [] [4] (by kernel_rfl) (by kernel_rfl) (by kernel_rfl)))

theorem m_impl_EreEnd_ok (N : Nat) (a0 : List UInt8) (a1 : Int) {r : Int} (h : m_impl_EreEnd N a0 a1 = some r) :
    AC Tryd.prog (GS []) 88 [V.str a0, V.int a1] [] (V.int r) [] := by
  rw [m_impl_EreEnd] at h
  refine AC.enter Tryd.func88 rfl ?_
  refine CodeOk.cutR (tl 14 [(0, V.str a0), (1, V.int a1)]) [] mix (by
      refine W.run D_ok 1 100 (by kernel_rfl) ?_
      exact W.fin (by decide) (by kernel_rfl) (Weak.sel [] [0, 1] (by kernel_rfl) (by kernel_rfl) (by kernel_rfl))
      ) ?_
  obtain ⟨r2, hx2, h⟩ := bind_some h
  refine CodeOk.cutR (tl 14 [(1, V.int a1), (5, V.int r2)]) [] mix (by
      refine W.run D_ok 2 100 (by kernel_rfl) ?_
      refine W.call0 (m_impl_quotedEnd_ok N a0 a1 47 hx2) cok106 rfl (by kernel_rfl) ?_
      refine W.run D_ok 1 100 (by kernel_rfl) ?_
      exact W.fin (by decide) (by kernel_rfl) (Weak.sel [] [1, 5] (by kernel_rfl) (by kernel_rfl) (by kernel_rfl))
      ) ?_
  refine CodeOk.seq' ?_
  refine CodeOk.cutR (tl 14 [(5, V.int r2), (12, V.bool (r2 == (IntKind.wrap .i64 (a1 + 2))))]) [] mix (by
      refine W.run D_ok 4 100 (by kernel_rfl) ?_
      exact W.fin (by decide) (by kernel_rfl) (Weak.sel [] [5, 12] (by kernel_rfl) (by kernel_rfl) (by kernel_rfl))
      ) ?_
  rcases cond_some h with ⟨hc4, h⟩ | ⟨hc4, h⟩
  · refine CodeOk.ifT hc4 (by kernel_rfl) ?_
    refine CodeOk.cutR (tl 14 [(4, V.int (-1))]) [] mix (by
        refine W.run D_ok 1 100 (by kernel_rfl) ?_
        exact W.fin (by decide) (by kernel_rfl) (Weak.sel [] [4] (by kernel_rfl) (by kernel_rfl) (by kernel_rfl))
        ) ?_
    refine CodeOk.ret ?_
    have h := Option.some.inj h
    subst h
    exact Ends.gen [] (.inr rfl) (RetV.one rfl (OneR.tmp (t := 4) (r := V.int (-1)) (by kernel_rfl))) (by kernel_rfl) (by kernel_rfl) (by kernel_rfl)
  · refine CodeOk.ifF hc4 (by kernel_rfl) ?_
    refine CodeOk.skip ?_
    refine CodeOk.weak (st' := ⟨tl 14 [(5, V.int r2), (12, V.bool (r2 == (IntKind.wrap .i64 (a1 + 2))))], []⟩) (Weak.refl _) ?_
    refine CodeOk.cutR (tl 14 [(4, V.int r2)]) [] mix (by
        refine W.run D_ok 2 100 (by kernel_rfl) ?_
        exact W.fin (by decide) (by kernel_rfl) (Weak.sel [] [4] (by kernel_rfl) (by kernel_rfl) (by kernel_rfl))
        ) ?_
    refine CodeOk.ret ?_
    have h := Option.some.inj h
    subst h
    exact Ends.gen [] (.inr rfl) (RetV.one rfl (OneR.tmp (t := 4) (r := V.int r2) (by kernel_rfl))) (by kernel_rfl) (by kernel_rfl) (by kernel_rfl)

theorem m_impl_IsLetter_ok (a0 : Int) {r : Bool} (h : m_impl_IsLetter a0 = some r) :
    AC Tryd.prog (GS []) 89 [V.int a0] [] (V.bool r) [] := by
  rw [m_impl_IsLetter] at h
  refine AC.enter Tryd.func89 rfl ?_
  refine CodeOk.cutR (tl 21 [(0, V.int a0)]) [] mix (by
      refine W.run D_ok 1 100 (by kernel_rfl) ?_
      exact W.fin (by decide) (by kernel_rfl) (Weak.sel [] [0] (by kernel_rfl) (by kernel_rfl) (by kernel_rfl))
      ) ?_
  obtain ⟨y1, hv7, h⟩ := bind_some h
  refine CodeOk.cutR (tl 21 [(2, V.bool y1)]) [] mix (by
      refine W.run D_ok 3 100 (by kernel_rfl) ?_
      rcases cond_some hv7 with ⟨hc8, hv7⟩ | ⟨hc8, hv7⟩
      · refine W.is 5 hc8 (by kernel_rfl) ?_
        refine W.run D_ok 4 100 (by kernel_rfl) ?_
        rcases cond_some hv7 with ⟨hc9, hv7⟩ | ⟨hc9, hv7⟩
        · refine W.is 9 hc9 (by kernel_rfl) ?_
          refine W.run D_ok 12 100 (by kernel_rfl) ?_
          have hv7 := Option.some.inj hv7
          subst hv7
          exact W.fin (by decide) (by kernel_rfl) (Weak.sel [] [2] (by kernel_rfl) (by kernel_rfl) (by kernel_rfl))
        · refine W.is 9 hc9 (by kernel_rfl) ?_
          refine W.run D_ok 3 100 (by kernel_rfl) ?_
          rcases cond_some hv7 with ⟨hc10, hv7⟩ | ⟨hc10, hv7⟩
          · refine W.is 12 hc10 (by kernel_rfl) ?_
            refine W.run D_ok 5 100 (by kernel_rfl) ?_
            rcases cond_some hv7 with ⟨hc11, hv7⟩ | ⟨hc11, hv7⟩
            · refine W.is 17 hc11 (by kernel_rfl) ?_
              refine W.run D_ok 4 100 (by kernel_rfl) ?_
              have hv7 := Option.some.inj hv7
              subst hv7
              exact W.fin (by decide) (by kernel_rfl) (Weak.sel [] [2] (by kernel_rfl) (by kernel_rfl) (by kernel_rfl))
            · refine W.is 17 hc11 (by kernel_rfl) ?_
              refine W.run D_ok 4 100 (by kernel_rfl) ?_
              have hv7 := Option.some.inj hv7
              subst hv7
              exact W.fin (by decide) (by kernel_rfl) (Weak.sel [] [2] (by kernel_rfl) (by kernel_rfl) (by kernel_rfl))
          · refine W.is 12 hc10 (by kernel_rfl) ?_
            refine W.run D_ok 9 100 (by kernel_rfl) ?_
            have hv7 := Option.some.inj hv7
            subst hv7
            exact W.fin (by decide) (by kernel_rfl) (Weak.sel [] [2] (by kernel_rfl) (by kernel_rfl) (by kernel_rfl))
      · refine W.is 5 hc8 (by kernel_rfl) ?_
        refine W.run D_ok 7 100 (by kernel_rfl) ?_
        rcases cond_some hv7 with ⟨hc12, hv7⟩ | ⟨hc12, hv7⟩
        · refine W.is 12 hc12 (by kernel_rfl) ?_
          refine W.run D_ok 5 100 (by kernel_rfl) ?_
          rcases cond_some hv7 with ⟨hc13, hv7⟩ | ⟨hc13, hv7⟩
          · refine W.is 17 hc13 (by kernel_rfl) ?_
            refine W.run D_ok 4 100 (by kernel_rfl) ?_
            have hv7 := Option.some.inj hv7
            subst hv7
            exact W.fin (by decide) (by kernel_rfl) (Weak.sel [] [2] (by kernel_rfl) (by kernel_rfl) (by kernel_rfl))
          · refine W.is 17 hc13 (by kernel_rfl) ?_
            refine W.run D_ok 4 100 (by kernel_rfl) ?_
            have hv7 := Option.some.inj hv7
            subst hv7
            exact W.fin (by decide) (by kernel_rfl) (Weak.sel [] [2] (by kernel_rfl) (by kernel_rfl) (by kernel_rfl))
        · refine W.is 12 hc12 (by kernel_rfl) ?_
          refine W.run D_ok 9 100 (by kernel_rfl) ?_
          have hv7 := Option.some.inj hv7
          subst hv7
          exact W.fin (by decide) (by kernel_rfl) (Weak.sel [] [2] (by kernel_rfl) (by kernel_rfl) (by kernel_rfl))
      ) ?_
  refine CodeOk.ret ?_
  have h := Option.some.inj h
  subst h
  exact Ends.gen [] (.inr rfl) (RetV.one rfl (OneR.tmp (t := 2) (r := V.bool y1) (by kernel_rfl))) (by kernel_rfl) (by kernel_rfl) (by kernel_rfl)

theorem m_impl_IsWordByte_ok (a0 : Int) {r : Bool} (h : m_impl_IsWordByte a0 = some r) :
    AC Tryd.prog (GS []) 107 [V.int a0] [] (V.bool r) [] := by
  rw [m_impl_IsWordByte] at h
  refine AC.enter Tryd.func107 rfl ?_
  refine CodeOk.cutR (tl 9 [(0, V.int a0)]) [] mix (by
      refine W.run D_ok 1 100 (by kernel_rfl) ?_
      exact W.fin (by decide) (by kernel_rfl) (Weak.sel [] [0] (by kernel_rfl) (by kernel_rfl) (by kernel_rfl))
      ) ?_
  obtain ⟨y3, hv4, h⟩ := bind_some h
  refine CodeOk.cutR (tl 9 [(2, V.bool y3)]) [] mix (by
      refine W.run D_ok 1 100 (by kernel_rfl) ?_
      obtain ⟨r4, hx5, hv4⟩ := bind_some hv4
      refine W.call0 (m_impl_IsLetter_ok a0 hx5) cok89 rfl (by kernel_rfl) ?_
      refine W.run D_ok 1 100 (by kernel_rfl) ?_
      rcases cond_some hv4 with ⟨hc6, hv4⟩ | ⟨hc6, hv4⟩
      · refine W.is 5 hc6 (by kernel_rfl) ?_
        refine W.run D_ok 4 100 (by kernel_rfl) ?_
        have hv4 := Option.some.inj hv4
        subst hv4
        exact W.fin (by decide) (by kernel_rfl) (Weak.sel [] [2] (by kernel_rfl) (by kernel_rfl) (by kernel_rfl))
      · refine W.is 5 hc6 (by kernel_rfl) ?_
        refine W.run D_ok 1 100 (by kernel_rfl) ?_
        obtain ⟨r5, hx7, hv4⟩ := bind_some hv4
        refine W.call0 (m_impl_IsDigit_ok a0 hx7) cok84 rfl (by kernel_rfl) ?_
        refine W.run D_ok 2 100 (by kernel_rfl) ?_
        have hv4 := Option.some.inj hv4
        subst hv4
        exact W.fin (by decide) (by kernel_rfl) (Weak.sel [] [2] (by kernel_rfl) (by kernel_rfl) (by kernel_rfl))
      ) ?_
  refine CodeOk.ret ?_
  have h := Option.some.inj h
  subst h
  exact Ends.gen [] (.inr rfl) (RetV.one rfl (OneR.tmp (t := 2) (r := V.bool y3) (by kernel_rfl))) (by kernel_rfl) (by kernel_rfl) (by kernel_rfl)

theorem m_impl_NameEnd_ok (N : Nat) (a0 : List UInt8) (a1 : Int) {r : Int} (h : m_impl_NameEnd N a0 a1 = some r) :
    AC Tryd.prog (GS []) 90 [V.str a0, V.int a1] [] (V.int r) [] := by
  rw [m_impl_NameEnd] at h
  refine AC.enter Tryd.func90 rfl ?_
  refine CodeOk.cutR (tl 17 [(0, V.str a0), (1, V.int a1)]) [] mix (by
      refine W.run D_ok 1 100 (by kernel_rfl) ?_
      exact W.fin (by decide) (by kernel_rfl) (Weak.sel [] [0, 1] (by kernel_rfl) (by kernel_rfl) (by kernel_rfl))
      ) ?_
  refine CodeOk.seq' ?_
  obtain ⟨r7, hx8, h⟩ := bind_some h
  obtain ⟨r8, hx9, h⟩ := bind_some h
  refine CodeOk.cutR (tl 17 [(0, V.str a0), (1, V.int a1), (9, V.bool (!r8))]) [] mix (by
      refine W.run D_ok 2 100 (by kernel_rfl) ?_
      refine W.call0 (m_impl_byteAt_ok a0 a1 hx8) cok73 rfl (by kernel_rfl) ?_
      refine W.call0 (m_impl_IsLetter_ok r7 hx9) cok89 rfl (by kernel_rfl) ?_
      refine W.run D_ok 1 100 (by kernel_rfl) ?_
      exact W.fin (by decide) (by kernel_rfl) (Weak.sel [] [0, 1, 9] (by kernel_rfl) (by kernel_rfl) (by kernel_rfl))
      ) ?_
  rcases cond_some h with ⟨hc10, h⟩ | ⟨hc10, h⟩
  · refine CodeOk.ifT hc10 (by kernel_rfl) ?_
    refine CodeOk.cutR (tl 17 [(4, V.int (-1))]) [] mix (by
        refine W.run D_ok 1 100 (by kernel_rfl) ?_
        exact W.fin (by decide) (by kernel_rfl) (Weak.sel [] [4] (by kernel_rfl) (by kernel_rfl) (by kernel_rfl))
        ) ?_
    refine CodeOk.ret ?_
    have h := Option.some.inj h
    subst h
    exact Ends.gen [] (.inr rfl) (RetV.one rfl (OneR.tmp (t := 4) (r := V.int (-1)) (by kernel_rfl))) (by kernel_rfl) (by kernel_rfl) (by kernel_rfl)
  · refine CodeOk.ifF hc10 (by kernel_rfl) ?_
    refine CodeOk.skip ?_
    refine CodeOk.weak (st' := ⟨tl 17 [(0, V.str a0), (1, V.int a1), (9, V.bool (!r8))], []⟩) (Weak.refl _) ?_
    refine CodeOk.seq' ?_
    refine CodeOk.block' ?_
    refine CodeOk.loopJ (fun (⟨a0, a1⟩ : ((List UInt8) × Int)) => ⟨tl 17 [(0, V.str a0), (1, V.int a1)], []⟩) (fun n i => m_impl_NameEnd_l1 N n i = some r) (n0 := N) (i0 := (a0, a1)) (Weak.sel [] [0, 1] (by kernel_rfl) (by kernel_rfl) (by kernel_rfl)) h (fun i h => by simp [m_impl_NameEnd_l1] at h) ?_
    rintro n1 ⟨a0, a1⟩ h43 ih44
    rw [m_impl_NameEnd_l1] at h43
    refine CodeOk.seq' ?_
    obtain ⟨r41, hx52, h43⟩ := bind_some h43
    obtain ⟨r42, hx53, h43⟩ := bind_some h43
    refine CodeOk.cutR (tl 17 [(0, V.str a0), (1, V.int a1), (13, V.bool r42)]) [] mix (by
        refine W.run D_ok 2 140 (by kernel_rfl) ?_
        refine W.call0 (m_impl_byteAt_ok a0 a1 hx52) cok73 rfl (by kernel_rfl) ?_
        refine W.call0 (m_impl_IsWordByte_ok r41 hx53) cok107 rfl (by kernel_rfl) ?_
        exact W.fin (by decide) (by kernel_rfl) (Weak.sel [] [0, 1, 13] (by kernel_rfl) (by kernel_rfl) (by kernel_rfl))
        ) ?_
    rcases cond_some h43 with ⟨hc54, h43⟩ | ⟨hc54, h43⟩
    · refine CodeOk.ifT hc54 (by kernel_rfl) ?_
      refine CodeOk.skip ?_
      refine CodeOk.weak (st' := ⟨tl 17 [(0, V.str a0), (1, V.int a1), (13, V.bool r42)], []⟩) (Weak.refl _) ?_
      refine CodeOk.block' ?_
      refine CodeOk.endR (tl 17 [(0, V.str a0), (1, V.int (IntKind.wrap .i64 (a1 + 1)))]) [] mix (by
          refine W.run D_ok 3 140 (by kernel_rfl) ?_
          exact W.fin (by decide) (by kernel_rfl) (Weak.sel [] [0, 1] (by kernel_rfl) (by kernel_rfl) (by kernel_rfl))
          ) (fun st hw => ?_)
      exact ih44 (a0, (IntKind.wrap .i64 (a1 + 1))) h43 _ (hw.trans (Weak.sel [] [0, 1] (by kernel_rfl) (by kernel_rfl) (by kernel_rfl)))
    · refine CodeOk.ifF hc54 (by kernel_rfl) ?_
      refine CodeOk.exit ?_
      refine CodeOk.weak (st' := ⟨tl 17 [(0, V.str a0), (1, V.int a1), (13, V.bool r42)], []⟩) (Weak.refl _) ?_
      refine CodeOk.cutR (tl 17 [(4, V.int a1)]) [] mix (by
          refine W.run D_ok 2 140 (by kernel_rfl) ?_
          exact W.fin (by decide) (by kernel_rfl) (Weak.sel [] [4] (by kernel_rfl) (by kernel_rfl) (by kernel_rfl))
          ) ?_
      refine CodeOk.ret ?_
      have h43 := Option.some.inj h43
      subst h43
      exact Ends.gen [] (.inr rfl) (RetV.one rfl (OneR.tmp (t := 4) (r := V.int a1) (by kernel_rfl))) (by kernel_rfl) (by kernel_rfl) (by kernel_rfl)

theorem m_impl_NameShape_ok (N : Nat) (a0 : List UInt8) {r : Bool} (h : m_impl_NameShape N a0 = some r) :
    AC Tryd.prog (GS []) 91 [V.str a0] [] (V.bool r) [] := by
  rw [m_impl_NameShape] at h
  refine AC.enter Tryd.func91 rfl ?_
  refine CodeOk.cutR (tl 25 [(0, V.str a0)]) [] mix (by
      refine W.run D_ok 1 100 (by kernel_rfl) ?_
      exact W.fin (by decide) (by kernel_rfl) (Weak.sel [] [0] (by kernel_rfl) (by kernel_rfl) (by kernel_rfl))
      ) ?_
  refine CodeOk.seq' ?_
  refine CodeOk.cutR (tl 25 [(0, V.str a0), (5, V.int (a0.length : Int)), (6, V.int 0)]) [] mix (by
      refine W.run D_ok 3 100 (by kernel_rfl) ?_
      exact W.fin (by decide) (by kernel_rfl) (Weak.sel [] [0, 5, 6] (by kernel_rfl) (by kernel_rfl) (by kernel_rfl))
      ) ?_
  refine CodeOk.block' ?_
  refine CodeOk.loopJ (fun (⟨a0, y35⟩ : ((List UInt8) × Int)) => ⟨tl 25 [(0, V.str a0), (5, V.int (a0.length : Int)), (6, V.int y35)], []⟩) (fun n i => m_impl_NameShape_l1 N n i = some r) (n0 := N) (i0 := (a0, 0)) (Weak.sel [] [0, 5, 6] (by kernel_rfl) (by kernel_rfl) (by kernel_rfl)) h (fun i h => by simp [m_impl_NameShape_l1] at h) ?_
  rintro n1 ⟨a0, y35⟩ h63 ih64
  rw [m_impl_NameShape_l1] at h63
  refine CodeOk.cutR (tl 25 [(0, V.str a0), (5, V.int (a0.length : Int)), (6, V.int y35), (7, V.bool (decide (y35 < (a0.length : Int))))]) [] mix (by
      refine W.run D_ok 1 160 (by kernel_rfl) ?_
      exact W.fin (by decide) (by kernel_rfl) (Weak.sel [] [0, 5, 6, 7] (by kernel_rfl) (by kernel_rfl) (by kernel_rfl))
      ) ?_
  refine CodeOk.seq' ?_
  rcases cond_some h63 with ⟨hc66, h63⟩ | ⟨hc66, h63⟩
  · refine CodeOk.ifT hc66 (by kernel_rfl) ?_
    refine CodeOk.skip ?_
    refine CodeOk.weak (st' := ⟨tl 25 [(0, V.str a0), (5, V.int (a0.length : Int)), (6, V.int y35), (7, V.bool (decide (y35 < (a0.length : Int))))], []⟩) (Weak.refl _) ?_
    refine CodeOk.seq' ?_
    refine CodeOk.block' ?_
    refine CodeOk.cutR (tl 25 [(0, V.str a0), (3, V.int y35), (5, V.int (a0.length : Int)), (6, V.int y35)]) [] mix (by
        refine W.run D_ok 2 160 (by kernel_rfl) ?_
        exact W.fin (by decide) (by kernel_rfl) (Weak.sel [] [0, 3, 5, 6] (by kernel_rfl) (by kernel_rfl) (by kernel_rfl))
        ) ?_
    obtain ⟨b51, hx74, h63⟩ := bind_some h63
    obtain ⟨r52, hx75, h63⟩ := bind_some h63
    refine CodeOk.cutR (tl 25 [(0, V.str a0), (5, V.int (a0.length : Int)), (6, V.int y35), (14, V.bool (!r52))]) [] mix (by
        refine W.run D_ok 2 160 (by kernel_rfl) ?_
        refine W.ixS D_ok hx74 (by kernel_rfl) ?_
        refine W.run D_ok 1 160 (by kernel_rfl) ?_
        refine W.call0 (m_impl_IsWordByte_ok (IntKind.wrap .i64 ((b51).toNat : Int)) hx75) cok107 rfl (by kernel_rfl) ?_
        refine W.run D_ok 1 160 (by kernel_rfl) ?_
        exact W.fin (by decide) (by kernel_rfl) (Weak.sel [] [0, 5, 6, 14] (by kernel_rfl) (by kernel_rfl) (by kernel_rfl))
        ) ?_
    rcases cond_some h63 with ⟨hc76, h63⟩ | ⟨hc76, h63⟩
    · refine CodeOk.ifT hc76 (by kernel_rfl) ?_
      refine CodeOk.cutR (tl 25 [(2, V.bool false)]) [] mix (by
          refine W.run D_ok 1 160 (by kernel_rfl) ?_
          exact W.fin (by decide) (by kernel_rfl) (Weak.sel [] [2] (by kernel_rfl) (by kernel_rfl) (by kernel_rfl))
          ) ?_
      refine CodeOk.ret ?_
      have h63 := Option.some.inj h63
      subst h63
      exact Ends.gen [] (.inr rfl) (RetV.one rfl (OneR.tmp (t := 2) (r := V.bool false) (by kernel_rfl))) (by kernel_rfl) (by kernel_rfl) (by kernel_rfl)
    · refine CodeOk.ifF hc76 (by kernel_rfl) ?_
      refine CodeOk.skip ?_
      refine CodeOk.weak (st' := ⟨tl 25 [(0, V.str a0), (5, V.int (a0.length : Int)), (6, V.int y35), (14, V.bool (!r52))], []⟩) (Weak.refl _) ?_
      refine CodeOk.endR (tl 25 [(0, V.str a0), (5, V.int (a0.length : Int)), (6, V.int (IntKind.wrap .i64 (y35 + 1)))]) [] mix (by
          refine W.run D_ok 2 160 (by kernel_rfl) ?_
          exact W.fin (by decide) (by kernel_rfl) (Weak.sel [] [0, 5, 6] (by kernel_rfl) (by kernel_rfl) (by kernel_rfl))
          ) (fun st hw => ?_)
      exact ih64 (a0, (IntKind.wrap .i64 (y35 + 1))) h63 _ (hw.trans (Weak.sel [] [0, 5, 6] (by kernel_rfl) (by kernel_rfl) (by kernel_rfl)))
  · refine CodeOk.ifF hc66 (by kernel_rfl) ?_
    refine CodeOk.exit ?_
    refine CodeOk.weak (st' := ⟨tl 25 [(0, V.str a0), (5, V.int (a0.length : Int)), (6, V.int y35), (7, V.bool (decide (y35 < (a0.length : Int))))], []⟩) (Weak.refl _) ?_
    obtain ⟨y56, hv81, h63⟩ := bind_some h63
    refine CodeOk.cutR (tl 25 [(2, V.bool y56)]) [] mix (by
        refine W.run D_ok 2 160 (by kernel_rfl) ?_
        obtain ⟨r57, hx82, hv81⟩ := bind_some hv81
        refine W.call0 (m_impl_within_ok (a0.length : Int) 1 12 hx82) cok30 rfl (by kernel_rfl) ?_
        refine W.run D_ok 1 160 (by kernel_rfl) ?_
        rcases cond_some hv81 with ⟨hc83, hv81⟩ | ⟨hc83, hv81⟩
        · refine W.is 19 hc83 (by kernel_rfl) ?_
          refine W.run D_ok 1 160 (by kernel_rfl) ?_
          obtain ⟨b58, hx84, hv81⟩ := bind_some hv81
          refine W.ixS D_ok hx84 (by kernel_rfl) ?_
          refine W.run D_ok 1 160 (by kernel_rfl) ?_
          obtain ⟨r59, hx85, hv81⟩ := bind_some hv81
          refine W.call0 (m_impl_IsLetter_ok (IntKind.wrap .i64 ((b58).toNat : Int)) hx85) cok89 rfl (by kernel_rfl) ?_
          refine W.run D_ok 2 160 (by kernel_rfl) ?_
          have hv81 := Option.some.inj hv81
          subst hv81
          exact W.fin (by decide) (by kernel_rfl) (Weak.sel [] [2] (by kernel_rfl) (by kernel_rfl) (by kernel_rfl))
        · refine W.is 19 hc83 (by kernel_rfl) ?_
          refine W.run D_ok 6 160 (by kernel_rfl) ?_
          have hv81 := Option.some.inj hv81
          subst hv81
          exact W.fin (by decide) (by kernel_rfl) (Weak.sel [] [2] (by kernel_rfl) (by kernel_rfl) (by kernel_rfl))
        ) ?_
    refine CodeOk.ret ?_
    have h63 := Option.some.inj h63
    subst h63
    exact Ends.gen [] (.inr rfl) (RetV.one rfl (OneR.tmp (t := 2) (r := V.bool y56) (by kernel_rfl))) (by kernel_rfl) (by kernel_rfl) (by kernel_rfl)

theorem m_slices_Index_string_ok (N : Nat) (a0 : List (List UInt8)) (a1 : List UInt8) {r : Int} (h : m_slices_Index_string N a0 a1 = some r) :
    AC Tryd.prog (GS []) 118 [.sl false false (a0.map encS), V.str a1] [] (V.int r) [] := by
  rw [m_slices_Index_string] at h
  refine AC.enter Tryd.func118 rfl ?_
  refine CodeOk.cutR (tl 19 [(0, .sl false false (a0.map encS)), (1, V.str a1)]) [] mix (by
      refine W.run D_ok 1 100 (by kernel_rfl) ?_
      exact W.fin (by decide) (by kernel_rfl) (Weak.sel [] [0, 1] (by kernel_rfl) (by kernel_rfl) (by kernel_rfl))
      ) ?_
  refine CodeOk.seq' ?_
  refine CodeOk.cutR (tl 19 [(0, .sl false false (a0.map encS)), (1, V.str a1), (7, V.int (a0.length : Int)), (8, V.int 0)]) [] mix (by
      refine W.run D_ok 1 100 (by kernel_rfl) ?_
      refine W.len D_ok encS a0 [] (by kernel_rfl) (by kernel_rfl) ?_
      refine W.run D_ok 1 100 (by kernel_rfl) ?_
      exact W.fin (by decide) (by kernel_rfl) (Weak.sel [] [0, 1, 7, 8] (by kernel_rfl) (by kernel_rfl) (by kernel_rfl))
      ) ?_
  refine CodeOk.block' ?_
  refine CodeOk.loopJ (fun (⟨a0, a1, y19⟩ : ((List (List UInt8)) × (List UInt8) × Int)) => ⟨tl 19 [(0, .sl false false (a0.map encS)), (1, V.str a1), (7, V.int (a0.length : Int)), (8, V.int y19)], []⟩) (fun n i => m_slices_Index_string_l1 N n i = some r) (n0 := N) (i0 := (a0, a1, 0)) (Weak.sel [] [0, 1, 7, 8] (by kernel_rfl) (by kernel_rfl) (by kernel_rfl)) h (fun i h => by simp [m_slices_Index_string_l1] at h) ?_
  rintro n1 ⟨a0, a1, y19⟩ h43 ih44
  rw [m_slices_Index_string_l1] at h43
  refine CodeOk.cutR (tl 19 [(0, .sl false false (a0.map encS)), (1, V.str a1), (7, V.int (a0.length : Int)), (8, V.int y19), (9, V.bool (decide (y19 < (a0.length : Int))))]) [] mix (by
      refine W.run D_ok 1 160 (by kernel_rfl) ?_
      exact W.fin (by decide) (by kernel_rfl) (Weak.sel [] [0, 1, 7, 8, 9] (by kernel_rfl) (by kernel_rfl) (by kernel_rfl))
      ) ?_
  refine CodeOk.seq' ?_
  rcases cond_some h43 with ⟨hc46, h43⟩ | ⟨hc46, h43⟩
  · refine CodeOk.ifT hc46 (by kernel_rfl) ?_
    refine CodeOk.skip ?_
    refine CodeOk.weak (st' := ⟨tl 19 [(0, .sl false false (a0.map encS)), (1, V.str a1), (7, V.int (a0.length : Int)), (8, V.int y19), (9, V.bool (decide (y19 < (a0.length : Int))))], []⟩) (Weak.refl _) ?_
    refine CodeOk.seq' ?_
    refine CodeOk.block' ?_
    refine CodeOk.cutR (tl 19 [(0, .sl false false (a0.map encS)), (1, V.str a1), (5, V.int y19), (7, V.int (a0.length : Int)), (8, V.int y19)]) [] mix (by
        refine W.run D_ok 2 160 (by kernel_rfl) ?_
        exact W.fin (by decide) (by kernel_rfl) (Weak.sel [] [0, 1, 5, 7, 8] (by kernel_rfl) (by kernel_rfl) (by kernel_rfl))
        ) ?_
    obtain ⟨e28, hx51, h43⟩ := bind_some h43
    refine CodeOk.cutR (tl 19 [(0, .sl false false (a0.map encS)), (1, V.str a1), (5, V.int y19), (7, V.int (a0.length : Int)), (8, V.int y19), (16, V.bool (a1 == e28))]) [] mix (by
        refine W.run D_ok 3 160 (by kernel_rfl) ?_
        refine W.ixD D_ok encS hx51 1 (by kernel_rfl) (by kernel_rfl) ?_
        refine W.run D_ok 2 160 (by kernel_rfl) ?_
        exact W.fin (by decide) (by kernel_rfl) (Weak.sel [] [0, 1, 5, 7, 8, 16] (by kernel_rfl) (by kernel_rfl) (by kernel_rfl))
        ) ?_
    rcases cond_some h43 with ⟨hc52, h43⟩ | ⟨hc52, h43⟩
    · refine CodeOk.ifT hc52 (by kernel_rfl) ?_
      refine CodeOk.cutR (tl 19 [(4, V.int y19)]) [] mix (by
          refine W.run D_ok 2 160 (by kernel_rfl) ?_
          exact W.fin (by decide) (by kernel_rfl) (Weak.sel [] [4] (by kernel_rfl) (by kernel_rfl) (by kernel_rfl))
          ) ?_
      refine CodeOk.ret ?_
      have h43 := Option.some.inj h43
      subst h43
      exact Ends.gen [] (.inr rfl) (RetV.one rfl (OneR.tmp (t := 4) (r := V.int y19) (by kernel_rfl))) (by kernel_rfl) (by kernel_rfl) (by kernel_rfl)
    · refine CodeOk.ifF hc52 (by kernel_rfl) ?_
      refine CodeOk.skip ?_
      refine CodeOk.weak (st' := ⟨tl 19 [(0, .sl false false (a0.map encS)), (1, V.str a1), (5, V.int y19), (7, V.int (a0.length : Int)), (8, V.int y19), (16, V.bool (a1 == e28))], []⟩) (Weak.refl _) ?_
      refine CodeOk.endR (tl 19 [(0, .sl false false (a0.map encS)), (1, V.str a1), (7, V.int (a0.length : Int)), (8, V.int (IntKind.wrap .i64 (y19 + 1)))]) [] mix (by
          refine W.run D_ok 2 160 (by kernel_rfl) ?_
          exact W.fin (by decide) (by kernel_rfl) (Weak.sel [] [0, 1, 7, 8] (by kernel_rfl) (by kernel_rfl) (by kernel_rfl))
          ) (fun st hw => ?_)
      exact ih44 (a0, a1, (IntKind.wrap .i64 (y19 + 1))) h43 _ (hw.trans (Weak.sel [] [0, 1, 7, 8] (by kernel_rfl) (by kernel_rfl) (by kernel_rfl)))
  · refine CodeOk.ifF hc46 (by kernel_rfl) ?_
    refine CodeOk.exit ?_
    refine CodeOk.weak (st' := ⟨tl 19 [(0, .sl false false (a0.map encS)), (1, V.str a1), (7, V.int (a0.length : Int)), (8, V.int y19), (9, V.bool (decide (y19 < (a0.length : Int))))], []⟩) (Weak.refl _) ?_
    refine CodeOk.cutR (tl 19 [(4, V.int (-1))]) [] mix (by
        refine W.run D_ok 1 160 (by kernel_rfl) ?_
        exact W.fin (by decide) (by kernel_rfl) (Weak.sel [] [4] (by kernel_rfl) (by kernel_rfl) (by kernel_rfl))
        ) ?_
    refine CodeOk.ret ?_
    have h43 := Option.some.inj h43
    subst h43
    exact Ends.gen [] (.inr rfl) (RetV.one rfl (OneR.tmp (t := 4) (r := V.int (-1)) (by kernel_rfl))) (by kernel_rfl) (by kernel_rfl) (by kernel_rfl)

theorem m_impl_KeywordOf_ok (N : Nat) (a0 : List UInt8) {r : Int} (h : m_impl_KeywordOf N a0 = some r) :
    AC Tryd.prog (GS [0]) 108 [V.str a0] [] (V.int r) [] := by
  rw [m_impl_KeywordOf] at h
  refine AC.enter Tryd.func108 rfl ?_
  refine CodeOk.cutR (tl 11 [(0, V.str a0)]) [] mix (by
      refine W.run D_ok 1 100 (by kernel_rfl) ?_
      exact W.fin (by decide) (by kernel_rfl) (Weak.sel [] [0] (by kernel_rfl) (by kernel_rfl) (by kernel_rfl))
      ) ?_
  obtain ⟨r2, hx2, h⟩ := bind_some h
  refine CodeOk.cutR (tl 11 [(3, V.int r2)]) [] mix (by
      refine W.cutG D_ok V.str tab_keywords (by kernel_rfl) ?_
      refine W.run D_ok 1 100 (by kernel_rfl) ?_
      refine W.call0 (AC.gs (m_slices_Index_string_ok N tab_keywords a0 hx2) (by decide)) cok118 rfl (by kernel_rfl) ?_
      refine W.run D_ok 1 100 (by kernel_rfl) ?_
      exact W.fin (by decide) (by kernel_rfl) (Weak.sel [] [3] (by kernel_rfl) (by kernel_rfl) (by kernel_rfl))
      ) ?_
  refine CodeOk.seq' ?_
  refine CodeOk.cutR (tl 11 [(3, V.int r2), (8, V.bool (decide (r2 < 0)))]) [] mix (by
      refine W.run D_ok 2 100 (by kernel_rfl) ?_
      exact W.fin (by decide) (by kernel_rfl) (Weak.sel [] [3, 8] (by kernel_rfl) (by kernel_rfl) (by kernel_rfl))
      ) ?_
  rcases cond_some h with ⟨hc4, h⟩ | ⟨hc4, h⟩
  · refine CodeOk.ifT hc4 (by kernel_rfl) ?_
    refine CodeOk.cutR (tl 11 [(2, V.int 0)]) [] mix (by
        refine W.run D_ok 1 100 (by kernel_rfl) ?_
        exact W.fin (by decide) (by kernel_rfl) (Weak.sel [] [2] (by kernel_rfl) (by kernel_rfl) (by kernel_rfl))
        ) ?_
    refine CodeOk.ret ?_
    have h := Option.some.inj h
    subst h
    exact Ends.gen [] (.inr rfl) (RetV.one rfl (OneR.tmp (t := 2) (r := V.int 0) (by kernel_rfl))) (by kernel_rfl) (by kernel_rfl) (by kernel_rfl)
  · refine CodeOk.ifF hc4 (by kernel_rfl) ?_
    refine CodeOk.skip ?_
    refine CodeOk.weak (st' := ⟨tl 11 [(3, V.int r2), (8, V.bool (decide (r2 < 0)))], []⟩) (Weak.refl _) ?_
    refine CodeOk.cutR (tl 11 [(2, V.int (IntKind.wrap .i64 (10 + r2)))]) [] mix (by
        refine W.run D_ok 3 100 (by kernel_rfl) ?_
        exact W.fin (by decide) (by kernel_rfl) (Weak.sel [] [2] (by kernel_rfl) (by kernel_rfl) (by kernel_rfl))
        ) ?_
    refine CodeOk.ret ?_
    have h := Option.some.inj h
    subst h
    exact Ends.gen [] (.inr rfl) (RetV.one rfl (OneR.tmp (t := 2) (r := V.int (IntKind.wrap .i64 (10 + r2))) (by kernel_rfl))) (by kernel_rfl) (by kernel_rfl) (by kernel_rfl)

theorem m_slices_Contains_string_ok (N : Nat) (a0 : List (List UInt8)) (a1 : List UInt8) {r : Bool} (h : m_slices_Contains_string N a0 a1 = some r) :
    AC Tryd.prog (GS []) 119 [.sl false false (a0.map encS), V.str a1] [] (V.bool r) [] := by
  rw [m_slices_Contains_string] at h
  refine AC.enter Tryd.func119 rfl ?_
  refine CodeOk.cutR (tl 9 [(0, .sl false false (a0.map encS)), (1, V.str a1)]) [] mix (by
      refine W.run D_ok 1 100 (by kernel_rfl) ?_
      exact W.fin (by decide) (by kernel_rfl) (Weak.sel [] [0, 1] (by kernel_rfl) (by kernel_rfl) (by kernel_rfl))
      ) ?_
  obtain ⟨r2, hx2, h⟩ := bind_some h
  refine CodeOk.cutR (tl 9 [(4, V.bool (decide (r2 ≥ 0)))]) [] mix (by
      refine W.run D_ok 2 100 (by kernel_rfl) ?_
      refine W.call0 (m_slices_Index_string_ok N a0 a1 hx2) cok118 rfl (by kernel_rfl) ?_
      refine W.run D_ok 2 100 (by kernel_rfl) ?_
      exact W.fin (by decide) (by kernel_rfl) (Weak.sel [] [4] (by kernel_rfl) (by kernel_rfl) (by kernel_rfl))
      ) ?_
  refine CodeOk.ret ?_
  have h := Option.some.inj h
  subst h
  exact Ends.gen [] (.inr rfl) (RetV.one rfl (OneR.tmp (t := 4) (r := V.bool (decide (r2 ≥ 0))) (by kernel_rfl))) (by kernel_rfl) (by kernel_rfl) (by kernel_rfl)

theorem m_impl_IsBuiltin_ok (N : Nat) (a0 : List UInt8) {r : Bool} (h : m_impl_IsBuiltin N a0 = some r) :
    AC Tryd.prog (GS [6]) 109 [V.str a0] [] (V.bool r) [] := by
  rw [m_impl_IsBuiltin] at h
  refine AC.enter Tryd.func109 rfl ?_
  refine CodeOk.cutR (tl 6 [(0, V.str a0)]) [] mix (by
      refine W.run D_ok 1 100 (by kernel_rfl) ?_
      exact W.fin (by decide) (by kernel_rfl) (Weak.sel [] [0] (by kernel_rfl) (by kernel_rfl) (by kernel_rfl))
      ) ?_
  obtain ⟨r2, hx2, h⟩ := bind_some h
  refine CodeOk.cutR (tl 6 [(2, V.bool r2)]) [] mix (by
      refine W.cutG D_ok V.str tab_builtins (by kernel_rfl) ?_
      refine W.run D_ok 1 100 (by kernel_rfl) ?_
      refine W.call0 (AC.gs (m_slices_Contains_string_ok N tab_builtins a0 hx2) (by decide)) cok119 rfl (by kernel_rfl) ?_
      refine W.run D_ok 1 100 (by kernel_rfl) ?_
      exact W.fin (by decide) (by kernel_rfl) (Weak.sel [] [2] (by kernel_rfl) (by kernel_rfl) (by kernel_rfl))
      ) ?_
  refine CodeOk.ret ?_
  have h := Option.some.inj h
  subst h
  exact Ends.gen [] (.inr rfl) (RetV.one rfl (OneR.tmp (t := 2) (r := V.bool r2) (by kernel_rfl))) (by kernel_rfl) (by kernel_rfl) (by kernel_rfl)

theorem m_impl_wordToken_ok (N : Nat) (a0 : List UInt8) (a1 : Int) (a2 : Int) {r : SToken} (h : m_impl_wordToken N a0 a1 a2 = some r) :
    AC Tryd.prog (GS [0, 6]) 92 [V.str a0, V.int a1, V.int a2] [] (.agg [V.int r.Kind, V.str r.Text, V.int r.At]) [] := by
  rw [m_impl_wordToken] at h
  refine AC.enter Tryd.func92 rfl ?_
  refine CodeOk.cutR (tl 38 [(0, V.str a0), (1, V.int a1), (2, V.int a2), (6, .loc 100 0)]) [(100, .cells 45 [V.int 0, V.str [], V.int 0])] mix (by
      refine W.run D_ok 1 100 (by kernel_rfl) ?_
      exact W.fin (by decide) (by kernel_rfl) (Weak.sel [(100, 100)] [0, 1, 2, 6] (by kernel_rfl) (by kernel_rfl) (by kernel_rfl))
      ) ?_
  obtain ⟨s2, hx2, h⟩ := bind_some h
  refine CodeOk.cutR (tl 38 [(0, V.str a0), (1, V.int a1), (2, V.int a2), (6, .loc 100 0), (7, V.str s2)]) [(100, .cells 45 [V.int 0, V.str [], V.int 0])] mix (by
      refine W.run D_ok 3 101 (by kernel_rfl) ?_
      refine W.cutS D_ok hx2 (by kernel_rfl) ?_
      refine W.run D_ok 1 101 (by kernel_rfl) ?_
      exact W.fin (by decide) (by kernel_rfl) (Weak.sel [(100, 100)] [0, 1, 2, 6, 7] (by kernel_rfl) (by kernel_rfl) (by kernel_rfl))
      ) ?_
  refine CodeOk.seq' ?_
  refine CodeOk.block' ?_
  obtain ⟨r12, hx15, h⟩ := bind_some h
  refine CodeOk.cutR (tl 38 [(0, V.str a0), (1, V.int a1), (2, V.int a2), (6, .loc 100 0), (7, V.str s2), (12, V.bool (r12 != 0))]) [(100, .cells 45 [V.int 0, V.str [], V.int 0])] mix (by
      refine W.run D_ok 1 101 (by kernel_rfl) ?_
      refine W.call0 (AC.gs (m_impl_KeywordOf_ok N s2 hx15) (by decide)) cok108 rfl (by kernel_rfl) ?_
      refine W.run D_ok 2 101 (by kernel_rfl) ?_
      exact W.fin (by decide) (by kernel_rfl) (Weak.sel [(100, 100)] [0, 1, 2, 6, 7, 12] (by kernel_rfl) (by kernel_rfl) (by kernel_rfl))
      ) ?_
  rcases cond_some h with ⟨hc16, h⟩ | ⟨hc16, h⟩
  · refine CodeOk.ifT hc16 (by kernel_rfl) ?_
    obtain ⟨r14, hx18, h⟩ := bind_some h
    refine CodeOk.cutR (tl 38 [(6, .loc 100 0)]) [(100, .cells 45 [V.int r14, V.str s2, V.int a1])] mix (by
        refine W.run D_ok 1 101 (by kernel_rfl) ?_
        refine W.call0 (AC.gs (m_impl_KeywordOf_ok N s2 hx18) (by decide)) cok108 rfl (by kernel_rfl) ?_
        refine W.run D_ok 4 101 (by kernel_rfl) ?_
        exact W.fin (by decide) (by kernel_rfl) (Weak.sel [(100, 100)] [6] (by kernel_rfl) (by kernel_rfl) (by kernel_rfl))
        ) ?_
    refine CodeOk.ret ?_
    have h := Option.some.inj h
    subst h
    exact Ends.gen [] (.inr rfl) (RetV.one rfl (OneR.cell D_ok (r := .agg [V.int r14, V.str s2, V.int a1]) (i := 100) (ety := 45) (cs := [V.int r14, V.str s2, V.int a1]) (by kernel_rfl) (by kernel_rfl) (by kernel_rfl))) (by kernel_rfl) (by kernel_rfl) (by kernel_rfl)
  · refine CodeOk.ifF hc16 (by kernel_rfl) ?_
    obtain ⟨r16, hx20, h⟩ := bind_some h
    refine CodeOk.cutR (tl 38 [(0, V.str a0), (1, V.int a1), (2, V.int a2), (6, .loc 100 0), (7, V.str s2), (21, V.bool r16)]) [(100, .cells 45 [V.int 0, V.str [], V.int 0])] mix (by
        refine W.run D_ok 1 101 (by kernel_rfl) ?_
        refine W.call0 (AC.gs (m_impl_IsBuiltin_ok N s2 hx20) (by decide)) cok109 rfl (by kernel_rfl) ?_
        refine W.run D_ok 1 101 (by kernel_rfl) ?_
        exact W.fin (by decide) (by kernel_rfl) (Weak.sel [(100, 100)] [0, 1, 2, 6, 7, 21] (by kernel_rfl) (by kernel_rfl) (by kernel_rfl))
        ) ?_
    rcases cond_some h with ⟨hc21, h⟩ | ⟨hc21, h⟩
    · refine CodeOk.ifT hc21 (by kernel_rfl) ?_
      refine CodeOk.cutR (tl 38 [(6, .loc 100 0)]) [(100, .cells 45 [V.int 8, V.str s2, V.int a1])] mix (by
          refine W.run D_ok 4 101 (by kernel_rfl) ?_
          exact W.fin (by decide) (by kernel_rfl) (Weak.sel [(100, 100)] [6] (by kernel_rfl) (by kernel_rfl) (by kernel_rfl))
          ) ?_
      refine CodeOk.ret ?_
      have h := Option.some.inj h
      subst h
      exact Ends.gen [] (.inr rfl) (RetV.one rfl (OneR.cell D_ok (r := .agg [V.int 8, V.str s2, V.int a1]) (i := 100) (ety := 45) (cs := [V.int 8, V.str s2, V.int a1]) (by kernel_rfl) (by kernel_rfl) (by kernel_rfl))) (by kernel_rfl) (by kernel_rfl) (by kernel_rfl)
    · refine CodeOk.ifF hc21 (by kernel_rfl) ?_
      obtain ⟨r18, hx23, h⟩ := bind_some h
      refine CodeOk.cutR (tl 38 [(1, V.int a1), (6, .loc 100 0), (7, V.str s2), (27, V.bool (r18 == 40))]) [(100, .cells 45 [V.int 0, V.str [], V.int 0])] mix (by
          refine W.run D_ok 2 101 (by kernel_rfl) ?_
          refine W.call0 (AC.gs (m_impl_byteAt_ok a0 a2 hx23) (by decide)) cok73 rfl (by kernel_rfl) ?_
          refine W.run D_ok 2 101 (by kernel_rfl) ?_
          exact W.fin (by decide) (by kernel_rfl) (Weak.sel [(100, 100)] [1, 6, 7, 27] (by kernel_rfl) (by kernel_rfl) (by kernel_rfl))
          ) ?_
      rcases cond_some h with ⟨hc24, h⟩ | ⟨hc24, h⟩
      · refine CodeOk.ifT hc24 (by kernel_rfl) ?_
        refine CodeOk.cutR (tl 38 [(6, .loc 100 0)]) [(100, .cells 45 [V.int 7, V.str s2, V.int a1])] mix (by
            refine W.run D_ok 4 101 (by kernel_rfl) ?_
            exact W.fin (by decide) (by kernel_rfl) (Weak.sel [(100, 100)] [6] (by kernel_rfl) (by kernel_rfl) (by kernel_rfl))
            ) ?_
        refine CodeOk.ret ?_
        have h := Option.some.inj h
        subst h
        exact Ends.gen [] (.inr rfl) (RetV.one rfl (OneR.cell D_ok (r := .agg [V.int 7, V.str s2, V.int a1]) (i := 100) (ety := 45) (cs := [V.int 7, V.str s2, V.int a1]) (by kernel_rfl) (by kernel_rfl) (by kernel_rfl))) (by kernel_rfl) (by kernel_rfl) (by kernel_rfl)
      · refine CodeOk.ifF hc24 (by kernel_rfl) ?_
        refine CodeOk.skip ?_
        refine CodeOk.weak (st' := ⟨tl 38 [(1, V.int a1), (6, .loc 100 0), (7, V.str s2), (27, V.bool (r18 == 40))], [(100, .cells 45 [V.int 0, V.str [], V.int 0])]⟩) (Weak.refl _) ?_
        refine CodeOk.cutR (tl 38 [(6, .loc 100 0)]) [(100, .cells 45 [V.int 6, V.str s2, V.int a1])] mix (by
            refine W.run D_ok 4 101 (by kernel_rfl) ?_
            exact W.fin (by decide) (by kernel_rfl) (Weak.sel [(100, 100)] [6] (by kernel_rfl) (by kernel_rfl) (by kernel_rfl))
            ) ?_
        refine CodeOk.ret ?_
        have h := Option.some.inj h
        subst h
        exact Ends.gen [] (.inr rfl) (RetV.one rfl (OneR.cell D_ok (r := .agg [V.int 6, V.str s2, V.int a1]) (i := 100) (ety := 45) (cs := [V.int 6, V.str s2, V.int a1]) (by kernel_rfl) (by kernel_rfl) (by kernel_rfl))) (by kernel_rfl) (by kernel_rfl) (by kernel_rfl)

theorem m_stringslite_HasPrefix_ok (a0 : List UInt8) (a1 : List UInt8) {r : Bool} (h : m_stringslite_HasPrefix a0 a1 = some r) :
    AC Tryd.prog (GS []) 120 [V.str a0, V.str a1] [] (V.bool r) [] := by
  rw [m_stringslite_HasPrefix] at h
  refine AC.enter Tryd.func120 rfl ?_
  refine CodeOk.cutR (tl 18 [(0, V.str a0), (1, V.str a1)]) [] mix (by
      refine W.run D_ok 1 100 (by kernel_rfl) ?_
      exact W.fin (by decide) (by kernel_rfl) (Weak.sel [] [0, 1] (by kernel_rfl) (by kernel_rfl) (by kernel_rfl))
      ) ?_
  obtain ⟨y2, hv3, h⟩ := bind_some h
  refine CodeOk.cutR (tl 18 [(4, V.bool y2)]) [] mix (by
      refine W.run D_ok 6 100 (by kernel_rfl) ?_
      rcases cond_some hv3 with ⟨hc4, hv3⟩ | ⟨hc4, hv3⟩
      · refine W.is 10 hc4 (by kernel_rfl) ?_
        refine W.run D_ok 3 100 (by kernel_rfl) ?_
        obtain ⟨s3, hx5, hv3⟩ := bind_some hv3
        refine W.cutS D_ok hx5 (by kernel_rfl) ?_
        refine W.run D_ok 4 100 (by kernel_rfl) ?_
        have hv3 := Option.some.inj hv3
        subst hv3
        exact W.fin (by decide) (by kernel_rfl) (Weak.sel [] [4] (by kernel_rfl) (by kernel_rfl) (by kernel_rfl))
      · refine W.is 10 hc4 (by kernel_rfl) ?_
        refine W.run D_ok 8 100 (by kernel_rfl) ?_
        have hv3 := Option.some.inj hv3
        subst hv3
        exact W.fin (by decide) (by kernel_rfl) (Weak.sel [] [4] (by kernel_rfl) (by kernel_rfl) (by kernel_rfl))
      ) ?_
  refine CodeOk.ret ?_
  have h := Option.some.inj h
  subst h
  exact Ends.gen [] (.inr rfl) (RetV.one rfl (OneR.tmp (t := 4) (r := V.bool y2) (by kernel_rfl))) (by kernel_rfl) (by kernel_rfl) (by kernel_rfl)

theorem m_strings_HasPrefix_ok (a0 : List UInt8) (a1 : List UInt8) {r : Bool} (h : m_strings_HasPrefix a0 a1 = some r) :
    AC Tryd.prog (GS []) 110 [V.str a0, V.str a1] [] (V.bool r) [] := by
  rw [m_strings_HasPrefix] at h
  refine AC.enter Tryd.func110 rfl ?_
  refine CodeOk.cutR (tl 8 [(0, V.str a0), (1, V.str a1)]) [] mix (by
      refine W.run D_ok 1 100 (by kernel_rfl) ?_
      exact W.fin (by decide) (by kernel_rfl) (Weak.sel [] [0, 1] (by kernel_rfl) (by kernel_rfl) (by kernel_rfl))
      ) ?_
  obtain ⟨r2, hx2, h⟩ := bind_some h
  refine CodeOk.cutR (tl 8 [(4, V.bool r2)]) [] mix (by
      refine W.run D_ok 2 100 (by kernel_rfl) ?_
      refine W.call0 (m_stringslite_HasPrefix_ok a0 a1 hx2) cok120 rfl (by kernel_rfl) ?_
      refine W.run D_ok 1 100 (by kernel_rfl) ?_
      exact W.fin (by decide) (by kernel_rfl) (Weak.sel [] [4] (by kernel_rfl) (by kernel_rfl) (by kernel_rfl))
      ) ?_
  refine CodeOk.ret ?_
  have h := Option.some.inj h
  subst h
  exact Ends.gen [] (.inr rfl) (RetV.one rfl (OneR.tmp (t := 4) (r := V.bool r2) (by kernel_rfl))) (by kernel_rfl) (by kernel_rfl) (by kernel_rfl)

theorem m_impl_OpAt_ok (N : Nat) (a0 : List UInt8) (a1 : Int) {r : (Int × Int)} (h : m_impl_OpAt N a0 a1 = some r) :
    AC Tryd.prog (GS [1]) 93 [V.str a0, V.int a1] [] (.tup [V.int r.1, V.int r.2]) [] := by
  rw [m_impl_OpAt] at h
  refine AC.enter Tryd.func93 rfl ?_
  refine CodeOk.cutR (tl 39 [(0, V.str a0), (1, V.int a1)]) [] mix (by
      refine W.run D_ok 2 100 (by kernel_rfl) ?_
      exact W.fin (by decide) (by kernel_rfl) (Weak.sel [] [0, 1] (by kernel_rfl) (by kernel_rfl) (by kernel_rfl))
      ) ?_
  refine CodeOk.seq' ?_
  obtain ⟨r4, hx5, h⟩ := bind_some h
  refine CodeOk.cutR (tl 39 [(0, V.str a0), (1, V.int a1), (15, V.bool (!r4))]) [] mix (by
      refine W.run D_ok 4 100 (by kernel_rfl) ?_
      refine W.call0 (AC.gs (m_impl_within_ok a1 0 (IntKind.wrap .i64 ((a0.length : Int) - 1)) hx5) (by decide)) cok30 rfl (by kernel_rfl) ?_
      refine W.run D_ok 1 100 (by kernel_rfl) ?_
      exact W.fin (by decide) (by kernel_rfl) (Weak.sel [] [0, 1, 15] (by kernel_rfl) (by kernel_rfl) (by kernel_rfl))
      ) ?_
  rcases cond_some h with ⟨hc6, h⟩ | ⟨hc6, h⟩
  · refine CodeOk.ifT hc6 (by kernel_rfl) ?_
    refine CodeOk.cutR (tl 39 [(4, V.int 0), (5, V.int 0)]) [] mix (by
        refine W.run D_ok 2 100 (by kernel_rfl) ?_
        exact W.fin (by decide) (by kernel_rfl) (Weak.sel [] [4, 5] (by kernel_rfl) (by kernel_rfl) (by kernel_rfl))
        ) ?_
    refine CodeOk.ret ?_
    have h := Option.some.inj h
    subst h
    exact Ends.gen [] (.inr rfl) (RetV.two rfl (OneR.tmp (t := 4) (r := V.int 0) (by kernel_rfl)) (OneR.tmp (t := 5) (r := V.int 0) (by kernel_rfl))) (by kernel_rfl) (by kernel_rfl) (by kernel_rfl)
  · refine CodeOk.ifF hc6 (by kernel_rfl) ?_
    refine CodeOk.skip ?_
    refine CodeOk.weak (st' := ⟨tl 39 [(0, V.str a0), (1, V.int a1), (15, V.bool (!r4))], []⟩) (Weak.refl _) ?_
    refine CodeOk.cutR (tl 39 [(0, V.str a0), (1, V.int a1), (6, V.int 0), (7, V.int 0)]) [] mix (by
        refine W.run D_ok 2 100 (by kernel_rfl) ?_
        exact W.fin (by decide) (by kernel_rfl) (Weak.sel [] [0, 1, 6, 7] (by kernel_rfl) (by kernel_rfl) (by kernel_rfl))
        ) ?_
    refine CodeOk.seq' ?_
    refine CodeOk.cutR (tl 39 [(0, V.str a0), (1, V.int a1), (6, V.int 0), (7, V.int 0), (16, .agg (tab_signs.map V.str)), (17, V.int 0)]) [] mix (by
        refine W.run D_ok 2 100 (by kernel_rfl) ?_
        exact W.fin (by decide) (by kernel_rfl) (Weak.sel [] [0, 1, 6, 7, 16, 17] (by kernel_rfl) (by kernel_rfl) (by kernel_rfl))
        ) ?_
    refine CodeOk.block' ?_
    refine CodeOk.loopJ (fun (⟨a0, a1, y75, y76, y77⟩ : ((List UInt8) × Int × Int × Int × Int)) => ⟨tl 39 [(0, V.str a0), (1, V.int a1), (6, V.int y75), (7, V.int y76), (16, .agg (tab_signs.map V.str)), (17, V.int y77)], []⟩) (fun n i => m_impl_OpAt_l1 N n i = some r) (n0 := N) (i0 := (a0, a1, 0, 0, 0)) (Weak.sel [] [0, 1, 6, 7, 16, 17] (by kernel_rfl) (by kernel_rfl) (by kernel_rfl)) h (fun i h => by simp [m_impl_OpAt_l1] at h) ?_
    rintro n1 ⟨a0, a1, y75, y76, y77⟩ h125 ih126
    rw [m_impl_OpAt_l1] at h125
    refine CodeOk.cutR (tl 39 [(0, V.str a0), (1, V.int a1), (6, V.int y75), (7, V.int y76), (16, .agg (tab_signs.map V.str)), (17, V.int y77), (18, V.bool (decide (y77 < 39)))]) [] mix (by
        refine W.run D_ok 1 160 (by kernel_rfl) ?_
        exact W.fin (by decide) (by kernel_rfl) (Weak.sel [] [0, 1, 6, 7, 16, 17, 18] (by kernel_rfl) (by kernel_rfl) (by kernel_rfl))
        ) ?_
    refine CodeOk.seq' ?_
    rcases cond_some h125 with ⟨hc128, h125⟩ | ⟨hc128, h125⟩
    · refine CodeOk.ifT hc128 (by kernel_rfl) ?_
      refine CodeOk.skip ?_
      refine CodeOk.weak (st' := ⟨tl 39 [(0, V.str a0), (1, V.int a1), (6, V.int y75), (7, V.int y76), (16, .agg (tab_signs.map V.str)), (17, V.int y77), (18, V.bool (decide (y77 < 39)))], []⟩) (Weak.refl _) ?_
      refine CodeOk.join (fun (⟨a0, a1, y77, y104, y105⟩ : ((List UInt8) × Int × Int × Int × Int)) => ⟨tl 39 [(0, V.str a0), (1, V.int a1), (6, V.int y104), (7, V.int y105), (16, .agg (tab_signs.map V.str)), (17, V.int y77)], []⟩) (fun i => m_impl_OpAt_k2 N (m_impl_OpAt_l1 N n1) i = some r) ?_ ?_
      · rintro ⟨a0, a1, y77, y104, y105⟩ h139
        rw [m_impl_OpAt_k2] at h139
        refine CodeOk.endR (tl 39 [(0, V.str a0), (1, V.int a1), (6, V.int y104), (7, V.int y105), (16, .agg (tab_signs.map V.str)), (17, V.int (IntKind.wrap .i64 (y77 + 1)))]) [] mix (by
            refine W.run D_ok 2 160 (by kernel_rfl) ?_
            exact W.fin (by decide) (by kernel_rfl) (Weak.sel [] [0, 1, 6, 7, 16, 17] (by kernel_rfl) (by kernel_rfl) (by kernel_rfl))
            ) (fun st hw => ?_)
        exact ih126 (a0, a1, y104, y105, (IntKind.wrap .i64 (y77 + 1))) h139 _ (hw.trans (Weak.sel [] [0, 1, 6, 7, 16, 17] (by kernel_rfl) (by kernel_rfl) (by kernel_rfl)))
      intro hk140
      refine CodeOk.block' ?_
      obtain ⟨e107, hx142, h125⟩ := bind_some h125
      refine CodeOk.cutR (tl 39 [(0, V.str a0), (1, V.int a1), (6, V.int y75), (7, V.int y76), (8, V.int y77), (9, V.str e107), (16, .agg (tab_signs.map V.str)), (17, V.int y77)]) [] mix (by
          refine W.run D_ok 1 160 (by kernel_rfl) ?_
          refine W.ixA D_ok V.str (l := tab_signs) hx142 (by kernel_rfl) ?_
          refine W.run D_ok 2 160 (by kernel_rfl) ?_
          exact W.fin (by decide) (by kernel_rfl) (Weak.sel [] [0, 1, 6, 7, 8, 9, 16, 17] (by kernel_rfl) (by kernel_rfl) (by kernel_rfl))
          ) ?_
      obtain ⟨y110, hv146, h125⟩ := bind_some h125
      refine CodeOk.cutR (tl 39 [(0, V.str a0), (1, V.int a1), (6, V.int y75), (7, V.int y76), (8, V.int y77), (9, V.str e107), (16, .agg (tab_signs.map V.str)), (17, V.int y77), (31, V.bool y110)]) [] mix (by
          refine W.run D_ok 5 160 (by kernel_rfl) ?_
          rcases cond_some hv146 with ⟨hc147, hv146⟩ | ⟨hc147, hv146⟩
          · refine W.is 25 hc147 (by kernel_rfl) ?_
            refine W.run D_ok 2 160 (by kernel_rfl) ?_
            obtain ⟨s111, hx148, hv146⟩ := bind_some hv146
            refine W.cutS D_ok hx148 (by kernel_rfl) ?_
            refine W.run D_ok 1 160 (by kernel_rfl) ?_
            obtain ⟨r112, hx149, hv146⟩ := bind_some hv146
            refine W.call0 (AC.gs (m_strings_HasPrefix_ok s111 e107 hx149) (by decide)) cok110 rfl (by kernel_rfl) ?_
            refine W.run D_ok 1 160 (by kernel_rfl) ?_
            have hv146 := Option.some.inj hv146
            subst hv146
            exact W.fin (by decide) (by kernel_rfl) (Weak.sel [] [0, 1, 6, 7, 8, 9, 16, 17, 31] (by kernel_rfl) (by kernel_rfl) (by kernel_rfl))
          · refine W.is 25 hc147 (by kernel_rfl) ?_
            refine W.run D_ok 6 160 (by kernel_rfl) ?_
            have hv146 := Option.some.inj hv146
            subst hv146
            exact W.fin (by decide) (by kernel_rfl) (Weak.sel [] [0, 1, 6, 7, 8, 9, 16, 17, 31] (by kernel_rfl) (by kernel_rfl) (by kernel_rfl))
          ) ?_
      rcases cond_some h125 with ⟨hc150, h125⟩ | ⟨hc150, h125⟩
      · refine CodeOk.ifT hc150 (by kernel_rfl) ?_
        refine CodeOk.endR (tl 39 [(0, V.str a0), (1, V.int a1), (6, V.int (IntKind.wrap .i64 (30 + y77))), (7, V.int (e107.length : Int)), (16, .agg (tab_signs.map V.str)), (17, V.int y77)]) [] mix (by
            refine W.run D_ok 6 160 (by kernel_rfl) ?_
            exact W.fin (by decide) (by kernel_rfl) (Weak.sel [] [0, 1, 6, 7, 16, 17] (by kernel_rfl) (by kernel_rfl) (by kernel_rfl))
            ) (fun st hw => ?_)
        exact hk140 (a0, a1, y77, (IntKind.wrap .i64 (30 + y77)), (e107.length : Int)) h125 _ (hw.trans (Weak.sel [] [0, 1, 6, 7, 16, 17] (by kernel_rfl) (by kernel_rfl) (by kernel_rfl)))
      · refine CodeOk.ifF hc150 (by kernel_rfl) ?_
        refine CodeOk.skip ?_
        exact hk140 (a0, a1, y77, y75, y76) h125 _ (Weak.sel [] [0, 1, 6, 7, 16, 17] (by kernel_rfl) (by kernel_rfl) (by kernel_rfl))
    · refine CodeOk.ifF hc128 (by kernel_rfl) ?_
      refine CodeOk.exit ?_
      refine CodeOk.weak (st' := ⟨tl 39 [(0, V.str a0), (1, V.int a1), (6, V.int y75), (7, V.int y76), (16, .agg (tab_signs.map V.str)), (17, V.int y77), (18, V.bool (decide (y77 < 39)))], []⟩) (Weak.refl _) ?_
      refine CodeOk.cutR (tl 39 [(4, V.int y75), (5, V.int y76)]) [] mix (by
          refine W.run D_ok 4 160 (by kernel_rfl) ?_
          exact W.fin (by decide) (by kernel_rfl) (Weak.sel [] [4, 5] (by kernel_rfl) (by kernel_rfl) (by kernel_rfl))
          ) ?_
      refine CodeOk.ret ?_
      have h125 := Option.some.inj h125
      subst h125
      exact Ends.gen [] (.inr rfl) (RetV.two rfl (OneR.tmp (t := 4) (r := V.int y75) (by kernel_rfl)) (OneR.tmp (t := 5) (r := V.int y76) (by kernel_rfl))) (by kernel_rfl) (by kernel_rfl) (by kernel_rfl)

theorem m_impl_tokenAt_ok (N : Nat) (a0 : List UInt8) (a1 : Int) (a2 : Int) {r : SToken} (h : m_impl_tokenAt N a0 a1 a2 = some r) :
    AC Tryd.prog (GS [0, 1, 6]) 74 [V.str a0, V.int a1, V.int a2] [] (.agg [V.int r.Kind, V.str r.Text, V.int r.At]) [] := by
  rw [m_impl_tokenAt] at h
  refine AC.enter Tryd.func74 rfl ?_
  refine CodeOk.cutR (tl 102 [(0, V.str a0), (1, V.int a1), (2, V.int a2), (6, .loc 100 0)]) [(100, .cells 45 [V.int 0, V.str [], V.int 0])] mix (by
      refine W.run D_ok 1 100 (by kernel_rfl) ?_
      exact W.fin (by decide) (by kernel_rfl) (Weak.sel [(100, 100)] [0, 1, 2, 6] (by kernel_rfl) (by kernel_rfl) (by kernel_rfl))
      ) ?_
  refine CodeOk.cutR (tl 102 [(0, V.str a0), (1, V.int a1), (2, V.int a2), (6, .loc 100 0), (7, V.int 0)]) [(100, .cells 45 [V.int 0, V.str [], V.int 0])] mix (by
      refine W.run D_ok 2 101 (by kernel_rfl) ?_
      exact W.fin (by decide) (by kernel_rfl) (Weak.sel [(100, 100)] [0, 1, 2, 6, 7] (by kernel_rfl) (by kernel_rfl) (by kernel_rfl))
      ) ?_
  refine CodeOk.join (fun (⟨a0, a1, y31, y32⟩ : ((List UInt8) × Int × Int × Int)) => ⟨tl 102 [(0, V.str a0), (1, V.int a1), (6, .loc 100 0), (7, V.int y31), (8, V.int y32)], [(100, .cells 45 [V.int 0, V.str [], V.int 0])]⟩) (fun i => m_impl_tokenAt_k1 N i = some r) ?_ ?_
  · rintro ⟨a0, a1, y31, y32⟩ h43
    rw [m_impl_tokenAt_k1] at h43
    refine CodeOk.seq' ?_
    obtain ⟨y34, hv49, h43⟩ := bind_some h43
    refine CodeOk.cutR (tl 102 [(0, V.str a0), (1, V.int a1), (6, .loc 100 0), (7, V.int y31), (8, V.int y32), (93, V.bool y34)]) [(100, .cells 45 [V.int 0, V.str [], V.int 0])] mix (by
        refine W.run D_ok 3 101 (by kernel_rfl) ?_
        rcases cond_some hv49 with ⟨hc50, hv49⟩ | ⟨hc50, hv49⟩
        · refine W.is 90 hc50 (by kernel_rfl) ?_
          refine W.run D_ok 3 101 (by kernel_rfl) ?_
          have hv49 := Option.some.inj hv49
          subst hv49
          exact W.fin (by decide) (by kernel_rfl) (Weak.sel [(100, 100)] [0, 1, 6, 7, 8, 93] (by kernel_rfl) (by kernel_rfl) (by kernel_rfl))
        · refine W.is 90 hc50 (by kernel_rfl) ?_
          refine W.run D_ok 3 101 (by kernel_rfl) ?_
          have hv49 := Option.some.inj hv49
          subst hv49
          exact W.fin (by decide) (by kernel_rfl) (Weak.sel [(100, 100)] [0, 1, 6, 7, 8, 93] (by kernel_rfl) (by kernel_rfl) (by kernel_rfl))
        ) ?_
    rcases cond_some h43 with ⟨hc51, h43⟩ | ⟨hc51, h43⟩
    · refine CodeOk.ifT hc51 (by kernel_rfl) ?_
      refine CodeOk.cutR (tl 102 [(6, .loc 100 0)]) [(100, .cells 45 [V.int 0, V.str [], V.int 0])] mix (by
          refine W.run D_ok 2 101 (by kernel_rfl) ?_
          exact W.fin (by decide) (by kernel_rfl) (Weak.sel [(100, 100)] [6] (by kernel_rfl) (by kernel_rfl) (by kernel_rfl))
          ) ?_
      refine CodeOk.ret ?_
      have h43 := Option.some.inj h43
      subst h43
      exact Ends.gen [] (.inr rfl) (RetV.one rfl (OneR.cell D_ok (r := .agg [V.int 0, V.str [], V.int 0]) (i := 100) (ety := 45) (cs := [V.int 0, V.str [], V.int 0]) (by kernel_rfl) (by kernel_rfl) (by kernel_rfl))) (by kernel_rfl) (by kernel_rfl) (by kernel_rfl)
    · refine CodeOk.ifF hc51 (by kernel_rfl) ?_
      refine CodeOk.skip ?_
      refine CodeOk.weak (st' := ⟨tl 102 [(0, V.str a0), (1, V.int a1), (6, .loc 100 0), (7, V.int y31), (8, V.int y32), (93, V.bool y34)], [(100, .cells 45 [V.int 0, V.str [], V.int 0])]⟩) (Weak.refl _) ?_
      obtain ⟨s36, hx53, h43⟩ := bind_some h43
      refine CodeOk.cutR (tl 102 [(6, .loc 100 0)]) [(100, .cells 45 [V.int y31, V.str s36, V.int a1])] mix (by
          refine W.run D_ok 4 101 (by kernel_rfl) ?_
          refine W.cutS D_ok hx53 (by kernel_rfl) ?_
          refine W.run D_ok 3 101 (by kernel_rfl) ?_
          exact W.fin (by decide) (by kernel_rfl) (Weak.sel [(100, 100)] [6] (by kernel_rfl) (by kernel_rfl) (by kernel_rfl))
          ) ?_
      refine CodeOk.ret ?_
      have h43 := Option.some.inj h43
      subst h43
      exact Ends.gen [] (.inr rfl) (RetV.one rfl (OneR.cell D_ok (r := .agg [V.int y31, V.str s36, V.int a1]) (i := 100) (ety := 45) (cs := [V.int y31, V.str s36, V.int a1]) (by kernel_rfl) (by kernel_rfl) (by kernel_rfl))) (by kernel_rfl) (by kernel_rfl) (by kernel_rfl)
  intro hk54
  obtain ⟨b38, hx56, h⟩ := bind_some h
  refine CodeOk.cutR (tl 102 [(0, V.str a0), (1, V.int a1), (2, V.int a2), (6, .loc 100 0), (7, V.int 0), (9, V.int (IntKind.wrap .i64 ((b38).toNat : Int)))]) [(100, .cells 45 [V.int 0, V.str [], V.int 0])] mix (by
      refine W.run D_ok 2 101 (by kernel_rfl) ?_
      refine W.ixS D_ok hx56 (by kernel_rfl) ?_
      refine W.run D_ok 2 101 (by kernel_rfl) ?_
      exact W.fin (by decide) (by kernel_rfl) (Weak.sel [(100, 100)] [0, 1, 2, 6, 7, 9] (by kernel_rfl) (by kernel_rfl) (by kernel_rfl))
      ) ?_
  refine CodeOk.block' ?_
  refine CodeOk.cutR (tl 102 [(0, V.str a0), (1, V.int a1), (2, V.int a2), (6, .loc 100 0), (7, V.int 0), (9, V.int (IntKind.wrap .i64 ((b38).toNat : Int))), (27, V.bool ((IntKind.wrap .i64 ((b38).toNat : Int)) == 10))]) [(100, .cells 45 [V.int 0, V.str [], V.int 0])] mix (by
      refine W.run D_ok 3 101 (by kernel_rfl) ?_
      exact W.fin (by decide) (by kernel_rfl) (Weak.sel [(100, 100)] [0, 1, 2, 6, 7, 9, 27] (by kernel_rfl) (by kernel_rfl) (by kernel_rfl))
      ) ?_
  rcases cond_some h with ⟨hc57, h⟩ | ⟨hc57, h⟩
  · refine CodeOk.ifT hc57 (by kernel_rfl) ?_
    refine CodeOk.endR (tl 102 [(0, V.str a0), (1, V.int a1), (6, .loc 100 0), (7, V.int 1), (8, V.int (IntKind.wrap .i64 (a1 + 1)))]) [(100, .cells 45 [V.int 0, V.str [], V.int 0])] mix (by
        refine W.run D_ok 4 101 (by kernel_rfl) ?_
        exact W.fin (by decide) (by kernel_rfl) (Weak.sel [(100, 100)] [0, 1, 6, 7, 8] (by kernel_rfl) (by kernel_rfl) (by kernel_rfl))
        ) (fun st hw => ?_)
    exact hk54 (a0, a1, 1, (IntKind.wrap .i64 (a1 + 1))) h _ (hw.trans (Weak.sel [(100, 100)] [0, 1, 6, 7, 8] (by kernel_rfl) (by kernel_rfl) (by kernel_rfl)))
  · refine CodeOk.ifF hc57 (by kernel_rfl) ?_
    refine CodeOk.cutR (tl 102 [(0, V.str a0), (1, V.int a1), (2, V.int a2), (6, .loc 100 0), (7, V.int 0), (9, V.int (IntKind.wrap .i64 ((b38).toNat : Int))), (32, V.bool ((IntKind.wrap .i64 ((b38).toNat : Int)) == 35))]) [(100, .cells 45 [V.int 0, V.str [], V.int 0])] mix (by
        refine W.run D_ok 3 101 (by kernel_rfl) ?_
        exact W.fin (by decide) (by kernel_rfl) (Weak.sel [(100, 100)] [0, 1, 2, 6, 7, 9, 32] (by kernel_rfl) (by kernel_rfl) (by kernel_rfl))
        ) ?_
    rcases cond_some h with ⟨hc58, h⟩ | ⟨hc58, h⟩
    · refine CodeOk.ifT hc58 (by kernel_rfl) ?_
      refine CodeOk.cutR (tl 102 [(0, V.str a0), (1, V.int a1), (6, .loc 100 0), (7, V.int 2), (8, V.int (a0.length : Int))]) [(100, .cells 45 [V.int 0, V.str [], V.int 0])] mix (by
          refine W.run D_ok 4 101 (by kernel_rfl) ?_
          exact W.fin (by decide) (by kernel_rfl) (Weak.sel [(100, 100)] [0, 1, 6, 7, 8] (by kernel_rfl) (by kernel_rfl) (by kernel_rfl))
          ) ?_
      obtain ⟨s41, hx61, h⟩ := bind_some h
      obtain ⟨r42, hx62, h⟩ := bind_some h
      refine CodeOk.cutR (tl 102 [(0, V.str a0), (1, V.int a1), (6, .loc 100 0), (7, V.int 2), (8, V.int (a0.length : Int)), (10, V.int r42)]) [(100, .cells 45 [V.int 0, V.str [], V.int 0])] mix (by
          refine W.run D_ok 2 101 (by kernel_rfl) ?_
          refine W.cutS D_ok hx61 (by kernel_rfl) ?_
          refine W.call0 (AC.gs (m_strings_IndexByte_ok s41 10 hx62) (by decide)) cok83 rfl (by kernel_rfl) ?_
          refine W.run D_ok 1 101 (by kernel_rfl) ?_
          exact W.fin (by decide) (by kernel_rfl) (Weak.sel [(100, 100)] [0, 1, 6, 7, 8, 10] (by kernel_rfl) (by kernel_rfl) (by kernel_rfl))
          ) ?_
      refine CodeOk.cutR (tl 102 [(0, V.str a0), (1, V.int a1), (6, .loc 100 0), (7, V.int 2), (8, V.int (a0.length : Int)), (10, V.int r42), (42, V.bool (decide (r42 ≥ 0)))]) [(100, .cells 45 [V.int 0, V.str [], V.int 0])] mix (by
          refine W.run D_ok 2 101 (by kernel_rfl) ?_
          exact W.fin (by decide) (by kernel_rfl) (Weak.sel [(100, 100)] [0, 1, 6, 7, 8, 10, 42] (by kernel_rfl) (by kernel_rfl) (by kernel_rfl))
          ) ?_
      rcases cond_some h with ⟨hc63, h⟩ | ⟨hc63, h⟩
      · refine CodeOk.ifT hc63 (by kernel_rfl) ?_
        refine CodeOk.endR (tl 102 [(0, V.str a0), (1, V.int a1), (6, .loc 100 0), (7, V.int 2), (8, V.int (IntKind.wrap .i64 (a1 + r42)))]) [(100, .cells 45 [V.int 0, V.str [], V.int 0])] mix (by
            refine W.run D_ok 4 101 (by kernel_rfl) ?_
            exact W.fin (by decide) (by kernel_rfl) (Weak.sel [(100, 100)] [0, 1, 6, 7, 8] (by kernel_rfl) (by kernel_rfl) (by kernel_rfl))
            ) (fun st hw => ?_)
        exact hk54 (a0, a1, 2, (IntKind.wrap .i64 (a1 + r42))) h _ (hw.trans (Weak.sel [(100, 100)] [0, 1, 6, 7, 8] (by kernel_rfl) (by kernel_rfl) (by kernel_rfl)))
      · refine CodeOk.ifF hc63 (by kernel_rfl) ?_
        refine CodeOk.skip ?_
        exact hk54 (a0, a1, 2, (a0.length : Int)) h _ (Weak.sel [(100, 100)] [0, 1, 6, 7, 8] (by kernel_rfl) (by kernel_rfl) (by kernel_rfl))
    · refine CodeOk.ifF hc58 (by kernel_rfl) ?_
      obtain ⟨y44, hv66, h⟩ := bind_some h
      refine CodeOk.cutR (tl 102 [(0, V.str a0), (1, V.int a1), (2, V.int a2), (6, .loc 100 0), (7, V.int 0), (9, V.int (IntKind.wrap .i64 ((b38).toNat : Int))), (46, V.bool y44)]) [(100, .cells 45 [V.int 0, V.str [], V.int 0])] mix (by
          refine W.run D_ok 1 101 (by kernel_rfl) ?_
          obtain ⟨r45, hx67, hv66⟩ := bind_some hv66
          refine W.call0 (AC.gs (m_impl_IsDigit_ok (IntKind.wrap .i64 ((b38).toNat : Int)) hx67) (by decide)) cok84 rfl (by kernel_rfl) ?_
          refine W.run D_ok 1 101 (by kernel_rfl) ?_
          rcases cond_some hv66 with ⟨hc68, hv66⟩ | ⟨hc68, hv66⟩
          · refine W.is 49 hc68 (by kernel_rfl) ?_
            refine W.run D_ok 4 101 (by kernel_rfl) ?_
            have hv66 := Option.some.inj hv66
            subst hv66
            exact W.fin (by decide) (by kernel_rfl) (Weak.sel [(100, 100)] [0, 1, 2, 6, 7, 9, 46] (by kernel_rfl) (by kernel_rfl) (by kernel_rfl))
          · refine W.is 49 hc68 (by kernel_rfl) ?_
            refine W.run D_ok 4 101 (by kernel_rfl) ?_
            have hv66 := Option.some.inj hv66
            subst hv66
            exact W.fin (by decide) (by kernel_rfl) (Weak.sel [(100, 100)] [0, 1, 2, 6, 7, 9, 46] (by kernel_rfl) (by kernel_rfl) (by kernel_rfl))
          ) ?_
      rcases cond_some h with ⟨hc69, h⟩ | ⟨hc69, h⟩
      · refine CodeOk.ifT hc69 (by kernel_rfl) ?_
        obtain ⟨r47, hx71, h⟩ := bind_some h
        refine CodeOk.endR (tl 102 [(0, V.str a0), (1, V.int a1), (6, .loc 100 0), (7, V.int 3), (8, V.int r47)]) [(100, .cells 45 [V.int 0, V.str [], V.int 0])] mix (by
            refine W.run D_ok 2 101 (by kernel_rfl) ?_
            refine W.call0 (AC.gs (m_impl_NumEnd_ok N a0 a1 hx71) (by decide)) cok85 rfl (by kernel_rfl) ?_
            refine W.run D_ok 2 101 (by kernel_rfl) ?_
            exact W.fin (by decide) (by kernel_rfl) (Weak.sel [(100, 100)] [0, 1, 6, 7, 8] (by kernel_rfl) (by kernel_rfl) (by kernel_rfl))
            ) (fun st hw => ?_)
        exact hk54 (a0, a1, 3, r47) h _ (hw.trans (Weak.sel [(100, 100)] [0, 1, 6, 7, 8] (by kernel_rfl) (by kernel_rfl) (by kernel_rfl)))
      · refine CodeOk.ifF hc69 (by kernel_rfl) ?_
        refine CodeOk.cutR (tl 102 [(0, V.str a0), (1, V.int a1), (2, V.int a2), (6, .loc 100 0), (7, V.int 0), (9, V.int (IntKind.wrap .i64 ((b38).toNat : Int))), (56, V.bool ((IntKind.wrap .i64 ((b38).toNat : Int)) == 34))]) [(100, .cells 45 [V.int 0, V.str [], V.int 0])] mix (by
            refine W.run D_ok 3 101 (by kernel_rfl) ?_
            exact W.fin (by decide) (by kernel_rfl) (Weak.sel [(100, 100)] [0, 1, 2, 6, 7, 9, 56] (by kernel_rfl) (by kernel_rfl) (by kernel_rfl))
            ) ?_
        rcases cond_some h with ⟨hc72, h⟩ | ⟨hc72, h⟩
        · refine CodeOk.ifT hc72 (by kernel_rfl) ?_
          obtain ⟨r49, hx74, h⟩ := bind_some h
          refine CodeOk.endR (tl 102 [(0, V.str a0), (1, V.int a1), (6, .loc 100 0), (7, V.int 4), (8, V.int r49)]) [(100, .cells 45 [V.int 0, V.str [], V.int 0])] mix (by
              refine W.run D_ok 2 101 (by kernel_rfl) ?_
              refine W.call0 (AC.gs (m_impl_StrEnd_ok N a0 a1 hx74) (by decide)) cok86 rfl (by kernel_rfl) ?_
              refine W.run D_ok 2 101 (by kernel_rfl) ?_
              exact W.fin (by decide) (by kernel_rfl) (Weak.sel [(100, 100)] [0, 1, 6, 7, 8] (by kernel_rfl) (by kernel_rfl) (by kernel_rfl))
              ) (fun st hw => ?_)
          exact hk54 (a0, a1, 4, r49) h _ (hw.trans (Weak.sel [(100, 100)] [0, 1, 6, 7, 8] (by kernel_rfl) (by kernel_rfl) (by kernel_rfl)))
        · refine CodeOk.ifF hc72 (by kernel_rfl) ?_
          obtain ⟨y51, hv77, h⟩ := bind_some h
          refine CodeOk.cutR (tl 102 [(0, V.str a0), (1, V.int a1), (6, .loc 100 0), (7, V.int 0), (9, V.int (IntKind.wrap .i64 ((b38).toNat : Int))), (62, V.bool y51)]) [(100, .cells 45 [V.int 0, V.str [], V.int 0])] mix (by
              refine W.run D_ok 3 101 (by kernel_rfl) ?_
              rcases cond_some hv77 with ⟨hc78, hv77⟩ | ⟨hc78, hv77⟩
              · refine W.is 65 hc78 (by kernel_rfl) ?_
                refine W.run D_ok 1 101 (by kernel_rfl) ?_
                obtain ⟨r52, hx79, hv77⟩ := bind_some hv77
                refine W.call0 (AC.gs (m_impl_EndsOperand_ok a2 hx79) (by decide)) cok87 rfl (by kernel_rfl) ?_
                refine W.run D_ok 3 101 (by kernel_rfl) ?_
                have hv77 := Option.some.inj hv77
                subst hv77
                exact W.fin (by decide) (by kernel_rfl) (Weak.sel [(100, 100)] [0, 1, 6, 7, 9, 62] (by kernel_rfl) (by kernel_rfl) (by kernel_rfl))
              · refine W.is 65 hc78 (by kernel_rfl) ?_
                refine W.run D_ok 5 101 (by kernel_rfl) ?_
                have hv77 := Option.some.inj hv77
                subst hv77
                exact W.fin (by decide) (by kernel_rfl) (Weak.sel [(100, 100)] [0, 1, 6, 7, 9, 62] (by kernel_rfl) (by kernel_rfl) (by kernel_rfl))
              ) ?_
          rcases cond_some h with ⟨hc80, h⟩ | ⟨hc80, h⟩
          · refine CodeOk.ifT hc80 (by kernel_rfl) ?_
            obtain ⟨r54, hx82, h⟩ := bind_some h
            refine CodeOk.endR (tl 102 [(0, V.str a0), (1, V.int a1), (6, .loc 100 0), (7, V.int 5), (8, V.int r54)]) [(100, .cells 45 [V.int 0, V.str [], V.int 0])] mix (by
                refine W.run D_ok 2 101 (by kernel_rfl) ?_
                refine W.call0 (AC.gs (m_impl_EreEnd_ok N a0 a1 hx82) (by decide)) cok88 rfl (by kernel_rfl) ?_
                refine W.run D_ok 2 101 (by kernel_rfl) ?_
                exact W.fin (by decide) (by kernel_rfl) (Weak.sel [(100, 100)] [0, 1, 6, 7, 8] (by kernel_rfl) (by kernel_rfl) (by kernel_rfl))
                ) (fun st hw => ?_)
            exact hk54 (a0, a1, 5, r54) h _ (hw.trans (Weak.sel [(100, 100)] [0, 1, 6, 7, 8] (by kernel_rfl) (by kernel_rfl) (by kernel_rfl)))
          · refine CodeOk.ifF hc80 (by kernel_rfl) ?_
            obtain ⟨r56, hx84, h⟩ := bind_some h
            refine CodeOk.cutR (tl 102 [(0, V.str a0), (1, V.int a1), (6, .loc 100 0), (7, V.int 0), (73, V.bool r56)]) [(100, .cells 45 [V.int 0, V.str [], V.int 0])] mix (by
                refine W.run D_ok 1 101 (by kernel_rfl) ?_
                refine W.call0 (AC.gs (m_impl_IsLetter_ok (IntKind.wrap .i64 ((b38).toNat : Int)) hx84) (by decide)) cok89 rfl (by kernel_rfl) ?_
                refine W.run D_ok 1 101 (by kernel_rfl) ?_
                exact W.fin (by decide) (by kernel_rfl) (Weak.sel [(100, 100)] [0, 1, 6, 7, 73] (by kernel_rfl) (by kernel_rfl) (by kernel_rfl))
                ) ?_
            rcases cond_some h with ⟨hc85, h⟩ | ⟨hc85, h⟩
            · refine CodeOk.ifT hc85 (by kernel_rfl) ?_
              obtain ⟨r58, hx87, h⟩ := bind_some h
              refine CodeOk.cutR (tl 102 [(0, V.str a0), (1, V.int a1), (6, .loc 100 0), (7, V.int 0), (8, V.int r58)]) [(100, .cells 45 [V.int 0, V.str [], V.int 0])] mix (by
                  refine W.run D_ok 2 101 (by kernel_rfl) ?_
                  refine W.call0 (AC.gs (m_impl_NameEnd_ok N a0 a1 hx87) (by decide)) cok90 rfl (by kernel_rfl) ?_
                  refine W.run D_ok 1 101 (by kernel_rfl) ?_
                  exact W.fin (by decide) (by kernel_rfl) (Weak.sel [(100, 100)] [0, 1, 6, 7, 8] (by kernel_rfl) (by kernel_rfl) (by kernel_rfl))
                  ) ?_
              obtain ⟨s61, hx90, h⟩ := bind_some h
              obtain ⟨r62, hx91, h⟩ := bind_some h
              refine CodeOk.cutR (tl 102 [(0, V.str a0), (1, V.int a1), (6, .loc 100 0), (7, V.int 0), (8, V.int r58), (83, V.bool r62)]) [(100, .cells 45 [V.int 0, V.str [], V.int 0])] mix (by
                  refine W.run D_ok 3 101 (by kernel_rfl) ?_
                  refine W.cutS D_ok hx90 (by kernel_rfl) ?_
                  refine W.call0 (AC.gs (m_impl_NameShape_ok N s61 hx91) (by decide)) cok91 rfl (by kernel_rfl) ?_
                  exact W.fin (by decide) (by kernel_rfl) (Weak.sel [(100, 100)] [0, 1, 6, 7, 8, 83] (by kernel_rfl) (by kernel_rfl) (by kernel_rfl))
                  ) ?_
              rcases cond_some h with ⟨hc92, h⟩ | ⟨hc92, h⟩
              · refine CodeOk.ifT hc92 (by kernel_rfl) ?_
                obtain ⟨r64, hx94, h⟩ := bind_some h
                refine CodeOk.cutR (tl 102 [(6, .loc 100 0)]) [(100, .cells 45 [V.int r64.Kind, V.str r64.Text, V.int r64.At])] mix (by
                    refine W.run D_ok 3 101 (by kernel_rfl) ?_
                    refine W.call0 (AC.gs (m_impl_wordToken_ok N a0 a1 r58 hx94) (by decide)) cok92 rfl (by kernel_rfl) ?_
                    refine W.run D_ok 1 101 (by kernel_rfl) ?_
                    exact W.fin (by decide) (by kernel_rfl) (Weak.sel [(100, 100)] [6] (by kernel_rfl) (by kernel_rfl) (by kernel_rfl))
                    ) ?_
                refine CodeOk.ret ?_
                have h := Option.some.inj h
                subst h
                exact Ends.gen [] (.inr rfl) (RetV.one rfl (OneR.cell D_ok (r := .agg [V.int r64.Kind, V.str r64.Text, V.int r64.At]) (i := 100) (ety := 45) (cs := [V.int r64.Kind, V.str r64.Text, V.int r64.At]) (by kernel_rfl) (by kernel_rfl) (by kernel_rfl))) (by kernel_rfl) (by kernel_rfl) (by kernel_rfl)
              · refine CodeOk.ifF hc92 (by kernel_rfl) ?_
                refine CodeOk.skip ?_
                exact hk54 (a0, a1, 0, r58) h _ (Weak.sel [(100, 100)] [0, 1, 6, 7, 8] (by kernel_rfl) (by kernel_rfl) (by kernel_rfl))
            · refine CodeOk.ifF hc85 (by kernel_rfl) ?_
              obtain ⟨r66, hx96, h⟩ := bind_some h
              refine CodeOk.cutR (tl 102 [(0, V.str a0), (1, V.int a1), (6, .loc 100 0), (11, V.int r66.1), (12, V.int r66.2)]) [(100, .cells 45 [V.int 0, V.str [], V.int 0])] mix (by
                  refine W.run D_ok 2 101 (by kernel_rfl) ?_
                  refine W.call0 (AC.gs (m_impl_OpAt_ok N a0 a1 hx96) (by decide)) cok93 rfl (by kernel_rfl) ?_
                  refine W.run D_ok 5 101 (by kernel_rfl) ?_
                  exact W.fin (by decide) (by kernel_rfl) (Weak.sel [(100, 100)] [0, 1, 6, 11, 12] (by kernel_rfl) (by kernel_rfl) (by kernel_rfl))
                  ) ?_
              refine CodeOk.endR (tl 102 [(0, V.str a0), (1, V.int a1), (6, .loc 100 0), (7, V.int r66.1), (8, V.int (IntKind.wrap .i64 (a1 + r66.2)))]) [(100, .cells 45 [V.int 0, V.str [], V.int 0])] mix (by
                  refine W.run D_ok 6 101 (by kernel_rfl) ?_
                  exact W.fin (by decide) (by kernel_rfl) (Weak.sel [(100, 100)] [0, 1, 6, 7, 8] (by kernel_rfl) (by kernel_rfl) (by kernel_rfl))
                  ) (fun st hw => ?_)
              exact hk54 (a0, a1, r66.1, (IntKind.wrap .i64 (a1 + r66.2))) h _ (hw.trans (Weak.sel [(100, 100)] [0, 1, 6, 7, 8] (by kernel_rfl) (by kernel_rfl) (by kernel_rfl)))

theorem m_impl_lexFrom_ok (N : Nat) (a0 : List UInt8) (a1 : Int) (a2 : Int) {r : ((List SToken) × SFault)} (h : m_impl_lexFrom N a0 a1 a2 = some r) :
    AC Tryd.prog (GS [0, 1, 6]) 52 [V.str a0, V.int a1, V.int a2] [] (.tup [.own 100, .agg [V.int r.2.Kind, V.int r.2.At]]) [(100, .vec false 45 3 (r.1.map encSToken))] := by
  rw [m_impl_lexFrom] at h
  refine AC.enter Tryd.func52 rfl ?_
  refine CodeOk.cutR (tl 59 [(0, V.str a0), (1, V.int a1), (2, V.int a2), (7, .loc 100 0)]) [(100, .cells 36 [V.int 0, V.int 0])] mix (by
      refine W.run D_ok 2 100 (by kernel_rfl) ?_
      exact W.fin (by decide) (by kernel_rfl) (Weak.sel [(100, 100)] [0, 1, 2, 7] (by kernel_rfl) (by kernel_rfl) (by kernel_rfl))
      ) ?_
  refine CodeOk.cutR (tl 59 [(0, V.str a0), (1, V.int a1), (2, V.int a2), (7, .loc 100 0), (8, .own 101)]) [(101, .vec false 45 3 ([].map encSToken)), (100, .cells 36 [V.int 0, V.int 0])] mix (by
      refine W.run D_ok 2 101 (by kernel_rfl) ?_
      exact W.fin (by decide) (by kernel_rfl) (Weak.sel [(101, 101), (100, 100)] [0, 1, 2, 7, 8] (by kernel_rfl) (by kernel_rfl) (by kernel_rfl))
      ) ?_
  refine CodeOk.seq' ?_
  refine CodeOk.block' ?_
  refine CodeOk.loopJ (fun (⟨a0, y95, y96, y97⟩ : ((List UInt8) × Int × Int × (List SToken))) => ⟨tl 59 [(0, V.str a0), (1, V.int y95), (2, V.int y96), (7, .loc 100 0), (8, .own 101)], [(100, .cells 36 [V.int 0, V.int 0]), (101, .vec false 45 3 (y97.map encSToken))]⟩) (fun n i => m_impl_lexFrom_l1 N n i = some r) (n0 := N) (i0 := (a0, a1, a2, [])) (Weak.sel [(100, 100), (101, 101)] [0, 1, 2, 7, 8] (by kernel_rfl) (by kernel_rfl) (by kernel_rfl)) h (fun i h => by simp [m_impl_lexFrom_l1] at h) ?_
  rintro n1 ⟨a0, y95, y96, y97⟩ h173 ih174
  rw [m_impl_lexFrom_l1] at h173
  refine CodeOk.seq' ?_
  refine CodeOk.cutR (tl 59 [(0, V.str a0), (1, V.int y95), (2, V.int y96), (7, .loc 100 0), (8, .own 101), (14, V.bool (decide (y95 < (a0.length : Int))))]) [(100, .cells 36 [V.int 0, V.int 0]), (101, .vec false 45 3 (y97.map encSToken))] mix (by
      refine W.run D_ok 4 168 (by kernel_rfl) ?_
      exact W.fin (by decide) (by kernel_rfl) (Weak.sel [(100, 100), (101, 101)] [0, 1, 2, 7, 8, 14] (by kernel_rfl) (by kernel_rfl) (by kernel_rfl))
      ) ?_
  rcases cond_some h173 with ⟨hc176, h173⟩ | ⟨hc176, h173⟩
  · refine CodeOk.ifT hc176 (by kernel_rfl) ?_
    refine CodeOk.skip ?_
    refine CodeOk.weak (st' := ⟨tl 59 [(0, V.str a0), (1, V.int y95), (2, V.int y96), (7, .loc 100 0), (8, .own 101), (14, V.bool (decide (y95 < (a0.length : Int))))], [(100, .cells 36 [V.int 0, V.int 0]), (101, .vec false 45 3 (y97.map encSToken))]⟩) (Weak.refl _) ?_
    refine CodeOk.block' ?_
    refine CodeOk.seq' ?_
    refine CodeOk.block' ?_
    obtain ⟨b134, hx192, h173⟩ := bind_some h173
    obtain ⟨r135, hx193, h173⟩ := bind_some h173
    refine CodeOk.cutR (tl 59 [(0, V.str a0), (1, V.int y95), (2, V.int y96), (7, .loc 100 0), (8, .own 101), (15, V.bool r135)]) [(100, .cells 36 [V.int 0, V.int 0]), (101, .vec false 45 3 (y97.map encSToken))] mix (by
        refine W.run D_ok 2 168 (by kernel_rfl) ?_
        refine W.ixS D_ok hx192 (by kernel_rfl) ?_
        refine W.run D_ok 1 168 (by kernel_rfl) ?_
        refine W.call0 (AC.gs (m_impl_IsBlank_ok (IntKind.wrap .i64 ((b134).toNat : Int)) hx193) (by decide)) cok72 rfl (by kernel_rfl) ?_
        refine W.run D_ok 1 168 (by kernel_rfl) ?_
        exact W.fin (by decide) (by kernel_rfl) (Weak.sel [(100, 100), (101, 101)] [0, 1, 2, 7, 8, 15] (by kernel_rfl) (by kernel_rfl) (by kernel_rfl))
        ) ?_
    rcases cond_some h173 with ⟨hc194, h173⟩ | ⟨hc194, h173⟩
    · refine CodeOk.ifT hc194 (by kernel_rfl) ?_
      refine CodeOk.cutR (tl 59 [(0, V.str a0), (1, V.int (IntKind.wrap .i64 (y95 + 1))), (2, V.int y96), (7, .loc 100 0), (8, .own 101)]) [(100, .cells 36 [V.int 0, V.int 0]), (101, .vec false 45 3 (y97.map encSToken))] mix (by
          refine W.run D_ok 3 168 (by kernel_rfl) ?_
          exact W.fin (by decide) (by kernel_rfl) (Weak.sel [(100, 100), (101, 101)] [0, 1, 2, 7, 8] (by kernel_rfl) (by kernel_rfl) (by kernel_rfl))
          ) ?_
      refine CodeOk.exit ?_
      exact ih174 (a0, (IntKind.wrap .i64 (y95 + 1)), y96, y97) h173 _ (Weak.sel [(100, 100), (101, 101)] [0, 1, 2, 7, 8] (by kernel_rfl) (by kernel_rfl) (by kernel_rfl))
    · refine CodeOk.ifF hc194 (by kernel_rfl) ?_
      obtain ⟨y138, hv198, h173⟩ := bind_some h173
      refine CodeOk.cutR (tl 59 [(0, V.str a0), (1, V.int y95), (2, V.int y96), (7, .loc 100 0), (8, .own 101), (23, V.bool y138)]) [(100, .cells 36 [V.int 0, V.int 0]), (101, .vec false 45 3 (y97.map encSToken))] mix (by
          refine W.run D_ok 2 168 (by kernel_rfl) ?_
          obtain ⟨b139, hx199, hv198⟩ := bind_some hv198
          refine W.ixS D_ok hx199 (by kernel_rfl) ?_
          refine W.run D_ok 2 168 (by kernel_rfl) ?_
          rcases cond_some hv198 with ⟨hc200, hv198⟩ | ⟨hc200, hv198⟩
          · refine W.is 28 hc200 (by kernel_rfl) ?_
            refine W.run D_ok 3 168 (by kernel_rfl) ?_
            obtain ⟨r140, hx201, hv198⟩ := bind_some hv198
            refine W.call0 (AC.gs (m_impl_byteAt_ok a0 (IntKind.wrap .i64 (y95 + 1)) hx201) (by decide)) cok73 rfl (by kernel_rfl) ?_
            refine W.run D_ok 3 168 (by kernel_rfl) ?_
            have hv198 := Option.some.inj hv198
            subst hv198
            exact W.fin (by decide) (by kernel_rfl) (Weak.sel [(100, 100), (101, 101)] [0, 1, 2, 7, 8, 23] (by kernel_rfl) (by kernel_rfl) (by kernel_rfl))
          · refine W.is 28 hc200 (by kernel_rfl) ?_
            refine W.run D_ok 7 168 (by kernel_rfl) ?_
            have hv198 := Option.some.inj hv198
            subst hv198
            exact W.fin (by decide) (by kernel_rfl) (Weak.sel [(100, 100), (101, 101)] [0, 1, 2, 7, 8, 23] (by kernel_rfl) (by kernel_rfl) (by kernel_rfl))
          ) ?_
      rcases cond_some h173 with ⟨hc202, h173⟩ | ⟨hc202, h173⟩
      · refine CodeOk.ifT hc202 (by kernel_rfl) ?_
        refine CodeOk.cutR (tl 59 [(0, V.str a0), (1, V.int (IntKind.wrap .i64 (y95 + 2))), (2, V.int y96), (7, .loc 100 0), (8, .own 101)]) [(100, .cells 36 [V.int 0, V.int 0]), (101, .vec false 45 3 (y97.map encSToken))] mix (by
            refine W.run D_ok 3 168 (by kernel_rfl) ?_
            exact W.fin (by decide) (by kernel_rfl) (Weak.sel [(100, 100), (101, 101)] [0, 1, 2, 7, 8] (by kernel_rfl) (by kernel_rfl) (by kernel_rfl))
            ) ?_
        refine CodeOk.exit ?_
        exact ih174 (a0, (IntKind.wrap .i64 (y95 + 2)), y96, y97) h173 _ (Weak.sel [(100, 100), (101, 101)] [0, 1, 2, 7, 8] (by kernel_rfl) (by kernel_rfl) (by kernel_rfl))
      · refine CodeOk.ifF hc202 (by kernel_rfl) ?_
        refine CodeOk.skip ?_
        refine CodeOk.weak (st' := ⟨tl 59 [(0, V.str a0), (1, V.int y95), (2, V.int y96), (7, .loc 100 0), (8, .own 101), (23, V.bool y138)], [(100, .cells 36 [V.int 0, V.int 0]), (101, .vec false 45 3 (y97.map encSToken))]⟩) (Weak.refl _) ?_
        obtain ⟨r142, hx204, h173⟩ := bind_some h173
        refine CodeOk.cutR (tl 59 [(0, V.str a0), (1, V.int y95), (7, .loc 100 0), (8, .own 101), (9, .loc 168 0)]) [(168, .cells 45 [V.int r142.Kind, V.str r142.Text, V.int r142.At]), (100, .cells 36 [V.int 0, V.int 0]), (101, .vec false 45 3 (y97.map encSToken))] mix (by
            refine W.run D_ok 3 168 (by kernel_rfl) ?_
            refine W.call0 (m_impl_tokenAt_ok N a0 y95 y96 hx204) cok74 rfl (by kernel_rfl) ?_
            refine W.run D_ok 2 168 (by kernel_rfl) ?_
            exact W.fin (by decide) (by kernel_rfl) (Weak.sel [(168, 168), (100, 100), (101, 101)] [0, 1, 7, 8, 9] (by kernel_rfl) (by kernel_rfl) (by kernel_rfl))
            ) ?_
        refine CodeOk.seq' ?_
        refine CodeOk.cutR (tl 59 [(0, V.str a0), (1, V.int y95), (7, .loc 100 0), (8, .own 101), (9, .loc 168 0), (43, V.bool (r142.Kind == 0))]) [(168, .cells 45 [V.int r142.Kind, V.str r142.Text, V.int r142.At]), (100, .cells 36 [V.int 0, V.int 0]), (101, .vec false 45 3 (y97.map encSToken))] mix (by
            refine W.run D_ok 3 169 (by kernel_rfl) ?_
            exact W.fin (by decide) (by kernel_rfl) (Weak.sel [(168, 168), (100, 100), (101, 101)] [0, 1, 7, 8, 9, 43] (by kernel_rfl) (by kernel_rfl) (by kernel_rfl))
            ) ?_
        rcases cond_some h173 with ⟨hc206, h173⟩ | ⟨hc206, h173⟩
        · refine CodeOk.ifT hc206 (by kernel_rfl) ?_
          refine CodeOk.cutR (tl 59 [(6, .c (.slice none 0 0)), (7, .loc 100 0)]) [(100, .cells 36 [V.int 2, V.int y95])] mix (by
              refine W.run D_ok 4 169 (by kernel_rfl) ?_
              exact W.fin (by decide) (by kernel_rfl) (Weak.sel [(100, 100)] [6, 7] (by kernel_rfl) (by kernel_rfl) (by kernel_rfl))
              ) ?_
          refine CodeOk.weak (Weak.nil 6 169 45 3 (by kernel_rfl) (by kernel_rfl)) ?_
          refine CodeOk.ret ?_
          have h173 := Option.some.inj h173
          subst h173
          exact Ends.gen [(169, 100)] (.inr rfl) (RetV.two rfl (OneR.tmp (t := 6) (r := .own 169) (by kernel_rfl)) (OneR.cell D_ok (r := .agg [V.int 2, V.int y95]) (i := 100) (ety := 36) (cs := [V.int 2, V.int y95]) (by kernel_rfl) (by kernel_rfl) (by kernel_rfl))) (by kernel_rfl) (by kernel_rfl) (by kernel_rfl)
        · refine CodeOk.ifF hc206 (by kernel_rfl) ?_
          refine CodeOk.skip ?_
          refine CodeOk.weak (st' := ⟨tl 59 [(0, V.str a0), (1, V.int y95), (7, .loc 100 0), (8, .own 101), (9, .loc 168 0), (43, V.bool (r142.Kind == 0))], [(168, .cells 45 [V.int r142.Kind, V.str r142.Text, V.int r142.At]), (100, .cells 36 [V.int 0, V.int 0]), (101, .vec false 45 3 (y97.map encSToken))]⟩) (Weak.refl _) ?_
          obtain ⟨x144, hx208, h173⟩ := bind_some h173
          refine CodeOk.cutR (tl 59 [(0, V.str a0), (1, V.int y95), (7, .loc 100 0), (8, .own 170), (9, .loc 168 0)]) [(170, .vec false 45 3 (x144.map encSToken)), (168, .cells 45 [V.int r142.Kind, V.str r142.Text, V.int r142.At]), (100, .cells 36 [V.int 0, V.int 0])] mix (by
              refine W.run D_ok 3 169 (by kernel_rfl) ?_
              refine W.appO D_ok encSToken (a := 101) (c := 169) (el := 45) (sz := 3) 32 hx208 rfl 170 (by kernel_rfl) ?_
              refine W.run D_ok 1 171 (by kernel_rfl) ?_
              exact W.fin (by decide) (by kernel_rfl) (Weak.sel [(170, 170), (168, 168), (100, 100)] [0, 1, 7, 8, 9] (by kernel_rfl) (by kernel_rfl) (by kernel_rfl))
              ) ?_
          refine CodeOk.endR (tl 59 [(0, V.str a0), (1, V.int (IntKind.wrap .i64 (y95 + (r142.Text.length : Int)))), (2, V.int r142.Kind), (7, .loc 100 0), (8, .own 170)]) [(170, .vec false 45 3 (x144.map encSToken)), (100, .cells 36 [V.int 0, V.int 0])] mix (by
              refine W.run D_ok 9 171 (by kernel_rfl) ?_
              exact W.fin (by decide) (by kernel_rfl) (Weak.sel [(170, 170), (100, 100)] [0, 1, 2, 7, 8] (by kernel_rfl) (by kernel_rfl) (by kernel_rfl))
              ) (fun st hw => ?_)
          exact ih174 (a0, (IntKind.wrap .i64 (y95 + (r142.Text.length : Int))), r142.Kind, x144) h173 _ (hw.trans (Weak.sel [(100, 100), (170, 101)] [0, 1, 2, 7, 8] (by kernel_rfl) (by kernel_rfl) (by kernel_rfl)))
  · refine CodeOk.ifF hc176 (by kernel_rfl) ?_
    refine CodeOk.exit ?_
    refine CodeOk.weak (st' := ⟨tl 59 [(0, V.str a0), (1, V.int y95), (2, V.int y96), (7, .loc 100 0), (8, .own 101), (14, V.bool (decide (y95 < (a0.length : Int))))], [(100, .cells 36 [V.int 0, V.int 0]), (101, .vec false 45 3 (y97.map encSToken))]⟩) (Weak.refl _) ?_
    refine CodeOk.cutR (tl 59 [(6, .own 101), (7, .loc 100 0)]) [(100, .cells 36 [V.int 0, V.int 0]), (101, .vec false 45 3 (y97.map encSToken))] mix (by
        refine W.run D_ok 4 168 (by kernel_rfl) ?_
        exact W.fin (by decide) (by kernel_rfl) (Weak.sel [(100, 100), (101, 101)] [6, 7] (by kernel_rfl) (by kernel_rfl) (by kernel_rfl))
        ) ?_
    refine CodeOk.ret ?_
    have h173 := Option.some.inj h173
    subst h173
    exact Ends.gen [(101, 100)] (.inr rfl) (RetV.two rfl (OneR.tmp (t := 6) (r := .own 101) (by kernel_rfl)) (OneR.cell D_ok (r := .agg [V.int 0, V.int 0]) (i := 100) (ety := 36) (cs := [V.int 0, V.int 0]) (by kernel_rfl) (by kernel_rfl) (by kernel_rfl))) (by kernel_rfl) (by kernel_rfl) (by kernel_rfl)

theorem m_impl_Lex_ok (N : Nat) (a0 : List UInt8) {r : ((List SToken) × SFault)} (h : m_impl_Lex N a0 = some r) :
    AC Tryd.prog (GS [0, 1, 6]) 39 [V.str a0] [] (.tup [.own 100, .agg [V.int r.2.Kind, V.int r.2.At]]) [(100, .vec false 45 3 (r.1.map encSToken))] := by
  rw [m_impl_Lex] at h
  refine AC.enter Tryd.func39 rfl ?_
  refine CodeOk.cutR (tl 12 [(0, V.str a0), (3, .loc 100 0)]) [(100, .cells 36 [V.int 0, V.int 0])] mix (by
      refine W.run D_ok 2 100 (by kernel_rfl) ?_
      exact W.fin (by decide) (by kernel_rfl) (Weak.sel [(100, 100)] [0, 3] (by kernel_rfl) (by kernel_rfl) (by kernel_rfl))
      ) ?_
  refine CodeOk.seq' ?_
  refine CodeOk.cutR (tl 12 [(0, V.str a0), (3, .loc 100 0), (6, V.bool (decide ((a0.length : Int) > 3000)))]) [(100, .cells 36 [V.int 0, V.int 0])] mix (by
      refine W.run D_ok 3 101 (by kernel_rfl) ?_
      exact W.fin (by decide) (by kernel_rfl) (Weak.sel [(100, 100)] [0, 3, 6] (by kernel_rfl) (by kernel_rfl) (by kernel_rfl))
      ) ?_
  rcases cond_some h with ⟨hc2, h⟩ | ⟨hc2, h⟩
  · refine CodeOk.ifT hc2 (by kernel_rfl) ?_
    refine CodeOk.cutR (tl 12 [(2, .c (.slice none 0 0)), (3, .loc 100 0)]) [(100, .cells 36 [V.int 1, V.int 0])] mix (by
        refine W.run D_ok 3 101 (by kernel_rfl) ?_
        exact W.fin (by decide) (by kernel_rfl) (Weak.sel [(100, 100)] [2, 3] (by kernel_rfl) (by kernel_rfl) (by kernel_rfl))
        ) ?_
    refine CodeOk.weak (Weak.nil 2 101 45 3 (by kernel_rfl) (by kernel_rfl)) ?_
    refine CodeOk.ret ?_
    have h := Option.some.inj h
    subst h
    exact Ends.gen [(101, 100)] (.inr rfl) (RetV.two rfl (OneR.tmp (t := 2) (r := .own 101) (by kernel_rfl)) (OneR.cell D_ok (r := .agg [V.int 1, V.int 0]) (i := 100) (ety := 36) (cs := [V.int 1, V.int 0]) (by kernel_rfl) (by kernel_rfl) (by kernel_rfl))) (by kernel_rfl) (by kernel_rfl) (by kernel_rfl)
  · refine CodeOk.ifF hc2 (by kernel_rfl) ?_
    refine CodeOk.skip ?_
    refine CodeOk.weak (st' := ⟨tl 12 [(0, V.str a0), (3, .loc 100 0), (6, V.bool (decide ((a0.length : Int) > 3000)))], [(100, .cells 36 [V.int 0, V.int 0])]⟩) (Weak.refl _) ?_
    obtain ⟨r2, hx4, h⟩ := bind_some h
    refine CodeOk.cutR (tl 12 [(2, .own 101), (3, .loc 100 0)]) [(100, .cells 36 [V.int r2.2.Kind, V.int r2.2.At]), (101, .vec false 45 3 (r2.1.map encSToken))] mix (by
        refine W.run D_ok 1 101 (by kernel_rfl) ?_
        refine W.call (m_impl_lexFrom_ok N a0 0 0 hx4) cok52 [] [(100, 101)] [101] (show LayOk _ [] from trivial) (by kernel_rfl) (by kernel_rfl) ?_
        refine W.run D_ok 4 102 (by kernel_rfl) ?_
        exact W.fin (by decide) (by kernel_rfl) (Weak.sel [(100, 100), (101, 101)] [2, 3] (by kernel_rfl) (by kernel_rfl) (by kernel_rfl))
        ) ?_
    refine CodeOk.ret ?_
    have h := Option.some.inj h
    subst h
    exact Ends.gen [(101, 100)] (.inr rfl) (RetV.two rfl (OneR.tmp (t := 2) (r := .own 101) (by kernel_rfl)) (OneR.cell D_ok (r := .agg [V.int r2.2.Kind, V.int r2.2.At]) (i := 100) (ety := 36) (cs := [V.int r2.2.Kind, V.int r2.2.At]) (by kernel_rfl) (by kernel_rfl) (by kernel_rfl))) (by kernel_rfl) (by kernel_rfl) (by kernel_rfl)

theorem m_impl_ClassOf_ok (a0 : Int) {r : (List UInt8)} (h : m_impl_ClassOf a0 = some r) :
    AC Tryd.prog (GS []) 40 [V.int a0] [] (V.str r) [] := by
  rw [m_impl_ClassOf] at h
  refine AC.enter Tryd.func40 rfl ?_
  refine CodeOk.cutR (tl 26 [(0, V.int a0)]) [] mix (by
      refine W.run D_ok 1 100 (by kernel_rfl) ?_
      exact W.fin (by decide) (by kernel_rfl) (Weak.sel [] [0] (by kernel_rfl) (by kernel_rfl) (by kernel_rfl))
      ) ?_
  refine CodeOk.seq' ?_
  refine CodeOk.cutR (tl 26 [(0, V.int a0), (3, V.int a0)]) [] mix (by
      refine W.run D_ok 1 100 (by kernel_rfl) ?_
      exact W.fin (by decide) (by kernel_rfl) (Weak.sel [] [0, 3] (by kernel_rfl) (by kernel_rfl) (by kernel_rfl))
      ) ?_
  refine CodeOk.block' ?_
  refine CodeOk.cutR (tl 26 [(0, V.int a0), (3, V.int a0), (4, V.bool (a0 == 2))]) [] mix (by
      refine W.run D_ok 2 100 (by kernel_rfl) ?_
      exact W.fin (by decide) (by kernel_rfl) (Weak.sel [] [0, 3, 4] (by kernel_rfl) (by kernel_rfl) (by kernel_rfl))
      ) ?_
  rcases cond_some h with ⟨hc9, h⟩ | ⟨hc9, h⟩
  · refine CodeOk.ifT hc9 (by kernel_rfl) ?_
    refine CodeOk.cutR (tl 26 [(2, V.str [99])]) [] mix (by
        refine W.run D_ok 1 100 (by kernel_rfl) ?_
        exact W.fin (by decide) (by kernel_rfl) (Weak.sel [] [2] (by kernel_rfl) (by kernel_rfl) (by kernel_rfl))
        ) ?_
    refine CodeOk.ret ?_
    have h := Option.some.inj h
    subst h
    exact Ends.gen [] (.inr rfl) (RetV.one rfl (OneR.tmp (t := 2) (r := V.str [99]) (by kernel_rfl))) (by kernel_rfl) (by kernel_rfl) (by kernel_rfl)
  · refine CodeOk.ifF hc9 (by kernel_rfl) ?_
    refine CodeOk.cutR (tl 26 [(0, V.int a0), (3, V.int a0), (6, V.bool (a0 == 3))]) [] mix (by
        refine W.run D_ok 2 100 (by kernel_rfl) ?_
        exact W.fin (by decide) (by kernel_rfl) (Weak.sel [] [0, 3, 6] (by kernel_rfl) (by kernel_rfl) (by kernel_rfl))
        ) ?_
    rcases cond_some h with ⟨hc10, h⟩ | ⟨hc10, h⟩
    · refine CodeOk.ifT hc10 (by kernel_rfl) ?_
      refine CodeOk.cutR (tl 26 [(2, V.str [100])]) [] mix (by
          refine W.run D_ok 1 100 (by kernel_rfl) ?_
          exact W.fin (by decide) (by kernel_rfl) (Weak.sel [] [2] (by kernel_rfl) (by kernel_rfl) (by kernel_rfl))
          ) ?_
      refine CodeOk.ret ?_
      have h := Option.some.inj h
      subst h
      exact Ends.gen [] (.inr rfl) (RetV.one rfl (OneR.tmp (t := 2) (r := V.str [100]) (by kernel_rfl))) (by kernel_rfl) (by kernel_rfl) (by kernel_rfl)
    · refine CodeOk.ifF hc10 (by kernel_rfl) ?_
      refine CodeOk.cutR (tl 26 [(0, V.int a0), (3, V.int a0), (8, V.bool (a0 == 4))]) [] mix (by
          refine W.run D_ok 2 100 (by kernel_rfl) ?_
          exact W.fin (by decide) (by kernel_rfl) (Weak.sel [] [0, 3, 8] (by kernel_rfl) (by kernel_rfl) (by kernel_rfl))
          ) ?_
      rcases cond_some h with ⟨hc11, h⟩ | ⟨hc11, h⟩
      · refine CodeOk.ifT hc11 (by kernel_rfl) ?_
        refine CodeOk.cutR (tl 26 [(2, V.str [115])]) [] mix (by
            refine W.run D_ok 1 100 (by kernel_rfl) ?_
            exact W.fin (by decide) (by kernel_rfl) (Weak.sel [] [2] (by kernel_rfl) (by kernel_rfl) (by kernel_rfl))
            ) ?_
        refine CodeOk.ret ?_
        have h := Option.some.inj h
        subst h
        exact Ends.gen [] (.inr rfl) (RetV.one rfl (OneR.tmp (t := 2) (r := V.str [115]) (by kernel_rfl))) (by kernel_rfl) (by kernel_rfl) (by kernel_rfl)
      · refine CodeOk.ifF hc11 (by kernel_rfl) ?_
        refine CodeOk.cutR (tl 26 [(0, V.int a0), (3, V.int a0), (10, V.bool (a0 == 5))]) [] mix (by
            refine W.run D_ok 2 100 (by kernel_rfl) ?_
            exact W.fin (by decide) (by kernel_rfl) (Weak.sel [] [0, 3, 10] (by kernel_rfl) (by kernel_rfl) (by kernel_rfl))
            ) ?_
        rcases cond_some h with ⟨hc12, h⟩ | ⟨hc12, h⟩
        · refine CodeOk.ifT hc12 (by kernel_rfl) ?_
          refine CodeOk.cutR (tl 26 [(2, V.str [114])]) [] mix (by
              refine W.run D_ok 1 100 (by kernel_rfl) ?_
              exact W.fin (by decide) (by kernel_rfl) (Weak.sel [] [2] (by kernel_rfl) (by kernel_rfl) (by kernel_rfl))
              ) ?_
          refine CodeOk.ret ?_
          have h := Option.some.inj h
          subst h
          exact Ends.gen [] (.inr rfl) (RetV.one rfl (OneR.tmp (t := 2) (r := V.str [114]) (by kernel_rfl))) (by kernel_rfl) (by kernel_rfl) (by kernel_rfl)
        · refine CodeOk.ifF hc12 (by kernel_rfl) ?_
          refine CodeOk.cutR (tl 26 [(0, V.int a0), (3, V.int a0), (12, V.bool (a0 == 6))]) [] mix (by
              refine W.run D_ok 2 100 (by kernel_rfl) ?_
              exact W.fin (by decide) (by kernel_rfl) (Weak.sel [] [0, 3, 12] (by kernel_rfl) (by kernel_rfl) (by kernel_rfl))
              ) ?_
          rcases cond_some h with ⟨hc13, h⟩ | ⟨hc13, h⟩
          · refine CodeOk.ifT hc13 (by kernel_rfl) ?_
            refine CodeOk.cutR (tl 26 [(2, V.str [110])]) [] mix (by
                refine W.run D_ok 1 100 (by kernel_rfl) ?_
                exact W.fin (by decide) (by kernel_rfl) (Weak.sel [] [2] (by kernel_rfl) (by kernel_rfl) (by kernel_rfl))
                ) ?_
            refine CodeOk.ret ?_
            have h := Option.some.inj h
            subst h
            exact Ends.gen [] (.inr rfl) (RetV.one rfl (OneR.tmp (t := 2) (r := V.str [110]) (by kernel_rfl))) (by kernel_rfl) (by kernel_rfl) (by kernel_rfl)
          · refine CodeOk.ifF hc13 (by kernel_rfl) ?_
            refine CodeOk.cutR (tl 26 [(0, V.int a0), (3, V.int a0), (14, V.bool (a0 == 7))]) [] mix (by
                refine W.run D_ok 2 100 (by kernel_rfl) ?_
                exact W.fin (by decide) (by kernel_rfl) (Weak.sel [] [0, 3, 14] (by kernel_rfl) (by kernel_rfl) (by kernel_rfl))
                ) ?_
            rcases cond_some h with ⟨hc14, h⟩ | ⟨hc14, h⟩
            · refine CodeOk.ifT hc14 (by kernel_rfl) ?_
              refine CodeOk.cutR (tl 26 [(2, V.str [102])]) [] mix (by
                  refine W.run D_ok 1 100 (by kernel_rfl) ?_
                  exact W.fin (by decide) (by kernel_rfl) (Weak.sel [] [2] (by kernel_rfl) (by kernel_rfl) (by kernel_rfl))
                  ) ?_
              refine CodeOk.ret ?_
              have h := Option.some.inj h
              subst h
              exact Ends.gen [] (.inr rfl) (RetV.one rfl (OneR.tmp (t := 2) (r := V.str [102]) (by kernel_rfl))) (by kernel_rfl) (by kernel_rfl) (by kernel_rfl)
            · refine CodeOk.ifF hc14 (by kernel_rfl) ?_
              refine CodeOk.cutR (tl 26 [(0, V.int a0), (3, V.int a0), (16, V.bool (a0 == 8))]) [] mix (by
                  refine W.run D_ok 2 100 (by kernel_rfl) ?_
                  exact W.fin (by decide) (by kernel_rfl) (Weak.sel [] [0, 3, 16] (by kernel_rfl) (by kernel_rfl) (by kernel_rfl))
                  ) ?_
              rcases cond_some h with ⟨hc15, h⟩ | ⟨hc15, h⟩
              · refine CodeOk.ifT hc15 (by kernel_rfl) ?_
                refine CodeOk.cutR (tl 26 [(2, V.str [98])]) [] mix (by
                    refine W.run D_ok 1 100 (by kernel_rfl) ?_
                    exact W.fin (by decide) (by kernel_rfl) (Weak.sel [] [2] (by kernel_rfl) (by kernel_rfl) (by kernel_rfl))
                    ) ?_
                refine CodeOk.ret ?_
                have h := Option.some.inj h
                subst h
                exact Ends.gen [] (.inr rfl) (RetV.one rfl (OneR.tmp (t := 2) (r := V.str [98]) (by kernel_rfl))) (by kernel_rfl) (by kernel_rfl) (by kernel_rfl)
              · refine CodeOk.ifF hc15 (by kernel_rfl) ?_
                refine CodeOk.cutR (tl 26 [(0, V.int a0), (18, V.bool (a0 == 1))]) [] mix (by
                    refine W.run D_ok 2 100 (by kernel_rfl) ?_
                    exact W.fin (by decide) (by kernel_rfl) (Weak.sel [] [0, 18] (by kernel_rfl) (by kernel_rfl) (by kernel_rfl))
                    ) ?_
                rcases cond_some h with ⟨hc16, h⟩ | ⟨hc16, h⟩
                · refine CodeOk.ifT hc16 (by kernel_rfl) ?_
                  refine CodeOk.cutR (tl 26 [(2, V.str [46])]) [] mix (by
                      refine W.run D_ok 1 100 (by kernel_rfl) ?_
                      exact W.fin (by decide) (by kernel_rfl) (Weak.sel [] [2] (by kernel_rfl) (by kernel_rfl) (by kernel_rfl))
                      ) ?_
                  refine CodeOk.ret ?_
                  have h := Option.some.inj h
                  subst h
                  exact Ends.gen [] (.inr rfl) (RetV.one rfl (OneR.tmp (t := 2) (r := V.str [46]) (by kernel_rfl))) (by kernel_rfl) (by kernel_rfl) (by kernel_rfl)
                · refine CodeOk.ifF hc16 (by kernel_rfl) ?_
                  refine CodeOk.skip ?_
                  refine CodeOk.weak (st' := ⟨tl 26 [(0, V.int a0), (18, V.bool (a0 == 1))], []⟩) (Weak.refl _) ?_
                  refine CodeOk.seq' ?_
                  refine CodeOk.block' ?_
                  obtain ⟨r6, hx24, h⟩ := bind_some h
                  refine CodeOk.cutR (tl 26 [(0, V.int a0), (20, V.bool r6)]) [] mix (by
                      refine W.run D_ok 1 100 (by kernel_rfl) ?_
                      refine W.call0 (m_impl_isKeywordKind_ok a0 hx24) cok53 rfl (by kernel_rfl) ?_
                      refine W.run D_ok 1 100 (by kernel_rfl) ?_
                      exact W.fin (by decide) (by kernel_rfl) (Weak.sel [] [0, 20] (by kernel_rfl) (by kernel_rfl) (by kernel_rfl))
                      ) ?_
                  rcases cond_some h with ⟨hc25, h⟩ | ⟨hc25, h⟩
                  · refine CodeOk.ifT hc25 (by kernel_rfl) ?_
                    refine CodeOk.cutR (tl 26 [(2, V.str [107])]) [] mix (by
                        refine W.run D_ok 1 100 (by kernel_rfl) ?_
                        exact W.fin (by decide) (by kernel_rfl) (Weak.sel [] [2] (by kernel_rfl) (by kernel_rfl) (by kernel_rfl))
                        ) ?_
                    refine CodeOk.ret ?_
                    have h := Option.some.inj h
                    subst h
                    exact Ends.gen [] (.inr rfl) (RetV.one rfl (OneR.tmp (t := 2) (r := V.str [107]) (by kernel_rfl))) (by kernel_rfl) (by kernel_rfl) (by kernel_rfl)
                  · refine CodeOk.ifF hc25 (by kernel_rfl) ?_
                    obtain ⟨r8, hx27, h⟩ := bind_some h
                    refine CodeOk.cutR (tl 26 [(23, V.bool r8)]) [] mix (by
                        refine W.run D_ok 1 100 (by kernel_rfl) ?_
                        refine W.call0 (m_impl_isSignKind_ok a0 hx27) cok54 rfl (by kernel_rfl) ?_
                        refine W.run D_ok 1 100 (by kernel_rfl) ?_
                        exact W.fin (by decide) (by kernel_rfl) (Weak.sel [] [23] (by kernel_rfl) (by kernel_rfl) (by kernel_rfl))
                        ) ?_
                    rcases cond_some h with ⟨hc28, h⟩ | ⟨hc28, h⟩
                    · refine CodeOk.ifT hc28 (by kernel_rfl) ?_
                      refine CodeOk.cutR (tl 26 [(2, V.str [111])]) [] mix (by
                          refine W.run D_ok 1 100 (by kernel_rfl) ?_
                          exact W.fin (by decide) (by kernel_rfl) (Weak.sel [] [2] (by kernel_rfl) (by kernel_rfl) (by kernel_rfl))
                          ) ?_
                      refine CodeOk.ret ?_
                      have h := Option.some.inj h
                      subst h
                      exact Ends.gen [] (.inr rfl) (RetV.one rfl (OneR.tmp (t := 2) (r := V.str [111]) (by kernel_rfl))) (by kernel_rfl) (by kernel_rfl) (by kernel_rfl)
                    · refine CodeOk.ifF hc28 (by kernel_rfl) ?_
                      refine CodeOk.skip ?_
                      refine CodeOk.weak (st' := ⟨tl 26 [(23, V.bool r8)], []⟩) (Weak.refl _) ?_
                      refine CodeOk.cutR (tl 26 [(2, V.str [])]) [] mix (by
                          refine W.run D_ok 1 100 (by kernel_rfl) ?_
                          exact W.fin (by decide) (by kernel_rfl) (Weak.sel [] [2] (by kernel_rfl) (by kernel_rfl) (by kernel_rfl))
                          ) ?_
                      refine CodeOk.ret ?_
                      have h := Option.some.inj h
                      subst h
                      exact Ends.gen [] (.inr rfl) (RetV.one rfl (OneR.tmp (t := 2) (r := V.str []) (by kernel_rfl))) (by kernel_rfl) (by kernel_rfl) (by kernel_rfl)

theorem m_impl_Classes_ok (N : Nat) (a0 : List UInt8) {r : ((List UInt8) × Bool)} (h : m_impl_Classes N a0 = some r) :
    AC Tryd.prog (GS [0, 1, 6]) 20 [V.str a0] [] (.tup [V.str r.1, V.bool r.2]) [] := by
  rw [m_impl_Classes] at h
  refine AC.enter Tryd.func20 rfl ?_
  refine CodeOk.cutR (tl 57 [(0, V.str a0)]) [] mix (by
      refine W.run D_ok 2 100 (by kernel_rfl) ?_
      exact W.fin (by decide) (by kernel_rfl) (Weak.sel [] [0] (by kernel_rfl) (by kernel_rfl) (by kernel_rfl))
      ) ?_
  obtain ⟨r2, hx2, h⟩ := bind_some h
  refine CodeOk.cutR (tl 57 [(0, V.str a0), (4, .own 100), (5, .loc 101 0)]) [(101, .cells 36 [V.int r2.2.Kind, V.int r2.2.At]), (100, .vec false 45 3 (r2.1.map encSToken))] mix (by
      refine W.run D_ok 1 100 (by kernel_rfl) ?_
      refine W.call (m_impl_Lex_ok N a0 hx2) cok39 [] [(100, 100)] [100] (show LayOk _ [] from trivial) (by kernel_rfl) (by kernel_rfl) ?_
      refine W.run D_ok 6 101 (by kernel_rfl) ?_
      exact W.fin (by decide) (by kernel_rfl) (Weak.sel [(101, 101), (100, 100)] [0, 4, 5] (by kernel_rfl) (by kernel_rfl) (by kernel_rfl))
      ) ?_
  refine CodeOk.seq' ?_
  refine CodeOk.cutR (tl 57 [(0, V.str a0), (4, .own 100), (18, V.bool (!((r2.2.Kind == 0) && ((r2.2.At == 0) && true))))]) [(100, .vec false 45 3 (r2.1.map encSToken))] mix (by
      refine W.run D_ok 3 102 (by kernel_rfl) ?_
      exact W.fin (by decide) (by kernel_rfl) (Weak.sel [(100, 100)] [0, 4, 18] (by kernel_rfl) (by kernel_rfl) (by kernel_rfl))
      ) ?_
  rcases cond_some h with ⟨hc4, h⟩ | ⟨hc4, h⟩
  · refine CodeOk.ifT hc4 (by kernel_rfl) ?_
    refine CodeOk.cutR (tl 57 [(2, V.str []), (3, V.bool false)]) [] mix (by
        refine W.run D_ok 2 102 (by kernel_rfl) ?_
        exact W.fin (by decide) (by kernel_rfl) (Weak.sel [] [2, 3] (by kernel_rfl) (by kernel_rfl) (by kernel_rfl))
        ) ?_
    refine CodeOk.ret ?_
    have h := Option.some.inj h
    subst h
    exact Ends.gen [] (.inr rfl) (RetV.two rfl (OneR.tmp (t := 2) (r := V.str []) (by kernel_rfl)) (OneR.tmp (t := 3) (r := V.bool false) (by kernel_rfl))) (by kernel_rfl) (by kernel_rfl) (by kernel_rfl)
  · refine CodeOk.ifF hc4 (by kernel_rfl) ?_
    refine CodeOk.skip ?_
    refine CodeOk.weak (st' := ⟨tl 57 [(0, V.str a0), (4, .own 100), (18, V.bool (!((r2.2.Kind == 0) && ((r2.2.At == 0) && true))))], [(100, .vec false 45 3 (r2.1.map encSToken))]⟩) (Weak.refl _) ?_
    obtain ⟨x4, hx6, h⟩ := bind_some h
    refine CodeOk.cutR (tl 57 [(4, .own 100), (6, .own 102)]) [(102, .vec false 5 1 (x4.map byteRow)), (100, .vec false 45 3 (r2.1.map encSToken))] mix (by
        refine W.run D_ok 2 102 (by kernel_rfl) ?_
        refine W.mk D_ok byteRow 1 hx6 102 5 1 [.int .u8 0] (by kernel_rfl) (by kernel_rfl) ?_
        refine W.run D_ok 1 103 (by kernel_rfl) ?_
        exact W.fin (by decide) (by kernel_rfl) (Weak.sel [(102, 102), (100, 100)] [4, 6] (by kernel_rfl) (by kernel_rfl) (by kernel_rfl))
        ) ?_
    refine CodeOk.seq' ?_
    refine CodeOk.cutR (tl 57 [(4, .own 100), (6, .own 102), (23, V.int (x4.length : Int)), (24, V.int 0)]) [(102, .vec false 5 1 (x4.map byteRow)), (100, .vec false 45 3 (r2.1.map encSToken))] mix (by
        refine W.run D_ok 1 103 (by kernel_rfl) ?_
        refine W.len D_ok byteRow x4 [102] (by kernel_rfl) (by kernel_rfl) ?_
        refine W.run D_ok 1 103 (by kernel_rfl) ?_
        exact W.fin (by decide) (by kernel_rfl) (Weak.sel [(102, 102), (100, 100)] [4, 6, 23, 24] (by kernel_rfl) (by kernel_rfl) (by kernel_rfl))
        ) ?_
    refine CodeOk.block' ?_
    refine CodeOk.loopJ (fun (⟨x4, r2, y41, y42⟩ : ((List UInt8) × ((List SToken) × SFault) × Int × (List UInt8))) => ⟨tl 57 [(4, .own 100), (6, .own 101), (23, V.int (x4.length : Int)), (24, V.int y41)], [(100, .vec false 45 3 (r2.1.map encSToken)), (101, .vec false 5 1 (y42.map byteRow))]⟩) (fun n i => m_impl_Classes_l1 N n i = some r) (n0 := N) (i0 := (x4, r2, 0, x4)) (Weak.sel [(100, 100), (102, 101)] [4, 6, 23, 24] (by kernel_rfl) (by kernel_rfl) (by kernel_rfl)) h (fun i h => by simp [m_impl_Classes_l1] at h) ?_
    rintro n1 ⟨x4, r2, y41, y42⟩ h59 ih60
    rw [m_impl_Classes_l1] at h59
    refine CodeOk.cutR (tl 57 [(4, .own 100), (6, .own 101), (23, V.int (x4.length : Int)), (24, V.int y41), (25, V.bool (decide (y41 < (x4.length : Int))))]) [(100, .vec false 45 3 (r2.1.map encSToken)), (101, .vec false 5 1 (y42.map byteRow))] mix (by
        refine W.run D_ok 1 163 (by kernel_rfl) ?_
        exact W.fin (by decide) (by kernel_rfl) (Weak.sel [(100, 100), (101, 101)] [4, 6, 23, 24, 25] (by kernel_rfl) (by kernel_rfl) (by kernel_rfl))
        ) ?_
    refine CodeOk.seq' ?_
    rcases cond_some h59 with ⟨hc62, h59⟩ | ⟨hc62, h59⟩
    · refine CodeOk.ifT hc62 (by kernel_rfl) ?_
      refine CodeOk.skip ?_
      refine CodeOk.weak (st' := ⟨tl 57 [(4, .own 100), (6, .own 101), (23, V.int (x4.length : Int)), (24, V.int y41), (25, V.bool (decide (y41 < (x4.length : Int))))], [(100, .vec false 45 3 (r2.1.map encSToken)), (101, .vec false 5 1 (y42.map byteRow))]⟩) (Weak.refl _) ?_
      refine CodeOk.seq' ?_
      refine CodeOk.block' ?_
      refine CodeOk.cutR (tl 57 [(4, .own 100), (6, .own 101), (7, V.int y41), (23, V.int (x4.length : Int)), (24, V.int y41)]) [(100, .vec false 45 3 (r2.1.map encSToken)), (101, .vec false 5 1 (y42.map byteRow))] mix (by
          refine W.run D_ok 2 163 (by kernel_rfl) ?_
          exact W.fin (by decide) (by kernel_rfl) (Weak.sel [(100, 100), (101, 101)] [4, 6, 7, 23, 24] (by kernel_rfl) (by kernel_rfl) (by kernel_rfl))
          ) ?_
      obtain ⟨e59, hx69, h59⟩ := bind_some h59
      obtain ⟨x60, hu70, h59⟩ := bind_some h59
      refine CodeOk.endR (tl 57 [(4, .own 100), (6, .own 101), (23, V.int (x4.length : Int)), (24, V.int y41)]) [(101, .vec false 5 1 (x60.map byteRow)), (100, .vec false 45 3 (r2.1.map encSToken))] mix (by
          refine W.run D_ok 2 163 (by kernel_rfl) ?_
          refine W.ixO D_ok byteRow hx69 101 1 (by kernel_rfl) ?_
          refine W.stO D_ok byteRow (x' := 46) hx69 hu70 (j := 101) (nn := false) (ety := 5) (sz := 1) (b := 0) (ys := [.c (.int .u8 46)]) (C := []) (R := []) (by kernel_rfl) (by kernel_rfl) ?_
          exact W.fin (by decide) (by kernel_rfl) (Weak.sel [(101, 101), (100, 100)] [4, 6, 23, 24] (by kernel_rfl) (by kernel_rfl) (by kernel_rfl))
          ) (fun st hw => ?_)
      refine CodeOk.weak (st' := ⟨tl 57 [(4, .own 100), (6, .own 101), (23, V.int (x4.length : Int)), (24, V.int y41)], [(101, .vec false 5 1 (x60.map byteRow)), (100, .vec false 45 3 (r2.1.map encSToken))]⟩) hw ?_
      refine CodeOk.endR (tl 57 [(4, .own 100), (6, .own 101), (23, V.int (x4.length : Int)), (24, V.int (IntKind.wrap .i64 (y41 + 1)))]) [(101, .vec false 5 1 (x60.map byteRow)), (100, .vec false 45 3 (r2.1.map encSToken))] mix (by
          refine W.run D_ok 2 163 (by kernel_rfl) ?_
          exact W.fin (by decide) (by kernel_rfl) (Weak.sel [(101, 101), (100, 100)] [4, 6, 23, 24] (by kernel_rfl) (by kernel_rfl) (by kernel_rfl))
          ) (fun st hw => ?_)
      exact ih60 (x4, r2, (IntKind.wrap .i64 (y41 + 1)), x60) h59 _ (hw.trans (Weak.sel [(100, 100), (101, 101)] [4, 6, 23, 24] (by kernel_rfl) (by kernel_rfl) (by kernel_rfl)))
    · refine CodeOk.ifF hc62 (by kernel_rfl) ?_
      refine CodeOk.exit ?_
      refine CodeOk.weak (st' := ⟨tl 57 [(4, .own 100), (6, .own 101), (23, V.int (x4.length : Int)), (24, V.int y41), (25, V.bool (decide (y41 < (x4.length : Int))))], [(100, .vec false 45 3 (r2.1.map encSToken)), (101, .vec false 5 1 (y42.map byteRow))]⟩) (Weak.refl _) ?_
      refine CodeOk.seq' ?_
      refine CodeOk.cutR (tl 57 [(6, .own 101), (31, .own 100), (32, V.int (r2.1.length : Int)), (33, V.int 0)]) [(100, .vec false 45 3 (r2.1.map encSToken)), (101, .vec false 5 1 (y42.map byteRow))] mix (by
          refine W.run D_ok 1 163 (by kernel_rfl) ?_
          refine W.len D_ok encSToken r2.1 [100] (by kernel_rfl) (by kernel_rfl) ?_
          refine W.run D_ok 1 163 (by kernel_rfl) ?_
          exact W.fin (by decide) (by kernel_rfl) (Weak.sel [(100, 100), (101, 101)] [6, 31, 32, 33] (by kernel_rfl) (by kernel_rfl) (by kernel_rfl))
          ) ?_
      refine CodeOk.block' ?_
      refine CodeOk.loopJ (fun (⟨r2, y497, y498⟩ : (((List SToken) × SFault) × Int × (List UInt8))) => ⟨tl 57 [(6, .own 100), (31, .own 101), (32, V.int (r2.1.length : Int)), (33, V.int y497)], [(100, .vec false 5 1 (y498.map byteRow)), (101, .vec false 45 3 (r2.1.map encSToken))]⟩) (fun n i => m_impl_Classes_l2 N (m_impl_Classes_l1 N n1) n i = some r) (n0 := N) (i0 := (r2, 0, y42)) (Weak.sel [(101, 100), (100, 101)] [6, 31, 32, 33] (by kernel_rfl) (by kernel_rfl) (by kernel_rfl)) h59 (fun i h => by simp [m_impl_Classes_l2] at h) ?_
      rintro n2 ⟨r2, y497, y498⟩ h663 ih664
      rw [m_impl_Classes_l2] at h663
      refine CodeOk.cutR (tl 57 [(6, .own 100), (31, .own 101), (32, V.int (r2.1.length : Int)), (33, V.int y497), (34, V.bool (decide (y497 < (r2.1.length : Int))))]) [(100, .vec false 5 1 (y498.map byteRow)), (101, .vec false 45 3 (r2.1.map encSToken))] mix (by
          refine W.run D_ok 1 345 (by kernel_rfl) ?_
          exact W.fin (by decide) (by kernel_rfl) (Weak.sel [(100, 100), (101, 101)] [6, 31, 32, 33, 34] (by kernel_rfl) (by kernel_rfl) (by kernel_rfl))
          ) ?_
      refine CodeOk.seq' ?_
      rcases cond_some h663 with ⟨hc666, h663⟩ | ⟨hc666, h663⟩
      · refine CodeOk.ifT hc666 (by kernel_rfl) ?_
        refine CodeOk.skip ?_
        refine CodeOk.weak (st' := ⟨tl 57 [(6, .own 100), (31, .own 101), (32, V.int (r2.1.length : Int)), (33, V.int y497), (34, V.bool (decide (y497 < (r2.1.length : Int))))], [(100, .vec false 5 1 (y498.map byteRow)), (101, .vec false 45 3 (r2.1.map encSToken))]⟩) (Weak.refl _) ?_
        refine CodeOk.seq' ?_
        refine CodeOk.block' ?_
        obtain ⟨e664, hx726, h663⟩ := bind_some h663
        refine CodeOk.cutR (tl 57 [(6, .own 100), (9, .loc 345 0), (31, .own 101), (32, V.int (r2.1.length : Int)), (33, V.int y497)]) [(345, .cells 45 [V.int e664.Kind, V.str e664.Text, V.int e664.At]), (100, .vec false 5 1 (y498.map byteRow)), (101, .vec false 45 3 (r2.1.map encSToken))] mix (by
            refine W.ixO D_ok encSToken hx726 101 3 (by kernel_rfl) ?_
            refine W.ldO D_ok encSToken hx726 45 101 0 (.agg [V.int e664.Kind, V.str e664.Text, V.int e664.At]) (by kernel_rfl) (by kernel_rfl) ?_
            refine W.run D_ok 2 345 (by kernel_rfl) ?_
            exact W.fin (by decide) (by kernel_rfl) (Weak.sel [(345, 345), (100, 100), (101, 101)] [6, 9, 31, 32, 33] (by kernel_rfl) (by kernel_rfl) (by kernel_rfl))
            ) ?_
        refine CodeOk.cutR (tl 57 [(6, .own 100), (9, .loc 345 0), (31, .own 101), (32, V.int (r2.1.length : Int)), (33, V.int y497), (39, V.int (e664.Text.length : Int)), (40, V.int 0)]) [(345, .cells 45 [V.int e664.Kind, V.str e664.Text, V.int e664.At]), (100, .vec false 5 1 (y498.map byteRow)), (101, .vec false 45 3 (r2.1.map encSToken))] mix (by
            refine W.run D_ok 4 346 (by kernel_rfl) ?_
            exact W.fin (by decide) (by kernel_rfl) (Weak.sel [(345, 345), (100, 100), (101, 101)] [6, 9, 31, 32, 33, 39, 40] (by kernel_rfl) (by kernel_rfl) (by kernel_rfl))
            ) ?_
        refine CodeOk.block' ?_
        refine CodeOk.loopJ (fun (⟨r2, y497, e664, y681, y682⟩ : (((List SToken) × SFault) × Int × SToken × Int × (List UInt8))) => ⟨tl 57 [(6, .own 100), (9, .loc 101 0), (31, .own 102), (32, V.int (r2.1.length : Int)), (33, V.int y497), (39, V.int (e664.Text.length : Int)), (40, V.int y681)], [(100, .vec false 5 1 (y682.map byteRow)), (101, .cells 45 [V.int e664.Kind, V.str e664.Text, V.int e664.At]), (102, .vec false 45 3 (r2.1.map encSToken))]⟩) (fun n i => m_impl_Classes_l3 N (m_impl_Classes_l1 N n1) (m_impl_Classes_l2 N (m_impl_Classes_l1 N n1) n2) n i = some r) (n0 := N) (i0 := (r2, y497, e664, 0, y498)) (Weak.sel [(100, 100), (345, 101), (101, 102)] [6, 9, 31, 32, 33, 39, 40] (by kernel_rfl) (by kernel_rfl) (by kernel_rfl)) h663 (fun i h => by simp [m_impl_Classes_l3] at h) ?_
        rintro n3 ⟨r2, y497, e664, y681, y682⟩ h763 ih764
        rw [m_impl_Classes_l3] at h763
        refine CodeOk.cutR (tl 57 [(6, .own 100), (9, .loc 101 0), (31, .own 102), (32, V.int (r2.1.length : Int)), (33, V.int y497), (39, V.int (e664.Text.length : Int)), (40, V.int y681), (41, V.bool (decide (y681 < (e664.Text.length : Int))))]) [(100, .vec false 5 1 (y682.map byteRow)), (101, .cells 45 [V.int e664.Kind, V.str e664.Text, V.int e664.At]), (102, .vec false 45 3 (r2.1.map encSToken))] mix (by
            refine W.run D_ok 1 406 (by kernel_rfl) ?_
            exact W.fin (by decide) (by kernel_rfl) (Weak.sel [(100, 100), (101, 101), (102, 102)] [6, 9, 31, 32, 33, 39, 40, 41] (by kernel_rfl) (by kernel_rfl) (by kernel_rfl))
            ) ?_
        refine CodeOk.seq' ?_
        rcases cond_some h763 with ⟨hc766, h763⟩ | ⟨hc766, h763⟩
        · refine CodeOk.ifT hc766 (by kernel_rfl) ?_
          refine CodeOk.skip ?_
          refine CodeOk.weak (st' := ⟨tl 57 [(6, .own 100), (9, .loc 101 0), (31, .own 102), (32, V.int (r2.1.length : Int)), (33, V.int y497), (39, V.int (e664.Text.length : Int)), (40, V.int y681), (41, V.bool (decide (y681 < (e664.Text.length : Int))))], [(100, .vec false 5 1 (y682.map byteRow)), (101, .cells 45 [V.int e664.Kind, V.str e664.Text, V.int e664.At]), (102, .vec false 45 3 (r2.1.map encSToken))]⟩) (Weak.refl _) ?_
          refine CodeOk.seq' ?_
          refine CodeOk.block' ?_
          refine CodeOk.cutR (tl 57 [(6, .own 100), (9, .loc 101 0), (10, V.int y681), (31, .own 102), (32, V.int (r2.1.length : Int)), (33, V.int y497), (39, V.int (e664.Text.length : Int)), (40, V.int y681)]) [(100, .vec false 5 1 (y682.map byteRow)), (101, .cells 45 [V.int e664.Kind, V.str e664.Text, V.int e664.At]), (102, .vec false 45 3 (r2.1.map encSToken))] mix (by
              refine W.run D_ok 2 406 (by kernel_rfl) ?_
              exact W.fin (by decide) (by kernel_rfl) (Weak.sel [(100, 100), (101, 101), (102, 102)] [6, 9, 10, 31, 32, 33, 39, 40] (by kernel_rfl) (by kernel_rfl) (by kernel_rfl))
              ) ?_
          obtain ⟨r713, hx779, h763⟩ := bind_some h763
          obtain ⟨b714, hx780, h763⟩ := bind_some h763
          obtain ⟨e715, hx781, h763⟩ := bind_some h763
          obtain ⟨x716, hu782, h763⟩ := bind_some h763
          refine CodeOk.endR (tl 57 [(6, .own 100), (9, .loc 101 0), (31, .own 102), (32, V.int (r2.1.length : Int)), (33, V.int y497), (39, V.int (e664.Text.length : Int)), (40, V.int y681)]) [(100, .vec false 5 1 (x716.map byteRow)), (101, .cells 45 [V.int e664.Kind, V.str e664.Text, V.int e664.At]), (102, .vec false 45 3 (r2.1.map encSToken))] mix (by
              refine W.run D_ok 7 406 (by kernel_rfl) ?_
              refine W.call0 (AC.gs (m_impl_ClassOf_ok e664.Kind hx779) (by decide)) cok40 rfl (by kernel_rfl) ?_
              refine W.ixS D_ok hx780 (by kernel_rfl) ?_
              refine W.ixO D_ok byteRow hx781 100 1 (by kernel_rfl) ?_
              refine W.stO D_ok byteRow (x' := b714) hx781 hu782 (j := 100) (nn := false) (ety := 5) (sz := 1) (b := 0) (ys := [.c (.int .u8 ((b714).toNat : Int))]) (C := []) (R := []) (by kernel_rfl) (by kernel_rfl) ?_
              exact W.fin (by decide) (by kernel_rfl) (Weak.sel [(100, 100), (101, 101), (102, 102)] [6, 9, 31, 32, 33, 39, 40] (by kernel_rfl) (by kernel_rfl) (by kernel_rfl))
              ) (fun st hw => ?_)
          refine CodeOk.weak (st' := ⟨tl 57 [(6, .own 100), (9, .loc 101 0), (31, .own 102), (32, V.int (r2.1.length : Int)), (33, V.int y497), (39, V.int (e664.Text.length : Int)), (40, V.int y681)], [(100, .vec false 5 1 (x716.map byteRow)), (101, .cells 45 [V.int e664.Kind, V.str e664.Text, V.int e664.At]), (102, .vec false 45 3 (r2.1.map encSToken))]⟩) hw ?_
          refine CodeOk.endR (tl 57 [(6, .own 100), (9, .loc 101 0), (31, .own 102), (32, V.int (r2.1.length : Int)), (33, V.int y497), (39, V.int (e664.Text.length : Int)), (40, V.int (IntKind.wrap .i64 (y681 + 1)))]) [(100, .vec false 5 1 (x716.map byteRow)), (101, .cells 45 [V.int e664.Kind, V.str e664.Text, V.int e664.At]), (102, .vec false 45 3 (r2.1.map encSToken))] mix (by
              refine W.run D_ok 2 406 (by kernel_rfl) ?_
              exact W.fin (by decide) (by kernel_rfl) (Weak.sel [(100, 100), (101, 101), (102, 102)] [6, 9, 31, 32, 33, 39, 40] (by kernel_rfl) (by kernel_rfl) (by kernel_rfl))
              ) (fun st hw => ?_)
          exact ih764 (r2, y497, e664, (IntKind.wrap .i64 (y681 + 1)), x716) h763 _ (hw.trans (Weak.sel [(100, 100), (101, 101), (102, 102)] [6, 9, 31, 32, 33, 39, 40] (by kernel_rfl) (by kernel_rfl) (by kernel_rfl)))
        · refine CodeOk.ifF hc766 (by kernel_rfl) ?_
          refine CodeOk.exit ?_
          refine CodeOk.weak (st' := ⟨tl 57 [(6, .own 100), (9, .loc 101 0), (31, .own 102), (32, V.int (r2.1.length : Int)), (33, V.int y497), (39, V.int (e664.Text.length : Int)), (40, V.int y681), (41, V.bool (decide (y681 < (e664.Text.length : Int))))], [(100, .vec false 5 1 (y682.map byteRow)), (101, .cells 45 [V.int e664.Kind, V.str e664.Text, V.int e664.At]), (102, .vec false 45 3 (r2.1.map encSToken))]⟩) (Weak.refl _) ?_
          refine CodeOk.endR (tl 57 [(6, .own 100), (31, .own 102), (32, V.int (r2.1.length : Int)), (33, V.int (IntKind.wrap .i64 (y497 + 1)))]) [(100, .vec false 5 1 (y682.map byteRow)), (102, .vec false 45 3 (r2.1.map encSToken))] mix (by
              refine W.run D_ok 2 406 (by kernel_rfl) ?_
              exact W.fin (by decide) (by kernel_rfl) (Weak.sel [(100, 100), (102, 102)] [6, 31, 32, 33] (by kernel_rfl) (by kernel_rfl) (by kernel_rfl))
              ) (fun st hw => ?_)
          exact ih664 (r2, (IntKind.wrap .i64 (y497 + 1)), y682) h763 _ (hw.trans (Weak.sel [(100, 100), (102, 101)] [6, 31, 32, 33] (by kernel_rfl) (by kernel_rfl) (by kernel_rfl)))
      · refine CodeOk.ifF hc666 (by kernel_rfl) ?_
        refine CodeOk.exit ?_
        refine CodeOk.weak (st' := ⟨tl 57 [(6, .own 100), (31, .own 101), (32, V.int (r2.1.length : Int)), (33, V.int y497), (34, V.bool (decide (y497 < (r2.1.length : Int))))], [(100, .vec false 5 1 (y498.map byteRow)), (101, .vec false 45 3 (r2.1.map encSToken))]⟩) (Weak.refl _) ?_
        refine CodeOk.cutR (tl 57 [(2, V.str y498), (3, V.bool true)]) [] mix (by
            refine W.run D_ok 1 345 (by kernel_rfl) ?_
            refine W.strO D_ok y498 (a := 100) (by kernel_rfl) ?_
            refine W.run D_ok 2 345 (by kernel_rfl) ?_
            exact W.fin (by decide) (by kernel_rfl) (Weak.sel [] [2, 3] (by kernel_rfl) (by kernel_rfl) (by kernel_rfl))
            ) ?_
        refine CodeOk.ret ?_
        have h663 := Option.some.inj h663
        subst h663
        exact Ends.gen [] (.inr rfl) (RetV.two rfl (OneR.tmp (t := 2) (r := V.str y498) (by kernel_rfl)) (OneR.tmp (t := 3) (r := V.bool true) (by kernel_rfl))) (by kernel_rfl) (by kernel_rfl) (by kernel_rfl)

theorem m_laws_FnExactClasses_ok (N : Nat) (a0 : List UInt8) {r : Bool} (h : m_laws_FnExactClasses N a0 = some r) :
    AC Tryd.prog (GS [0, 1, 6]) 6 [V.str a0] [] (V.bool r) [] := by
  rw [m_laws_FnExactClasses] at h
  refine AC.enter Tryd.func6 rfl ?_
  refine CodeOk.cutR (tl 28 [(0, V.str a0)]) [] mix (by
      refine W.run D_ok 1 100 (by kernel_rfl) ?_
      exact W.fin (by decide) (by kernel_rfl) (Weak.sel [] [0] (by kernel_rfl) (by kernel_rfl) (by kernel_rfl))
      ) ?_
  refine CodeOk.seq' ?_
  refine CodeOk.cutR (tl 28 [(0, V.str a0), (9, V.bool (decide ((a0.length : Int) > 1048576)))]) [] mix (by
      refine W.run D_ok 3 100 (by kernel_rfl) ?_
      exact W.fin (by decide) (by kernel_rfl) (Weak.sel [] [0, 9] (by kernel_rfl) (by kernel_rfl) (by kernel_rfl))
      ) ?_
  rcases cond_some h with ⟨hc2, h⟩ | ⟨hc2, h⟩
  · refine CodeOk.ifT hc2 (by kernel_rfl) ?_
    refine CodeOk.cutR (tl 28 [(2, V.bool true)]) [] mix (by
        refine W.run D_ok 1 100 (by kernel_rfl) ?_
        exact W.fin (by decide) (by kernel_rfl) (Weak.sel [] [2] (by kernel_rfl) (by kernel_rfl) (by kernel_rfl))
        ) ?_
    refine CodeOk.ret ?_
    have h := Option.some.inj h
    subst h
    exact Ends.gen [] (.inr rfl) (RetV.one rfl (OneR.tmp (t := 2) (r := V.bool true) (by kernel_rfl))) (by kernel_rfl) (by kernel_rfl) (by kernel_rfl)
  · refine CodeOk.ifF hc2 (by kernel_rfl) ?_
    refine CodeOk.skip ?_
    refine CodeOk.weak (st' := ⟨tl 28 [(0, V.str a0), (9, V.bool (decide ((a0.length : Int) > 1048576)))], []⟩) (Weak.refl _) ?_
    obtain ⟨r2, hx4, h⟩ := bind_some h
    refine CodeOk.cutR (tl 28 [(0, V.str a0), (3, V.str r2.1), (4, V.bool r2.2)]) [] mix (by
        refine W.run D_ok 1 100 (by kernel_rfl) ?_
        refine W.call0 (AC.gs (m_spec_Classes_ok N a0 hx4) (by decide)) cok19 rfl (by kernel_rfl) ?_
        refine W.run D_ok 5 100 (by kernel_rfl) ?_
        exact W.fin (by decide) (by kernel_rfl) (Weak.sel [] [0, 3, 4] (by kernel_rfl) (by kernel_rfl) (by kernel_rfl))
        ) ?_
    obtain ⟨r4, hx6, h⟩ := bind_some h
    refine CodeOk.cutR (tl 28 [(3, V.str r2.1), (4, V.bool r2.2), (5, V.str r4.1), (6, V.bool r4.2)]) [] mix (by
        refine W.run D_ok 1 100 (by kernel_rfl) ?_
        refine W.call0 (m_impl_Classes_ok N a0 hx6) cok20 rfl (by kernel_rfl) ?_
        refine W.run D_ok 5 100 (by kernel_rfl) ?_
        exact W.fin (by decide) (by kernel_rfl) (Weak.sel [] [3, 4, 5, 6] (by kernel_rfl) (by kernel_rfl) (by kernel_rfl))
        ) ?_
    refine CodeOk.seq' ?_
    obtain ⟨y6, hv12, h⟩ := bind_some h
    refine CodeOk.cutR (tl 28 [(27, V.bool y6)]) [] mix (by
        refine W.run D_ok 4 100 (by kernel_rfl) ?_
        rcases cond_some hv12 with ⟨hc13, hv12⟩ | ⟨hc13, hv12⟩
        · refine W.is 23 hc13 (by kernel_rfl) ?_
          refine W.run D_ok 4 100 (by kernel_rfl) ?_
          have hv12 := Option.some.inj hv12
          subst hv12
          exact W.fin (by decide) (by kernel_rfl) (Weak.sel [] [27] (by kernel_rfl) (by kernel_rfl) (by kernel_rfl))
        · refine W.is 23 hc13 (by kernel_rfl) ?_
          refine W.run D_ok 4 100 (by kernel_rfl) ?_
          have hv12 := Option.some.inj hv12
          subst hv12
          exact W.fin (by decide) (by kernel_rfl) (Weak.sel [] [27] (by kernel_rfl) (by kernel_rfl) (by kernel_rfl))
        ) ?_
    rcases cond_some h with ⟨hc14, h⟩ | ⟨hc14, h⟩
    · refine CodeOk.ifT hc14 (by kernel_rfl) ?_
      refine CodeOk.cutR (tl 28 [(2, V.bool false)]) [] mix (by
          refine W.run D_ok 1 100 (by kernel_rfl) ?_
          exact W.fin (by decide) (by kernel_rfl) (Weak.sel [] [2] (by kernel_rfl) (by kernel_rfl) (by kernel_rfl))
          ) ?_
      refine CodeOk.ret ?_
      have h := Option.some.inj h
      subst h
      exact Ends.gen [] (.inr rfl) (RetV.one rfl (OneR.tmp (t := 2) (r := V.bool false) (by kernel_rfl))) (by kernel_rfl) (by kernel_rfl) (by kernel_rfl)
    · refine CodeOk.ifF hc14 (by kernel_rfl) ?_
      refine CodeOk.skip ?_
      refine CodeOk.weak (st' := ⟨tl 28 [(27, V.bool y6)], []⟩) (Weak.refl _) ?_
      refine CodeOk.cutR (tl 28 [(2, V.bool true)]) [] mix (by
          refine W.run D_ok 1 100 (by kernel_rfl) ?_
          exact W.fin (by decide) (by kernel_rfl) (Weak.sel [] [2] (by kernel_rfl) (by kernel_rfl) (by kernel_rfl))
          ) ?_
      refine CodeOk.ret ?_
      have h := Option.some.inj h
      subst h
      exact Ends.gen [] (.inr rfl) (RetV.one rfl (OneR.tmp (t := 2) (r := V.bool true) (by kernel_rfl))) (by kernel_rfl) (by kernel_rfl) (by kernel_rfl)

end Go.Proofs.Tryd
