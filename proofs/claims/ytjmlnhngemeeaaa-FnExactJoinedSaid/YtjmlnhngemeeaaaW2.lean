/-
  The walks that show that the code computes the models, part 2.
-/
import Derived.Test.YtjmlnhngemeeaaaW1
namespace Go.Proofs.Try
open Go.Av
set_option maxRecDepth 100000

theorem m_spec_Softened_ok (N : Nat) (a0 : List SDNode) {r : (List SDNode)} (h : m_spec_Softened N a0 = some r) :
    AC Try.prog GG 31 [.sl false false (a0.map (encSDNode false))] [] (.own 100) [(100, .vec false 83 4 (r.map (encSDNode true)))] := by
  rw [m_spec_Softened] at h
  refine AC.enter Try.func31 rfl ?_
  refine CodeOk.cutR (tl 28 [(0, .sl false false (a0.map (encSDNode false)))]) [] mix (by
      refine W.run D_ok 1 100 (by kernel_rfl) ?_
      exact W.fin (by decide) (by kernel_rfl) (Weak.sel [] [0] (by kernel_rfl) (by kernel_rfl) (by kernel_rfl))
      ) ?_
  refine CodeOk.seq' ?_
  obtain ⟨r4, hx5, h⟩ := bind_some h
  refine CodeOk.cutR (tl 28 [(0, .sl false false (a0.map (encSDNode false))), (7, V.bool (!r4))]) [] mix (by
      refine W.run D_ok 1 100 (by kernel_rfl) ?_
      refine W.call0 (m_spec_DocOk_ok N a0 hx5) cok61 rfl (by kernel_rfl) ?_
      refine W.run D_ok 1 100 (by kernel_rfl) ?_
      exact W.fin (by decide) (by kernel_rfl) (Weak.sel [] [0, 7] (by kernel_rfl) (by kernel_rfl) (by kernel_rfl))
      ) ?_
  rcases cond_some h with ⟨hc6, h⟩ | ⟨hc6, h⟩
  · refine CodeOk.ifT hc6 (by kernel_rfl) ?_
    refine CodeOk.cutR (tl 28 [(2, .own 100)]) [(100, .vec false 83 4 ([].map (encSDNode true)))] mix (by
        refine W.run D_ok 2 100 (by kernel_rfl) ?_
        exact W.fin (by decide) (by kernel_rfl) (Weak.sel [(100, 100)] [2] (by kernel_rfl) (by kernel_rfl) (by kernel_rfl))
        ) ?_
    refine CodeOk.ret ?_
    have h := Option.some.inj h
    subst h
    exact Ends.gen [(100, 100)] (.inr rfl) (RetV.one rfl (OneR.tmp (t := 2) (r := .own 100) (by kernel_rfl))) (by kernel_rfl) (by kernel_rfl) (by kernel_rfl)
  · refine CodeOk.ifF hc6 (by kernel_rfl) ?_
    refine CodeOk.skip ?_
    refine CodeOk.weak (st' := ⟨tl 28 [(0, .sl false false (a0.map (encSDNode false))), (7, V.bool (!r4))], []⟩) (Weak.refl _) ?_
    obtain ⟨r6, hx8, h⟩ := bind_some h
    refine CodeOk.cutR (tl 28 [(3, .own 100)]) [(100, .vec false 83 4 (r6.map (encSDNode true)))] mix (by
        refine W.run D_ok 1 100 (by kernel_rfl) ?_
        refine W.call (m_spec_l15Shift_ok N a0 0 hx8) cok62 [] [(100, 100)] [100] (show LayOk _ [] from trivial) (by kernel_rfl) (by kernel_rfl) ?_
        refine W.run D_ok 1 101 (by kernel_rfl) ?_
        exact W.fin (by decide) (by kernel_rfl) (Weak.sel [(100, 100)] [3] (by kernel_rfl) (by kernel_rfl) (by kernel_rfl))
        ) ?_
    refine CodeOk.seq' ?_
    refine CodeOk.cutR (tl 28 [(3, .own 100), (4, V.int 0)]) [(100, .vec false 83 4 (r6.map (encSDNode true)))] mix (by
        refine W.run D_ok 1 101 (by kernel_rfl) ?_
        exact W.fin (by decide) (by kernel_rfl) (Weak.sel [(100, 100)] [3, 4] (by kernel_rfl) (by kernel_rfl) (by kernel_rfl))
        ) ?_
    refine CodeOk.block' ?_
    refine CodeOk.loopJ (fun (⟨y63, y64⟩ : (Int × (List SDNode))) => ⟨tl 28 [(3, .own 100), (4, V.int y63)], [(100, .vec false 83 4 (y64.map (encSDNode true)))]⟩) (fun n i => m_spec_Softened_l1 N n i = some r) (n0 := N) (i0 := (0, r6)) (Weak.sel [(100, 100)] [3, 4] (by kernel_rfl) (by kernel_rfl) (by kernel_rfl)) h (fun i h => by simp [m_spec_Softened_l1] at h) ?_
    rintro n1 ⟨y63, y64⟩ h101 ih102
    rw [m_spec_Softened_l1] at h101
    refine CodeOk.seq' ?_
    refine CodeOk.cutR (tl 28 [(3, .own 100), (4, V.int y63), (14, V.bool (decide (y63 < (y64.length : Int))))]) [(100, .vec false 83 4 (y64.map (encSDNode true)))] mix (by
        refine W.run D_ok 2 161 (by kernel_rfl) ?_
        refine W.len D_ok (encSDNode true) y64 [100] (by kernel_rfl) (by kernel_rfl) ?_
        refine W.run D_ok 1 161 (by kernel_rfl) ?_
        exact W.fin (by decide) (by kernel_rfl) (Weak.sel [(100, 100)] [3, 4, 14] (by kernel_rfl) (by kernel_rfl) (by kernel_rfl))
        ) ?_
    rcases cond_some h101 with ⟨hc104, h101⟩ | ⟨hc104, h101⟩
    · refine CodeOk.ifT hc104 (by kernel_rfl) ?_
      refine CodeOk.skip ?_
      refine CodeOk.weak (st' := ⟨tl 28 [(3, .own 100), (4, V.int y63), (14, V.bool (decide (y63 < (y64.length : Int))))], [(100, .vec false 83 4 (y64.map (encSDNode true)))]⟩) (Weak.refl _) ?_
      refine CodeOk.join (fun (⟨y63, y86⟩ : (Int × (List SDNode))) => ⟨tl 28 [(3, .own 100), (4, V.int y63)], [(100, .vec false 83 4 (y86.map (encSDNode true)))]⟩) (fun i => m_spec_Softened_k2 N (m_spec_Softened_l1 N n1) i = some r) ?_ ?_
      · rintro ⟨y63, y86⟩ h112
        rw [m_spec_Softened_k2] at h112
        refine CodeOk.endR (tl 28 [(3, .own 100), (4, V.int (IntKind.wrap .i64 (y63 + 1)))]) [(100, .vec false 83 4 (y86.map (encSDNode true)))] mix (by
            refine W.run D_ok 3 161 (by kernel_rfl) ?_
            exact W.fin (by decide) (by kernel_rfl) (Weak.sel [(100, 100)] [3, 4] (by kernel_rfl) (by kernel_rfl) (by kernel_rfl))
            ) (fun st hw => ?_)
        exact ih102 ((IntKind.wrap .i64 (y63 + 1)), y86) h112 _ (hw.trans (Weak.sel [(100, 100)] [3, 4] (by kernel_rfl) (by kernel_rfl) (by kernel_rfl)))
      intro hk113
      refine CodeOk.block' ?_
      obtain ⟨e88, hx115, h101⟩ := bind_some h101
      refine CodeOk.cutR (tl 28 [(3, .own 100), (4, V.int y63), (22, V.bool (e88.Kind == 3))]) [(100, .vec false 83 4 (y64.map (encSDNode true)))] mix (by
          refine W.run D_ok 2 161 (by kernel_rfl) ?_
          refine W.ixO D_ok (encSDNode true) hx115 100 4 (by kernel_rfl) ?_
          refine W.run D_ok 1 161 (by kernel_rfl) ?_
          refine W.ldO D_ok (encSDNode true) hx115 3 100 0 (V.int e88.Kind) (by kernel_rfl) (by kernel_rfl) ?_
          refine W.run D_ok 1 161 (by kernel_rfl) ?_
          exact W.fin (by decide) (by kernel_rfl) (Weak.sel [(100, 100)] [3, 4, 22] (by kernel_rfl) (by kernel_rfl) (by kernel_rfl))
          ) ?_
      rcases cond_some h101 with ⟨hc116, h101⟩ | ⟨hc116, h101⟩
      · refine CodeOk.ifT hc116 (by kernel_rfl) ?_
        obtain ⟨e91, hx119, h101⟩ := bind_some h101
        obtain ⟨x92, hu120, h101⟩ := bind_some h101
        refine CodeOk.endR (tl 28 [(3, .own 100), (4, V.int y63)]) [(100, .vec false 83 4 (x92.map (encSDNode true)))] mix (by
            refine W.run D_ok 2 161 (by kernel_rfl) ?_
            refine W.ixO D_ok (encSDNode true) hx119 100 4 (by kernel_rfl) ?_
            refine W.run D_ok 1 161 (by kernel_rfl) ?_
            refine W.stO D_ok (encSDNode true) (x' := (⟨2, e91.N, e91.Text, e91.Kids⟩ : SDNode)) hx119 hu120 (j := 100) (nn := false) (ety := 83) (sz := 4) (b := 0) (ys := [V.int 2]) (C := []) (R := []) (by kernel_rfl) (by kernel_rfl) ?_
            exact W.fin (by decide) (by kernel_rfl) (Weak.sel [(100, 100)] [3, 4] (by kernel_rfl) (by kernel_rfl) (by kernel_rfl))
            ) (fun st hw => ?_)
        exact hk113 (y63, x92) h101 _ (hw.trans (Weak.sel [(100, 100)] [3, 4] (by kernel_rfl) (by kernel_rfl) (by kernel_rfl)))
      · refine CodeOk.ifF hc116 (by kernel_rfl) ?_
        refine CodeOk.skip ?_
        exact hk113 (y63, y64) h101 _ (Weak.sel [(100, 100)] [3, 4] (by kernel_rfl) (by kernel_rfl) (by kernel_rfl))
    · refine CodeOk.ifF hc104 (by kernel_rfl) ?_
      refine CodeOk.exit ?_
      refine CodeOk.weak (st' := ⟨tl 28 [(3, .own 100), (4, V.int y63), (14, V.bool (decide (y63 < (y64.length : Int))))], [(100, .vec false 83 4 (y64.map (encSDNode true)))]⟩) (Weak.refl _) ?_
      refine CodeOk.cutR (tl 28 [(2, .own 100)]) [(100, .vec false 83 4 (y64.map (encSDNode true)))] mix (by
          refine W.run D_ok 2 161 (by kernel_rfl) ?_
          exact W.fin (by decide) (by kernel_rfl) (Weak.sel [(100, 100)] [2] (by kernel_rfl) (by kernel_rfl) (by kernel_rfl))
          ) ?_
      refine CodeOk.ret ?_
      have h101 := Option.some.inj h101
      subst h101
      exact Ends.gen [(100, 100)] (.inr rfl) (RetV.one rfl (OneR.tmp (t := 2) (r := .own 100) (by kernel_rfl))) (by kernel_rfl) (by kernel_rfl) (by kernel_rfl)

theorem m_stringslite_IndexByte_ok (a0 : List UInt8) (a1 : Int) {r : Int} (h : m_stringslite_IndexByte a0 a1 = some r) :
    AC Try.prog GG 90 [V.str a0, .c (.int .u8 a1)] [] (V.int r) [] := by
  rw [m_stringslite_IndexByte] at h
  refine AC.enter Try.func90 rfl ?_
  refine CodeOk.cutR (tl 8 [(0, V.str a0), (1, .c (.int .u8 a1))]) [] mix (by
      refine W.run D_ok 1 100 (by kernel_rfl) ?_
      exact W.fin (by decide) (by kernel_rfl) (Weak.sel [] [0, 1] (by kernel_rfl) (by kernel_rfl) (by kernel_rfl))
      ) ?_
  refine CodeOk.cutR (tl 8 [(4, V.int (Go.Lib.indexByte a0 (Int.toNat a1).toUInt8))]) [] mix (by
      refine W.run D_ok 2 100 (by kernel_rfl) ?_
      refine W.ext (vs := [.string ⟨⟨a0⟩⟩, .int .u8 a1]) (ext95 _ _) (by kernel_rfl) ?_
      refine W.run D_ok 1 100 (by kernel_rfl) ?_
      exact W.fin (by decide) (by kernel_rfl) (Weak.sel [] [4] (by kernel_rfl) (by kernel_rfl) (by kernel_rfl))
      ) ?_
  refine CodeOk.ret ?_
  have h := Option.some.inj h
  subst h
  exact Ends.gen [] (.inr rfl) (RetV.one rfl (OneR.tmp (t := 4) (r := V.int (Go.Lib.indexByte a0 (Int.toNat a1).toUInt8)) (by kernel_rfl))) (by kernel_rfl) (by kernel_rfl) (by kernel_rfl)

theorem m_stringslite_Index_ok (a0 : List UInt8) {r : Int} (h : m_stringslite_Index a0 = some r) :
    AC Try.prog GG 85 [V.str a0, V.str [10]] [] (V.int r) [] := by
  rw [m_stringslite_Index] at h
  refine AC.enter Try.func85 rfl ?_
  refine CodeOk.cutR (tl 143 [(0, V.str a0), (1, V.str [10])]) [] mix (by
      refine W.run D_ok 1 100 (by kernel_rfl) ?_
      exact W.fin (by decide) (by kernel_rfl) (Weak.sel [] [0, 1] (by kernel_rfl) (by kernel_rfl) (by kernel_rfl))
      ) ?_
  refine CodeOk.cutR (tl 143 [(0, V.str a0), (1, V.str [10]), (5, V.int 1)]) [] mix (by
      refine W.run D_ok 3 100 (by kernel_rfl) ?_
      exact W.fin (by decide) (by kernel_rfl) (Weak.sel [] [0, 1, 5] (by kernel_rfl) (by kernel_rfl) (by kernel_rfl))
      ) ?_
  refine CodeOk.seq' ?_
  refine CodeOk.block' ?_
  refine CodeOk.cutR (tl 143 [(0, V.str a0), (1, V.str [10]), (5, V.int 1), (16, V.bool (([10] : List UInt8) == a0))]) [] mix (by
      refine W.run D_ok 8 100 (by kernel_rfl) ?_
      exact W.fin (by decide) (by kernel_rfl) (Weak.sel [] [0, 1, 5, 16] (by kernel_rfl) (by kernel_rfl) (by kernel_rfl))
      ) ?_
  rcases cond_some h with ⟨hc6, h⟩ | ⟨hc6, h⟩
  · refine CodeOk.ifT hc6 (by kernel_rfl) ?_
    refine CodeOk.cutR (tl 143 [(4, V.int 0)]) [] mix (by
        refine W.run D_ok 1 100 (by kernel_rfl) ?_
        exact W.fin (by decide) (by kernel_rfl) (Weak.sel [] [4] (by kernel_rfl) (by kernel_rfl) (by kernel_rfl))
        ) ?_
    refine CodeOk.ret ?_
    have h := Option.some.inj h
    subst h
    exact Ends.gen [] (.inr rfl) (RetV.one rfl (OneR.tmp (t := 4) (r := V.int 0) (by kernel_rfl))) (by kernel_rfl) (by kernel_rfl) (by kernel_rfl)
  · refine CodeOk.ifF hc6 (by kernel_rfl) ?_
    refine CodeOk.cutR (tl 143 [(0, V.str a0), (1, V.str [10]), (5, V.int 1), (24, V.bool true)]) [] mix (by
        refine W.run D_ok 3 100 (by kernel_rfl) ?_
        exact W.fin (by decide) (by kernel_rfl) (Weak.sel [] [0, 1, 5, 24] (by kernel_rfl) (by kernel_rfl) (by kernel_rfl))
        ) ?_
    refine CodeOk.ifT (c := true) rfl (by kernel_rfl) ?_
    obtain ⟨b7, hx9, h⟩ := bind_some h
    obtain ⟨r8, hx10, h⟩ := bind_some h
    refine CodeOk.cutR (tl 143 [(4, V.int r8)]) [] mix (by
        refine W.run D_ok 2 100 (by kernel_rfl) ?_
        refine W.ixS D_ok hx9 (by kernel_rfl) ?_
        refine W.call0 (m_stringslite_IndexByte_ok a0 ((b7).toNat : Int) hx10) cok90 rfl (by kernel_rfl) ?_
        refine W.run D_ok 1 100 (by kernel_rfl) ?_
        exact W.fin (by decide) (by kernel_rfl) (Weak.sel [] [4] (by kernel_rfl) (by kernel_rfl) (by kernel_rfl))
        ) ?_
    refine CodeOk.ret ?_
    have h := Option.some.inj h
    subst h
    exact Ends.gen [] (.inr rfl) (RetV.one rfl (OneR.tmp (t := 4) (r := V.int r8) (by kernel_rfl))) (by kernel_rfl) (by kernel_rfl) (by kernel_rfl)

theorem m_strings_Index_ok (a0 : List UInt8) {r : Int} (h : m_strings_Index a0 = some r) :
    AC Try.prog GG 75 [V.str a0, V.str [10]] [] (V.int r) [] := by
  rw [m_strings_Index] at h
  refine AC.enter Try.func75 rfl ?_
  refine CodeOk.cutR (tl 8 [(0, V.str a0), (1, V.str [10])]) [] mix (by
      refine W.run D_ok 1 100 (by kernel_rfl) ?_
      exact W.fin (by decide) (by kernel_rfl) (Weak.sel [] [0, 1] (by kernel_rfl) (by kernel_rfl) (by kernel_rfl))
      ) ?_
  obtain ⟨r2, hx2, h⟩ := bind_some h
  refine CodeOk.cutR (tl 8 [(4, V.int r2)]) [] mix (by
      refine W.run D_ok 2 100 (by kernel_rfl) ?_
      refine W.call0 (m_stringslite_Index_ok a0 hx2) cok85 rfl (by kernel_rfl) ?_
      refine W.run D_ok 1 100 (by kernel_rfl) ?_
      exact W.fin (by decide) (by kernel_rfl) (Weak.sel [] [4] (by kernel_rfl) (by kernel_rfl) (by kernel_rfl))
      ) ?_
  refine CodeOk.ret ?_
  have h := Option.some.inj h
  subst h
  exact Ends.gen [] (.inr rfl) (RetV.one rfl (OneR.tmp (t := 4) (r := V.int r2) (by kernel_rfl))) (by kernel_rfl) (by kernel_rfl) (by kernel_rfl)

theorem m_strings_Contains_ok (a0 : List UInt8) {r : Bool} (h : m_strings_Contains a0 = some r) :
    AC Try.prog GG 88 [V.str a0, V.str [10]] [] (V.bool r) [] := by
  rw [m_strings_Contains] at h
  refine AC.enter Try.func88 rfl ?_
  refine CodeOk.cutR (tl 9 [(0, V.str a0), (1, V.str [10])]) [] mix (by
      refine W.run D_ok 1 100 (by kernel_rfl) ?_
      exact W.fin (by decide) (by kernel_rfl) (Weak.sel [] [0, 1] (by kernel_rfl) (by kernel_rfl) (by kernel_rfl))
      ) ?_
  obtain ⟨r2, hx2, h⟩ := bind_some h
  refine CodeOk.cutR (tl 9 [(4, V.bool (decide (r2 ≥ 0)))]) [] mix (by
      refine W.run D_ok 2 100 (by kernel_rfl) ?_
      refine W.call0 (m_strings_Index_ok a0 hx2) cok75 rfl (by kernel_rfl) ?_
      refine W.run D_ok 2 100 (by kernel_rfl) ?_
      exact W.fin (by decide) (by kernel_rfl) (Weak.sel [] [4] (by kernel_rfl) (by kernel_rfl) (by kernel_rfl))
      ) ?_
  refine CodeOk.ret ?_
  have h := Option.some.inj h
  subst h
  exact Ends.gen [] (.inr rfl) (RetV.one rfl (OneR.tmp (t := 4) (r := V.bool (decide (r2 ≥ 0))) (by kernel_rfl))) (by kernel_rfl) (by kernel_rfl) (by kernel_rfl)

theorem m_impl_docNodeOk_ok (a0 : SDNode) {r : Bool} (h : m_impl_docNodeOk a0 = some r) :
    AC Try.prog GG 81 [.agg [V.int a0.Kind, V.int a0.N, V.str a0.Text, .sl false false (a0.Kids.map encI)]] [] (V.bool r) [] := by
  rw [m_impl_docNodeOk] at h
  refine AC.enter Try.func81 rfl ?_
  refine CodeOk.cutR (tl 61 [(1, .loc 100 0)]) [(100, .cells 83 [V.int a0.Kind, V.int a0.N, V.str a0.Text, .sl false false (a0.Kids.map encI)])] mix (by
      refine W.run D_ok 2 100 (by kernel_rfl) ?_
      exact W.fin (by decide) (by kernel_rfl) (Weak.sel [(100, 100)] [1] (by kernel_rfl) (by kernel_rfl) (by kernel_rfl))
      ) ?_
  refine CodeOk.seq' ?_
  obtain ⟨y2, hv15, h⟩ := bind_some h
  refine CodeOk.cutR (tl 61 [(1, .loc 100 0), (20, V.bool y2)]) [(100, .cells 83 [V.int a0.Kind, V.int a0.N, V.str a0.Text, .sl false false (a0.Kids.map encI)])] mix (by
      refine W.run D_ok 4 101 (by kernel_rfl) ?_
      rcases cond_some hv15 with ⟨hc16, hv15⟩ | ⟨hc16, hv15⟩
      · refine W.is 6 hc16 (by kernel_rfl) ?_
        refine W.run D_ok 5 101 (by kernel_rfl) ?_
        rcases cond_some hv15 with ⟨hc17, hv15⟩ | ⟨hc17, hv15⟩
        · refine W.is 11 hc17 (by kernel_rfl) ?_
          refine W.run D_ok 9 101 (by kernel_rfl) ?_
          have hv15 := Option.some.inj hv15
          subst hv15
          exact W.fin (by decide) (by kernel_rfl) (Weak.sel [(100, 100)] [1, 20] (by kernel_rfl) (by kernel_rfl) (by kernel_rfl))
        · refine W.is 11 hc17 (by kernel_rfl) ?_
          refine W.run D_ok 4 101 (by kernel_rfl) ?_
          rcases cond_some hv15 with ⟨hc18, hv15⟩ | ⟨hc18, hv15⟩
          · refine W.is 15 hc18 (by kernel_rfl) ?_
            refine W.run D_ok 5 101 (by kernel_rfl) ?_
            have hv15 := Option.some.inj hv15
            subst hv15
            exact W.fin (by decide) (by kernel_rfl) (Weak.sel [(100, 100)] [1, 20] (by kernel_rfl) (by kernel_rfl) (by kernel_rfl))
          · refine W.is 15 hc18 (by kernel_rfl) ?_
            refine W.run D_ok 5 101 (by kernel_rfl) ?_
            have hv15 := Option.some.inj hv15
            subst hv15
            exact W.fin (by decide) (by kernel_rfl) (Weak.sel [(100, 100)] [1, 20] (by kernel_rfl) (by kernel_rfl) (by kernel_rfl))
      · refine W.is 6 hc16 (by kernel_rfl) ?_
        refine W.run D_ok 9 101 (by kernel_rfl) ?_
        rcases cond_some hv15 with ⟨hc19, hv15⟩ | ⟨hc19, hv15⟩
        · refine W.is 15 hc19 (by kernel_rfl) ?_
          refine W.run D_ok 5 101 (by kernel_rfl) ?_
          have hv15 := Option.some.inj hv15
          subst hv15
          exact W.fin (by decide) (by kernel_rfl) (Weak.sel [(100, 100)] [1, 20] (by kernel_rfl) (by kernel_rfl) (by kernel_rfl))
        · refine W.is 15 hc19 (by kernel_rfl) ?_
          refine W.run D_ok 5 101 (by kernel_rfl) ?_
          have hv15 := Option.some.inj hv15
          subst hv15
          exact W.fin (by decide) (by kernel_rfl) (Weak.sel [(100, 100)] [1, 20] (by kernel_rfl) (by kernel_rfl) (by kernel_rfl))
      ) ?_
  rcases cond_some h with ⟨hc20, h⟩ | ⟨hc20, h⟩
  · refine CodeOk.ifT hc20 (by kernel_rfl) ?_
    refine CodeOk.cutR (tl 61 [(2, V.bool false)]) [] mix (by
        refine W.run D_ok 1 101 (by kernel_rfl) ?_
        exact W.fin (by decide) (by kernel_rfl) (Weak.sel [] [2] (by kernel_rfl) (by kernel_rfl) (by kernel_rfl))
        ) ?_
    refine CodeOk.ret ?_
    have h := Option.some.inj h
    subst h
    exact Ends.gen [] (.inr rfl) (RetV.one rfl (OneR.tmp (t := 2) (r := V.bool false) (by kernel_rfl))) (by kernel_rfl) (by kernel_rfl) (by kernel_rfl)
  · refine CodeOk.ifF hc20 (by kernel_rfl) ?_
    refine CodeOk.skip ?_
    refine CodeOk.weak (st' := ⟨tl 61 [(1, .loc 100 0), (20, V.bool y2)], [(100, .cells 83 [V.int a0.Kind, V.int a0.N, V.str a0.Text, .sl false false (a0.Kids.map encI)])]⟩) (Weak.refl _) ?_
    refine CodeOk.seq' ?_
    refine CodeOk.cutR (tl 61 [(1, .loc 100 0), (22, V.int a0.Kind)]) [(100, .cells 83 [V.int a0.Kind, V.int a0.N, V.str a0.Text, .sl false false (a0.Kids.map encI)])] mix (by
        refine W.run D_ok 2 101 (by kernel_rfl) ?_
        exact W.fin (by decide) (by kernel_rfl) (Weak.sel [(100, 100)] [1, 22] (by kernel_rfl) (by kernel_rfl) (by kernel_rfl))
        ) ?_
    refine CodeOk.block' ?_
    refine CodeOk.cutR (tl 61 [(1, .loc 100 0), (22, V.int a0.Kind), (23, V.bool (a0.Kind == 1))]) [(100, .cells 83 [V.int a0.Kind, V.int a0.N, V.str a0.Text, .sl false false (a0.Kids.map encI)])] mix (by
        refine W.run D_ok 2 101 (by kernel_rfl) ?_
        exact W.fin (by decide) (by kernel_rfl) (Weak.sel [(100, 100)] [1, 22, 23] (by kernel_rfl) (by kernel_rfl) (by kernel_rfl))
        ) ?_
    rcases cond_some h with ⟨hc40, h⟩ | ⟨hc40, h⟩
    · refine CodeOk.ifT hc40 (by kernel_rfl) ?_
      obtain ⟨y11, hv43, h⟩ := bind_some h
      refine CodeOk.cutR (tl 61 [(2, V.bool y11)]) [] mix (by
          refine W.run D_ok 2 101 (by kernel_rfl) ?_
          obtain ⟨r12, hx44, hv43⟩ := bind_some hv43
          refine W.call0 (m_strings_Contains_ok a0.Text hx44) cok88 rfl (by kernel_rfl) ?_
          refine W.run D_ok 2 101 (by kernel_rfl) ?_
          rcases cond_some hv43 with ⟨hc45, hv43⟩ | ⟨hc45, hv43⟩
          · refine W.is 29 hc45 (by kernel_rfl) ?_
            refine W.run D_ok 2 101 (by kernel_rfl) ?_
            refine W.len D_ok encI a0.Kids [] (by kernel_rfl) (by kernel_rfl) ?_
            refine W.run D_ok 3 101 (by kernel_rfl) ?_
            have hv43 := Option.some.inj hv43
            subst hv43
            exact W.fin (by decide) (by kernel_rfl) (Weak.sel [] [2] (by kernel_rfl) (by kernel_rfl) (by kernel_rfl))
          · refine W.is 29 hc45 (by kernel_rfl) ?_
            refine W.run D_ok 6 101 (by kernel_rfl) ?_
            have hv43 := Option.some.inj hv43
            subst hv43
            exact W.fin (by decide) (by kernel_rfl) (Weak.sel [] [2] (by kernel_rfl) (by kernel_rfl) (by kernel_rfl))
          ) ?_
      refine CodeOk.ret ?_
      have h := Option.some.inj h
      subst h
      exact Ends.gen [] (.inr rfl) (RetV.one rfl (OneR.tmp (t := 2) (r := V.bool y11) (by kernel_rfl))) (by kernel_rfl) (by kernel_rfl) (by kernel_rfl)
    · refine CodeOk.ifF hc40 (by kernel_rfl) ?_
      refine CodeOk.join (fun (⟨a0, y13⟩ : (SDNode × Bool)) => ⟨tl 61 [(1, .loc 100 0), (22, V.int a0.Kind), (35, V.bool y13)], [(100, .cells 83 [V.int a0.Kind, V.int a0.N, V.str a0.Text, .sl false false (a0.Kids.map encI)])]⟩) (fun i => m_impl_docNodeOk_k1 i = some r) ?_ ?_
      · rintro ⟨a0, y13⟩ h47
        rw [m_impl_docNodeOk_k1] at h47
        rcases cond_some h47 with ⟨hc48, h47⟩ | ⟨hc48, h47⟩
        · refine CodeOk.ifT hc48 (by kernel_rfl) ?_
          refine CodeOk.cutR (tl 61 [(2, V.bool ((a0.Kids.length : Int) == 0))]) [] mix (by
              refine W.run D_ok 2 101 (by kernel_rfl) ?_
              refine W.len D_ok encI a0.Kids [] (by kernel_rfl) (by kernel_rfl) ?_
              refine W.run D_ok 2 101 (by kernel_rfl) ?_
              exact W.fin (by decide) (by kernel_rfl) (Weak.sel [] [2] (by kernel_rfl) (by kernel_rfl) (by kernel_rfl))
              ) ?_
          refine CodeOk.ret ?_
          have h47 := Option.some.inj h47
          subst h47
          exact Ends.gen [] (.inr rfl) (RetV.one rfl (OneR.tmp (t := 2) (r := V.bool ((a0.Kids.length : Int) == 0)) (by kernel_rfl))) (by kernel_rfl) (by kernel_rfl) (by kernel_rfl)
        · refine CodeOk.ifF hc48 (by kernel_rfl) ?_
          refine CodeOk.cutR (tl 61 [(1, .loc 100 0), (22, V.int a0.Kind), (42, V.bool (a0.Kind == 4))]) [(100, .cells 83 [V.int a0.Kind, V.int a0.N, V.str a0.Text, .sl false false (a0.Kids.map encI)])] mix (by
              refine W.run D_ok 2 101 (by kernel_rfl) ?_
              exact W.fin (by decide) (by kernel_rfl) (Weak.sel [(100, 100)] [1, 22, 42] (by kernel_rfl) (by kernel_rfl) (by kernel_rfl))
              ) ?_
          rcases cond_some h47 with ⟨hc49, h47⟩ | ⟨hc49, h47⟩
          · refine CodeOk.ifT hc49 (by kernel_rfl) ?_
            obtain ⟨y15, hv52, h47⟩ := bind_some h47
            refine CodeOk.cutR (tl 61 [(2, V.bool y15)]) [] mix (by
                refine W.run D_ok 2 101 (by kernel_rfl) ?_
                obtain ⟨r16, hx53, hv52⟩ := bind_some hv52
                refine W.call0 (m_impl_within_ok a0.N 0 40 hx53) cok47 rfl (by kernel_rfl) ?_
                refine W.run D_ok 1 101 (by kernel_rfl) ?_
                rcases cond_some hv52 with ⟨hc54, hv52⟩ | ⟨hc54, hv52⟩
                · refine W.is 47 hc54 (by kernel_rfl) ?_
                  refine W.run D_ok 2 101 (by kernel_rfl) ?_
                  refine W.len D_ok encI a0.Kids [] (by kernel_rfl) (by kernel_rfl) ?_
                  refine W.run D_ok 3 101 (by kernel_rfl) ?_
                  have hv52 := Option.some.inj hv52
                  subst hv52
                  exact W.fin (by decide) (by kernel_rfl) (Weak.sel [] [2] (by kernel_rfl) (by kernel_rfl) (by kernel_rfl))
                · refine W.is 47 hc54 (by kernel_rfl) ?_
                  refine W.run D_ok 6 101 (by kernel_rfl) ?_
                  have hv52 := Option.some.inj hv52
                  subst hv52
                  exact W.fin (by decide) (by kernel_rfl) (Weak.sel [] [2] (by kernel_rfl) (by kernel_rfl) (by kernel_rfl))
                ) ?_
            refine CodeOk.ret ?_
            have h47 := Option.some.inj h47
            subst h47
            exact Ends.gen [] (.inr rfl) (RetV.one rfl (OneR.tmp (t := 2) (r := V.bool y15) (by kernel_rfl))) (by kernel_rfl) (by kernel_rfl) (by kernel_rfl)
          · refine CodeOk.ifF hc49 (by kernel_rfl) ?_
            refine CodeOk.cutR (tl 61 [(1, .loc 100 0), (22, V.int a0.Kind), (53, V.bool (a0.Kind == 5))]) [(100, .cells 83 [V.int a0.Kind, V.int a0.N, V.str a0.Text, .sl false false (a0.Kids.map encI)])] mix (by
                refine W.run D_ok 2 101 (by kernel_rfl) ?_
                exact W.fin (by decide) (by kernel_rfl) (Weak.sel [(100, 100)] [1, 22, 53] (by kernel_rfl) (by kernel_rfl) (by kernel_rfl))
                ) ?_
            rcases cond_some h47 with ⟨hc55, h47⟩ | ⟨hc55, h47⟩
            · refine CodeOk.ifT hc55 (by kernel_rfl) ?_
              refine CodeOk.cutR (tl 61 [(2, V.bool ((a0.Kids.length : Int) == 1))]) [] mix (by
                  refine W.run D_ok 2 101 (by kernel_rfl) ?_
                  refine W.len D_ok encI a0.Kids [] (by kernel_rfl) (by kernel_rfl) ?_
                  refine W.run D_ok 2 101 (by kernel_rfl) ?_
                  exact W.fin (by decide) (by kernel_rfl) (Weak.sel [] [2] (by kernel_rfl) (by kernel_rfl) (by kernel_rfl))
                  ) ?_
              refine CodeOk.ret ?_
              have h47 := Option.some.inj h47
              subst h47
              exact Ends.gen [] (.inr rfl) (RetV.one rfl (OneR.tmp (t := 2) (r := V.bool ((a0.Kids.length : Int) == 1)) (by kernel_rfl))) (by kernel_rfl) (by kernel_rfl) (by kernel_rfl)
            · refine CodeOk.ifF hc55 (by kernel_rfl) ?_
              refine CodeOk.cutR (tl 61 [(59, V.bool (a0.Kind == 6))]) [] mix (by
                  refine W.run D_ok 2 101 (by kernel_rfl) ?_
                  exact W.fin (by decide) (by kernel_rfl) (Weak.sel [] [59] (by kernel_rfl) (by kernel_rfl) (by kernel_rfl))
                  ) ?_
              rcases cond_some h47 with ⟨hc56, h47⟩ | ⟨hc56, h47⟩
              · refine CodeOk.ifT hc56 (by kernel_rfl) ?_
                refine CodeOk.cutR (tl 61 [(2, V.bool true)]) [] mix (by
                    refine W.run D_ok 1 101 (by kernel_rfl) ?_
                    exact W.fin (by decide) (by kernel_rfl) (Weak.sel [] [2] (by kernel_rfl) (by kernel_rfl) (by kernel_rfl))
                    ) ?_
                refine CodeOk.ret ?_
                have h47 := Option.some.inj h47
                subst h47
                exact Ends.gen [] (.inr rfl) (RetV.one rfl (OneR.tmp (t := 2) (r := V.bool true) (by kernel_rfl))) (by kernel_rfl) (by kernel_rfl) (by kernel_rfl)
              · refine CodeOk.ifF hc56 (by kernel_rfl) ?_
                refine CodeOk.skip ?_
                refine CodeOk.weak (st' := ⟨tl 61 [(59, V.bool (a0.Kind == 6))], []⟩) (Weak.refl _) ?_
                refine CodeOk.cutR (tl 61 [(2, V.bool false)]) [] mix (by
                    refine W.run D_ok 1 101 (by kernel_rfl) ?_
                    exact W.fin (by decide) (by kernel_rfl) (Weak.sel [] [2] (by kernel_rfl) (by kernel_rfl) (by kernel_rfl))
                    ) ?_
                refine CodeOk.ret ?_
                have h47 := Option.some.inj h47
                subst h47
                exact Ends.gen [] (.inr rfl) (RetV.one rfl (OneR.tmp (t := 2) (r := V.bool false) (by kernel_rfl))) (by kernel_rfl) (by kernel_rfl) (by kernel_rfl)
      intro hk57
      refine CodeOk.cutR (tl 61 [(1, .loc 100 0), (22, V.int a0.Kind), (35, V.bool (a0.Kind == 2))]) [(100, .cells 83 [V.int a0.Kind, V.int a0.N, V.str a0.Text, .sl false false (a0.Kids.map encI)])] mix (by
          refine W.run D_ok 2 101 (by kernel_rfl) ?_
          exact W.fin (by decide) (by kernel_rfl) (Weak.sel [(100, 100)] [1, 22, 35] (by kernel_rfl) (by kernel_rfl) (by kernel_rfl))
          ) ?_
      rcases cond_some h with ⟨hc58, h⟩ | ⟨hc58, h⟩
      · refine CodeOk.ifT hc58 (by kernel_rfl) ?_
        refine CodeOk.skip ?_
        exact hk57 (a0, (a0.Kind == 2)) h _ (Weak.sel [(100, 100)] [1, 22, 35] (by kernel_rfl) (by kernel_rfl) (by kernel_rfl))
      · refine CodeOk.ifF hc58 (by kernel_rfl) ?_
        refine CodeOk.endR (tl 61 [(1, .loc 100 0), (22, V.int a0.Kind), (35, V.bool (a0.Kind == 3))]) [(100, .cells 83 [V.int a0.Kind, V.int a0.N, V.str a0.Text, .sl false false (a0.Kids.map encI)])] mix (by
            refine W.run D_ok 2 101 (by kernel_rfl) ?_
            exact W.fin (by decide) (by kernel_rfl) (Weak.sel [(100, 100)] [1, 22, 35] (by kernel_rfl) (by kernel_rfl) (by kernel_rfl))
            ) (fun st hw => ?_)
        exact hk57 (a0, (a0.Kind == 3)) h _ (hw.trans (Weak.sel [(100, 100)] [1, 22, 35] (by kernel_rfl) (by kernel_rfl) (by kernel_rfl)))

theorem m_impl_docStarts_ok (N : Nat) (a0 : List SDNode) {r : ((List Int) × Bool)} (h : m_impl_docStarts N a0 = some r) :
    AC Try.prog GG 82 [.sl false false (a0.map (encSDNode false))] [] (.tup [.own 100, V.bool r.2]) [(100, .vec false 3 1 (r.1.map encI))] := by
  rw [m_impl_docStarts] at h
  refine AC.enter Try.func82 rfl ?_
  refine CodeOk.cutR (tl 63 [(0, .sl false false (a0.map (encSDNode false)))]) [] mix (by
      refine W.run D_ok 2 100 (by kernel_rfl) ?_
      exact W.fin (by decide) (by kernel_rfl) (Weak.sel [] [0] (by kernel_rfl) (by kernel_rfl) (by kernel_rfl))
      ) ?_
  refine CodeOk.seq' ?_
  obtain ⟨r4, hx5, h⟩ := bind_some h
  refine CodeOk.cutR (tl 63 [(0, .sl false false (a0.map (encSDNode false))), (12, V.bool (!r4))]) [] mix (by
      refine W.run D_ok 1 100 (by kernel_rfl) ?_
      refine W.len D_ok (encSDNode false) a0 [] (by kernel_rfl) (by kernel_rfl) ?_
      refine W.call0 (m_impl_within_ok (a0.length : Int) 1 4000 hx5) cok47 rfl (by kernel_rfl) ?_
      refine W.run D_ok 1 100 (by kernel_rfl) ?_
      exact W.fin (by decide) (by kernel_rfl) (Weak.sel [] [0, 12] (by kernel_rfl) (by kernel_rfl) (by kernel_rfl))
      ) ?_
  rcases cond_some h with ⟨hc6, h⟩ | ⟨hc6, h⟩
  · refine CodeOk.ifT hc6 (by kernel_rfl) ?_
    refine CodeOk.cutR (tl 63 [(2, .c (.slice none 0 0)), (3, V.bool false)]) [] mix (by
        refine W.run D_ok 2 100 (by kernel_rfl) ?_
        exact W.fin (by decide) (by kernel_rfl) (Weak.sel [] [2, 3] (by kernel_rfl) (by kernel_rfl) (by kernel_rfl))
        ) ?_
    refine CodeOk.weak (Weak.nil 2 100 3 1 (by kernel_rfl) (by kernel_rfl)) ?_
    refine CodeOk.ret ?_
    have h := Option.some.inj h
    subst h
    exact Ends.gen [(100, 100)] (.inr rfl) (RetV.two rfl (OneR.tmp (t := 2) (r := .own 100) (by kernel_rfl)) (OneR.tmp (t := 3) (r := V.bool false) (by kernel_rfl))) (by kernel_rfl) (by kernel_rfl) (by kernel_rfl)
  · refine CodeOk.ifF hc6 (by kernel_rfl) ?_
    refine CodeOk.skip ?_
    refine CodeOk.weak (st' := ⟨tl 63 [(0, .sl false false (a0.map (encSDNode false))), (12, V.bool (!r4))], []⟩) (Weak.refl _) ?_
    obtain ⟨x6, hx8, h⟩ := bind_some h
    refine CodeOk.cutR (tl 63 [(0, .sl false false (a0.map (encSDNode false))), (4, .own 100)]) [(100, .vec false 3 1 (x6.map encI))] mix (by
        refine W.run D_ok 1 100 (by kernel_rfl) ?_
        refine W.len D_ok (encSDNode false) a0 [] (by kernel_rfl) (by kernel_rfl) ?_
        refine W.mk D_ok encI 8 hx8 100 3 1 [.int .i64 0] (by kernel_rfl) (by kernel_rfl) ?_
        refine W.run D_ok 1 101 (by kernel_rfl) ?_
        exact W.fin (by decide) (by kernel_rfl) (Weak.sel [(100, 100)] [0, 4] (by kernel_rfl) (by kernel_rfl) (by kernel_rfl))
        ) ?_
    refine CodeOk.seq' ?_
    refine CodeOk.cutR (tl 63 [(0, .sl false false (a0.map (encSDNode false))), (4, .own 100), (16, .sl false false (a0.map (encSDNode false))), (17, V.int (a0.length : Int)), (18, V.int 0)]) [(100, .vec false 3 1 (x6.map encI))] mix (by
        refine W.run D_ok 1 101 (by kernel_rfl) ?_
        refine W.len D_ok (encSDNode false) a0 [] (by kernel_rfl) (by kernel_rfl) ?_
        refine W.run D_ok 1 101 (by kernel_rfl) ?_
        exact W.fin (by decide) (by kernel_rfl) (Weak.sel [(100, 100)] [0, 4, 16, 17, 18] (by kernel_rfl) (by kernel_rfl) (by kernel_rfl))
        ) ?_
    refine CodeOk.block' ?_
    refine CodeOk.loopJ (fun (⟨a0, y475, y476⟩ : ((List SDNode) × Int × (List Int))) => ⟨tl 63 [(0, .sl false false (a0.map (encSDNode false))), (4, .own 100), (16, .sl false false (a0.map (encSDNode false))), (17, V.int (a0.length : Int)), (18, V.int y475)], [(100, .vec false 3 1 (y476.map encI))]⟩) (fun n i => m_impl_docStarts_l1 N n i = some r) (n0 := N) (i0 := (a0, 0, x6)) (Weak.sel [(100, 100)] [0, 4, 16, 17, 18] (by kernel_rfl) (by kernel_rfl) (by kernel_rfl)) h (fun i h => by simp [m_impl_docStarts_l1] at h) ?_
    rintro n1 ⟨a0, y475, y476⟩ h1233 ih1234
    rw [m_impl_docStarts_l1] at h1233
    refine CodeOk.cutR (tl 63 [(0, .sl false false (a0.map (encSDNode false))), (4, .own 100), (16, .sl false false (a0.map (encSDNode false))), (17, V.int (a0.length : Int)), (18, V.int y475), (19, V.bool (decide (y475 < (a0.length : Int))))]) [(100, .vec false 3 1 (y476.map encI))] mix (by
        refine W.run D_ok 1 243 (by kernel_rfl) ?_
        exact W.fin (by decide) (by kernel_rfl) (Weak.sel [(100, 100)] [0, 4, 16, 17, 18, 19] (by kernel_rfl) (by kernel_rfl) (by kernel_rfl))
        ) ?_
    refine CodeOk.seq' ?_
    rcases cond_some h1233 with ⟨hc1236, h1233⟩ | ⟨hc1236, h1233⟩
    · refine CodeOk.ifT hc1236 (by kernel_rfl) ?_
      refine CodeOk.skip ?_
      refine CodeOk.weak (st' := ⟨tl 63 [(0, .sl false false (a0.map (encSDNode false))), (4, .own 100), (16, .sl false false (a0.map (encSDNode false))), (17, V.int (a0.length : Int)), (18, V.int y475), (19, V.bool (decide (y475 < (a0.length : Int))))], [(100, .vec false 3 1 (y476.map encI))]⟩) (Weak.refl _) ?_
      refine CodeOk.seq' ?_
      refine CodeOk.block' ?_
      obtain ⟨e810, hx1428, h1233⟩ := bind_some h1233
      refine CodeOk.cutR (tl 63 [(0, .sl false false (a0.map (encSDNode false))), (4, .own 100), (5, V.int y475), (6, .loc 243 0), (16, .sl false false (a0.map (encSDNode false))), (17, V.int (a0.length : Int)), (18, V.int y475)]) [(243, .cells 83 [V.int e810.Kind, V.int e810.N, V.str e810.Text, .sl false false (e810.Kids.map encI)]), (100, .vec false 3 1 (y476.map encI))] mix (by
          refine W.run D_ok 1 243 (by kernel_rfl) ?_
          refine W.ixD D_ok (encSDNode false) hx1428 4 (by kernel_rfl) (by kernel_rfl) ?_
          refine W.run D_ok 4 243 (by kernel_rfl) ?_
          exact W.fin (by decide) (by kernel_rfl) (Weak.sel [(243, 243), (100, 100)] [0, 4, 5, 6, 16, 17, 18] (by kernel_rfl) (by kernel_rfl) (by kernel_rfl))
          ) ?_
      refine CodeOk.cutR (tl 63 [(0, .sl false false (a0.map (encSDNode false))), (4, .own 100), (5, V.int y475), (6, .loc 243 0), (7, V.int (IntKind.wrap .i64 (y475 - 1))), (16, .sl false false (a0.map (encSDNode false))), (17, V.int (a0.length : Int)), (18, V.int y475)]) [(243, .cells 83 [V.int e810.Kind, V.int e810.N, V.str e810.Text, .sl false false (e810.Kids.map encI)]), (100, .vec false 3 1 (y476.map encI))] mix (by
          refine W.run D_ok 3 244 (by kernel_rfl) ?_
          exact W.fin (by decide) (by kernel_rfl) (Weak.sel [(243, 243), (100, 100)] [0, 4, 5, 6, 7, 16, 17, 18] (by kernel_rfl) (by kernel_rfl) (by kernel_rfl))
          ) ?_
      refine CodeOk.seq' ?_
      refine CodeOk.cutR (tl 63 [(0, .sl false false (a0.map (encSDNode false))), (4, .own 100), (5, V.int y475), (6, .loc 243 0), (7, V.int (IntKind.wrap .i64 (y475 - 1))), (8, V.int (IntKind.wrap .i64 ((e810.Kids.length : Int) - 1))), (16, .sl false false (a0.map (encSDNode false))), (17, V.int (a0.length : Int)), (18, V.int y475)]) [(243, .cells 83 [V.int e810.Kind, V.int e810.N, V.str e810.Text, .sl false false (e810.Kids.map encI)]), (100, .vec false 3 1 (y476.map encI))] mix (by
          refine W.run D_ok 2 244 (by kernel_rfl) ?_
          refine W.len D_ok encI e810.Kids [] (by kernel_rfl) (by kernel_rfl) ?_
          refine W.run D_ok 2 244 (by kernel_rfl) ?_
          exact W.fin (by decide) (by kernel_rfl) (Weak.sel [(243, 243), (100, 100)] [0, 4, 5, 6, 7, 8, 16, 17, 18] (by kernel_rfl) (by kernel_rfl) (by kernel_rfl))
          ) ?_
      refine CodeOk.block' ?_
      refine CodeOk.loopJ (fun (⟨a0, y475, y476, e810, y879, y880⟩ : ((List SDNode) × Int × (List Int) × SDNode × Int × Int)) => ⟨tl 63 [(0, .sl false false (a0.map (encSDNode false))), (4, .own 100), (5, V.int y475), (6, .loc 101 0), (7, V.int y879), (8, V.int y880), (16, .sl false false (a0.map (encSDNode false))), (17, V.int (a0.length : Int)), (18, V.int y475)], [(100, .vec false 3 1 (y476.map encI)), (101, .cells 83 [V.int e810.Kind, V.int e810.N, V.str e810.Text, .sl false false (e810.Kids.map encI)])]⟩) (fun n i => m_impl_docStarts_l2 N (m_impl_docStarts_l1 N n1) n i = some r) (n0 := N) (i0 := (a0, y475, y476, e810, (IntKind.wrap .i64 (y475 - 1)), (IntKind.wrap .i64 ((e810.Kids.length : Int) - 1)))) (Weak.sel [(100, 100), (243, 101)] [0, 4, 5, 6, 7, 8, 16, 17, 18] (by kernel_rfl) (by kernel_rfl) (by kernel_rfl)) h1233 (fun i h => by simp [m_impl_docStarts_l2] at h) ?_
      rintro n2 ⟨a0, y475, y476, e810, y879, y880⟩ h1581 ih1582
      rw [m_impl_docStarts_l2] at h1581
      refine CodeOk.seq' ?_
      refine CodeOk.cutR (tl 63 [(0, .sl false false (a0.map (encSDNode false))), (4, .own 100), (5, V.int y475), (6, .loc 101 0), (7, V.int y879), (8, V.int y880), (16, .sl false false (a0.map (encSDNode false))), (17, V.int (a0.length : Int)), (18, V.int y475), (30, V.bool (decide (y880 ≥ 0)))]) [(100, .vec false 3 1 (y476.map encI)), (101, .cells 83 [V.int e810.Kind, V.int e810.N, V.str e810.Text, .sl false false (e810.Kids.map encI)])] mix (by
          refine W.run D_ok 2 304 (by kernel_rfl) ?_
          exact W.fin (by decide) (by kernel_rfl) (Weak.sel [(100, 100), (101, 101)] [0, 4, 5, 6, 7, 8, 16, 17, 18, 30] (by kernel_rfl) (by kernel_rfl) (by kernel_rfl))
          ) ?_
      rcases cond_some h1581 with ⟨hc1584, h1581⟩ | ⟨hc1584, h1581⟩
      · refine CodeOk.ifT hc1584 (by kernel_rfl) ?_
        refine CodeOk.skip ?_
        refine CodeOk.weak (st' := ⟨tl 63 [(0, .sl false false (a0.map (encSDNode false))), (4, .own 100), (5, V.int y475), (6, .loc 101 0), (7, V.int y879), (8, V.int y880), (16, .sl false false (a0.map (encSDNode false))), (17, V.int (a0.length : Int)), (18, V.int y475), (30, V.bool (decide (y880 ≥ 0)))], [(100, .vec false 3 1 (y476.map encI)), (101, .cells 83 [V.int e810.Kind, V.int e810.N, V.str e810.Text, .sl false false (e810.Kids.map encI)])]⟩) (Weak.refl _) ?_
        refine CodeOk.seq' ?_
        refine CodeOk.block' ?_
        refine CodeOk.seq' ?_
        obtain ⟨y911, hv1607, h1581⟩ := bind_some h1581
        refine CodeOk.cutR (tl 63 [(0, .sl false false (a0.map (encSDNode false))), (4, .own 100), (5, V.int y475), (6, .loc 101 0), (7, V.int y879), (8, V.int y880), (16, .sl false false (a0.map (encSDNode false))), (17, V.int (a0.length : Int)), (18, V.int y475), (43, V.bool y911)]) [(100, .vec false 3 1 (y476.map encI)), (101, .cells 83 [V.int e810.Kind, V.int e810.N, V.str e810.Text, .sl false false (e810.Kids.map encI)])] mix (by
            refine W.run D_ok 3 304 (by kernel_rfl) ?_
            rcases cond_some hv1607 with ⟨hc1608, hv1607⟩ | ⟨hc1608, hv1607⟩
            · refine W.is 35 hc1608 (by kernel_rfl) ?_
              refine W.run D_ok 8 304 (by kernel_rfl) ?_
              have hv1607 := Option.some.inj hv1607
              subst hv1607
              exact W.fin (by decide) (by kernel_rfl) (Weak.sel [(100, 100), (101, 101)] [0, 4, 5, 6, 7, 8, 16, 17, 18, 43] (by kernel_rfl) (by kernel_rfl) (by kernel_rfl))
            · refine W.is 35 hc1608 (by kernel_rfl) ?_
              refine W.run D_ok 3 304 (by kernel_rfl) ?_
              obtain ⟨e912, hx1609, hv1607⟩ := bind_some hv1607
              refine W.ixD D_ok encI hx1609 1 (by kernel_rfl) (by kernel_rfl) ?_
              refine W.run D_ok 4 304 (by kernel_rfl) ?_
              have hv1607 := Option.some.inj hv1607
              subst hv1607
              exact W.fin (by decide) (by kernel_rfl) (Weak.sel [(100, 100), (101, 101)] [0, 4, 5, 6, 7, 8, 16, 17, 18, 43] (by kernel_rfl) (by kernel_rfl) (by kernel_rfl))
            ) ?_
        rcases cond_some h1581 with ⟨hc1610, h1581⟩ | ⟨hc1610, h1581⟩
        · refine CodeOk.ifT hc1610 (by kernel_rfl) ?_
          refine CodeOk.cutR (tl 63 [(2, .c (.slice none 0 0)), (3, V.bool false)]) [] mix (by
              refine W.run D_ok 2 304 (by kernel_rfl) ?_
              exact W.fin (by decide) (by kernel_rfl) (Weak.sel [] [2, 3] (by kernel_rfl) (by kernel_rfl) (by kernel_rfl))
              ) ?_
          refine CodeOk.weak (Weak.nil 2 304 3 1 (by kernel_rfl) (by kernel_rfl)) ?_
          refine CodeOk.ret ?_
          have h1581 := Option.some.inj h1581
          subst h1581
          exact Ends.gen [(304, 100)] (.inr rfl) (RetV.two rfl (OneR.tmp (t := 2) (r := .own 304) (by kernel_rfl)) (OneR.tmp (t := 3) (r := V.bool false) (by kernel_rfl))) (by kernel_rfl) (by kernel_rfl) (by kernel_rfl)
        · refine CodeOk.ifF hc1610 (by kernel_rfl) ?_
          refine CodeOk.skip ?_
          refine CodeOk.weak (st' := ⟨tl 63 [(0, .sl false false (a0.map (encSDNode false))), (4, .own 100), (5, V.int y475), (6, .loc 101 0), (7, V.int y879), (8, V.int y880), (16, .sl false false (a0.map (encSDNode false))), (17, V.int (a0.length : Int)), (18, V.int y475), (43, V.bool y911)], [(100, .vec false 3 1 (y476.map encI)), (101, .cells 83 [V.int e810.Kind, V.int e810.N, V.str e810.Text, .sl false false (e810.Kids.map encI)])]⟩) (Weak.refl _) ?_
          obtain ⟨e914, hx1612, h1581⟩ := bind_some h1581
          refine CodeOk.endR (tl 63 [(0, .sl false false (a0.map (encSDNode false))), (4, .own 100), (5, V.int y475), (6, .loc 101 0), (7, V.int (IntKind.wrap .i64 (e914 - 1))), (8, V.int y880), (16, .sl false false (a0.map (encSDNode false))), (17, V.int (a0.length : Int)), (18, V.int y475)]) [(100, .vec false 3 1 (y476.map encI)), (101, .cells 83 [V.int e810.Kind, V.int e810.N, V.str e810.Text, .sl false false (e810.Kids.map encI)])] mix (by
              refine W.run D_ok 2 304 (by kernel_rfl) ?_
              refine W.ixO D_ok encI hx1612 100 1 (by kernel_rfl) ?_
              refine W.ldO D_ok encI hx1612 3 100 0 (V.int e914) (by kernel_rfl) (by kernel_rfl) ?_
              refine W.run D_ok 2 304 (by kernel_rfl) ?_
              exact W.fin (by decide) (by kernel_rfl) (Weak.sel [(100, 100), (101, 101)] [0, 4, 5, 6, 7, 8, 16, 17, 18] (by kernel_rfl) (by kernel_rfl) (by kernel_rfl))
              ) (fun st hw => ?_)
          refine CodeOk.weak (st' := ⟨tl 63 [(0, .sl false false (a0.map (encSDNode false))), (4, .own 100), (5, V.int y475), (6, .loc 101 0), (7, V.int (IntKind.wrap .i64 (e914 - 1))), (8, V.int y880), (16, .sl false false (a0.map (encSDNode false))), (17, V.int (a0.length : Int)), (18, V.int y475)], [(100, .vec false 3 1 (y476.map encI)), (101, .cells 83 [V.int e810.Kind, V.int e810.N, V.str e810.Text, .sl false false (e810.Kids.map encI)])]⟩) hw ?_
          refine CodeOk.endR (tl 63 [(0, .sl false false (a0.map (encSDNode false))), (4, .own 100), (5, V.int y475), (6, .loc 101 0), (7, V.int (IntKind.wrap .i64 (e914 - 1))), (8, V.int (IntKind.wrap .i64 (y880 - 1))), (16, .sl false false (a0.map (encSDNode false))), (17, V.int (a0.length : Int)), (18, V.int y475)]) [(100, .vec false 3 1 (y476.map encI)), (101, .cells 83 [V.int e810.Kind, V.int e810.N, V.str e810.Text, .sl false false (e810.Kids.map encI)])] mix (by
              refine W.run D_ok 3 304 (by kernel_rfl) ?_
              exact W.fin (by decide) (by kernel_rfl) (Weak.sel [(100, 100), (101, 101)] [0, 4, 5, 6, 7, 8, 16, 17, 18] (by kernel_rfl) (by kernel_rfl) (by kernel_rfl))
              ) (fun st hw => ?_)
          exact ih1582 (a0, y475, y476, e810, (IntKind.wrap .i64 (e914 - 1)), (IntKind.wrap .i64 (y880 - 1))) h1581 _ (hw.trans (Weak.sel [(100, 100), (101, 101)] [0, 4, 5, 6, 7, 8, 16, 17, 18] (by kernel_rfl) (by kernel_rfl) (by kernel_rfl)))
      · refine CodeOk.ifF hc1584 (by kernel_rfl) ?_
        refine CodeOk.exit ?_
        refine CodeOk.weak (st' := ⟨tl 63 [(0, .sl false false (a0.map (encSDNode false))), (4, .own 100), (5, V.int y475), (6, .loc 101 0), (7, V.int y879), (8, V.int y880), (16, .sl false false (a0.map (encSDNode false))), (17, V.int (a0.length : Int)), (18, V.int y475), (30, V.bool (decide (y880 ≥ 0)))], [(100, .vec false 3 1 (y476.map encI)), (101, .cells 83 [V.int e810.Kind, V.int e810.N, V.str e810.Text, .sl false false (e810.Kids.map encI)])]⟩) (Weak.refl _) ?_
        obtain ⟨e917, hx1615, h1581⟩ := bind_some h1581
        obtain ⟨x918, hu1616, h1581⟩ := bind_some h1581
        refine CodeOk.endR (tl 63 [(0, .sl false false (a0.map (encSDNode false))), (4, .own 100), (16, .sl false false (a0.map (encSDNode false))), (17, V.int (a0.length : Int)), (18, V.int y475)]) [(100, .vec false 3 1 (x918.map encI))] mix (by
            refine W.run D_ok 4 304 (by kernel_rfl) ?_
            refine W.ixO D_ok encI hx1615 100 1 (by kernel_rfl) ?_
            refine W.stO D_ok encI (x' := (IntKind.wrap .i64 (y879 + 1))) hx1615 hu1616 (j := 100) (nn := false) (ety := 3) (sz := 1) (b := 0) (ys := [V.int (IntKind.wrap .i64 (y879 + 1))]) (C := []) (R := []) (by kernel_rfl) (by kernel_rfl) ?_
            exact W.fin (by decide) (by kernel_rfl) (Weak.sel [(100, 100)] [0, 4, 16, 17, 18] (by kernel_rfl) (by kernel_rfl) (by kernel_rfl))
            ) (fun st hw => ?_)
        refine CodeOk.weak (st' := ⟨tl 63 [(0, .sl false false (a0.map (encSDNode false))), (4, .own 100), (16, .sl false false (a0.map (encSDNode false))), (17, V.int (a0.length : Int)), (18, V.int y475)], [(100, .vec false 3 1 (x918.map encI))]⟩) hw ?_
        refine CodeOk.endR (tl 63 [(0, .sl false false (a0.map (encSDNode false))), (4, .own 100), (16, .sl false false (a0.map (encSDNode false))), (17, V.int (a0.length : Int)), (18, V.int (IntKind.wrap .i64 (y475 + 1)))]) [(100, .vec false 3 1 (x918.map encI))] mix (by
            refine W.run D_ok 2 304 (by kernel_rfl) ?_
            exact W.fin (by decide) (by kernel_rfl) (Weak.sel [(100, 100)] [0, 4, 16, 17, 18] (by kernel_rfl) (by kernel_rfl) (by kernel_rfl))
            ) (fun st hw => ?_)
        exact ih1234 (a0, (IntKind.wrap .i64 (y475 + 1)), x918) h1581 _ (hw.trans (Weak.sel [(100, 100)] [0, 4, 16, 17, 18] (by kernel_rfl) (by kernel_rfl) (by kernel_rfl)))
    · refine CodeOk.ifF hc1236 (by kernel_rfl) ?_
      refine CodeOk.exit ?_
      refine CodeOk.weak (st' := ⟨tl 63 [(0, .sl false false (a0.map (encSDNode false))), (4, .own 100), (16, .sl false false (a0.map (encSDNode false))), (17, V.int (a0.length : Int)), (18, V.int y475), (19, V.bool (decide (y475 < (a0.length : Int))))], [(100, .vec false 3 1 (y476.map encI))]⟩) (Weak.refl _) ?_
      obtain ⟨e920, hx1618, h1233⟩ := bind_some h1233
      refine CodeOk.cutR (tl 63 [(2, .own 100), (3, V.bool (e920 == 0))]) [(100, .vec false 3 1 (y476.map encI))] mix (by
          refine W.run D_ok 3 243 (by kernel_rfl) ?_
          refine W.len D_ok (encSDNode false) a0 [] (by kernel_rfl) (by kernel_rfl) ?_
          refine W.run D_ok 1 243 (by kernel_rfl) ?_
          refine W.ixO D_ok encI hx1618 100 1 (by kernel_rfl) ?_
          refine W.ldO D_ok encI hx1618 3 100 0 (V.int e920) (by kernel_rfl) (by kernel_rfl) ?_
          refine W.run D_ok 3 243 (by kernel_rfl) ?_
          exact W.fin (by decide) (by kernel_rfl) (Weak.sel [(100, 100)] [2, 3] (by kernel_rfl) (by kernel_rfl) (by kernel_rfl))
          ) ?_
      refine CodeOk.ret ?_
      have h1233 := Option.some.inj h1233
      subst h1233
      exact Ends.gen [(100, 100)] (.inr rfl) (RetV.two rfl (OneR.tmp (t := 2) (r := .own 100) (by kernel_rfl)) (OneR.tmp (t := 3) (r := V.bool (e920 == 0)) (by kernel_rfl))) (by kernel_rfl) (by kernel_rfl) (by kernel_rfl)

theorem m_impl_DocOk_ok (N : Nat) (a0 : List SDNode) {r : Bool} (h : m_impl_DocOk N a0 = some r) :
    AC Try.prog GG 64 [.sl false false (a0.map (encSDNode false))] [] (V.bool r) [] := by
  rw [m_impl_DocOk] at h
  refine AC.enter Try.func64 rfl ?_
  refine CodeOk.cutR (tl 23 [(0, .sl false false (a0.map (encSDNode false)))]) [] mix (by
      refine W.run D_ok 1 100 (by kernel_rfl) ?_
      exact W.fin (by decide) (by kernel_rfl) (Weak.sel [] [0] (by kernel_rfl) (by kernel_rfl) (by kernel_rfl))
      ) ?_
  refine CodeOk.seq' ?_
  refine CodeOk.cutR (tl 23 [(0, .sl false false (a0.map (encSDNode false))), (7, .sl false false (a0.map (encSDNode false))), (8, V.int (a0.length : Int)), (9, V.int 0)]) [] mix (by
      refine W.run D_ok 1 100 (by kernel_rfl) ?_
      refine W.len D_ok (encSDNode false) a0 [] (by kernel_rfl) (by kernel_rfl) ?_
      refine W.run D_ok 1 100 (by kernel_rfl) ?_
      exact W.fin (by decide) (by kernel_rfl) (Weak.sel [] [0, 7, 8, 9] (by kernel_rfl) (by kernel_rfl) (by kernel_rfl))
      ) ?_
  refine CodeOk.block' ?_
  refine CodeOk.loopJ (fun (⟨a0, y35⟩ : ((List SDNode) × Int)) => ⟨tl 23 [(0, .sl false false (a0.map (encSDNode false))), (7, .sl false false (a0.map (encSDNode false))), (8, V.int (a0.length : Int)), (9, V.int y35)], []⟩) (fun n i => m_impl_DocOk_l1 N n i = some r) (n0 := N) (i0 := (a0, 0)) (Weak.sel [] [0, 7, 8, 9] (by kernel_rfl) (by kernel_rfl) (by kernel_rfl)) h (fun i h => by simp [m_impl_DocOk_l1] at h) ?_
  rintro n1 ⟨a0, y35⟩ h63 ih64
  rw [m_impl_DocOk_l1] at h63
  refine CodeOk.cutR (tl 23 [(0, .sl false false (a0.map (encSDNode false))), (7, .sl false false (a0.map (encSDNode false))), (8, V.int (a0.length : Int)), (9, V.int y35), (10, V.bool (decide (y35 < (a0.length : Int))))]) [] mix (by
      refine W.run D_ok 1 162 (by kernel_rfl) ?_
      exact W.fin (by decide) (by kernel_rfl) (Weak.sel [] [0, 7, 8, 9, 10] (by kernel_rfl) (by kernel_rfl) (by kernel_rfl))
      ) ?_
  refine CodeOk.seq' ?_
  rcases cond_some h63 with ⟨hc66, h63⟩ | ⟨hc66, h63⟩
  · refine CodeOk.ifT hc66 (by kernel_rfl) ?_
    refine CodeOk.skip ?_
    refine CodeOk.weak (st' := ⟨tl 23 [(0, .sl false false (a0.map (encSDNode false))), (7, .sl false false (a0.map (encSDNode false))), (8, V.int (a0.length : Int)), (9, V.int y35), (10, V.bool (decide (y35 < (a0.length : Int))))], []⟩) (Weak.refl _) ?_
    refine CodeOk.seq' ?_
    refine CodeOk.block' ?_
    obtain ⟨e50, hx73, h63⟩ := bind_some h63
    refine CodeOk.cutR (tl 23 [(0, .sl false false (a0.map (encSDNode false))), (4, .loc 162 0), (7, .sl false false (a0.map (encSDNode false))), (8, V.int (a0.length : Int)), (9, V.int y35)]) [(162, .cells 83 [V.int e50.Kind, V.int e50.N, V.str e50.Text, .sl false false (e50.Kids.map encI)])] mix (by
        refine W.ixD D_ok (encSDNode false) hx73 4 (by kernel_rfl) (by kernel_rfl) ?_
        refine W.run D_ok 3 162 (by kernel_rfl) ?_
        exact W.fin (by decide) (by kernel_rfl) (Weak.sel [(162, 162)] [0, 4, 7, 8, 9] (by kernel_rfl) (by kernel_rfl) (by kernel_rfl))
        ) ?_
    obtain ⟨r52, hx75, h63⟩ := bind_some h63
    refine CodeOk.cutR (tl 23 [(0, .sl false false (a0.map (encSDNode false))), (7, .sl false false (a0.map (encSDNode false))), (8, V.int (a0.length : Int)), (9, V.int y35), (15, V.bool (!r52))]) [] mix (by
        refine W.run D_ok 1 163 (by kernel_rfl) ?_
        refine W.call0 (m_impl_docNodeOk_ok e50 hx75) cok81 rfl (by kernel_rfl) ?_
        refine W.run D_ok 1 163 (by kernel_rfl) ?_
        exact W.fin (by decide) (by kernel_rfl) (Weak.sel [] [0, 7, 8, 9, 15] (by kernel_rfl) (by kernel_rfl) (by kernel_rfl))
        ) ?_
    rcases cond_some h63 with ⟨hc76, h63⟩ | ⟨hc76, h63⟩
    · refine CodeOk.ifT hc76 (by kernel_rfl) ?_
      refine CodeOk.cutR (tl 23 [(2, V.bool false)]) [] mix (by
          refine W.run D_ok 1 163 (by kernel_rfl) ?_
          exact W.fin (by decide) (by kernel_rfl) (Weak.sel [] [2] (by kernel_rfl) (by kernel_rfl) (by kernel_rfl))
          ) ?_
      refine CodeOk.ret ?_
      have h63 := Option.some.inj h63
      subst h63
      exact Ends.gen [] (.inr rfl) (RetV.one rfl (OneR.tmp (t := 2) (r := V.bool false) (by kernel_rfl))) (by kernel_rfl) (by kernel_rfl) (by kernel_rfl)
    · refine CodeOk.ifF hc76 (by kernel_rfl) ?_
      refine CodeOk.skip ?_
      refine CodeOk.weak (st' := ⟨tl 23 [(0, .sl false false (a0.map (encSDNode false))), (7, .sl false false (a0.map (encSDNode false))), (8, V.int (a0.length : Int)), (9, V.int y35), (15, V.bool (!r52))], []⟩) (Weak.refl _) ?_
      refine CodeOk.endR (tl 23 [(0, .sl false false (a0.map (encSDNode false))), (7, .sl false false (a0.map (encSDNode false))), (8, V.int (a0.length : Int)), (9, V.int (IntKind.wrap .i64 (y35 + 1)))]) [] mix (by
          refine W.run D_ok 2 163 (by kernel_rfl) ?_
          exact W.fin (by decide) (by kernel_rfl) (Weak.sel [] [0, 7, 8, 9] (by kernel_rfl) (by kernel_rfl) (by kernel_rfl))
          ) (fun st hw => ?_)
      exact ih64 (a0, (IntKind.wrap .i64 (y35 + 1))) h63 _ (hw.trans (Weak.sel [] [0, 7, 8, 9] (by kernel_rfl) (by kernel_rfl) (by kernel_rfl)))
  · refine CodeOk.ifF hc66 (by kernel_rfl) ?_
    refine CodeOk.exit ?_
    refine CodeOk.weak (st' := ⟨tl 23 [(0, .sl false false (a0.map (encSDNode false))), (7, .sl false false (a0.map (encSDNode false))), (8, V.int (a0.length : Int)), (9, V.int y35), (10, V.bool (decide (y35 < (a0.length : Int))))], []⟩) (Weak.refl _) ?_
    obtain ⟨r54, hx78, h63⟩ := bind_some h63
    refine CodeOk.cutR (tl 23 [(6, V.bool r54.2)]) [] mix (by
        refine W.run D_ok 1 162 (by kernel_rfl) ?_
        refine W.call (m_impl_docStarts_ok N a0 hx78) cok82 [] [(100, 162)] [162] (show LayOk _ [] from trivial) (by kernel_rfl) (by kernel_rfl) ?_
        refine W.run D_ok 5 163 (by kernel_rfl) ?_
        exact W.fin (by decide) (by kernel_rfl) (Weak.sel [] [6] (by kernel_rfl) (by kernel_rfl) (by kernel_rfl))
        ) ?_
    refine CodeOk.cutR (tl 23 [(2, V.bool r54.2)]) [] mix (by
        refine W.run D_ok 2 163 (by kernel_rfl) ?_
        exact W.fin (by decide) (by kernel_rfl) (Weak.sel [] [2] (by kernel_rfl) (by kernel_rfl) (by kernel_rfl))
        ) ?_
    refine CodeOk.ret ?_
    have h63 := Option.some.inj h63
    subst h63
    exact Ends.gen [] (.inr rfl) (RetV.one rfl (OneR.tmp (t := 2) (r := V.bool r54.2) (by kernel_rfl))) (by kernel_rfl) (by kernel_rfl) (by kernel_rfl)

theorem m_impl_copyDoc_ok (N : Nat) (a0 : List SDNode) (a1 : Int) (a2 : Int) {r : (List SDNode)} (h : m_impl_copyDoc N a0 a1 a2 = some r) :
    AC Try.prog GG 65 [.sl false false (a0.map (encSDNode false)), V.int a1, V.int a2] [] (.own 100) [(100, .vec false 83 4 (r.map (encSDNode true)))] := by
  rw [m_impl_copyDoc] at h
  refine AC.enter Try.func65 rfl ?_
  refine CodeOk.cutR (tl 34 [(0, .sl false false (a0.map (encSDNode false))), (1, V.int a1), (2, V.int a2)]) [] mix (by
      refine W.run D_ok 1 100 (by kernel_rfl) ?_
      exact W.fin (by decide) (by kernel_rfl) (Weak.sel [] [0, 1, 2] (by kernel_rfl) (by kernel_rfl) (by kernel_rfl))
      ) ?_
  refine CodeOk.cutR (tl 34 [(0, .sl false false (a0.map (encSDNode false))), (1, V.int a1), (2, V.int a2), (7, .own 100)]) [(100, .vec false 83 4 ([].map (encSDNode true)))] mix (by
      refine W.run D_ok 2 100 (by kernel_rfl) ?_
      exact W.fin (by decide) (by kernel_rfl) (Weak.sel [(100, 100)] [0, 1, 2, 7] (by kernel_rfl) (by kernel_rfl) (by kernel_rfl))
      ) ?_
  refine CodeOk.seq' ?_
  refine CodeOk.cutR (tl 34 [(1, V.int a1), (2, V.int a2), (7, .own 100), (11, .sl false false (a0.map (encSDNode false))), (12, V.int (a0.length : Int)), (13, V.int 0)]) [(100, .vec false 83 4 ([].map (encSDNode true)))] mix (by
      refine W.run D_ok 1 101 (by kernel_rfl) ?_
      refine W.len D_ok (encSDNode false) a0 [] (by kernel_rfl) (by kernel_rfl) ?_
      refine W.run D_ok 1 101 (by kernel_rfl) ?_
      exact W.fin (by decide) (by kernel_rfl) (Weak.sel [(100, 100)] [1, 2, 7, 11, 12, 13] (by kernel_rfl) (by kernel_rfl) (by kernel_rfl))
      ) ?_
  refine CodeOk.block' ?_
  refine CodeOk.loopJ (fun (⟨a1, a2, a0, y61, y62⟩ : (Int × Int × (List SDNode) × Int × (List SDNode))) => ⟨tl 34 [(1, V.int a1), (2, V.int a2), (7, .own 100), (11, .sl false false (a0.map (encSDNode false))), (12, V.int (a0.length : Int)), (13, V.int y61)], [(100, .vec false 83 4 (y62.map (encSDNode true)))]⟩) (fun n i => m_impl_copyDoc_l1 N n i = some r) (n0 := N) (i0 := (a1, a2, a0, 0, [])) (Weak.sel [(100, 100)] [1, 2, 7, 11, 12, 13] (by kernel_rfl) (by kernel_rfl) (by kernel_rfl)) h (fun i h => by simp [m_impl_copyDoc_l1] at h) ?_
  rintro n1 ⟨a1, a2, a0, y61, y62⟩ h113 ih114
  rw [m_impl_copyDoc_l1] at h113
  refine CodeOk.cutR (tl 34 [(1, V.int a1), (2, V.int a2), (7, .own 100), (11, .sl false false (a0.map (encSDNode false))), (12, V.int (a0.length : Int)), (13, V.int y61), (14, V.bool (decide (y61 < (a0.length : Int))))]) [(100, .vec false 83 4 (y62.map (encSDNode true)))] mix (by
      refine W.run D_ok 1 171 (by kernel_rfl) ?_
      exact W.fin (by decide) (by kernel_rfl) (Weak.sel [(100, 100)] [1, 2, 7, 11, 12, 13, 14] (by kernel_rfl) (by kernel_rfl) (by kernel_rfl))
      ) ?_
  refine CodeOk.seq' ?_
  rcases cond_some h113 with ⟨hc116, h113⟩ | ⟨hc116, h113⟩
  · refine CodeOk.ifT hc116 (by kernel_rfl) ?_
    refine CodeOk.skip ?_
    refine CodeOk.weak (st' := ⟨tl 34 [(1, V.int a1), (2, V.int a2), (7, .own 100), (11, .sl false false (a0.map (encSDNode false))), (12, V.int (a0.length : Int)), (13, V.int y61), (14, V.bool (decide (y61 < (a0.length : Int))))], [(100, .vec false 83 4 (y62.map (encSDNode true)))]⟩) (Weak.refl _) ?_
    refine CodeOk.seq' ?_
    refine CodeOk.block' ?_
    obtain ⟨e87, hx128, h113⟩ := bind_some h113
    refine CodeOk.cutR (tl 34 [(1, V.int a1), (2, V.int a2), (7, .own 100), (9, .loc 171 0), (11, .sl false false (a0.map (encSDNode false))), (12, V.int (a0.length : Int)), (13, V.int y61)]) [(171, .cells 83 [V.int e87.Kind, V.int e87.N, V.str e87.Text, .sl false false (e87.Kids.map encI)]), (100, .vec false 83 4 (y62.map (encSDNode true)))] mix (by
        refine W.ixD D_ok (encSDNode false) hx128 4 (by kernel_rfl) (by kernel_rfl) ?_
        refine W.run D_ok 3 171 (by kernel_rfl) ?_
        exact W.fin (by decide) (by kernel_rfl) (Weak.sel [(171, 171), (100, 100)] [1, 2, 7, 9, 11, 12, 13] (by kernel_rfl) (by kernel_rfl) (by kernel_rfl))
        ) ?_
    refine CodeOk.join (fun (⟨a1, a2, a0, y61, y62, e87, y88⟩ : (Int × Int × (List SDNode) × Int × (List SDNode) × SDNode × Int)) => ⟨tl 34 [(1, V.int a1), (2, V.int a2), (7, .own 100), (9, .loc 101 0), (11, .sl false false (a0.map (encSDNode false))), (12, V.int (a0.length : Int)), (13, V.int y61)], [(100, .vec false 83 4 (y62.map (encSDNode true))), (101, .cells 83 [V.int y88, V.int e87.N, V.str e87.Text, .sl false false (e87.Kids.map encI)])]⟩) (fun i => m_impl_copyDoc_k2 N (m_impl_copyDoc_l1 N n1) i = some r) ?_ ?_
    · rintro ⟨a1, a2, a0, y61, y62, e87, y88⟩ h130
      rw [m_impl_copyDoc_k2] at h130
      obtain ⟨x90, hx132, h130⟩ := bind_some h130
      refine CodeOk.cutR (tl 34 [(1, V.int a1), (2, V.int a2), (7, .own 100), (9, .loc 101 0), (11, .sl false false (a0.map (encSDNode false))), (12, V.int (a0.length : Int)), (13, V.int y61)]) [(101, .cells 83 [V.int y88, V.int e87.N, V.str e87.Text, .own 173]), (173, .vec false 3 1 (x90.map encI)), (100, .vec false 83 4 (y62.map (encSDNode true)))] mix (by
          refine W.run D_ok 3 172 (by kernel_rfl) ?_
          refine W.appD D_ok encI (a := 172) (el := 3) 8 hx132 rfl 173 1 (fun _ => by first | rfl | kernel_rfl) (by kernel_rfl) ?_
          refine W.run D_ok 2 174 (by kernel_rfl) ?_
          exact W.fin (by decide) (by kernel_rfl) (Weak.sel [(101, 101), (173, 173), (100, 100)] [1, 2, 7, 9, 11, 12, 13] (by kernel_rfl) (by kernel_rfl) (by kernel_rfl))
          ) ?_
      obtain ⟨x92, hx134, h130⟩ := bind_some h130
      refine CodeOk.endR (tl 34 [(1, V.int a1), (2, V.int a2), (7, .own 175), (11, .sl false false (a0.map (encSDNode false))), (12, V.int (a0.length : Int)), (13, V.int y61)]) [(175, .vec false 83 4 (x92.map (encSDNode true)))] mix (by
          refine W.run D_ok 3 174 (by kernel_rfl) ?_
          refine W.appO D_ok (encSDNode true) (a := 100) (c := 174) (el := 83) (sz := 4) 56 hx134 rfl 175 (by kernel_rfl) ?_
          refine W.run D_ok 1 176 (by kernel_rfl) ?_
          exact W.fin (by decide) (by kernel_rfl) (Weak.sel [(175, 175)] [1, 2, 7, 11, 12, 13] (by kernel_rfl) (by kernel_rfl) (by kernel_rfl))
          ) (fun st hw => ?_)
      refine CodeOk.weak (st' := ⟨tl 34 [(1, V.int a1), (2, V.int a2), (7, .own 175), (11, .sl false false (a0.map (encSDNode false))), (12, V.int (a0.length : Int)), (13, V.int y61)], [(175, .vec false 83 4 (x92.map (encSDNode true)))]⟩) hw ?_
      refine CodeOk.endR (tl 34 [(1, V.int a1), (2, V.int a2), (7, .own 175), (11, .sl false false (a0.map (encSDNode false))), (12, V.int (a0.length : Int)), (13, V.int (IntKind.wrap .i64 (y61 + 1)))]) [(175, .vec false 83 4 (x92.map (encSDNode true)))] mix (by
          refine W.run D_ok 2 176 (by kernel_rfl) ?_
          exact W.fin (by decide) (by kernel_rfl) (Weak.sel [(175, 175)] [1, 2, 7, 11, 12, 13] (by kernel_rfl) (by kernel_rfl) (by kernel_rfl))
          ) (fun st hw => ?_)
      exact ih114 (a1, a2, a0, (IntKind.wrap .i64 (y61 + 1)), x92) h130 _ (hw.trans (Weak.sel [(175, 100)] [1, 2, 7, 11, 12, 13] (by kernel_rfl) (by kernel_rfl) (by kernel_rfl)))
    intro hk135
    refine CodeOk.cutR (tl 34 [(1, V.int a1), (2, V.int a2), (7, .own 100), (9, .loc 171 0), (11, .sl false false (a0.map (encSDNode false))), (12, V.int (a0.length : Int)), (13, V.int y61), (20, V.bool (e87.Kind == a1))]) [(171, .cells 83 [V.int e87.Kind, V.int e87.N, V.str e87.Text, .sl false false (e87.Kids.map encI)]), (100, .vec false 83 4 (y62.map (encSDNode true)))] mix (by
        refine W.run D_ok 4 172 (by kernel_rfl) ?_
        exact W.fin (by decide) (by kernel_rfl) (Weak.sel [(171, 171), (100, 100)] [1, 2, 7, 9, 11, 12, 13, 20] (by kernel_rfl) (by kernel_rfl) (by kernel_rfl))
        ) ?_
    rcases cond_some h113 with ⟨hc136, h113⟩ | ⟨hc136, h113⟩
    · refine CodeOk.ifT hc136 (by kernel_rfl) ?_
      refine CodeOk.endR (tl 34 [(1, V.int a1), (2, V.int a2), (7, .own 100), (9, .loc 171 0), (11, .sl false false (a0.map (encSDNode false))), (12, V.int (a0.length : Int)), (13, V.int y61)]) [(171, .cells 83 [V.int a2, V.int e87.N, V.str e87.Text, .sl false false (e87.Kids.map encI)]), (100, .vec false 83 4 (y62.map (encSDNode true)))] mix (by
          refine W.run D_ok 3 172 (by kernel_rfl) ?_
          exact W.fin (by decide) (by kernel_rfl) (Weak.sel [(171, 171), (100, 100)] [1, 2, 7, 9, 11, 12, 13] (by kernel_rfl) (by kernel_rfl) (by kernel_rfl))
          ) (fun st hw => ?_)
      exact hk135 (a1, a2, a0, y61, y62, e87, a2) h113 _ (hw.trans (Weak.sel [(100, 100), (171, 101)] [1, 2, 7, 9, 11, 12, 13] (by kernel_rfl) (by kernel_rfl) (by kernel_rfl)))
    · refine CodeOk.ifF hc136 (by kernel_rfl) ?_
      refine CodeOk.skip ?_
      exact hk135 (a1, a2, a0, y61, y62, e87, e87.Kind) h113 _ (Weak.sel [(100, 100), (171, 101)] [1, 2, 7, 9, 11, 12, 13] (by kernel_rfl) (by kernel_rfl) (by kernel_rfl))
  · refine CodeOk.ifF hc116 (by kernel_rfl) ?_
    refine CodeOk.exit ?_
    refine CodeOk.weak (st' := ⟨tl 34 [(1, V.int a1), (2, V.int a2), (7, .own 100), (11, .sl false false (a0.map (encSDNode false))), (12, V.int (a0.length : Int)), (13, V.int y61), (14, V.bool (decide (y61 < (a0.length : Int))))], [(100, .vec false 83 4 (y62.map (encSDNode true)))]⟩) (Weak.refl _) ?_
    refine CodeOk.cutR (tl 34 [(6, .own 100)]) [(100, .vec false 83 4 (y62.map (encSDNode true)))] mix (by
        refine W.run D_ok 2 171 (by kernel_rfl) ?_
        exact W.fin (by decide) (by kernel_rfl) (Weak.sel [(100, 100)] [6] (by kernel_rfl) (by kernel_rfl) (by kernel_rfl))
        ) ?_
    refine CodeOk.ret ?_
    have h113 := Option.some.inj h113
    subst h113
    exact Ends.gen [(100, 100)] (.inr rfl) (RetV.one rfl (OneR.tmp (t := 6) (r := .own 100) (by kernel_rfl))) (by kernel_rfl) (by kernel_rfl) (by kernel_rfl)

theorem m_impl_Softened_ok (N : Nat) (a0 : List SDNode) {r : (List SDNode)} (h : m_impl_Softened N a0 = some r) :
    AC Try.prog GG 33 [.sl false false (a0.map (encSDNode false))] [] (.own 100) [(100, .vec false 83 4 (r.map (encSDNode true)))] := by
  rw [m_impl_Softened] at h
  refine AC.enter Try.func33 rfl ?_
  refine CodeOk.cutR (tl 8 [(0, .sl false false (a0.map (encSDNode false)))]) [] mix (by
      refine W.run D_ok 1 100 (by kernel_rfl) ?_
      exact W.fin (by decide) (by kernel_rfl) (Weak.sel [] [0] (by kernel_rfl) (by kernel_rfl) (by kernel_rfl))
      ) ?_
  refine CodeOk.seq' ?_
  obtain ⟨r4, hx5, h⟩ := bind_some h
  refine CodeOk.cutR (tl 8 [(0, .sl false false (a0.map (encSDNode false))), (5, V.bool (!r4))]) [] mix (by
      refine W.run D_ok 1 100 (by kernel_rfl) ?_
      refine W.call0 (m_impl_DocOk_ok N a0 hx5) cok64 rfl (by kernel_rfl) ?_
      refine W.run D_ok 1 100 (by kernel_rfl) ?_
      exact W.fin (by decide) (by kernel_rfl) (Weak.sel [] [0, 5] (by kernel_rfl) (by kernel_rfl) (by kernel_rfl))
      ) ?_
  rcases cond_some h with ⟨hc6, h⟩ | ⟨hc6, h⟩
  · refine CodeOk.ifT hc6 (by kernel_rfl) ?_
    refine CodeOk.cutR (tl 8 [(2, .c (.slice none 0 0))]) [] mix (by
        refine W.run D_ok 1 100 (by kernel_rfl) ?_
        exact W.fin (by decide) (by kernel_rfl) (Weak.sel [] [2] (by kernel_rfl) (by kernel_rfl) (by kernel_rfl))
        ) ?_
    refine CodeOk.weak (Weak.nil 2 100 83 4 (by kernel_rfl) (by kernel_rfl)) ?_
    refine CodeOk.ret ?_
    have h := Option.some.inj h
    subst h
    exact Ends.gen [(100, 100)] (.inr rfl) (RetV.one rfl (OneR.tmp (t := 2) (r := .own 100) (by kernel_rfl))) (by kernel_rfl) (by kernel_rfl) (by kernel_rfl)
  · refine CodeOk.ifF hc6 (by kernel_rfl) ?_
    refine CodeOk.skip ?_
    refine CodeOk.weak (st' := ⟨tl 8 [(0, .sl false false (a0.map (encSDNode false))), (5, V.bool (!r4))], []⟩) (Weak.refl _) ?_
    obtain ⟨r6, hx8, h⟩ := bind_some h
    refine CodeOk.cutR (tl 8 [(2, .own 100)]) [(100, .vec false 83 4 (r6.map (encSDNode true)))] mix (by
        refine W.run D_ok 1 100 (by kernel_rfl) ?_
        refine W.call (m_impl_copyDoc_ok N a0 3 2 hx8) cok65 [] [(100, 100)] [100] (show LayOk _ [] from trivial) (by kernel_rfl) (by kernel_rfl) ?_
        refine W.run D_ok 1 101 (by kernel_rfl) ?_
        exact W.fin (by decide) (by kernel_rfl) (Weak.sel [(100, 100)] [2] (by kernel_rfl) (by kernel_rfl) (by kernel_rfl))
        ) ?_
    refine CodeOk.ret ?_
    have h := Option.some.inj h
    subst h
    exact Ends.gen [(100, 100)] (.inr rfl) (RetV.one rfl (OneR.tmp (t := 2) (r := .own 100) (by kernel_rfl))) (by kernel_rfl) (by kernel_rfl) (by kernel_rfl)

theorem m_laws_eqDNode_ok (N : Nat) (a0 : SDNode) (a1 : SDNode) {r : Bool} (h : m_laws_eqDNode N a0 a1 = some r) :
    AC Try.prog GG 66 [.agg [V.int a0.Kind, V.int a0.N, V.str a0.Text, .sl false false (a0.Kids.map encI)], .agg [V.int a1.Kind, V.int a1.N, V.str a1.Text, .sl false false (a1.Kids.map encI)]] [] (V.bool r) [] := by
  rw [m_laws_eqDNode] at h
  refine AC.enter Try.func66 rfl ?_
  refine CodeOk.cutR (tl 26 [(2, .loc 100 0), (3, .loc 101 0)]) [(101, .cells 83 [V.int a1.Kind, V.int a1.N, V.str a1.Text, .sl false false (a1.Kids.map encI)]), (100, .cells 83 [V.int a0.Kind, V.int a0.N, V.str a0.Text, .sl false false (a0.Kids.map encI)])] mix (by
      refine W.run D_ok 3 100 (by kernel_rfl) ?_
      exact W.fin (by decide) (by kernel_rfl) (Weak.sel [(101, 101), (100, 100)] [2, 3] (by kernel_rfl) (by kernel_rfl) (by kernel_rfl))
      ) ?_
  refine CodeOk.seq' ?_
  refine CodeOk.cutR (tl 26 [(2, .loc 100 0), (3, .loc 101 0), (9, V.bool (a0.Kind != a1.Kind))]) [(101, .cells 83 [V.int a1.Kind, V.int a1.N, V.str a1.Text, .sl false false (a1.Kids.map encI)]), (100, .cells 83 [V.int a0.Kind, V.int a0.N, V.str a0.Text, .sl false false (a0.Kids.map encI)])] mix (by
      refine W.run D_ok 5 102 (by kernel_rfl) ?_
      exact W.fin (by decide) (by kernel_rfl) (Weak.sel [(101, 101), (100, 100)] [2, 3, 9] (by kernel_rfl) (by kernel_rfl) (by kernel_rfl))
      ) ?_
  rcases cond_some h with ⟨hc2, h⟩ | ⟨hc2, h⟩
  · refine CodeOk.ifT hc2 (by kernel_rfl) ?_
    refine CodeOk.cutR (tl 26 [(4, V.bool false)]) [] mix (by
        refine W.run D_ok 1 102 (by kernel_rfl) ?_
        exact W.fin (by decide) (by kernel_rfl) (Weak.sel [] [4] (by kernel_rfl) (by kernel_rfl) (by kernel_rfl))
        ) ?_
    refine CodeOk.ret ?_
    have h := Option.some.inj h
    subst h
    exact Ends.gen [] (.inr rfl) (RetV.one rfl (OneR.tmp (t := 4) (r := V.bool false) (by kernel_rfl))) (by kernel_rfl) (by kernel_rfl) (by kernel_rfl)
  · refine CodeOk.ifF hc2 (by kernel_rfl) ?_
    refine CodeOk.skip ?_
    refine CodeOk.weak (st' := ⟨tl 26 [(2, .loc 100 0), (3, .loc 101 0), (9, V.bool (a0.Kind != a1.Kind))], [(101, .cells 83 [V.int a1.Kind, V.int a1.N, V.str a1.Text, .sl false false (a1.Kids.map encI)]), (100, .cells 83 [V.int a0.Kind, V.int a0.N, V.str a0.Text, .sl false false (a0.Kids.map encI)])]⟩) (Weak.refl _) ?_
    refine CodeOk.seq' ?_
    refine CodeOk.cutR (tl 26 [(2, .loc 100 0), (3, .loc 101 0), (14, V.bool (a0.N != a1.N))]) [(101, .cells 83 [V.int a1.Kind, V.int a1.N, V.str a1.Text, .sl false false (a1.Kids.map encI)]), (100, .cells 83 [V.int a0.Kind, V.int a0.N, V.str a0.Text, .sl false false (a0.Kids.map encI)])] mix (by
        refine W.run D_ok 5 102 (by kernel_rfl) ?_
        exact W.fin (by decide) (by kernel_rfl) (Weak.sel [(101, 101), (100, 100)] [2, 3, 14] (by kernel_rfl) (by kernel_rfl) (by kernel_rfl))
        ) ?_
    rcases cond_some h with ⟨hc4, h⟩ | ⟨hc4, h⟩
    · refine CodeOk.ifT hc4 (by kernel_rfl) ?_
      refine CodeOk.cutR (tl 26 [(4, V.bool false)]) [] mix (by
          refine W.run D_ok 1 102 (by kernel_rfl) ?_
          exact W.fin (by decide) (by kernel_rfl) (Weak.sel [] [4] (by kernel_rfl) (by kernel_rfl) (by kernel_rfl))
          ) ?_
      refine CodeOk.ret ?_
      have h := Option.some.inj h
      subst h
      exact Ends.gen [] (.inr rfl) (RetV.one rfl (OneR.tmp (t := 4) (r := V.bool false) (by kernel_rfl))) (by kernel_rfl) (by kernel_rfl) (by kernel_rfl)
    · refine CodeOk.ifF hc4 (by kernel_rfl) ?_
      refine CodeOk.skip ?_
      refine CodeOk.weak (st' := ⟨tl 26 [(2, .loc 100 0), (3, .loc 101 0), (14, V.bool (a0.N != a1.N))], [(101, .cells 83 [V.int a1.Kind, V.int a1.N, V.str a1.Text, .sl false false (a1.Kids.map encI)]), (100, .cells 83 [V.int a0.Kind, V.int a0.N, V.str a0.Text, .sl false false (a0.Kids.map encI)])]⟩) (Weak.refl _) ?_
      refine CodeOk.seq' ?_
      refine CodeOk.cutR (tl 26 [(2, .loc 100 0), (3, .loc 101 0), (19, V.bool (!(a0.Text == a1.Text)))]) [(101, .cells 83 [V.int a1.Kind, V.int a1.N, V.str a1.Text, .sl false false (a1.Kids.map encI)]), (100, .cells 83 [V.int a0.Kind, V.int a0.N, V.str a0.Text, .sl false false (a0.Kids.map encI)])] mix (by
          refine W.run D_ok 5 102 (by kernel_rfl) ?_
          exact W.fin (by decide) (by kernel_rfl) (Weak.sel [(101, 101), (100, 100)] [2, 3, 19] (by kernel_rfl) (by kernel_rfl) (by kernel_rfl))
          ) ?_
      rcases cond_some h with ⟨hc6, h⟩ | ⟨hc6, h⟩
      · refine CodeOk.ifT hc6 (by kernel_rfl) ?_
        refine CodeOk.cutR (tl 26 [(4, V.bool false)]) [] mix (by
            refine W.run D_ok 1 102 (by kernel_rfl) ?_
            exact W.fin (by decide) (by kernel_rfl) (Weak.sel [] [4] (by kernel_rfl) (by kernel_rfl) (by kernel_rfl))
            ) ?_
        refine CodeOk.ret ?_
        have h := Option.some.inj h
        subst h
        exact Ends.gen [] (.inr rfl) (RetV.one rfl (OneR.tmp (t := 4) (r := V.bool false) (by kernel_rfl))) (by kernel_rfl) (by kernel_rfl) (by kernel_rfl)
      · refine CodeOk.ifF hc6 (by kernel_rfl) ?_
        refine CodeOk.skip ?_
        refine CodeOk.weak (st' := ⟨tl 26 [(2, .loc 100 0), (3, .loc 101 0), (19, V.bool (!(a0.Text == a1.Text)))], [(101, .cells 83 [V.int a1.Kind, V.int a1.N, V.str a1.Text, .sl false false (a1.Kids.map encI)]), (100, .cells 83 [V.int a0.Kind, V.int a0.N, V.str a0.Text, .sl false false (a0.Kids.map encI)])]⟩) (Weak.refl _) ?_
        refine CodeOk.seq' ?_
        obtain ⟨r4, hx11, h⟩ := bind_some h
        refine CodeOk.cutR (tl 26 [(25, V.bool (!r4))]) [] mix (by
            refine W.run D_ok 4 102 (by kernel_rfl) ?_
            refine W.call0 (m_laws_eqIntS_ok N a0.Kids a1.Kids hx11) cok45 rfl (by kernel_rfl) ?_
            refine W.run D_ok 1 102 (by kernel_rfl) ?_
            exact W.fin (by decide) (by kernel_rfl) (Weak.sel [] [25] (by kernel_rfl) (by kernel_rfl) (by kernel_rfl))
            ) ?_
        rcases cond_some h with ⟨hc12, h⟩ | ⟨hc12, h⟩
        · refine CodeOk.ifT hc12 (by kernel_rfl) ?_
          refine CodeOk.cutR (tl 26 [(4, V.bool false)]) [] mix (by
              refine W.run D_ok 1 102 (by kernel_rfl) ?_
              exact W.fin (by decide) (by kernel_rfl) (Weak.sel [] [4] (by kernel_rfl) (by kernel_rfl) (by kernel_rfl))
              ) ?_
          refine CodeOk.ret ?_
          have h := Option.some.inj h
          subst h
          exact Ends.gen [] (.inr rfl) (RetV.one rfl (OneR.tmp (t := 4) (r := V.bool false) (by kernel_rfl))) (by kernel_rfl) (by kernel_rfl) (by kernel_rfl)
        · refine CodeOk.ifF hc12 (by kernel_rfl) ?_
          refine CodeOk.skip ?_
          refine CodeOk.weak (st' := ⟨tl 26 [(25, V.bool (!r4))], []⟩) (Weak.refl _) ?_
          refine CodeOk.cutR (tl 26 [(4, V.bool true)]) [] mix (by
              refine W.run D_ok 1 102 (by kernel_rfl) ?_
              exact W.fin (by decide) (by kernel_rfl) (Weak.sel [] [4] (by kernel_rfl) (by kernel_rfl) (by kernel_rfl))
              ) ?_
          refine CodeOk.ret ?_
          have h := Option.some.inj h
          subst h
          exact Ends.gen [] (.inr rfl) (RetV.one rfl (OneR.tmp (t := 4) (r := V.bool true) (by kernel_rfl))) (by kernel_rfl) (by kernel_rfl) (by kernel_rfl)

theorem m_laws_eqDNodeS_ok (N : Nat) (a0 : List SDNode) (a1 : List SDNode) {r : Bool} (h : m_laws_eqDNodeS N a0 a1 = some r) :
    AC Try.prog GG 34 [.sl false false (a0.map (encSDNode false)), .sl false false (a1.map (encSDNode false))] [] (V.bool r) [] := by
  rw [m_laws_eqDNodeS] at h
  refine AC.enter Try.func34 rfl ?_
  refine CodeOk.cutR (tl 27 [(0, .sl false false (a0.map (encSDNode false))), (1, .sl false false (a1.map (encSDNode false)))]) [] mix (by
      refine W.run D_ok 1 100 (by kernel_rfl) ?_
      exact W.fin (by decide) (by kernel_rfl) (Weak.sel [] [0, 1] (by kernel_rfl) (by kernel_rfl) (by kernel_rfl))
      ) ?_
  refine CodeOk.seq' ?_
  refine CodeOk.cutR (tl 27 [(0, .sl false false (a0.map (encSDNode false))), (1, .sl false false (a1.map (encSDNode false))), (10, V.bool ((a0.length : Int) != (a1.length : Int)))]) [] mix (by
      refine W.run D_ok 1 100 (by kernel_rfl) ?_
      refine W.len D_ok (encSDNode false) a0 [] (by kernel_rfl) (by kernel_rfl) ?_
      refine W.run D_ok 1 100 (by kernel_rfl) ?_
      refine W.len D_ok (encSDNode false) a1 [] (by kernel_rfl) (by kernel_rfl) ?_
      refine W.run D_ok 1 100 (by kernel_rfl) ?_
      exact W.fin (by decide) (by kernel_rfl) (Weak.sel [] [0, 1, 10] (by kernel_rfl) (by kernel_rfl) (by kernel_rfl))
      ) ?_
  rcases cond_some h with ⟨hc2, h⟩ | ⟨hc2, h⟩
  · refine CodeOk.ifT hc2 (by kernel_rfl) ?_
    refine CodeOk.cutR (tl 27 [(4, V.bool false)]) [] mix (by
        refine W.run D_ok 1 100 (by kernel_rfl) ?_
        exact W.fin (by decide) (by kernel_rfl) (Weak.sel [] [4] (by kernel_rfl) (by kernel_rfl) (by kernel_rfl))
        ) ?_
    refine CodeOk.ret ?_
    have h := Option.some.inj h
    subst h
    exact Ends.gen [] (.inr rfl) (RetV.one rfl (OneR.tmp (t := 4) (r := V.bool false) (by kernel_rfl))) (by kernel_rfl) (by kernel_rfl) (by kernel_rfl)
  · refine CodeOk.ifF hc2 (by kernel_rfl) ?_
    refine CodeOk.skip ?_
    refine CodeOk.weak (st' := ⟨tl 27 [(0, .sl false false (a0.map (encSDNode false))), (1, .sl false false (a1.map (encSDNode false))), (10, V.bool ((a0.length : Int) != (a1.length : Int)))], []⟩) (Weak.refl _) ?_
    refine CodeOk.seq' ?_
    refine CodeOk.cutR (tl 27 [(0, .sl false false (a0.map (encSDNode false))), (1, .sl false false (a1.map (encSDNode false))), (5, V.int 0)]) [] mix (by
        refine W.run D_ok 1 100 (by kernel_rfl) ?_
        exact W.fin (by decide) (by kernel_rfl) (Weak.sel [] [0, 1, 5] (by kernel_rfl) (by kernel_rfl) (by kernel_rfl))
        ) ?_
    refine CodeOk.block' ?_
    refine CodeOk.loopJ (fun (⟨a0, a1, y51⟩ : ((List SDNode) × (List SDNode) × Int)) => ⟨tl 27 [(0, .sl false false (a0.map (encSDNode false))), (1, .sl false false (a1.map (encSDNode false))), (5, V.int y51)], []⟩) (fun n i => m_laws_eqDNodeS_l1 N n i = some r) (n0 := N) (i0 := (a0, a1, 0)) (Weak.sel [] [0, 1, 5] (by kernel_rfl) (by kernel_rfl) (by kernel_rfl)) h (fun i h => by simp [m_laws_eqDNodeS_l1] at h) ?_
    rintro n1 ⟨a0, a1, y51⟩ h85 ih86
    rw [m_laws_eqDNodeS_l1] at h85
    refine CodeOk.seq' ?_
    refine CodeOk.cutR (tl 27 [(0, .sl false false (a0.map (encSDNode false))), (1, .sl false false (a1.map (encSDNode false))), (5, V.int y51), (14, V.bool (decide (y51 < (a0.length : Int))))]) [] mix (by
        refine W.run D_ok 2 160 (by kernel_rfl) ?_
        refine W.len D_ok (encSDNode false) a0 [] (by kernel_rfl) (by kernel_rfl) ?_
        refine W.run D_ok 1 160 (by kernel_rfl) ?_
        exact W.fin (by decide) (by kernel_rfl) (Weak.sel [] [0, 1, 5, 14] (by kernel_rfl) (by kernel_rfl) (by kernel_rfl))
        ) ?_
    rcases cond_some h85 with ⟨hc88, h85⟩ | ⟨hc88, h85⟩
    · refine CodeOk.ifT hc88 (by kernel_rfl) ?_
      refine CodeOk.skip ?_
      refine CodeOk.weak (st' := ⟨tl 27 [(0, .sl false false (a0.map (encSDNode false))), (1, .sl false false (a1.map (encSDNode false))), (5, V.int y51), (14, V.bool (decide (y51 < (a0.length : Int))))], []⟩) (Weak.refl _) ?_
      refine CodeOk.seq' ?_
      refine CodeOk.block' ?_
      obtain ⟨e74, hx99, h85⟩ := bind_some h85
      obtain ⟨e75, hx100, h85⟩ := bind_some h85
      obtain ⟨r76, hx101, h85⟩ := bind_some h85
      refine CodeOk.cutR (tl 27 [(0, .sl false false (a0.map (encSDNode false))), (1, .sl false false (a1.map (encSDNode false))), (5, V.int y51), (26, V.bool (!r76))]) [] mix (by
          refine W.run D_ok 2 160 (by kernel_rfl) ?_
          refine W.ixD D_ok (encSDNode false) hx99 4 (by kernel_rfl) (by kernel_rfl) ?_
          refine W.run D_ok 3 160 (by kernel_rfl) ?_
          refine W.ixD D_ok (encSDNode false) hx100 4 (by kernel_rfl) (by kernel_rfl) ?_
          refine W.run D_ok 1 160 (by kernel_rfl) ?_
          refine W.call0 (m_laws_eqDNode_ok N e74 e75 hx101) cok66 rfl (by kernel_rfl) ?_
          refine W.run D_ok 1 160 (by kernel_rfl) ?_
          exact W.fin (by decide) (by kernel_rfl) (Weak.sel [] [0, 1, 5, 26] (by kernel_rfl) (by kernel_rfl) (by kernel_rfl))
          ) ?_
      rcases cond_some h85 with ⟨hc102, h85⟩ | ⟨hc102, h85⟩
      · refine CodeOk.ifT hc102 (by kernel_rfl) ?_
        refine CodeOk.cutR (tl 27 [(4, V.bool false)]) [] mix (by
            refine W.run D_ok 1 160 (by kernel_rfl) ?_
            exact W.fin (by decide) (by kernel_rfl) (Weak.sel [] [4] (by kernel_rfl) (by kernel_rfl) (by kernel_rfl))
            ) ?_
        refine CodeOk.ret ?_
        have h85 := Option.some.inj h85
        subst h85
        exact Ends.gen [] (.inr rfl) (RetV.one rfl (OneR.tmp (t := 4) (r := V.bool false) (by kernel_rfl))) (by kernel_rfl) (by kernel_rfl) (by kernel_rfl)
      · refine CodeOk.ifF hc102 (by kernel_rfl) ?_
        refine CodeOk.skip ?_
        refine CodeOk.weak (st' := ⟨tl 27 [(0, .sl false false (a0.map (encSDNode false))), (1, .sl false false (a1.map (encSDNode false))), (5, V.int y51), (26, V.bool (!r76))], []⟩) (Weak.refl _) ?_
        refine CodeOk.endR (tl 27 [(0, .sl false false (a0.map (encSDNode false))), (1, .sl false false (a1.map (encSDNode false))), (5, V.int (IntKind.wrap .i64 (y51 + 1)))]) [] mix (by
            refine W.run D_ok 3 160 (by kernel_rfl) ?_
            exact W.fin (by decide) (by kernel_rfl) (Weak.sel [] [0, 1, 5] (by kernel_rfl) (by kernel_rfl) (by kernel_rfl))
            ) (fun st hw => ?_)
        exact ih86 (a0, a1, (IntKind.wrap .i64 (y51 + 1))) h85 _ (hw.trans (Weak.sel [] [0, 1, 5] (by kernel_rfl) (by kernel_rfl) (by kernel_rfl)))
    · refine CodeOk.ifF hc88 (by kernel_rfl) ?_
      refine CodeOk.exit ?_
      refine CodeOk.weak (st' := ⟨tl 27 [(0, .sl false false (a0.map (encSDNode false))), (1, .sl false false (a1.map (encSDNode false))), (5, V.int y51), (14, V.bool (decide (y51 < (a0.length : Int))))], []⟩) (Weak.refl _) ?_
      refine CodeOk.cutR (tl 27 [(4, V.bool true)]) [] mix (by
          refine W.run D_ok 1 160 (by kernel_rfl) ?_
          exact W.fin (by decide) (by kernel_rfl) (Weak.sel [] [4] (by kernel_rfl) (by kernel_rfl) (by kernel_rfl))
          ) ?_
      refine CodeOk.ret ?_
      have h85 := Option.some.inj h85
      subst h85
      exact Ends.gen [] (.inr rfl) (RetV.one rfl (OneR.tmp (t := 4) (r := V.bool true) (by kernel_rfl))) (by kernel_rfl) (by kernel_rfl) (by kernel_rfl)

theorem m_laws_markText_ok (N : Nat) (a0 : Int) {r : (List UInt8)} (h : m_laws_markText N a0 = some r) :
    AC Try.prog GG 59 [V.int a0] [] (V.str r) [] := by
  rw [m_laws_markText] at h
  refine AC.enter Try.func59 rfl ?_
  refine CodeOk.cutR (tl 20 [(0, V.int a0)]) [] mix (by
      refine W.run D_ok 1 100 (by kernel_rfl) ?_
      exact W.fin (by decide) (by kernel_rfl) (Weak.sel [] [0] (by kernel_rfl) (by kernel_rfl) (by kernel_rfl))
      ) ?_
  refine CodeOk.seq' ?_
  refine CodeOk.cutR (tl 20 [(0, V.int a0), (5, V.bool (decide (a0 ≤ 0)))]) [] mix (by
      refine W.run D_ok 2 100 (by kernel_rfl) ?_
      exact W.fin (by decide) (by kernel_rfl) (Weak.sel [] [0, 5] (by kernel_rfl) (by kernel_rfl) (by kernel_rfl))
      ) ?_
  rcases cond_some h with ⟨hc2, h⟩ | ⟨hc2, h⟩
  · refine CodeOk.ifT hc2 (by kernel_rfl) ?_
    refine CodeOk.cutR (tl 20 [(2, V.str [109, 48])]) [] mix (by
        refine W.run D_ok 1 100 (by kernel_rfl) ?_
        exact W.fin (by decide) (by kernel_rfl) (Weak.sel [] [2] (by kernel_rfl) (by kernel_rfl) (by kernel_rfl))
        ) ?_
    refine CodeOk.ret ?_
    have h := Option.some.inj h
    subst h
    exact Ends.gen [] (.inr rfl) (RetV.one rfl (OneR.tmp (t := 2) (r := V.str [109, 48]) (by kernel_rfl))) (by kernel_rfl) (by kernel_rfl) (by kernel_rfl)
  · refine CodeOk.ifF hc2 (by kernel_rfl) ?_
    refine CodeOk.skip ?_
    refine CodeOk.weak (st' := ⟨tl 20 [(0, V.int a0), (5, V.bool (decide (a0 ≤ 0)))], []⟩) (Weak.refl _) ?_
    refine CodeOk.cutR (tl 20 [(0, V.int a0), (3, V.str [])]) [] mix (by
        refine W.run D_ok 1 100 (by kernel_rfl) ?_
        exact W.fin (by decide) (by kernel_rfl) (Weak.sel [] [0, 3] (by kernel_rfl) (by kernel_rfl) (by kernel_rfl))
        ) ?_
    refine CodeOk.seq' ?_
    refine CodeOk.block' ?_
    refine CodeOk.loopJ (fun (⟨y13, y14⟩ : (Int × (List UInt8))) => ⟨tl 20 [(0, V.int y13), (3, V.str y14)], []⟩) (fun n i => m_laws_markText_l1 N n i = some r) (n0 := N) (i0 := (a0, [])) (Weak.sel [] [0, 3] (by kernel_rfl) (by kernel_rfl) (by kernel_rfl)) h (fun i h => by simp [m_laws_markText_l1] at h) ?_
    rintro n1 ⟨y13, y14⟩ h25 ih26
    rw [m_laws_markText_l1] at h25
    refine CodeOk.seq' ?_
    refine CodeOk.cutR (tl 20 [(0, V.int y13), (3, V.str y14), (7, V.bool (decide (y13 > 0)))]) [] mix (by
        refine W.run D_ok 2 162 (by kernel_rfl) ?_
        exact W.fin (by decide) (by kernel_rfl) (Weak.sel [] [0, 3, 7] (by kernel_rfl) (by kernel_rfl) (by kernel_rfl))
        ) ?_
    rcases cond_some h25 with ⟨hc28, h25⟩ | ⟨hc28, h25⟩
    · refine CodeOk.ifT hc28 (by kernel_rfl) ?_
      refine CodeOk.skip ?_
      refine CodeOk.weak (st' := ⟨tl 20 [(0, V.int y13), (3, V.str y14), (7, V.bool (decide (y13 > 0)))], []⟩) (Weak.refl _) ?_
      refine CodeOk.block' ?_
      obtain ⟨s20, hx30, h25⟩ := bind_some h25
      refine CodeOk.cutR (tl 20 [(0, V.int y13), (3, V.str s20)]) [] mix (by
          refine W.run D_ok 4 162 (by kernel_rfl) ?_
          refine W.run D_ok 1 162 (by kernel_rfl) ?_
          refine W.vecEq 162 (nn := true) (e := 5) (k := 1) (rows := [[.c (.int .u8 (IntKind.wrap .u8 (IntKind.wrap .i64 (48 + (Int.tmod y13 10)))))]]) (rows' := [(bytI (IntKind.wrap .i64 (48 + (Int.tmod y13 10))))].map byteRow) (by kernel_rfl) (by first | (simp only [List.map_cons, List.map_nil, ← bytI_row]; done) | (simp only [List.map_cons, List.map_nil, ← bytI_row]; rfl)) ?_
          refine W.strO D_ok ([(bytI (IntKind.wrap .i64 (48 + (Int.tmod y13 10))))] : List UInt8) (a := 162) (by kernel_rfl) ?_
          refine W.run D_ok 1 163 (by kernel_rfl) ?_
          refine W.cat hx30 (by kernel_rfl) ?_
          refine W.run D_ok 1 163 (by kernel_rfl) ?_
          exact W.fin (by decide) (by kernel_rfl) (Weak.sel [] [0, 3] (by kernel_rfl) (by kernel_rfl) (by kernel_rfl))
          ) ?_
      refine CodeOk.endR (tl 20 [(0, V.int (IntKind.wrap .i64 (Int.tdiv y13 10))), (3, V.str s20)]) [] mix (by
          refine W.run D_ok 3 163 (by kernel_rfl) ?_
          exact W.fin (by decide) (by kernel_rfl) (Weak.sel [] [0, 3] (by kernel_rfl) (by kernel_rfl) (by kernel_rfl))
          ) (fun st hw => ?_)
      exact ih26 ((IntKind.wrap .i64 (Int.tdiv y13 10)), s20) h25 _ (hw.trans (Weak.sel [] [0, 3] (by kernel_rfl) (by kernel_rfl) (by kernel_rfl)))
    · refine CodeOk.ifF hc28 (by kernel_rfl) ?_
      refine CodeOk.exit ?_
      refine CodeOk.weak (st' := ⟨tl 20 [(0, V.int y13), (3, V.str y14), (7, V.bool (decide (y13 > 0)))], []⟩) (Weak.refl _) ?_
      obtain ⟨s22, hx32, h25⟩ := bind_some h25
      refine CodeOk.cutR (tl 20 [(2, V.str s22)]) [] mix (by
          refine W.run D_ok 1 162 (by kernel_rfl) ?_
          refine W.cat hx32 (by kernel_rfl) ?_
          refine W.run D_ok 1 162 (by kernel_rfl) ?_
          exact W.fin (by decide) (by kernel_rfl) (Weak.sel [] [2] (by kernel_rfl) (by kernel_rfl) (by kernel_rfl))
          ) ?_
      refine CodeOk.ret ?_
      have h25 := Option.some.inj h25
      subst h25
      exact Ends.gen [] (.inr rfl) (RetV.one rfl (OneR.tmp (t := 2) (r := V.str s22) (by kernel_rfl))) (by kernel_rfl) (by kernel_rfl) (by kernel_rfl)

theorem m_laws_markIntS_ok (e0 : TypeId) (N : Nat) (a1 : Int) (p0 : List Int) {r : (Int × (List Int))} (h : m_laws_markIntS N a1 p0 = some r) :
    AC Try.prog GG 67 [.own 0, V.int a1] [(0, .vec false e0 1 (p0.map encI))] (V.int r.1) [(0, .vec false e0 1 (r.2.map encI))] := by
  rw [m_laws_markIntS] at h
  refine AC.enter Try.func67 rfl ?_
  refine CodeOk.cutR (tl 19 [(0, .own 0), (1, V.int a1)]) [(0, .vec false e0 1 (p0.map encI))] mix (by
      refine W.run D_ok 1 100 (by kernel_rfl) ?_
      exact W.fin (by decide) (by kernel_rfl) (Weak.sel [(0, 0)] [0, 1] (by kernel_rfl) (by kernel_rfl) (by kernel_rfl))
      ) ?_
  refine CodeOk.seq' ?_
  refine CodeOk.cutR (tl 19 [(0, .own 0), (1, V.int a1), (5, V.int 0)]) [(0, .vec false e0 1 (p0.map encI))] mix (by
      refine W.run D_ok 1 100 (by kernel_rfl) ?_
      exact W.fin (by decide) (by kernel_rfl) (Weak.sel [(0, 0)] [0, 1, 5] (by kernel_rfl) (by kernel_rfl) (by kernel_rfl))
      ) ?_
  refine CodeOk.block' ?_
  refine CodeOk.loopJ (fun (⟨y39, y40, y41⟩ : (Int × Int × (List Int))) => ⟨tl 19 [(0, .own 0), (1, V.int y39), (5, V.int y40)], [(0, .vec false e0 1 (y41.map encI))]⟩) (fun n i => m_laws_markIntS_l1 N n i = some r) (n0 := N) (i0 := (a1, 0, p0)) (Weak.sel [(0, 0)] [0, 1, 5] (by kernel_rfl) (by kernel_rfl) (by kernel_rfl)) h (fun i h => by simp [m_laws_markIntS_l1] at h) ?_
  rintro n1 ⟨y39, y40, y41⟩ h53 ih54
  rw [m_laws_markIntS_l1] at h53
  refine CodeOk.seq' ?_
  refine CodeOk.cutR (tl 19 [(0, .own 0), (1, V.int y39), (5, V.int y40), (9, V.bool (decide (y40 < (y41.length : Int))))]) [(0, .vec false e0 1 (y41.map encI))] mix (by
      refine W.run D_ok 2 160 (by kernel_rfl) ?_
      refine W.len D_ok encI y41 [0] (by kernel_rfl) (by kernel_rfl) ?_
      refine W.run D_ok 1 160 (by kernel_rfl) ?_
      exact W.fin (by decide) (by kernel_rfl) (Weak.sel [(0, 0)] [0, 1, 5, 9] (by kernel_rfl) (by kernel_rfl) (by kernel_rfl))
      ) ?_
  rcases cond_some h53 with ⟨hc56, h53⟩ | ⟨hc56, h53⟩
  · refine CodeOk.ifT hc56 (by kernel_rfl) ?_
    refine CodeOk.skip ?_
    refine CodeOk.weak (st' := ⟨tl 19 [(0, .own 0), (1, V.int y39), (5, V.int y40), (9, V.bool (decide (y40 < (y41.length : Int))))], [(0, .vec false e0 1 (y41.map encI))]⟩) (Weak.refl _) ?_
    refine CodeOk.seq' ?_
    refine CodeOk.block' ?_
    obtain ⟨e59, hx63, h53⟩ := bind_some h53
    obtain ⟨x60, hu64, h53⟩ := bind_some h53
    refine CodeOk.cutR (tl 19 [(0, .own 0), (1, V.int y39), (5, V.int y40)]) [(0, .vec false e0 1 (x60.map encI))] mix (by
        refine W.run D_ok 3 160 (by kernel_rfl) ?_
        refine W.ixO D_ok encI hx63 0 1 (by kernel_rfl) ?_
        refine W.stO D_ok encI (x' := y39) hx63 hu64 (j := 0) (nn := false) (ety := e0) (sz := 1) (b := 0) (ys := [V.int y39]) (C := []) (R := []) (by kernel_rfl) (by kernel_rfl) ?_
        exact W.fin (by decide) (by kernel_rfl) (Weak.sel [(0, 0)] [0, 1, 5] (by kernel_rfl) (by kernel_rfl) (by kernel_rfl))
        ) ?_
    refine CodeOk.endR (tl 19 [(0, .own 0), (1, V.int (IntKind.wrap .i64 (y39 + 1))), (5, V.int y40)]) [(0, .vec false e0 1 (x60.map encI))] mix (by
        refine W.run D_ok 3 160 (by kernel_rfl) ?_
        exact W.fin (by decide) (by kernel_rfl) (Weak.sel [(0, 0)] [0, 1, 5] (by kernel_rfl) (by kernel_rfl) (by kernel_rfl))
        ) (fun st hw => ?_)
    refine CodeOk.weak (st' := ⟨tl 19 [(0, .own 0), (1, V.int (IntKind.wrap .i64 (y39 + 1))), (5, V.int y40)], [(0, .vec false e0 1 (x60.map encI))]⟩) hw ?_
    refine CodeOk.endR (tl 19 [(0, .own 0), (1, V.int (IntKind.wrap .i64 (y39 + 1))), (5, V.int (IntKind.wrap .i64 (y40 + 1)))]) [(0, .vec false e0 1 (x60.map encI))] mix (by
        refine W.run D_ok 3 160 (by kernel_rfl) ?_
        exact W.fin (by decide) (by kernel_rfl) (Weak.sel [(0, 0)] [0, 1, 5] (by kernel_rfl) (by kernel_rfl) (by kernel_rfl))
        ) (fun st hw => ?_)
    exact ih54 ((IntKind.wrap .i64 (y39 + 1)), (IntKind.wrap .i64 (y40 + 1)), x60) h53 _ (hw.trans (Weak.sel [(0, 0)] [0, 1, 5] (by kernel_rfl) (by kernel_rfl) (by kernel_rfl)))
  · refine CodeOk.ifF hc56 (by kernel_rfl) ?_
    refine CodeOk.exit ?_
    refine CodeOk.weak (st' := ⟨tl 19 [(0, .own 0), (1, V.int y39), (5, V.int y40), (9, V.bool (decide (y40 < (y41.length : Int))))], [(0, .vec false e0 1 (y41.map encI))]⟩) (Weak.refl _) ?_
    refine CodeOk.cutR (tl 19 [(4, V.int y39)]) [(0, .vec false e0 1 (y41.map encI))] mix (by
        refine W.run D_ok 2 160 (by kernel_rfl) ?_
        exact W.fin (by decide) (by kernel_rfl) (Weak.sel [(0, 0)] [4] (by kernel_rfl) (by kernel_rfl) (by kernel_rfl))
        ) ?_
    refine CodeOk.ret ?_
    have h53 := Option.some.inj h53
    subst h53
    exact Ends.gen [(0, 0)] (.inr rfl) (RetV.one rfl (OneR.tmp (t := 4) (r := V.int y39) (by kernel_rfl))) (by kernel_rfl) (by kernel_rfl) (by kernel_rfl)

theorem m_laws_markIntS_v2_ok (N : Nat) (a1 : Int) {r : Int} (h : m_laws_markIntS_v2 N a1 = some r) :
    AC Try.prog GG 67 [.sl false false ([].map encI), V.int a1] [] (V.int r) [] := by
  rw [m_laws_markIntS_v2] at h
  refine AC.enter Try.func67 rfl ?_
  refine CodeOk.cutR (tl 19 [(0, .sl false false ([].map encI)), (1, V.int a1)]) [] mix (by
      refine W.run D_ok 1 100 (by kernel_rfl) ?_
      exact W.fin (by decide) (by kernel_rfl) (Weak.sel [] [0, 1] (by kernel_rfl) (by kernel_rfl) (by kernel_rfl))
      ) ?_
  refine CodeOk.seq' ?_
  refine CodeOk.cutR (tl 19 [(0, .sl false false ([].map encI)), (1, V.int a1), (5, V.int 0)]) [] mix (by
      refine W.run D_ok 1 100 (by kernel_rfl) ?_
      exact W.fin (by decide) (by kernel_rfl) (Weak.sel [] [0, 1, 5] (by kernel_rfl) (by kernel_rfl) (by kernel_rfl))
      ) ?_
  refine CodeOk.block' ?_
  refine CodeOk.loopJ (fun (a1 : Int) => ⟨tl 19 [(0, .sl false false ([].map encI)), (1, V.int a1), (5, V.int 0)], []⟩) (fun n i => m_laws_markIntS_v2_l1 N n i = some r) (n0 := N) (i0 := a1) (Weak.sel [] [0, 1, 5] (by kernel_rfl) (by kernel_rfl) (by kernel_rfl)) h (fun i h => by simp [m_laws_markIntS_v2_l1] at h) ?_
  rintro n1 a1 h3 ih4
  rw [m_laws_markIntS_v2_l1] at h3
  refine CodeOk.seq' ?_
  refine CodeOk.cutR (tl 19 [(0, .sl false false ([].map encI)), (1, V.int a1), (5, V.int 0), (9, V.bool false)]) [] mix (by
      refine W.run D_ok 2 120 (by kernel_rfl) ?_
      refine W.len D_ok encI [] [] (by kernel_rfl) (by kernel_rfl) ?_
      refine W.run D_ok 1 120 (by kernel_rfl) ?_
      exact W.fin (by decide) (by kernel_rfl) (Weak.sel [] [0, 1, 5, 9] (by kernel_rfl) (by kernel_rfl) (by kernel_rfl))
      ) ?_
  refine CodeOk.ifF (c := false) rfl (by kernel_rfl) ?_
  refine CodeOk.exit ?_
  refine CodeOk.weak (st' := ⟨tl 19 [(0, .sl false false ([].map encI)), (1, V.int a1), (5, V.int 0), (9, V.bool false)], []⟩) (Weak.refl _) ?_
  refine CodeOk.cutR (tl 19 [(4, V.int a1)]) [] mix (by
      refine W.run D_ok 2 120 (by kernel_rfl) ?_
      exact W.fin (by decide) (by kernel_rfl) (Weak.sel [] [4] (by kernel_rfl) (by kernel_rfl) (by kernel_rfl))
      ) ?_
  refine CodeOk.ret ?_
  have h3 := Option.some.inj h3
  subst h3
  exact Ends.gen [] (.inr rfl) (RetV.one rfl (OneR.tmp (t := 4) (r := V.int a1) (by kernel_rfl))) (by kernel_rfl) (by kernel_rfl) (by kernel_rfl)

theorem m_laws_markIntS_nil (N : Nat) (k : Int) (l : List Int) {r : (Int × (List Int))} (h : m_laws_markIntS N k l = some r) (hl : l = []) :
    r.2.map encI = [] ∧ AC Try.prog GG 67 [.sl false false [], V.int k] [] (V.int r.1) [] := by
  subst hl
  have h2 : r.2 = [] ∧ m_laws_markIntS_v2 N k = some r.1 := by
    cases N with
    | zero => simp [m_laws_markIntS_l1, m_laws_markIntS] at h
    | succ N =>
      simp [m_laws_markIntS_l1, m_laws_markIntS] at h
      subst h
      simp [m_laws_markIntS_v2_l1, m_laws_markIntS_v2]
  exact ⟨by rw [h2.1]; rfl, m_laws_markIntS_v2_ok N k h2.2⟩

theorem m_laws_markDNodeS_ok (e0 : TypeId) (N : Nat) (a1 : Int) (p0 : List SDNode) {r : (Int × (List SDNode))} (h : m_laws_markDNodeS N a1 p0 = some r) :
    AC Try.prog GG 35 [.own 0, V.int a1] [(0, .vec false e0 4 (p0.map (encSDNode true)))] (V.int r.1) [(0, .vec false e0 4 (r.2.map (encSDNode true)))] := by
  rw [m_laws_markDNodeS] at h
  refine AC.enter Try.func35 rfl ?_
  refine CodeOk.cutR (tl 42 [(0, .own 0), (1, V.int a1)]) [(0, .vec false e0 4 (p0.map (encSDNode true)))] mix (by
      refine W.run D_ok 1 100 (by kernel_rfl) ?_
      exact W.fin (by decide) (by kernel_rfl) (Weak.sel [(0, 0)] [0, 1] (by kernel_rfl) (by kernel_rfl) (by kernel_rfl))
      ) ?_
  refine CodeOk.seq' ?_
  refine CodeOk.cutR (tl 42 [(0, .own 0), (1, V.int a1), (5, V.int 0)]) [(0, .vec false e0 4 (p0.map (encSDNode true)))] mix (by
      refine W.run D_ok 1 100 (by kernel_rfl) ?_
      exact W.fin (by decide) (by kernel_rfl) (Weak.sel [(0, 0)] [0, 1, 5] (by kernel_rfl) (by kernel_rfl) (by kernel_rfl))
      ) ?_
  refine CodeOk.block' ?_
  refine CodeOk.loopJ (fun (⟨y143, y144, y145⟩ : (Int × Int × (List SDNode))) => ⟨tl 42 [(0, .own 0), (1, V.int y143), (5, V.int y144)], [(0, .vec false e0 4 (y145.map (encSDNode true)))]⟩) (fun n i => m_laws_markDNodeS_l1 N n i = some r) (n0 := N) (i0 := (a1, 0, p0)) (Weak.sel [(0, 0)] [0, 1, 5] (by kernel_rfl) (by kernel_rfl) (by kernel_rfl)) h (fun i h => by simp [m_laws_markDNodeS_l1] at h) ?_
  rintro n1 ⟨y143, y144, y145⟩ h183 ih184
  rw [m_laws_markDNodeS_l1] at h183
  refine CodeOk.seq' ?_
  refine CodeOk.cutR (tl 42 [(0, .own 0), (1, V.int y143), (5, V.int y144), (9, V.bool (decide (y144 < (y145.length : Int))))]) [(0, .vec false e0 4 (y145.map (encSDNode true)))] mix (by
      refine W.run D_ok 2 160 (by kernel_rfl) ?_
      refine W.len D_ok (encSDNode true) y145 [0] (by kernel_rfl) (by kernel_rfl) ?_
      refine W.run D_ok 1 160 (by kernel_rfl) ?_
      exact W.fin (by decide) (by kernel_rfl) (Weak.sel [(0, 0)] [0, 1, 5, 9] (by kernel_rfl) (by kernel_rfl) (by kernel_rfl))
      ) ?_
  rcases cond_some h183 with ⟨hc186, h183⟩ | ⟨hc186, h183⟩
  · refine CodeOk.ifT hc186 (by kernel_rfl) ?_
    refine CodeOk.skip ?_
    refine CodeOk.weak (st' := ⟨tl 42 [(0, .own 0), (1, V.int y143), (5, V.int y144), (9, V.bool (decide (y144 < (y145.length : Int))))], [(0, .vec false e0 4 (y145.map (encSDNode true)))]⟩) (Weak.refl _) ?_
    refine CodeOk.seq' ?_
    refine CodeOk.block' ?_
    obtain ⟨e202, hx206, h183⟩ := bind_some h183
    obtain ⟨x203, hu207, h183⟩ := bind_some h183
    refine CodeOk.cutR (tl 42 [(0, .own 0), (1, V.int y143), (5, V.int y144)]) [(0, .vec false e0 4 (x203.map (encSDNode true)))] mix (by
        refine W.run D_ok 3 160 (by kernel_rfl) ?_
        refine W.ixO D_ok (encSDNode true) hx206 0 4 (by kernel_rfl) ?_
        refine W.run D_ok 1 160 (by kernel_rfl) ?_
        refine W.stO D_ok (encSDNode true) (x' := (⟨y143, e202.N, e202.Text, e202.Kids⟩ : SDNode)) hx206 hu207 (j := 0) (nn := false) (ety := e0) (sz := 4) (b := 0) (ys := [V.int y143]) (C := []) (R := []) (by kernel_rfl) (by kernel_rfl) ?_
        exact W.fin (by decide) (by kernel_rfl) (Weak.sel [(0, 0)] [0, 1, 5] (by kernel_rfl) (by kernel_rfl) (by kernel_rfl))
        ) ?_
    refine CodeOk.cutR (tl 42 [(0, .own 0), (1, V.int (IntKind.wrap .i64 (y143 + 1))), (5, V.int y144)]) [(0, .vec false e0 4 (x203.map (encSDNode true)))] mix (by
        refine W.run D_ok 3 160 (by kernel_rfl) ?_
        exact W.fin (by decide) (by kernel_rfl) (Weak.sel [(0, 0)] [0, 1, 5] (by kernel_rfl) (by kernel_rfl) (by kernel_rfl))
        ) ?_
    obtain ⟨e206, hx210, h183⟩ := bind_some h183
    obtain ⟨x207, hu211, h183⟩ := bind_some h183
    refine CodeOk.cutR (tl 42 [(0, .own 0), (1, V.int (IntKind.wrap .i64 (y143 + 1))), (5, V.int y144)]) [(0, .vec false e0 4 (x207.map (encSDNode true)))] mix (by
        refine W.run D_ok 3 160 (by kernel_rfl) ?_
        refine W.ixO D_ok (encSDNode true) hx210 0 4 (by kernel_rfl) ?_
        refine W.run D_ok 1 160 (by kernel_rfl) ?_
        refine W.stO D_ok (encSDNode true) (x' := (⟨e206.Kind, (IntKind.wrap .i64 (y143 + 1)), e206.Text, e206.Kids⟩ : SDNode)) hx210 hu211 (j := 0) (nn := false) (ety := e0) (sz := 4) (b := 1) (ys := [V.int (IntKind.wrap .i64 (y143 + 1))]) (C := []) (R := []) (by kernel_rfl) (by kernel_rfl) ?_
        exact W.fin (by decide) (by kernel_rfl) (Weak.sel [(0, 0)] [0, 1, 5] (by kernel_rfl) (by kernel_rfl) (by kernel_rfl))
        ) ?_
    refine CodeOk.cutR (tl 42 [(0, .own 0), (1, V.int (IntKind.wrap .i64 ((IntKind.wrap .i64 (y143 + 1)) + 1))), (5, V.int y144)]) [(0, .vec false e0 4 (x207.map (encSDNode true)))] mix (by
        refine W.run D_ok 3 160 (by kernel_rfl) ?_
        exact W.fin (by decide) (by kernel_rfl) (Weak.sel [(0, 0)] [0, 1, 5] (by kernel_rfl) (by kernel_rfl) (by kernel_rfl))
        ) ?_
    obtain ⟨r211, hx215, h183⟩ := bind_some h183
    obtain ⟨e212, hx216, h183⟩ := bind_some h183
    obtain ⟨x213, hu217, h183⟩ := bind_some h183
    refine CodeOk.cutR (tl 42 [(0, .own 0), (1, V.int (IntKind.wrap .i64 ((IntKind.wrap .i64 (y143 + 1)) + 1))), (5, V.int y144)]) [(0, .vec false e0 4 (x213.map (encSDNode true)))] mix (by
        refine W.run D_ok 3 160 (by kernel_rfl) ?_
        refine W.call0 (m_laws_markText_ok N (IntKind.wrap .i64 ((IntKind.wrap .i64 (y143 + 1)) + 1)) hx215) cok59 rfl (by kernel_rfl) ?_
        refine W.ixO D_ok (encSDNode true) hx216 0 4 (by kernel_rfl) ?_
        refine W.run D_ok 1 160 (by kernel_rfl) ?_
        refine W.stO D_ok (encSDNode true) (x' := (⟨e212.Kind, e212.N, r211, e212.Kids⟩ : SDNode)) hx216 hu217 (j := 0) (nn := false) (ety := e0) (sz := 4) (b := 2) (ys := [V.str r211]) (C := []) (R := []) (by kernel_rfl) (by kernel_rfl) ?_
        exact W.fin (by decide) (by kernel_rfl) (Weak.sel [(0, 0)] [0, 1, 5] (by kernel_rfl) (by kernel_rfl) (by kernel_rfl))
        ) ?_
    refine CodeOk.cutR (tl 42 [(0, .own 0), (1, V.int (IntKind.wrap .i64 ((IntKind.wrap .i64 ((IntKind.wrap .i64 (y143 + 1)) + 1)) + 1))), (5, V.int y144)]) [(0, .vec false e0 4 (x213.map (encSDNode true)))] mix (by
        refine W.run D_ok 3 160 (by kernel_rfl) ?_
        exact W.fin (by decide) (by kernel_rfl) (Weak.sel [(0, 0)] [0, 1, 5] (by kernel_rfl) (by kernel_rfl) (by kernel_rfl))
        ) ?_
    obtain ⟨e214, hx218, h183⟩ := bind_some h183
    obtain ⟨r215, hx219, h183⟩ := bind_some h183
    obtain ⟨x216, hu220, h183⟩ := bind_some h183
    refine CodeOk.nestEnd D_ok 4 (tl 42 [(0, .own 0), (1, V.int (IntKind.wrap .i64 ((IntKind.wrap .i64 ((IntKind.wrap .i64 (y143 + 1)) + 1)) + 1))), (5, V.int y144), (37, .vp 0 4 y144.toNat 3)]) [(0, .vec false e0 4 (x213.map (encSDNode true)))] (tl 42 [(0, .own 0), (1, V.int r215.1), (5, V.int y144)]) [(0, .vec false e0 4 (x216.map (encSDNode true)))] (by kernel_rfl) (by
        refine W.run D_ok 2 160 (by kernel_rfl) ?_
        refine W.ixO D_ok (encSDNode true) hx218 0 4 (by kernel_rfl) ?_
        refine W.run D_ok 1 160 (by kernel_rfl) ?_
        exact W.fin (by decide) (by kernel_rfl) (Weak.sel [(0, 0)] [0, 1, 5, 37] (by kernel_rfl) (by kernel_rfl) (by kernel_rfl))
        ) ⟨_, rfl, rfl, rfl⟩ ⟨_, rfl, rfl, rfl⟩ ⟨_, rfl, rfl, rfl⟩ cok67 (by kernel_rfl) (by kernel_rfl) (i := 0) (k := 4) (m := y144.toNat) (b := 3) (u := .int .i64 (IntKind.wrap .i64 ((IntKind.wrap .i64 ((IntKind.wrap .i64 (y143 + 1)) + 1)) + 1))) (by kernel_rfl) (by kernel_rfl) (nn := false) (nn2 := false) (ety := e0) (encSDNode true) (x' := (⟨e214.Kind, e214.N, e214.Text, r215.2⟩ : SDNode)) hx218 hu220 rfl (by kernel_rfl) (srows := e214.Kids.map encI) (srows' := r215.2.map encI) (by kernel_rfl) (by kernel_rfl) (u' := .int .i64 r215.1) (k2 := 1) (fun _ e => m_laws_markIntS_ok e N (IntKind.wrap .i64 ((IntKind.wrap .i64 ((IntKind.wrap .i64 (y143 + 1)) + 1)) + 1)) e214.Kids hx219) (fun h0 => m_laws_markIntS_nil N (IntKind.wrap .i64 ((IntKind.wrap .i64 ((IntKind.wrap .i64 (y143 + 1)) + 1)) + 1)) e214.Kids hx219 (List.map_eq_nil_iff.1 h0)) (fun r hr => by obtain ⟨a, _, rfl⟩ := List.mem_map.1 hr; rfl) (by
        refine W.run D_ok 1 160 (by kernel_rfl) ?_
        exact W.fin (by decide) (by kernel_rfl) (Weak.sel [(0, 0)] [0, 1, 5] (by kernel_rfl) (by kernel_rfl) (by kernel_rfl))
        ) (fun st hw => ?_)
    refine CodeOk.weak (st' := ⟨tl 42 [(0, .own 0), (1, V.int r215.1), (5, V.int y144)], [(0, .vec false e0 4 (x216.map (encSDNode true)))]⟩) hw ?_
    refine CodeOk.endR (tl 42 [(0, .own 0), (1, V.int r215.1), (5, V.int (IntKind.wrap .i64 (y144 + 1)))]) [(0, .vec false e0 4 (x216.map (encSDNode true)))] mix (by
        refine W.run D_ok 3 160 (by kernel_rfl) ?_
        exact W.fin (by decide) (by kernel_rfl) (Weak.sel [(0, 0)] [0, 1, 5] (by kernel_rfl) (by kernel_rfl) (by kernel_rfl))
        ) (fun st hw => ?_)
    exact ih184 (r215.1, (IntKind.wrap .i64 (y144 + 1)), x216) h183 _ (hw.trans (Weak.sel [(0, 0)] [0, 1, 5] (by kernel_rfl) (by kernel_rfl) (by kernel_rfl)))
  · refine CodeOk.ifF hc186 (by kernel_rfl) ?_
    refine CodeOk.exit ?_
    refine CodeOk.weak (st' := ⟨tl 42 [(0, .own 0), (1, V.int y143), (5, V.int y144), (9, V.bool (decide (y144 < (y145.length : Int))))], [(0, .vec false e0 4 (y145.map (encSDNode true)))]⟩) (Weak.refl _) ?_
    refine CodeOk.cutR (tl 42 [(4, V.int y143)]) [(0, .vec false e0 4 (y145.map (encSDNode true)))] mix (by
        refine W.run D_ok 2 160 (by kernel_rfl) ?_
        exact W.fin (by decide) (by kernel_rfl) (Weak.sel [(0, 0)] [4] (by kernel_rfl) (by kernel_rfl) (by kernel_rfl))
        ) ?_
    refine CodeOk.ret ?_
    have h183 := Option.some.inj h183
    subst h183
    exact Ends.gen [(0, 0)] (.inr rfl) (RetV.one rfl (OneR.tmp (t := 4) (r := V.int y143) (by kernel_rfl))) (by kernel_rfl) (by kernel_rfl) (by kernel_rfl)

theorem m_laws_heldIntS_ok (N : Nat) (a0 : List Int) (a1 : Int) {r : Int} (h : m_laws_heldIntS N a0 a1 = some r) :
    AC Try.prog GG 68 [.sl false false (a0.map encI), V.int a1] [] (V.int r) [] := by
  rw [m_laws_heldIntS] at h
  refine AC.enter Try.func68 rfl ?_
  refine CodeOk.cutR (tl 21 [(0, .sl false false (a0.map encI)), (1, V.int a1)]) [] mix (by
      refine W.run D_ok 1 100 (by kernel_rfl) ?_
      exact W.fin (by decide) (by kernel_rfl) (Weak.sel [] [0, 1] (by kernel_rfl) (by kernel_rfl) (by kernel_rfl))
      ) ?_
  refine CodeOk.seq' ?_
  refine CodeOk.cutR (tl 21 [(0, .sl false false (a0.map encI)), (1, V.int a1), (5, V.int 0)]) [] mix (by
      refine W.run D_ok 1 100 (by kernel_rfl) ?_
      exact W.fin (by decide) (by kernel_rfl) (Weak.sel [] [0, 1, 5] (by kernel_rfl) (by kernel_rfl) (by kernel_rfl))
      ) ?_
  refine CodeOk.block' ?_
  refine CodeOk.loopJ (fun (⟨a0, y37, y38⟩ : ((List Int) × Int × Int)) => ⟨tl 21 [(0, .sl false false (a0.map encI)), (1, V.int y37), (5, V.int y38)], []⟩) (fun n i => m_laws_heldIntS_l1 N n i = some r) (n0 := N) (i0 := (a0, a1, 0)) (Weak.sel [] [0, 1, 5] (by kernel_rfl) (by kernel_rfl) (by kernel_rfl)) h (fun i h => by simp [m_laws_heldIntS_l1] at h) ?_
  rintro n1 ⟨a0, y37, y38⟩ h73 ih74
  rw [m_laws_heldIntS_l1] at h73
  refine CodeOk.seq' ?_
  refine CodeOk.cutR (tl 21 [(0, .sl false false (a0.map encI)), (1, V.int y37), (5, V.int y38), (9, V.bool (decide (y38 < (a0.length : Int))))]) [] mix (by
      refine W.run D_ok 2 160 (by kernel_rfl) ?_
      refine W.len D_ok encI a0 [] (by kernel_rfl) (by kernel_rfl) ?_
      refine W.run D_ok 1 160 (by kernel_rfl) ?_
      exact W.fin (by decide) (by kernel_rfl) (Weak.sel [] [0, 1, 5, 9] (by kernel_rfl) (by kernel_rfl) (by kernel_rfl))
      ) ?_
  rcases cond_some h73 with ⟨hc76, h73⟩ | ⟨hc76, h73⟩
  · refine CodeOk.ifT hc76 (by kernel_rfl) ?_
    refine CodeOk.skip ?_
    refine CodeOk.weak (st' := ⟨tl 21 [(0, .sl false false (a0.map encI)), (1, V.int y37), (5, V.int y38), (9, V.bool (decide (y38 < (a0.length : Int))))], []⟩) (Weak.refl _) ?_
    refine CodeOk.seq' ?_
    refine CodeOk.block' ?_
    refine CodeOk.seq' ?_
    obtain ⟨e56, hx87, h73⟩ := bind_some h73
    refine CodeOk.cutR (tl 21 [(0, .sl false false (a0.map encI)), (1, V.int y37), (5, V.int y38), (17, V.bool (e56 != y37))]) [] mix (by
        refine W.run D_ok 2 160 (by kernel_rfl) ?_
        refine W.ixD D_ok encI hx87 1 (by kernel_rfl) (by kernel_rfl) ?_
        refine W.run D_ok 3 160 (by kernel_rfl) ?_
        exact W.fin (by decide) (by kernel_rfl) (Weak.sel [] [0, 1, 5, 17] (by kernel_rfl) (by kernel_rfl) (by kernel_rfl))
        ) ?_
    rcases cond_some h73 with ⟨hc88, h73⟩ | ⟨hc88, h73⟩
    · refine CodeOk.ifT hc88 (by kernel_rfl) ?_
      refine CodeOk.cutR (tl 21 [(4, V.int (-1))]) [] mix (by
          refine W.run D_ok 1 160 (by kernel_rfl) ?_
          exact W.fin (by decide) (by kernel_rfl) (Weak.sel [] [4] (by kernel_rfl) (by kernel_rfl) (by kernel_rfl))
          ) ?_
      refine CodeOk.ret ?_
      have h73 := Option.some.inj h73
      subst h73
      exact Ends.gen [] (.inr rfl) (RetV.one rfl (OneR.tmp (t := 4) (r := V.int (-1)) (by kernel_rfl))) (by kernel_rfl) (by kernel_rfl) (by kernel_rfl)
    · refine CodeOk.ifF hc88 (by kernel_rfl) ?_
      refine CodeOk.skip ?_
      refine CodeOk.weak (st' := ⟨tl 21 [(0, .sl false false (a0.map encI)), (1, V.int y37), (5, V.int y38), (17, V.bool (e56 != y37))], []⟩) (Weak.refl _) ?_
      refine CodeOk.endR (tl 21 [(0, .sl false false (a0.map encI)), (1, V.int (IntKind.wrap .i64 (y37 + 1))), (5, V.int y38)]) [] mix (by
          refine W.run D_ok 3 160 (by kernel_rfl) ?_
          exact W.fin (by decide) (by kernel_rfl) (Weak.sel [] [0, 1, 5] (by kernel_rfl) (by kernel_rfl) (by kernel_rfl))
          ) (fun st hw => ?_)
      refine CodeOk.weak (st' := ⟨tl 21 [(0, .sl false false (a0.map encI)), (1, V.int (IntKind.wrap .i64 (y37 + 1))), (5, V.int y38)], []⟩) hw ?_
      refine CodeOk.endR (tl 21 [(0, .sl false false (a0.map encI)), (1, V.int (IntKind.wrap .i64 (y37 + 1))), (5, V.int (IntKind.wrap .i64 (y38 + 1)))]) [] mix (by
          refine W.run D_ok 3 160 (by kernel_rfl) ?_
          exact W.fin (by decide) (by kernel_rfl) (Weak.sel [] [0, 1, 5] (by kernel_rfl) (by kernel_rfl) (by kernel_rfl))
          ) (fun st hw => ?_)
      exact ih74 (a0, (IntKind.wrap .i64 (y37 + 1)), (IntKind.wrap .i64 (y38 + 1))) h73 _ (hw.trans (Weak.sel [] [0, 1, 5] (by kernel_rfl) (by kernel_rfl) (by kernel_rfl)))
  · refine CodeOk.ifF hc76 (by kernel_rfl) ?_
    refine CodeOk.exit ?_
    refine CodeOk.weak (st' := ⟨tl 21 [(0, .sl false false (a0.map encI)), (1, V.int y37), (5, V.int y38), (9, V.bool (decide (y38 < (a0.length : Int))))], []⟩) (Weak.refl _) ?_
    refine CodeOk.cutR (tl 21 [(4, V.int y37)]) [] mix (by
        refine W.run D_ok 2 160 (by kernel_rfl) ?_
        exact W.fin (by decide) (by kernel_rfl) (Weak.sel [] [4] (by kernel_rfl) (by kernel_rfl) (by kernel_rfl))
        ) ?_
    refine CodeOk.ret ?_
    have h73 := Option.some.inj h73
    subst h73
    exact Ends.gen [] (.inr rfl) (RetV.one rfl (OneR.tmp (t := 4) (r := V.int y37) (by kernel_rfl))) (by kernel_rfl) (by kernel_rfl) (by kernel_rfl)

theorem m_laws_heldDNodeS_ok (N : Nat) (a0 : List SDNode) (a1 : Int) {r : Int} (h : m_laws_heldDNodeS N a0 a1 = some r) :
    AC Try.prog GG 36 [.sl false false (a0.map (encSDNode false)), V.int a1] [] (V.int r) [] := by
  rw [m_laws_heldDNodeS] at h
  refine AC.enter Try.func36 rfl ?_
  refine CodeOk.cutR (tl 50 [(0, .sl false false (a0.map (encSDNode false))), (1, V.int a1)]) [] mix (by
      refine W.run D_ok 1 100 (by kernel_rfl) ?_
      exact W.fin (by decide) (by kernel_rfl) (Weak.sel [] [0, 1] (by kernel_rfl) (by kernel_rfl) (by kernel_rfl))
      ) ?_
  refine CodeOk.seq' ?_
  refine CodeOk.cutR (tl 50 [(0, .sl false false (a0.map (encSDNode false))), (1, V.int a1), (5, V.int 0)]) [] mix (by
      refine W.run D_ok 1 100 (by kernel_rfl) ?_
      exact W.fin (by decide) (by kernel_rfl) (Weak.sel [] [0, 1, 5] (by kernel_rfl) (by kernel_rfl) (by kernel_rfl))
      ) ?_
  refine CodeOk.block' ?_
  refine CodeOk.loopJ (fun (⟨a0, y165, y166⟩ : ((List SDNode) × Int × Int)) => ⟨tl 50 [(0, .sl false false (a0.map (encSDNode false))), (1, V.int y165), (5, V.int y166)], []⟩) (fun n i => m_laws_heldDNodeS_l1 N n i = some r) (n0 := N) (i0 := (a0, a1, 0)) (Weak.sel [] [0, 1, 5] (by kernel_rfl) (by kernel_rfl) (by kernel_rfl)) h (fun i h => by simp [m_laws_heldDNodeS_l1] at h) ?_
  rintro n1 ⟨a0, y165, y166⟩ h283 ih284
  rw [m_laws_heldDNodeS_l1] at h283
  refine CodeOk.seq' ?_
  refine CodeOk.cutR (tl 50 [(0, .sl false false (a0.map (encSDNode false))), (1, V.int y165), (5, V.int y166), (9, V.bool (decide (y166 < (a0.length : Int))))]) [] mix (by
      refine W.run D_ok 2 160 (by kernel_rfl) ?_
      refine W.len D_ok (encSDNode false) a0 [] (by kernel_rfl) (by kernel_rfl) ?_
      refine W.run D_ok 1 160 (by kernel_rfl) ?_
      exact W.fin (by decide) (by kernel_rfl) (Weak.sel [] [0, 1, 5, 9] (by kernel_rfl) (by kernel_rfl) (by kernel_rfl))
      ) ?_
  rcases cond_some h283 with ⟨hc286, h283⟩ | ⟨hc286, h283⟩
  · refine CodeOk.ifT hc286 (by kernel_rfl) ?_
    refine CodeOk.skip ?_
    refine CodeOk.weak (st' := ⟨tl 50 [(0, .sl false false (a0.map (encSDNode false))), (1, V.int y165), (5, V.int y166), (9, V.bool (decide (y166 < (a0.length : Int))))], []⟩) (Weak.refl _) ?_
    refine CodeOk.seq' ?_
    refine CodeOk.block' ?_
    refine CodeOk.seq' ?_
    obtain ⟨e232, hx318, h283⟩ := bind_some h283
    refine CodeOk.cutR (tl 50 [(0, .sl false false (a0.map (encSDNode false))), (1, V.int y165), (5, V.int y166), (18, V.bool (e232.Kind != y165))]) [] mix (by
        refine W.run D_ok 2 160 (by kernel_rfl) ?_
        refine W.ixD D_ok (encSDNode false) hx318 4 (by kernel_rfl) (by kernel_rfl) ?_
        refine W.run D_ok 4 160 (by kernel_rfl) ?_
        exact W.fin (by decide) (by kernel_rfl) (Weak.sel [] [0, 1, 5, 18] (by kernel_rfl) (by kernel_rfl) (by kernel_rfl))
        ) ?_
    rcases cond_some h283 with ⟨hc319, h283⟩ | ⟨hc319, h283⟩
    · refine CodeOk.ifT hc319 (by kernel_rfl) ?_
      refine CodeOk.cutR (tl 50 [(4, V.int (-1))]) [] mix (by
          refine W.run D_ok 1 160 (by kernel_rfl) ?_
          exact W.fin (by decide) (by kernel_rfl) (Weak.sel [] [4] (by kernel_rfl) (by kernel_rfl) (by kernel_rfl))
          ) ?_
      refine CodeOk.ret ?_
      have h283 := Option.some.inj h283
      subst h283
      exact Ends.gen [] (.inr rfl) (RetV.one rfl (OneR.tmp (t := 4) (r := V.int (-1)) (by kernel_rfl))) (by kernel_rfl) (by kernel_rfl) (by kernel_rfl)
    · refine CodeOk.ifF hc319 (by kernel_rfl) ?_
      refine CodeOk.skip ?_
      refine CodeOk.weak (st' := ⟨tl 50 [(0, .sl false false (a0.map (encSDNode false))), (1, V.int y165), (5, V.int y166), (18, V.bool (e232.Kind != y165))], []⟩) (Weak.refl _) ?_
      refine CodeOk.cutR (tl 50 [(0, .sl false false (a0.map (encSDNode false))), (1, V.int (IntKind.wrap .i64 (y165 + 1))), (5, V.int y166)]) [] mix (by
          refine W.run D_ok 3 160 (by kernel_rfl) ?_
          exact W.fin (by decide) (by kernel_rfl) (Weak.sel [] [0, 1, 5] (by kernel_rfl) (by kernel_rfl) (by kernel_rfl))
          ) ?_
      refine CodeOk.seq' ?_
      obtain ⟨e236, hx324, h283⟩ := bind_some h283
      refine CodeOk.cutR (tl 50 [(0, .sl false false (a0.map (encSDNode false))), (1, V.int (IntKind.wrap .i64 (y165 + 1))), (5, V.int y166), (27, V.bool (e236.N != (IntKind.wrap .i64 (y165 + 1))))]) [] mix (by
          refine W.run D_ok 2 160 (by kernel_rfl) ?_
          refine W.ixD D_ok (encSDNode false) hx324 4 (by kernel_rfl) (by kernel_rfl) ?_
          refine W.run D_ok 4 160 (by kernel_rfl) ?_
          exact W.fin (by decide) (by kernel_rfl) (Weak.sel [] [0, 1, 5, 27] (by kernel_rfl) (by kernel_rfl) (by kernel_rfl))
          ) ?_
      rcases cond_some h283 with ⟨hc325, h283⟩ | ⟨hc325, h283⟩
      · refine CodeOk.ifT hc325 (by kernel_rfl) ?_
        refine CodeOk.cutR (tl 50 [(4, V.int (-1))]) [] mix (by
            refine W.run D_ok 1 160 (by kernel_rfl) ?_
            exact W.fin (by decide) (by kernel_rfl) (Weak.sel [] [4] (by kernel_rfl) (by kernel_rfl) (by kernel_rfl))
            ) ?_
        refine CodeOk.ret ?_
        have h283 := Option.some.inj h283
        subst h283
        exact Ends.gen [] (.inr rfl) (RetV.one rfl (OneR.tmp (t := 4) (r := V.int (-1)) (by kernel_rfl))) (by kernel_rfl) (by kernel_rfl) (by kernel_rfl)
      · refine CodeOk.ifF hc325 (by kernel_rfl) ?_
        refine CodeOk.skip ?_
        refine CodeOk.weak (st' := ⟨tl 50 [(0, .sl false false (a0.map (encSDNode false))), (1, V.int (IntKind.wrap .i64 (y165 + 1))), (5, V.int y166), (27, V.bool (e236.N != (IntKind.wrap .i64 (y165 + 1))))], []⟩) (Weak.refl _) ?_
        refine CodeOk.cutR (tl 50 [(0, .sl false false (a0.map (encSDNode false))), (1, V.int (IntKind.wrap .i64 ((IntKind.wrap .i64 (y165 + 1)) + 1))), (5, V.int y166)]) [] mix (by
            refine W.run D_ok 3 160 (by kernel_rfl) ?_
            exact W.fin (by decide) (by kernel_rfl) (Weak.sel [] [0, 1, 5] (by kernel_rfl) (by kernel_rfl) (by kernel_rfl))
            ) ?_
        refine CodeOk.seq' ?_
        obtain ⟨e243, hx333, h283⟩ := bind_some h283
        obtain ⟨r244, hx334, h283⟩ := bind_some h283
        refine CodeOk.cutR (tl 50 [(0, .sl false false (a0.map (encSDNode false))), (1, V.int (IntKind.wrap .i64 ((IntKind.wrap .i64 (y165 + 1)) + 1))), (5, V.int y166), (37, V.bool (!(e243.Text == r244)))]) [] mix (by
            refine W.run D_ok 2 160 (by kernel_rfl) ?_
            refine W.ixD D_ok (encSDNode false) hx333 4 (by kernel_rfl) (by kernel_rfl) ?_
            refine W.run D_ok 3 160 (by kernel_rfl) ?_
            refine W.call0 (m_laws_markText_ok N (IntKind.wrap .i64 ((IntKind.wrap .i64 (y165 + 1)) + 1)) hx334) cok59 rfl (by kernel_rfl) ?_
            refine W.run D_ok 1 160 (by kernel_rfl) ?_
            exact W.fin (by decide) (by kernel_rfl) (Weak.sel [] [0, 1, 5, 37] (by kernel_rfl) (by kernel_rfl) (by kernel_rfl))
            ) ?_
        rcases cond_some h283 with ⟨hc335, h283⟩ | ⟨hc335, h283⟩
        · refine CodeOk.ifT hc335 (by kernel_rfl) ?_
          refine CodeOk.cutR (tl 50 [(4, V.int (-1))]) [] mix (by
              refine W.run D_ok 1 160 (by kernel_rfl) ?_
              exact W.fin (by decide) (by kernel_rfl) (Weak.sel [] [4] (by kernel_rfl) (by kernel_rfl) (by kernel_rfl))
              ) ?_
          refine CodeOk.ret ?_
          have h283 := Option.some.inj h283
          subst h283
          exact Ends.gen [] (.inr rfl) (RetV.one rfl (OneR.tmp (t := 4) (r := V.int (-1)) (by kernel_rfl))) (by kernel_rfl) (by kernel_rfl) (by kernel_rfl)
        · refine CodeOk.ifF hc335 (by kernel_rfl) ?_
          refine CodeOk.skip ?_
          refine CodeOk.weak (st' := ⟨tl 50 [(0, .sl false false (a0.map (encSDNode false))), (1, V.int (IntKind.wrap .i64 ((IntKind.wrap .i64 (y165 + 1)) + 1))), (5, V.int y166), (37, V.bool (!(e243.Text == r244)))], []⟩) (Weak.refl _) ?_
          refine CodeOk.cutR (tl 50 [(0, .sl false false (a0.map (encSDNode false))), (1, V.int (IntKind.wrap .i64 ((IntKind.wrap .i64 ((IntKind.wrap .i64 (y165 + 1)) + 1)) + 1))), (5, V.int y166)]) [] mix (by
              refine W.run D_ok 3 160 (by kernel_rfl) ?_
              exact W.fin (by decide) (by kernel_rfl) (Weak.sel [] [0, 1, 5] (by kernel_rfl) (by kernel_rfl) (by kernel_rfl))
              ) ?_
          obtain ⟨e247, hx338, h283⟩ := bind_some h283
          obtain ⟨r248, hx339, h283⟩ := bind_some h283
          refine CodeOk.cutR (tl 50 [(0, .sl false false (a0.map (encSDNode false))), (1, V.int r248), (5, V.int y166)]) [] mix (by
              refine W.run D_ok 2 160 (by kernel_rfl) ?_
              refine W.ixD D_ok (encSDNode false) hx338 4 (by kernel_rfl) (by kernel_rfl) ?_
              refine W.run D_ok 3 160 (by kernel_rfl) ?_
              refine W.call0 (m_laws_heldIntS_ok N e247.Kids (IntKind.wrap .i64 ((IntKind.wrap .i64 ((IntKind.wrap .i64 (y165 + 1)) + 1)) + 1)) hx339) cok68 rfl (by kernel_rfl) ?_
              refine W.run D_ok 1 160 (by kernel_rfl) ?_
              exact W.fin (by decide) (by kernel_rfl) (Weak.sel [] [0, 1, 5] (by kernel_rfl) (by kernel_rfl) (by kernel_rfl))
              ) ?_
          refine CodeOk.cutR (tl 50 [(0, .sl false false (a0.map (encSDNode false))), (1, V.int r248), (5, V.int y166), (48, V.bool (decide (r248 < 0)))]) [] mix (by
              refine W.run D_ok 2 160 (by kernel_rfl) ?_
              exact W.fin (by decide) (by kernel_rfl) (Weak.sel [] [0, 1, 5, 48] (by kernel_rfl) (by kernel_rfl) (by kernel_rfl))
              ) ?_
          rcases cond_some h283 with ⟨hc340, h283⟩ | ⟨hc340, h283⟩
          · refine CodeOk.ifT hc340 (by kernel_rfl) ?_
            refine CodeOk.cutR (tl 50 [(4, V.int (-1))]) [] mix (by
                refine W.run D_ok 1 160 (by kernel_rfl) ?_
                exact W.fin (by decide) (by kernel_rfl) (Weak.sel [] [4] (by kernel_rfl) (by kernel_rfl) (by kernel_rfl))
                ) ?_
            refine CodeOk.ret ?_
            have h283 := Option.some.inj h283
            subst h283
            exact Ends.gen [] (.inr rfl) (RetV.one rfl (OneR.tmp (t := 4) (r := V.int (-1)) (by kernel_rfl))) (by kernel_rfl) (by kernel_rfl) (by kernel_rfl)
          · refine CodeOk.ifF hc340 (by kernel_rfl) ?_
            refine CodeOk.skip ?_
            refine CodeOk.weak (st' := ⟨tl 50 [(0, .sl false false (a0.map (encSDNode false))), (1, V.int r248), (5, V.int y166), (48, V.bool (decide (r248 < 0)))], []⟩) (Weak.refl _) ?_
            refine CodeOk.endR (tl 50 [(0, .sl false false (a0.map (encSDNode false))), (1, V.int r248), (5, V.int (IntKind.wrap .i64 (y166 + 1)))]) [] mix (by
                refine W.run D_ok 3 160 (by kernel_rfl) ?_
                exact W.fin (by decide) (by kernel_rfl) (Weak.sel [] [0, 1, 5] (by kernel_rfl) (by kernel_rfl) (by kernel_rfl))
                ) (fun st hw => ?_)
            exact ih284 (a0, r248, (IntKind.wrap .i64 (y166 + 1))) h283 _ (hw.trans (Weak.sel [] [0, 1, 5] (by kernel_rfl) (by kernel_rfl) (by kernel_rfl)))
  · refine CodeOk.ifF hc286 (by kernel_rfl) ?_
    refine CodeOk.exit ?_
    refine CodeOk.weak (st' := ⟨tl 50 [(0, .sl false false (a0.map (encSDNode false))), (1, V.int y165), (5, V.int y166), (9, V.bool (decide (y166 < (a0.length : Int))))], []⟩) (Weak.refl _) ?_
    refine CodeOk.cutR (tl 50 [(4, V.int y165)]) [] mix (by
        refine W.run D_ok 2 160 (by kernel_rfl) ?_
        exact W.fin (by decide) (by kernel_rfl) (Weak.sel [] [4] (by kernel_rfl) (by kernel_rfl) (by kernel_rfl))
        ) ?_
    refine CodeOk.ret ?_
    have h283 := Option.some.inj h283
    subst h283
    exact Ends.gen [] (.inr rfl) (RetV.one rfl (OneR.tmp (t := 4) (r := V.int y165) (by kernel_rfl))) (by kernel_rfl) (by kernel_rfl) (by kernel_rfl)

theorem m_laws_FnExactSoftened_ok (N : Nat) (a0 : List SDNode) {r : Bool} (h : m_laws_FnExactSoftened N a0 = some r) :
    AC Try.prog GG 7 [.sl false false (a0.map (encSDNode false))] [] (V.bool r) [] := by
  rw [m_laws_FnExactSoftened] at h
  refine AC.enter Try.func7 rfl ?_
  refine CodeOk.cutR (tl 69 [(0, .sl false false (a0.map (encSDNode false)))]) [] mix (by
      refine W.run D_ok 1 100 (by kernel_rfl) ?_
      exact W.fin (by decide) (by kernel_rfl) (Weak.sel [] [0] (by kernel_rfl) (by kernel_rfl) (by kernel_rfl))
      ) ?_
  refine CodeOk.cutR (tl 69 [(0, .sl false false (a0.map (encSDNode false))), (3, V.int 1048576)]) [] mix (by
      refine W.run D_ok 1 100 (by kernel_rfl) ?_
      exact W.fin (by decide) (by kernel_rfl) (Weak.sel [] [0, 3] (by kernel_rfl) (by kernel_rfl) (by kernel_rfl))
      ) ?_
  obtain ⟨r2, hx2, h⟩ := bind_some h
  refine CodeOk.cutR (tl 69 [(0, .sl false false (a0.map (encSDNode false))), (3, V.int r2)]) [] mix (by
      refine W.run D_ok 2 100 (by kernel_rfl) ?_
      refine W.call0 (m_laws_szDNodeS_ok N a0 1048576 hx2) cok30 rfl (by kernel_rfl) ?_
      refine W.run D_ok 1 100 (by kernel_rfl) ?_
      exact W.fin (by decide) (by kernel_rfl) (Weak.sel [] [0, 3] (by kernel_rfl) (by kernel_rfl) (by kernel_rfl))
      ) ?_
  refine CodeOk.seq' ?_
  refine CodeOk.cutR (tl 69 [(0, .sl false false (a0.map (encSDNode false))), (15, V.bool (decide (r2 < 0)))]) [] mix (by
      refine W.run D_ok 2 100 (by kernel_rfl) ?_
      exact W.fin (by decide) (by kernel_rfl) (Weak.sel [] [0, 15] (by kernel_rfl) (by kernel_rfl) (by kernel_rfl))
      ) ?_
  rcases cond_some h with ⟨hc4, h⟩ | ⟨hc4, h⟩
  · refine CodeOk.ifT hc4 (by kernel_rfl) ?_
    refine CodeOk.cutR (tl 69 [(2, V.bool true)]) [] mix (by
        refine W.run D_ok 1 100 (by kernel_rfl) ?_
        exact W.fin (by decide) (by kernel_rfl) (Weak.sel [] [2] (by kernel_rfl) (by kernel_rfl) (by kernel_rfl))
        ) ?_
    refine CodeOk.ret ?_
    have h := Option.some.inj h
    subst h
    exact Ends.gen [] (.inr rfl) (RetV.one rfl (OneR.tmp (t := 2) (r := V.bool true) (by kernel_rfl))) (by kernel_rfl) (by kernel_rfl) (by kernel_rfl)
  · refine CodeOk.ifF hc4 (by kernel_rfl) ?_
    refine CodeOk.skip ?_
    refine CodeOk.weak (st' := ⟨tl 69 [(0, .sl false false (a0.map (encSDNode false))), (15, V.bool (decide (r2 < 0)))], []⟩) (Weak.refl _) ?_
    obtain ⟨r5, hx7, h⟩ := bind_some h
    obtain ⟨r6, hx8, h⟩ := bind_some h
    refine CodeOk.cutR (tl 69 [(0, .sl false false (a0.map (encSDNode false))), (4, .own 101)]) [(101, .vec false 83 4 (r6.map (encSDNode true)))] mix (by
        refine W.run D_ok 1 100 (by kernel_rfl) ?_
        refine W.call (m_laws_toDNodeS_ok N a0 hx7) cok32 [] [(100, 100)] [100] (show LayOk _ [] from trivial) (by kernel_rfl) (by kernel_rfl) ?_
        refine W.lend (m_spec_Softened_ok N r5 hx8) cok31 [(100, 101)] [101] (LayOk.cons (j := 100) (encSDNode true) (encSDNode false) r5 (by kernel_rfl) (share_encSDNode _) (show LayOk _ [] from trivial)) (.own _) (.cons (DeepR.map (fun _ => (.cons (.c _) (.cons (.c _) (.cons (.c _) (.cons (.sl _ _ (DeepR.map (fun _ => (.cons (.c _) .nil)) _)) .nil))))) _) .nil) (by kernel_rfl) (by kernel_rfl) ?_
        refine W.run D_ok 1 102 (by kernel_rfl) ?_
        exact W.fin (by decide) (by kernel_rfl) (Weak.sel [(101, 101)] [0, 4] (by kernel_rfl) (by kernel_rfl) (by kernel_rfl))
        ) ?_
    obtain ⟨r8, hx10, h⟩ := bind_some h
    refine CodeOk.cutR (tl 69 [(0, .sl false false (a0.map (encSDNode false))), (4, .own 101), (5, .own 102)]) [(102, .vec false 83 4 (r8.map (encSDNode true))), (101, .vec false 83 4 (r6.map (encSDNode true)))] mix (by
        refine W.run D_ok 1 102 (by kernel_rfl) ?_
        refine W.call (m_laws_toDNodeS_ok N a0 hx10) cok32 [] [(100, 102)] [102] (show LayOk _ [] from trivial) (by kernel_rfl) (by kernel_rfl) ?_
        refine W.run D_ok 1 103 (by kernel_rfl) ?_
        exact W.fin (by decide) (by kernel_rfl) (Weak.sel [(102, 102), (101, 101)] [0, 4, 5] (by kernel_rfl) (by kernel_rfl) (by kernel_rfl))
        ) ?_
    obtain ⟨r10, hx12, h⟩ := bind_some h
    refine CodeOk.cutR (tl 69 [(0, .sl false false (a0.map (encSDNode false))), (4, .own 101), (5, .own 102), (6, .own 103)]) [(103, .vec false 83 4 (r10.map (encSDNode true))), (102, .vec false 83 4 (r8.map (encSDNode true))), (101, .vec false 83 4 (r6.map (encSDNode true)))] mix (by
        refine W.run D_ok 1 103 (by kernel_rfl) ?_
        refine W.lend (m_impl_Softened_ok N r8 hx12) cok33 [(100, 103)] [103] (LayOk.cons (j := 102) (encSDNode true) (encSDNode false) r8 (by kernel_rfl) (share_encSDNode _) (show LayOk _ [] from trivial)) (.own _) (.cons (DeepR.map (fun _ => (.cons (.c _) (.cons (.c _) (.cons (.c _) (.cons (.sl _ _ (DeepR.map (fun _ => (.cons (.c _) .nil)) _)) .nil))))) _) .nil) (by kernel_rfl) (by kernel_rfl) ?_
        refine W.run D_ok 1 104 (by kernel_rfl) ?_
        exact W.fin (by decide) (by kernel_rfl) (Weak.sel [(103, 103), (102, 102), (101, 101)] [0, 4, 5, 6] (by kernel_rfl) (by kernel_rfl) (by kernel_rfl))
        ) ?_
    refine CodeOk.seq' ?_
    obtain ⟨r14, hx17, h⟩ := bind_some h
    refine CodeOk.cutR (tl 69 [(0, .sl false false (a0.map (encSDNode false))), (4, .own 101), (5, .own 102), (6, .own 103), (26, V.bool (!r14))]) [(103, .vec false 83 4 (r10.map (encSDNode true))), (102, .vec false 83 4 (r8.map (encSDNode true))), (101, .vec false 83 4 (r6.map (encSDNode true)))] mix (by
        refine W.run D_ok 2 104 (by kernel_rfl) ?_
        refine W.lend (m_laws_eqDNodeS_ok N r10 r6 hx17) cok34 [] [] (LayOk.cons (j := 103) (encSDNode true) (encSDNode false) r10 (by kernel_rfl) (share_encSDNode _) (LayOk.cons (j := 101) (encSDNode true) (encSDNode false) r6 (by kernel_rfl) (share_encSDNode _) (show LayOk _ [] from trivial))) (.c _) .nil (by kernel_rfl) (by kernel_rfl) ?_
        refine W.run D_ok 1 104 (by kernel_rfl) ?_
        exact W.fin (by decide) (by kernel_rfl) (Weak.sel [(103, 103), (102, 102), (101, 101)] [0, 4, 5, 6, 26] (by kernel_rfl) (by kernel_rfl) (by kernel_rfl))
        ) ?_
    rcases cond_some h with ⟨hc18, h⟩ | ⟨hc18, h⟩
    · refine CodeOk.ifT hc18 (by kernel_rfl) ?_
      refine CodeOk.cutR (tl 69 [(2, V.bool false)]) [] mix (by
          refine W.run D_ok 1 104 (by kernel_rfl) ?_
          exact W.fin (by decide) (by kernel_rfl) (Weak.sel [] [2] (by kernel_rfl) (by kernel_rfl) (by kernel_rfl))
          ) ?_
      refine CodeOk.ret ?_
      have h := Option.some.inj h
      subst h
      exact Ends.gen [] (.inr rfl) (RetV.one rfl (OneR.tmp (t := 2) (r := V.bool false) (by kernel_rfl))) (by kernel_rfl) (by kernel_rfl) (by kernel_rfl)
    · refine CodeOk.ifF hc18 (by kernel_rfl) ?_
      refine CodeOk.skip ?_
      refine CodeOk.weak (st' := ⟨tl 69 [(0, .sl false false (a0.map (encSDNode false))), (4, .own 101), (5, .own 102), (6, .own 103), (26, V.bool (!r14))], [(103, .vec false 83 4 (r10.map (encSDNode true))), (102, .vec false 83 4 (r8.map (encSDNode true))), (101, .vec false 83 4 (r6.map (encSDNode true)))]⟩) (Weak.refl _) ?_
      refine CodeOk.seq' ?_
      obtain ⟨r21, hx26, h⟩ := bind_some h
      obtain ⟨r22, hx27, h⟩ := bind_some h
      refine CodeOk.cutR (tl 69 [(0, .sl false false (a0.map (encSDNode false))), (4, .own 101), (5, .own 102), (6, .own 103), (31, V.bool (!r22))]) [(103, .vec false 83 4 (r10.map (encSDNode true))), (102, .vec false 83 4 (r8.map (encSDNode true))), (101, .vec false 83 4 (r6.map (encSDNode true)))] mix (by
          refine W.run D_ok 2 104 (by kernel_rfl) ?_
          refine W.call (m_laws_toDNodeS_ok N a0 hx26) cok32 [] [(100, 104)] [104] (show LayOk _ [] from trivial) (by kernel_rfl) (by kernel_rfl) ?_
          refine W.lend (m_laws_eqDNodeS_ok N r8 r21 hx27) cok34 [] [] (LayOk.cons (j := 102) (encSDNode true) (encSDNode false) r8 (by kernel_rfl) (share_encSDNode _) (LayOk.cons (j := 104) (encSDNode true) (encSDNode false) r21 (by kernel_rfl) (share_encSDNode _) (show LayOk _ [] from trivial))) (.c _) .nil (by kernel_rfl) (by kernel_rfl) ?_
          refine W.run D_ok 1 105 (by kernel_rfl) ?_
          exact W.fin (by decide) (by kernel_rfl) (Weak.sel [(103, 103), (102, 102), (101, 101)] [0, 4, 5, 6, 31] (by kernel_rfl) (by kernel_rfl) (by kernel_rfl))
          ) ?_
      rcases cond_some h with ⟨hc28, h⟩ | ⟨hc28, h⟩
      · refine CodeOk.ifT hc28 (by kernel_rfl) ?_
        refine CodeOk.cutR (tl 69 [(2, V.bool false)]) [] mix (by
            refine W.run D_ok 1 105 (by kernel_rfl) ?_
            exact W.fin (by decide) (by kernel_rfl) (Weak.sel [] [2] (by kernel_rfl) (by kernel_rfl) (by kernel_rfl))
            ) ?_
        refine CodeOk.ret ?_
        have h := Option.some.inj h
        subst h
        exact Ends.gen [] (.inr rfl) (RetV.one rfl (OneR.tmp (t := 2) (r := V.bool false) (by kernel_rfl))) (by kernel_rfl) (by kernel_rfl) (by kernel_rfl)
      · refine CodeOk.ifF hc28 (by kernel_rfl) ?_
        refine CodeOk.skip ?_
        refine CodeOk.weak (st' := ⟨tl 69 [(0, .sl false false (a0.map (encSDNode false))), (4, .own 101), (5, .own 102), (6, .own 103), (31, V.bool (!r22))], [(103, .vec false 83 4 (r10.map (encSDNode true))), (102, .vec false 83 4 (r8.map (encSDNode true))), (101, .vec false 83 4 (r6.map (encSDNode true)))]⟩) (Weak.refl _) ?_
        refine CodeOk.cutR (tl 69 [(0, .sl false false (a0.map (encSDNode false))), (4, .own 101), (5, .own 102), (6, .own 103), (7, V.int 1)]) [(103, .vec false 83 4 (r10.map (encSDNode true))), (102, .vec false 83 4 (r8.map (encSDNode true))), (101, .vec false 83 4 (r6.map (encSDNode true)))] mix (by
            refine W.run D_ok 1 105 (by kernel_rfl) ?_
            exact W.fin (by decide) (by kernel_rfl) (Weak.sel [(103, 103), (102, 102), (101, 101)] [0, 4, 5, 6, 7] (by kernel_rfl) (by kernel_rfl) (by kernel_rfl))
            ) ?_
        obtain ⟨r24, hx30, h⟩ := bind_some h
        refine CodeOk.cutR (tl 69 [(0, .sl false false (a0.map (encSDNode false))), (4, .own 101), (6, .own 103), (7, V.int r24.1)]) [(103, .vec false 83 4 (r10.map (encSDNode true))), (101, .vec false 83 4 (r6.map (encSDNode true)))] mix (by
            refine W.run D_ok 2 105 (by kernel_rfl) ?_
            refine W.call (m_laws_markDNodeS_ok 83 N 1 r8 hx30) cok35 [(102, 0)] [(0, 102)] [] (show LayOk _ [] from trivial) (by kernel_rfl) (by kernel_rfl) ?_
            refine W.run D_ok 1 105 (by kernel_rfl) ?_
            exact W.fin (by decide) (by kernel_rfl) (Weak.sel [(103, 103), (101, 101)] [0, 4, 6, 7] (by kernel_rfl) (by kernel_rfl) (by kernel_rfl))
            ) ?_
        refine CodeOk.seq' ?_
        obtain ⟨y29, hv39, h⟩ := bind_some h
        refine CodeOk.cutR (tl 69 [(0, .sl false false (a0.map (encSDNode false))), (4, .own 100), (6, .own 101), (42, V.bool y29)]) [(100, .vec false 83 4 (r6.map (encSDNode true))), (101, .vec false 83 4 (r10.map (encSDNode true)))] mix (by
            refine W.run D_ok 3 105 (by kernel_rfl) ?_
            rcases cond_some hv39 with ⟨hc40, hv39⟩ | ⟨hc40, hv39⟩
            · refine W.is 37 hc40 (by kernel_rfl) ?_
              refine W.run D_ok 5 105 (by kernel_rfl) ?_
              have hv39 := Option.some.inj hv39
              subst hv39
              exact W.fin (by decide) (by kernel_rfl) (Weak.sel [(101, 100), (103, 101)] [0, 4, 6, 42] (by kernel_rfl) (by kernel_rfl) (by kernel_rfl))
            · refine W.is 37 hc40 (by kernel_rfl) ?_
              refine W.run D_ok 2 105 (by kernel_rfl) ?_
              obtain ⟨r30, hx41, hv39⟩ := bind_some hv39
              refine W.lend (m_laws_eqDNodeS_ok N r10 r6 hx41) cok34 [] [] (LayOk.cons (j := 103) (encSDNode true) (encSDNode false) r10 (by kernel_rfl) (share_encSDNode _) (LayOk.cons (j := 101) (encSDNode true) (encSDNode false) r6 (by kernel_rfl) (share_encSDNode _) (show LayOk _ [] from trivial))) (.c _) .nil (by kernel_rfl) (by kernel_rfl) ?_
              refine W.run D_ok 2 105 (by kernel_rfl) ?_
              have hv39 := Option.some.inj hv39
              subst hv39
              exact W.fin (by decide) (by kernel_rfl) (Weak.sel [(101, 100), (103, 101)] [0, 4, 6, 42] (by kernel_rfl) (by kernel_rfl) (by kernel_rfl))
            ) ?_
        rcases cond_some h with ⟨hc42, h⟩ | ⟨hc42, h⟩
        · refine CodeOk.ifT hc42 (by kernel_rfl) ?_
          refine CodeOk.cutR (tl 69 [(2, V.bool false)]) [] mix (by
              refine W.run D_ok 1 105 (by kernel_rfl) ?_
              exact W.fin (by decide) (by kernel_rfl) (Weak.sel [] [2] (by kernel_rfl) (by kernel_rfl) (by kernel_rfl))
              ) ?_
          refine CodeOk.ret ?_
          have h := Option.some.inj h
          subst h
          exact Ends.gen [] (.inr rfl) (RetV.one rfl (OneR.tmp (t := 2) (r := V.bool false) (by kernel_rfl))) (by kernel_rfl) (by kernel_rfl) (by kernel_rfl)
        · refine CodeOk.ifF hc42 (by kernel_rfl) ?_
          refine CodeOk.skip ?_
          refine CodeOk.weak (st' := ⟨tl 69 [(0, .sl false false (a0.map (encSDNode false))), (4, .own 100), (6, .own 101), (42, V.bool y29)], [(100, .vec false 83 4 (r6.map (encSDNode true))), (101, .vec false 83 4 (r10.map (encSDNode true)))]⟩) (Weak.refl _) ?_
          refine CodeOk.cutR (tl 69 [(0, .sl false false (a0.map (encSDNode false))), (4, .own 100), (6, .own 101), (8, V.int 1)]) [(100, .vec false 83 4 (r6.map (encSDNode true))), (101, .vec false 83 4 (r10.map (encSDNode true)))] mix (by
              refine W.run D_ok 1 105 (by kernel_rfl) ?_
              exact W.fin (by decide) (by kernel_rfl) (Weak.sel [(100, 100), (101, 101)] [0, 4, 6, 8] (by kernel_rfl) (by kernel_rfl) (by kernel_rfl))
              ) ?_
          obtain ⟨r32, hx44, h⟩ := bind_some h
          refine CodeOk.cutR (tl 69 [(0, .sl false false (a0.map (encSDNode false))), (4, .own 100), (6, .own 101), (8, V.int r32.1)]) [(100, .vec false 83 4 (r6.map (encSDNode true))), (101, .vec false 83 4 (r32.2.map (encSDNode true)))] mix (by
              refine W.run D_ok 2 105 (by kernel_rfl) ?_
              refine W.call (m_laws_markDNodeS_ok 83 N 1 r10 hx44) cok35 [(101, 0)] [(0, 101)] [] (show LayOk _ [] from trivial) (by kernel_rfl) (by kernel_rfl) ?_
              refine W.run D_ok 1 105 (by kernel_rfl) ?_
              exact W.fin (by decide) (by kernel_rfl) (Weak.sel [(100, 100), (101, 101)] [0, 4, 6, 8] (by kernel_rfl) (by kernel_rfl) (by kernel_rfl))
              ) ?_
          refine CodeOk.cutR (tl 69 [(0, .sl false false (a0.map (encSDNode false))), (4, .own 100), (6, .own 101), (8, V.int r32.1), (9, V.int 1)]) [(100, .vec false 83 4 (r6.map (encSDNode true))), (101, .vec false 83 4 (r32.2.map (encSDNode true)))] mix (by
              refine W.run D_ok 1 105 (by kernel_rfl) ?_
              exact W.fin (by decide) (by kernel_rfl) (Weak.sel [(100, 100), (101, 101)] [0, 4, 6, 8, 9] (by kernel_rfl) (by kernel_rfl) (by kernel_rfl))
              ) ?_
          obtain ⟨r34, hx46, h⟩ := bind_some h
          refine CodeOk.cutR (tl 69 [(0, .sl false false (a0.map (encSDNode false))), (4, .own 100), (6, .own 101), (8, V.int r32.1), (9, V.int r34)]) [(100, .vec false 83 4 (r6.map (encSDNode true))), (101, .vec false 83 4 (r32.2.map (encSDNode true)))] mix (by
              refine W.run D_ok 2 105 (by kernel_rfl) ?_
              refine W.lend (m_laws_heldDNodeS_ok N r32.2 1 hx46) cok36 [] [] (LayOk.cons (j := 101) (encSDNode true) (encSDNode false) r32.2 (by kernel_rfl) (share_encSDNode _) (show LayOk _ [] from trivial)) (.c _) .nil (by kernel_rfl) (by kernel_rfl) ?_
              refine W.run D_ok 1 105 (by kernel_rfl) ?_
              exact W.fin (by decide) (by kernel_rfl) (Weak.sel [(100, 100), (101, 101)] [0, 4, 6, 8, 9] (by kernel_rfl) (by kernel_rfl) (by kernel_rfl))
              ) ?_
          refine CodeOk.seq' ?_
          refine CodeOk.cutR (tl 69 [(0, .sl false false (a0.map (encSDNode false))), (4, .own 100), (6, .own 101), (8, V.int r32.1), (9, V.int r34), (50, V.bool (decide (r34 < 0)))]) [(100, .vec false 83 4 (r6.map (encSDNode true))), (101, .vec false 83 4 (r32.2.map (encSDNode true)))] mix (by
              refine W.run D_ok 2 105 (by kernel_rfl) ?_
              exact W.fin (by decide) (by kernel_rfl) (Weak.sel [(100, 100), (101, 101)] [0, 4, 6, 8, 9, 50] (by kernel_rfl) (by kernel_rfl) (by kernel_rfl))
              ) ?_
          rcases cond_some h with ⟨hc48, h⟩ | ⟨hc48, h⟩
          · refine CodeOk.ifT hc48 (by kernel_rfl) ?_
            refine CodeOk.cutR (tl 69 [(2, V.bool false)]) [] mix (by
                refine W.run D_ok 1 105 (by kernel_rfl) ?_
                exact W.fin (by decide) (by kernel_rfl) (Weak.sel [] [2] (by kernel_rfl) (by kernel_rfl) (by kernel_rfl))
                ) ?_
            refine CodeOk.ret ?_
            have h := Option.some.inj h
            subst h
            exact Ends.gen [] (.inr rfl) (RetV.one rfl (OneR.tmp (t := 2) (r := V.bool false) (by kernel_rfl))) (by kernel_rfl) (by kernel_rfl) (by kernel_rfl)
          · refine CodeOk.ifF hc48 (by kernel_rfl) ?_
            refine CodeOk.skip ?_
            refine CodeOk.weak (st' := ⟨tl 69 [(0, .sl false false (a0.map (encSDNode false))), (4, .own 100), (6, .own 101), (8, V.int r32.1), (9, V.int r34), (50, V.bool (decide (r34 < 0)))], [(100, .vec false 83 4 (r6.map (encSDNode true))), (101, .vec false 83 4 (r32.2.map (encSDNode true)))]⟩) (Weak.refl _) ?_
            refine CodeOk.seq' ?_
            refine CodeOk.cutR (tl 69 [(0, .sl false false (a0.map (encSDNode false))), (4, .own 100), (6, .own 101), (8, V.int r32.1), (53, V.bool (r34 != r32.1))]) [(100, .vec false 83 4 (r6.map (encSDNode true))), (101, .vec false 83 4 (r32.2.map (encSDNode true)))] mix (by
                refine W.run D_ok 3 105 (by kernel_rfl) ?_
                exact W.fin (by decide) (by kernel_rfl) (Weak.sel [(100, 100), (101, 101)] [0, 4, 6, 8, 53] (by kernel_rfl) (by kernel_rfl) (by kernel_rfl))
                ) ?_
            rcases cond_some h with ⟨hc50, h⟩ | ⟨hc50, h⟩
            · refine CodeOk.ifT hc50 (by kernel_rfl) ?_
              refine CodeOk.cutR (tl 69 [(2, V.bool false)]) [] mix (by
                  refine W.run D_ok 1 105 (by kernel_rfl) ?_
                  exact W.fin (by decide) (by kernel_rfl) (Weak.sel [] [2] (by kernel_rfl) (by kernel_rfl) (by kernel_rfl))
                  ) ?_
              refine CodeOk.ret ?_
              have h := Option.some.inj h
              subst h
              exact Ends.gen [] (.inr rfl) (RetV.one rfl (OneR.tmp (t := 2) (r := V.bool false) (by kernel_rfl))) (by kernel_rfl) (by kernel_rfl) (by kernel_rfl)
            · refine CodeOk.ifF hc50 (by kernel_rfl) ?_
              refine CodeOk.skip ?_
              refine CodeOk.weak (st' := ⟨tl 69 [(0, .sl false false (a0.map (encSDNode false))), (4, .own 100), (6, .own 101), (8, V.int r32.1), (53, V.bool (r34 != r32.1))], [(100, .vec false 83 4 (r6.map (encSDNode true))), (101, .vec false 83 4 (r32.2.map (encSDNode true)))]⟩) (Weak.refl _) ?_
              obtain ⟨r37, hx53, h⟩ := bind_some h
              obtain ⟨r38, hx54, h⟩ := bind_some h
              refine CodeOk.cutR (tl 69 [(4, .own 100), (6, .own 101), (8, V.int r32.1), (10, .own 106)]) [(106, .vec false 83 4 (r38.map (encSDNode true))), (100, .vec false 83 4 (r6.map (encSDNode true))), (101, .vec false 83 4 (r32.2.map (encSDNode true)))] mix (by
                  refine W.run D_ok 1 105 (by kernel_rfl) ?_
                  refine W.call (m_laws_toDNodeS_ok N a0 hx53) cok32 [] [(100, 105)] [105] (show LayOk _ [] from trivial) (by kernel_rfl) (by kernel_rfl) ?_
                  refine W.lend (m_impl_Softened_ok N r37 hx54) cok33 [(100, 106)] [106] (LayOk.cons (j := 105) (encSDNode true) (encSDNode false) r37 (by kernel_rfl) (share_encSDNode _) (show LayOk _ [] from trivial)) (.own _) (.cons (DeepR.map (fun _ => (.cons (.c _) (.cons (.c _) (.cons (.c _) (.cons (.sl _ _ (DeepR.map (fun _ => (.cons (.c _) .nil)) _)) .nil))))) _) .nil) (by kernel_rfl) (by kernel_rfl) ?_
                  refine W.run D_ok 1 107 (by kernel_rfl) ?_
                  exact W.fin (by decide) (by kernel_rfl) (Weak.sel [(106, 106), (100, 100), (101, 101)] [4, 6, 8, 10] (by kernel_rfl) (by kernel_rfl) (by kernel_rfl))
                  ) ?_
              refine CodeOk.seq' ?_
              obtain ⟨r42, hx59, h⟩ := bind_some h
              refine CodeOk.cutR (tl 69 [(6, .own 101), (8, V.int r32.1), (60, V.bool (!r42))]) [(101, .vec false 83 4 (r32.2.map (encSDNode true)))] mix (by
                  refine W.run D_ok 2 107 (by kernel_rfl) ?_
                  refine W.lend (m_laws_eqDNodeS_ok N r38 r6 hx59) cok34 [] [] (LayOk.cons (j := 106) (encSDNode true) (encSDNode false) r38 (by kernel_rfl) (share_encSDNode _) (LayOk.cons (j := 100) (encSDNode true) (encSDNode false) r6 (by kernel_rfl) (share_encSDNode _) (show LayOk _ [] from trivial))) (.c _) .nil (by kernel_rfl) (by kernel_rfl) ?_
                  refine W.run D_ok 1 107 (by kernel_rfl) ?_
                  exact W.fin (by decide) (by kernel_rfl) (Weak.sel [(101, 101)] [6, 8, 60] (by kernel_rfl) (by kernel_rfl) (by kernel_rfl))
                  ) ?_
              rcases cond_some h with ⟨hc60, h⟩ | ⟨hc60, h⟩
              · refine CodeOk.ifT hc60 (by kernel_rfl) ?_
                refine CodeOk.cutR (tl 69 [(2, V.bool false)]) [] mix (by
                    refine W.run D_ok 1 107 (by kernel_rfl) ?_
                    exact W.fin (by decide) (by kernel_rfl) (Weak.sel [] [2] (by kernel_rfl) (by kernel_rfl) (by kernel_rfl))
                    ) ?_
                refine CodeOk.ret ?_
                have h := Option.some.inj h
                subst h
                exact Ends.gen [] (.inr rfl) (RetV.one rfl (OneR.tmp (t := 2) (r := V.bool false) (by kernel_rfl))) (by kernel_rfl) (by kernel_rfl) (by kernel_rfl)
              · refine CodeOk.ifF hc60 (by kernel_rfl) ?_
                refine CodeOk.skip ?_
                refine CodeOk.weak (st' := ⟨tl 69 [(6, .own 101), (8, V.int r32.1), (60, V.bool (!r42))], [(101, .vec false 83 4 (r32.2.map (encSDNode true)))]⟩) (Weak.refl _) ?_
                refine CodeOk.cutR (tl 69 [(6, .own 101), (8, V.int r32.1), (9, V.int 1)]) [(101, .vec false 83 4 (r32.2.map (encSDNode true)))] mix (by
                    refine W.run D_ok 1 107 (by kernel_rfl) ?_
                    exact W.fin (by decide) (by kernel_rfl) (Weak.sel [(101, 101)] [6, 8, 9] (by kernel_rfl) (by kernel_rfl) (by kernel_rfl))
                    ) ?_
                obtain ⟨r44, hx62, h⟩ := bind_some h
                refine CodeOk.cutR (tl 69 [(8, V.int r32.1), (9, V.int r44)]) [] mix (by
                    refine W.run D_ok 2 107 (by kernel_rfl) ?_
                    refine W.lend (m_laws_heldDNodeS_ok N r32.2 1 hx62) cok36 [] [] (LayOk.cons (j := 101) (encSDNode true) (encSDNode false) r32.2 (by kernel_rfl) (share_encSDNode _) (show LayOk _ [] from trivial)) (.c _) .nil (by kernel_rfl) (by kernel_rfl) ?_
                    refine W.run D_ok 1 107 (by kernel_rfl) ?_
                    exact W.fin (by decide) (by kernel_rfl) (Weak.sel [] [8, 9] (by kernel_rfl) (by kernel_rfl) (by kernel_rfl))
                    ) ?_
                refine CodeOk.seq' ?_
                refine CodeOk.cutR (tl 69 [(8, V.int r32.1), (9, V.int r44), (65, V.bool (decide (r44 < 0)))]) [] mix (by
                    refine W.run D_ok 2 107 (by kernel_rfl) ?_
                    exact W.fin (by decide) (by kernel_rfl) (Weak.sel [] [8, 9, 65] (by kernel_rfl) (by kernel_rfl) (by kernel_rfl))
                    ) ?_
                rcases cond_some h with ⟨hc64, h⟩ | ⟨hc64, h⟩
                · refine CodeOk.ifT hc64 (by kernel_rfl) ?_
                  refine CodeOk.cutR (tl 69 [(2, V.bool false)]) [] mix (by
                      refine W.run D_ok 1 107 (by kernel_rfl) ?_
                      exact W.fin (by decide) (by kernel_rfl) (Weak.sel [] [2] (by kernel_rfl) (by kernel_rfl) (by kernel_rfl))
                      ) ?_
                  refine CodeOk.ret ?_
                  have h := Option.some.inj h
                  subst h
                  exact Ends.gen [] (.inr rfl) (RetV.one rfl (OneR.tmp (t := 2) (r := V.bool false) (by kernel_rfl))) (by kernel_rfl) (by kernel_rfl) (by kernel_rfl)
                · refine CodeOk.ifF hc64 (by kernel_rfl) ?_
                  refine CodeOk.skip ?_
                  refine CodeOk.weak (st' := ⟨tl 69 [(8, V.int r32.1), (9, V.int r44), (65, V.bool (decide (r44 < 0)))], []⟩) (Weak.refl _) ?_
                  refine CodeOk.seq' ?_
                  refine CodeOk.cutR (tl 69 [(68, V.bool (r44 != r32.1))]) [] mix (by
                      refine W.run D_ok 3 107 (by kernel_rfl) ?_
                      exact W.fin (by decide) (by kernel_rfl) (Weak.sel [] [68] (by kernel_rfl) (by kernel_rfl) (by kernel_rfl))
                      ) ?_
                  rcases cond_some h with ⟨hc66, h⟩ | ⟨hc66, h⟩
                  · refine CodeOk.ifT hc66 (by kernel_rfl) ?_
                    refine CodeOk.cutR (tl 69 [(2, V.bool false)]) [] mix (by
                        refine W.run D_ok 1 107 (by kernel_rfl) ?_
                        exact W.fin (by decide) (by kernel_rfl) (Weak.sel [] [2] (by kernel_rfl) (by kernel_rfl) (by kernel_rfl))
                        ) ?_
                    refine CodeOk.ret ?_
                    have h := Option.some.inj h
                    subst h
                    exact Ends.gen [] (.inr rfl) (RetV.one rfl (OneR.tmp (t := 2) (r := V.bool false) (by kernel_rfl))) (by kernel_rfl) (by kernel_rfl) (by kernel_rfl)
                  · refine CodeOk.ifF hc66 (by kernel_rfl) ?_
                    refine CodeOk.skip ?_
                    refine CodeOk.weak (st' := ⟨tl 69 [(68, V.bool (r44 != r32.1))], []⟩) (Weak.refl _) ?_
                    refine CodeOk.cutR (tl 69 [(2, V.bool true)]) [] mix (by
                        refine W.run D_ok 1 107 (by kernel_rfl) ?_
                        exact W.fin (by decide) (by kernel_rfl) (Weak.sel [] [2] (by kernel_rfl) (by kernel_rfl) (by kernel_rfl))
                        ) ?_
                    refine CodeOk.ret ?_
                    have h := Option.some.inj h
                    subst h
                    exact Ends.gen [] (.inr rfl) (RetV.one rfl (OneR.tmp (t := 2) (r := V.bool true) (by kernel_rfl))) (by kernel_rfl) (by kernel_rfl) (by kernel_rfl)

theorem m_spec_Ungrouped_ok (N : Nat) (a0 : List SDNode) {r : (List SDNode)} (h : m_spec_Ungrouped N a0 = some r) :
    AC Try.prog GG 37 [.sl false false (a0.map (encSDNode false))] [] (.own 100) [(100, .vec false 83 4 (r.map (encSDNode true)))] := by
  rw [m_spec_Ungrouped] at h
  refine AC.enter Try.func37 rfl ?_
  refine CodeOk.cutR (tl 28 [(0, .sl false false (a0.map (encSDNode false)))]) [] mix (by
      refine W.run D_ok 1 100 (by kernel_rfl) ?_
      exact W.fin (by decide) (by kernel_rfl) (Weak.sel [] [0] (by kernel_rfl) (by kernel_rfl) (by kernel_rfl))
      ) ?_
  refine CodeOk.seq' ?_
  obtain ⟨r4, hx5, h⟩ := bind_some h
  refine CodeOk.cutR (tl 28 [(0, .sl false false (a0.map (encSDNode false))), (7, V.bool (!r4))]) [] mix (by
      refine W.run D_ok 1 100 (by kernel_rfl) ?_
      refine W.call0 (m_spec_DocOk_ok N a0 hx5) cok61 rfl (by kernel_rfl) ?_
      refine W.run D_ok 1 100 (by kernel_rfl) ?_
      exact W.fin (by decide) (by kernel_rfl) (Weak.sel [] [0, 7] (by kernel_rfl) (by kernel_rfl) (by kernel_rfl))
      ) ?_
  rcases cond_some h with ⟨hc6, h⟩ | ⟨hc6, h⟩
  · refine CodeOk.ifT hc6 (by kernel_rfl) ?_
    refine CodeOk.cutR (tl 28 [(2, .own 100)]) [(100, .vec false 83 4 ([].map (encSDNode true)))] mix (by
        refine W.run D_ok 2 100 (by kernel_rfl) ?_
        exact W.fin (by decide) (by kernel_rfl) (Weak.sel [(100, 100)] [2] (by kernel_rfl) (by kernel_rfl) (by kernel_rfl))
        ) ?_
    refine CodeOk.ret ?_
    have h := Option.some.inj h
    subst h
    exact Ends.gen [(100, 100)] (.inr rfl) (RetV.one rfl (OneR.tmp (t := 2) (r := .own 100) (by kernel_rfl))) (by kernel_rfl) (by kernel_rfl) (by kernel_rfl)
  · refine CodeOk.ifF hc6 (by kernel_rfl) ?_
    refine CodeOk.skip ?_
    refine CodeOk.weak (st' := ⟨tl 28 [(0, .sl false false (a0.map (encSDNode false))), (7, V.bool (!r4))], []⟩) (Weak.refl _) ?_
    obtain ⟨r6, hx8, h⟩ := bind_some h
    refine CodeOk.cutR (tl 28 [(3, .own 100)]) [(100, .vec false 83 4 (r6.map (encSDNode true)))] mix (by
        refine W.run D_ok 1 100 (by kernel_rfl) ?_
        refine W.call (m_spec_l15Shift_ok N a0 0 hx8) cok62 [] [(100, 100)] [100] (show LayOk _ [] from trivial) (by kernel_rfl) (by kernel_rfl) ?_
        refine W.run D_ok 1 101 (by kernel_rfl) ?_
        exact W.fin (by decide) (by kernel_rfl) (Weak.sel [(100, 100)] [3] (by kernel_rfl) (by kernel_rfl) (by kernel_rfl))
        ) ?_
    refine CodeOk.seq' ?_
    refine CodeOk.cutR (tl 28 [(3, .own 100), (4, V.int 0)]) [(100, .vec false 83 4 (r6.map (encSDNode true)))] mix (by
        refine W.run D_ok 1 101 (by kernel_rfl) ?_
        exact W.fin (by decide) (by kernel_rfl) (Weak.sel [(100, 100)] [3, 4] (by kernel_rfl) (by kernel_rfl) (by kernel_rfl))
        ) ?_
    refine CodeOk.block' ?_
    refine CodeOk.loopJ (fun (⟨y63, y64⟩ : (Int × (List SDNode))) => ⟨tl 28 [(3, .own 100), (4, V.int y63)], [(100, .vec false 83 4 (y64.map (encSDNode true)))]⟩) (fun n i => m_spec_Ungrouped_l1 N n i = some r) (n0 := N) (i0 := (0, r6)) (Weak.sel [(100, 100)] [3, 4] (by kernel_rfl) (by kernel_rfl) (by kernel_rfl)) h (fun i h => by simp [m_spec_Ungrouped_l1] at h) ?_
    rintro n1 ⟨y63, y64⟩ h101 ih102
    rw [m_spec_Ungrouped_l1] at h101
    refine CodeOk.seq' ?_
    refine CodeOk.cutR (tl 28 [(3, .own 100), (4, V.int y63), (14, V.bool (decide (y63 < (y64.length : Int))))]) [(100, .vec false 83 4 (y64.map (encSDNode true)))] mix (by
        refine W.run D_ok 2 161 (by kernel_rfl) ?_
        refine W.len D_ok (encSDNode true) y64 [100] (by kernel_rfl) (by kernel_rfl) ?_
        refine W.run D_ok 1 161 (by kernel_rfl) ?_
        exact W.fin (by decide) (by kernel_rfl) (Weak.sel [(100, 100)] [3, 4, 14] (by kernel_rfl) (by kernel_rfl) (by kernel_rfl))
        ) ?_
    rcases cond_some h101 with ⟨hc104, h101⟩ | ⟨hc104, h101⟩
    · refine CodeOk.ifT hc104 (by kernel_rfl) ?_
      refine CodeOk.skip ?_
      refine CodeOk.weak (st' := ⟨tl 28 [(3, .own 100), (4, V.int y63), (14, V.bool (decide (y63 < (y64.length : Int))))], [(100, .vec false 83 4 (y64.map (encSDNode true)))]⟩) (Weak.refl _) ?_
      refine CodeOk.join (fun (⟨y63, y86⟩ : (Int × (List SDNode))) => ⟨tl 28 [(3, .own 100), (4, V.int y63)], [(100, .vec false 83 4 (y86.map (encSDNode true)))]⟩) (fun i => m_spec_Ungrouped_k2 N (m_spec_Ungrouped_l1 N n1) i = some r) ?_ ?_
      · rintro ⟨y63, y86⟩ h112
        rw [m_spec_Ungrouped_k2] at h112
        refine CodeOk.endR (tl 28 [(3, .own 100), (4, V.int (IntKind.wrap .i64 (y63 + 1)))]) [(100, .vec false 83 4 (y86.map (encSDNode true)))] mix (by
            refine W.run D_ok 3 161 (by kernel_rfl) ?_
            exact W.fin (by decide) (by kernel_rfl) (Weak.sel [(100, 100)] [3, 4] (by kernel_rfl) (by kernel_rfl) (by kernel_rfl))
            ) (fun st hw => ?_)
        exact ih102 ((IntKind.wrap .i64 (y63 + 1)), y86) h112 _ (hw.trans (Weak.sel [(100, 100)] [3, 4] (by kernel_rfl) (by kernel_rfl) (by kernel_rfl)))
      intro hk113
      refine CodeOk.block' ?_
      obtain ⟨e88, hx115, h101⟩ := bind_some h101
      refine CodeOk.cutR (tl 28 [(3, .own 100), (4, V.int y63), (22, V.bool (e88.Kind == 5))]) [(100, .vec false 83 4 (y64.map (encSDNode true)))] mix (by
          refine W.run D_ok 2 161 (by kernel_rfl) ?_
          refine W.ixO D_ok (encSDNode true) hx115 100 4 (by kernel_rfl) ?_
          refine W.run D_ok 1 161 (by kernel_rfl) ?_
          refine W.ldO D_ok (encSDNode true) hx115 3 100 0 (V.int e88.Kind) (by kernel_rfl) (by kernel_rfl) ?_
          refine W.run D_ok 1 161 (by kernel_rfl) ?_
          exact W.fin (by decide) (by kernel_rfl) (Weak.sel [(100, 100)] [3, 4, 22] (by kernel_rfl) (by kernel_rfl) (by kernel_rfl))
          ) ?_
      rcases cond_some h101 with ⟨hc116, h101⟩ | ⟨hc116, h101⟩
      · refine CodeOk.ifT hc116 (by kernel_rfl) ?_
        obtain ⟨e91, hx119, h101⟩ := bind_some h101
        obtain ⟨x92, hu120, h101⟩ := bind_some h101
        refine CodeOk.endR (tl 28 [(3, .own 100), (4, V.int y63)]) [(100, .vec false 83 4 (x92.map (encSDNode true)))] mix (by
            refine W.run D_ok 2 161 (by kernel_rfl) ?_
            refine W.ixO D_ok (encSDNode true) hx119 100 4 (by kernel_rfl) ?_
            refine W.run D_ok 1 161 (by kernel_rfl) ?_
            refine W.stO D_ok (encSDNode true) (x' := (⟨6, e91.N, e91.Text, e91.Kids⟩ : SDNode)) hx119 hu120 (j := 100) (nn := false) (ety := 83) (sz := 4) (b := 0) (ys := [V.int 6]) (C := []) (R := []) (by kernel_rfl) (by kernel_rfl) ?_
            exact W.fin (by decide) (by kernel_rfl) (Weak.sel [(100, 100)] [3, 4] (by kernel_rfl) (by kernel_rfl) (by kernel_rfl))
            ) (fun st hw => ?_)
        exact hk113 (y63, x92) h101 _ (hw.trans (Weak.sel [(100, 100)] [3, 4] (by kernel_rfl) (by kernel_rfl) (by kernel_rfl)))
      · refine CodeOk.ifF hc116 (by kernel_rfl) ?_
        refine CodeOk.skip ?_
        exact hk113 (y63, y64) h101 _ (Weak.sel [(100, 100)] [3, 4] (by kernel_rfl) (by kernel_rfl) (by kernel_rfl))
    · refine CodeOk.ifF hc104 (by kernel_rfl) ?_
      refine CodeOk.exit ?_
      refine CodeOk.weak (st' := ⟨tl 28 [(3, .own 100), (4, V.int y63), (14, V.bool (decide (y63 < (y64.length : Int))))], [(100, .vec false 83 4 (y64.map (encSDNode true)))]⟩) (Weak.refl _) ?_
      refine CodeOk.cutR (tl 28 [(2, .own 100)]) [(100, .vec false 83 4 (y64.map (encSDNode true)))] mix (by
          refine W.run D_ok 2 161 (by kernel_rfl) ?_
          exact W.fin (by decide) (by kernel_rfl) (Weak.sel [(100, 100)] [2] (by kernel_rfl) (by kernel_rfl) (by kernel_rfl))
          ) ?_
      refine CodeOk.ret ?_
      have h101 := Option.some.inj h101
      subst h101
      exact Ends.gen [(100, 100)] (.inr rfl) (RetV.one rfl (OneR.tmp (t := 2) (r := .own 100) (by kernel_rfl))) (by kernel_rfl) (by kernel_rfl) (by kernel_rfl)

theorem m_impl_Ungrouped_ok (N : Nat) (a0 : List SDNode) {r : (List SDNode)} (h : m_impl_Ungrouped N a0 = some r) :
    AC Try.prog GG 38 [.sl false false (a0.map (encSDNode false))] [] (.own 100) [(100, .vec false 83 4 (r.map (encSDNode true)))] := by
  rw [m_impl_Ungrouped] at h
  refine AC.enter Try.func38 rfl ?_
  refine CodeOk.cutR (tl 8 [(0, .sl false false (a0.map (encSDNode false)))]) [] mix (by
      refine W.run D_ok 1 100 (by kernel_rfl) ?_
      exact W.fin (by decide) (by kernel_rfl) (Weak.sel [] [0] (by kernel_rfl) (by kernel_rfl) (by kernel_rfl))
      ) ?_
  refine CodeOk.seq' ?_
  obtain ⟨r4, hx5, h⟩ := bind_some h
  refine CodeOk.cutR (tl 8 [(0, .sl false false (a0.map (encSDNode false))), (5, V.bool (!r4))]) [] mix (by
      refine W.run D_ok 1 100 (by kernel_rfl) ?_
      refine W.call0 (m_impl_DocOk_ok N a0 hx5) cok64 rfl (by kernel_rfl) ?_
      refine W.run D_ok 1 100 (by kernel_rfl) ?_
      exact W.fin (by decide) (by kernel_rfl) (Weak.sel [] [0, 5] (by kernel_rfl) (by kernel_rfl) (by kernel_rfl))
      ) ?_
  rcases cond_some h with ⟨hc6, h⟩ | ⟨hc6, h⟩
  · refine CodeOk.ifT hc6 (by kernel_rfl) ?_
    refine CodeOk.cutR (tl 8 [(2, .c (.slice none 0 0))]) [] mix (by
        refine W.run D_ok 1 100 (by kernel_rfl) ?_
        exact W.fin (by decide) (by kernel_rfl) (Weak.sel [] [2] (by kernel_rfl) (by kernel_rfl) (by kernel_rfl))
        ) ?_
    refine CodeOk.weak (Weak.nil 2 100 83 4 (by kernel_rfl) (by kernel_rfl)) ?_
    refine CodeOk.ret ?_
    have h := Option.some.inj h
    subst h
    exact Ends.gen [(100, 100)] (.inr rfl) (RetV.one rfl (OneR.tmp (t := 2) (r := .own 100) (by kernel_rfl))) (by kernel_rfl) (by kernel_rfl) (by kernel_rfl)
  · refine CodeOk.ifF hc6 (by kernel_rfl) ?_
    refine CodeOk.skip ?_
    refine CodeOk.weak (st' := ⟨tl 8 [(0, .sl false false (a0.map (encSDNode false))), (5, V.bool (!r4))], []⟩) (Weak.refl _) ?_
    obtain ⟨r6, hx8, h⟩ := bind_some h
    refine CodeOk.cutR (tl 8 [(2, .own 100)]) [(100, .vec false 83 4 (r6.map (encSDNode true)))] mix (by
        refine W.run D_ok 1 100 (by kernel_rfl) ?_
        refine W.call (m_impl_copyDoc_ok N a0 5 6 hx8) cok65 [] [(100, 100)] [100] (show LayOk _ [] from trivial) (by kernel_rfl) (by kernel_rfl) ?_
        refine W.run D_ok 1 101 (by kernel_rfl) ?_
        exact W.fin (by decide) (by kernel_rfl) (Weak.sel [(100, 100)] [2] (by kernel_rfl) (by kernel_rfl) (by kernel_rfl))
        ) ?_
    refine CodeOk.ret ?_
    have h := Option.some.inj h
    subst h
    exact Ends.gen [(100, 100)] (.inr rfl) (RetV.one rfl (OneR.tmp (t := 2) (r := .own 100) (by kernel_rfl))) (by kernel_rfl) (by kernel_rfl) (by kernel_rfl)

theorem m_laws_FnExactUngrouped_ok (N : Nat) (a0 : List SDNode) {r : Bool} (h : m_laws_FnExactUngrouped N a0 = some r) :
    AC Try.prog GG 8 [.sl false false (a0.map (encSDNode false))] [] (V.bool r) [] := by
  rw [m_laws_FnExactUngrouped] at h
  refine AC.enter Try.func8 rfl ?_
  refine CodeOk.cutR (tl 69 [(0, .sl false false (a0.map (encSDNode false)))]) [] mix (by
      refine W.run D_ok 1 100 (by kernel_rfl) ?_
      exact W.fin (by decide) (by kernel_rfl) (Weak.sel [] [0] (by kernel_rfl) (by kernel_rfl) (by kernel_rfl))
      ) ?_
  refine CodeOk.cutR (tl 69 [(0, .sl false false (a0.map (encSDNode false))), (3, V.int 1048576)]) [] mix (by
      refine W.run D_ok 1 100 (by kernel_rfl) ?_
      exact W.fin (by decide) (by kernel_rfl) (Weak.sel [] [0, 3] (by kernel_rfl) (by kernel_rfl) (by kernel_rfl))
      ) ?_
  obtain ⟨r2, hx2, h⟩ := bind_some h
  refine CodeOk.cutR (tl 69 [(0, .sl false false (a0.map (encSDNode false))), (3, V.int r2)]) [] mix (by
      refine W.run D_ok 2 100 (by kernel_rfl) ?_
      refine W.call0 (m_laws_szDNodeS_ok N a0 1048576 hx2) cok30 rfl (by kernel_rfl) ?_
      refine W.run D_ok 1 100 (by kernel_rfl) ?_
      exact W.fin (by decide) (by kernel_rfl) (Weak.sel [] [0, 3] (by kernel_rfl) (by kernel_rfl) (by kernel_rfl))
      ) ?_
  refine CodeOk.seq' ?_
  refine CodeOk.cutR (tl 69 [(0, .sl false false (a0.map (encSDNode false))), (15, V.bool (decide (r2 < 0)))]) [] mix (by
      refine W.run D_ok 2 100 (by kernel_rfl) ?_
      exact W.fin (by decide) (by kernel_rfl) (Weak.sel [] [0, 15] (by kernel_rfl) (by kernel_rfl) (by kernel_rfl))
      ) ?_
  rcases cond_some h with ⟨hc4, h⟩ | ⟨hc4, h⟩
  · refine CodeOk.ifT hc4 (by kernel_rfl) ?_
    refine CodeOk.cutR (tl 69 [(2, V.bool true)]) [] mix (by
        refine W.run D_ok 1 100 (by kernel_rfl) ?_
        exact W.fin (by decide) (by kernel_rfl) (Weak.sel [] [2] (by kernel_rfl) (by kernel_rfl) (by kernel_rfl))
        ) ?_
    refine CodeOk.ret ?_
    have h := Option.some.inj h
    subst h
    exact Ends.gen [] (.inr rfl) (RetV.one rfl (OneR.tmp (t := 2) (r := V.bool true) (by kernel_rfl))) (by kernel_rfl) (by kernel_rfl) (by kernel_rfl)
  · refine CodeOk.ifF hc4 (by kernel_rfl) ?_
    refine CodeOk.skip ?_
    refine CodeOk.weak (st' := ⟨tl 69 [(0, .sl false false (a0.map (encSDNode false))), (15, V.bool (decide (r2 < 0)))], []⟩) (Weak.refl _) ?_
    obtain ⟨r5, hx7, h⟩ := bind_some h
    obtain ⟨r6, hx8, h⟩ := bind_some h
    refine CodeOk.cutR (tl 69 [(0, .sl false false (a0.map (encSDNode false))), (4, .own 101)]) [(101, .vec false 83 4 (r6.map (encSDNode true)))] mix (by
        refine W.run D_ok 1 100 (by kernel_rfl) ?_
        refine W.call (m_laws_toDNodeS_ok N a0 hx7) cok32 [] [(100, 100)] [100] (show LayOk _ [] from trivial) (by kernel_rfl) (by kernel_rfl) ?_
        refine W.lend (m_spec_Ungrouped_ok N r5 hx8) cok37 [(100, 101)] [101] (LayOk.cons (j := 100) (encSDNode true) (encSDNode false) r5 (by kernel_rfl) (share_encSDNode _) (show LayOk _ [] from trivial)) (.own _) (.cons (DeepR.map (fun _ => (.cons (.c _) (.cons (.c _) (.cons (.c _) (.cons (.sl _ _ (DeepR.map (fun _ => (.cons (.c _) .nil)) _)) .nil))))) _) .nil) (by kernel_rfl) (by kernel_rfl) ?_
        refine W.run D_ok 1 102 (by kernel_rfl) ?_
        exact W.fin (by decide) (by kernel_rfl) (Weak.sel [(101, 101)] [0, 4] (by kernel_rfl) (by kernel_rfl) (by kernel_rfl))
        ) ?_
    obtain ⟨r8, hx10, h⟩ := bind_some h
    refine CodeOk.cutR (tl 69 [(0, .sl false false (a0.map (encSDNode false))), (4, .own 101), (5, .own 102)]) [(102, .vec false 83 4 (r8.map (encSDNode true))), (101, .vec false 83 4 (r6.map (encSDNode true)))] mix (by
        refine W.run D_ok 1 102 (by kernel_rfl) ?_
        refine W.call (m_laws_toDNodeS_ok N a0 hx10) cok32 [] [(100, 102)] [102] (show LayOk _ [] from trivial) (by kernel_rfl) (by kernel_rfl) ?_
        refine W.run D_ok 1 103 (by kernel_rfl) ?_
        exact W.fin (by decide) (by kernel_rfl) (Weak.sel [(102, 102), (101, 101)] [0, 4, 5] (by kernel_rfl) (by kernel_rfl) (by kernel_rfl))
        ) ?_
    obtain ⟨r10, hx12, h⟩ := bind_some h
    refine CodeOk.cutR (tl 69 [(0, .sl false false (a0.map (encSDNode false))), (4, .own 101), (5, .own 102), (6, .own 103)]) [(103, .vec false 83 4 (r10.map (encSDNode true))), (102, .vec false 83 4 (r8.map (encSDNode true))), (101, .vec false 83 4 (r6.map (encSDNode true)))] mix (by
        refine W.run D_ok 1 103 (by kernel_rfl) ?_
        refine W.lend (m_impl_Ungrouped_ok N r8 hx12) cok38 [(100, 103)] [103] (LayOk.cons (j := 102) (encSDNode true) (encSDNode false) r8 (by kernel_rfl) (share_encSDNode _) (show LayOk _ [] from trivial)) (.own _) (.cons (DeepR.map (fun _ => (.cons (.c _) (.cons (.c _) (.cons (.c _) (.cons (.sl _ _ (DeepR.map (fun _ => (.cons (.c _) .nil)) _)) .nil))))) _) .nil) (by kernel_rfl) (by kernel_rfl) ?_
        refine W.run D_ok 1 104 (by kernel_rfl) ?_
        exact W.fin (by decide) (by kernel_rfl) (Weak.sel [(103, 103), (102, 102), (101, 101)] [0, 4, 5, 6] (by kernel_rfl) (by kernel_rfl) (by kernel_rfl))
        ) ?_
    refine CodeOk.seq' ?_
    obtain ⟨r14, hx17, h⟩ := bind_some h
    refine CodeOk.cutR (tl 69 [(0, .sl false false (a0.map (encSDNode false))), (4, .own 101), (5, .own 102), (6, .own 103), (26, V.bool (!r14))]) [(103, .vec false 83 4 (r10.map (encSDNode true))), (102, .vec false 83 4 (r8.map (encSDNode true))), (101, .vec false 83 4 (r6.map (encSDNode true)))] mix (by
        refine W.run D_ok 2 104 (by kernel_rfl) ?_
        refine W.lend (m_laws_eqDNodeS_ok N r10 r6 hx17) cok34 [] [] (LayOk.cons (j := 103) (encSDNode true) (encSDNode false) r10 (by kernel_rfl) (share_encSDNode _) (LayOk.cons (j := 101) (encSDNode true) (encSDNode false) r6 (by kernel_rfl) (share_encSDNode _) (show LayOk _ [] from trivial))) (.c _) .nil (by kernel_rfl) (by kernel_rfl) ?_
        refine W.run D_ok 1 104 (by kernel_rfl) ?_
        exact W.fin (by decide) (by kernel_rfl) (Weak.sel [(103, 103), (102, 102), (101, 101)] [0, 4, 5, 6, 26] (by kernel_rfl) (by kernel_rfl) (by kernel_rfl))
        ) ?_
    rcases cond_some h with ⟨hc18, h⟩ | ⟨hc18, h⟩
    · refine CodeOk.ifT hc18 (by kernel_rfl) ?_
      refine CodeOk.cutR (tl 69 [(2, V.bool false)]) [] mix (by
          refine W.run D_ok 1 104 (by kernel_rfl) ?_
          exact W.fin (by decide) (by kernel_rfl) (Weak.sel [] [2] (by kernel_rfl) (by kernel_rfl) (by kernel_rfl))
          ) ?_
      refine CodeOk.ret ?_
      have h := Option.some.inj h
      subst h
      exact Ends.gen [] (.inr rfl) (RetV.one rfl (OneR.tmp (t := 2) (r := V.bool false) (by kernel_rfl))) (by kernel_rfl) (by kernel_rfl) (by kernel_rfl)
    · refine CodeOk.ifF hc18 (by kernel_rfl) ?_
      refine CodeOk.skip ?_
      refine CodeOk.weak (st' := ⟨tl 69 [(0, .sl false false (a0.map (encSDNode false))), (4, .own 101), (5, .own 102), (6, .own 103), (26, V.bool (!r14))], [(103, .vec false 83 4 (r10.map (encSDNode true))), (102, .vec false 83 4 (r8.map (encSDNode true))), (101, .vec false 83 4 (r6.map (encSDNode true)))]⟩) (Weak.refl _) ?_
      refine CodeOk.seq' ?_
      obtain ⟨r21, hx26, h⟩ := bind_some h
      obtain ⟨r22, hx27, h⟩ := bind_some h
      refine CodeOk.cutR (tl 69 [(0, .sl false false (a0.map (encSDNode false))), (4, .own 101), (5, .own 102), (6, .own 103), (31, V.bool (!r22))]) [(103, .vec false 83 4 (r10.map (encSDNode true))), (102, .vec false 83 4 (r8.map (encSDNode true))), (101, .vec false 83 4 (r6.map (encSDNode true)))] mix (by
          refine W.run D_ok 2 104 (by kernel_rfl) ?_
          refine W.call (m_laws_toDNodeS_ok N a0 hx26) cok32 [] [(100, 104)] [104] (show LayOk _ [] from trivial) (by kernel_rfl) (by kernel_rfl) ?_
          refine W.lend (m_laws_eqDNodeS_ok N r8 r21 hx27) cok34 [] [] (LayOk.cons (j := 102) (encSDNode true) (encSDNode false) r8 (by kernel_rfl) (share_encSDNode _) (LayOk.cons (j := 104) (encSDNode true) (encSDNode false) r21 (by kernel_rfl) (share_encSDNode _) (show LayOk _ [] from trivial))) (.c _) .nil (by kernel_rfl) (by kernel_rfl) ?_
          refine W.run D_ok 1 105 (by kernel_rfl) ?_
          exact W.fin (by decide) (by kernel_rfl) (Weak.sel [(103, 103), (102, 102), (101, 101)] [0, 4, 5, 6, 31] (by kernel_rfl) (by kernel_rfl) (by kernel_rfl))
          ) ?_
      rcases cond_some h with ⟨hc28, h⟩ | ⟨hc28, h⟩
      · refine CodeOk.ifT hc28 (by kernel_rfl) ?_
        refine CodeOk.cutR (tl 69 [(2, V.bool false)]) [] mix (by
            refine W.run D_ok 1 105 (by kernel_rfl) ?_
            exact W.fin (by decide) (by kernel_rfl) (Weak.sel [] [2] (by kernel_rfl) (by kernel_rfl) (by kernel_rfl))
            ) ?_
        refine CodeOk.ret ?_
        have h := Option.some.inj h
        subst h
        exact Ends.gen [] (.inr rfl) (RetV.one rfl (OneR.tmp (t := 2) (r := V.bool false) (by kernel_rfl))) (by kernel_rfl) (by kernel_rfl) (by kernel_rfl)
      · refine CodeOk.ifF hc28 (by kernel_rfl) ?_
        refine CodeOk.skip ?_
        refine CodeOk.weak (st' := ⟨tl 69 [(0, .sl false false (a0.map (encSDNode false))), (4, .own 101), (5, .own 102), (6, .own 103), (31, V.bool (!r22))], [(103, .vec false 83 4 (r10.map (encSDNode true))), (102, .vec false 83 4 (r8.map (encSDNode true))), (101, .vec false 83 4 (r6.map (encSDNode true)))]⟩) (Weak.refl _) ?_
        refine CodeOk.cutR (tl 69 [(0, .sl false false (a0.map (encSDNode false))), (4, .own 101), (5, .own 102), (6, .own 103), (7, V.int 1)]) [(103, .vec false 83 4 (r10.map (encSDNode true))), (102, .vec false 83 4 (r8.map (encSDNode true))), (101, .vec false 83 4 (r6.map (encSDNode true)))] mix (by
            refine W.run D_ok 1 105 (by kernel_rfl) ?_
            exact W.fin (by decide) (by kernel_rfl) (Weak.sel [(103, 103), (102, 102), (101, 101)] [0, 4, 5, 6, 7] (by kernel_rfl) (by kernel_rfl) (by kernel_rfl))
            ) ?_
        obtain ⟨r24, hx30, h⟩ := bind_some h
        refine CodeOk.cutR (tl 69 [(0, .sl false false (a0.map (encSDNode false))), (4, .own 101), (6, .own 103), (7, V.int r24.1)]) [(103, .vec false 83 4 (r10.map (encSDNode true))), (101, .vec false 83 4 (r6.map (encSDNode true)))] mix (by
            refine W.run D_ok 2 105 (by kernel_rfl) ?_
            refine W.call (m_laws_markDNodeS_ok 83 N 1 r8 hx30) cok35 [(102, 0)] [(0, 102)] [] (show LayOk _ [] from trivial) (by kernel_rfl) (by kernel_rfl) ?_
            refine W.run D_ok 1 105 (by kernel_rfl) ?_
            exact W.fin (by decide) (by kernel_rfl) (Weak.sel [(103, 103), (101, 101)] [0, 4, 6, 7] (by kernel_rfl) (by kernel_rfl) (by kernel_rfl))
            ) ?_
        refine CodeOk.seq' ?_
        obtain ⟨y29, hv39, h⟩ := bind_some h
        refine CodeOk.cutR (tl 69 [(0, .sl false false (a0.map (encSDNode false))), (4, .own 100), (6, .own 101), (42, V.bool y29)]) [(100, .vec false 83 4 (r6.map (encSDNode true))), (101, .vec false 83 4 (r10.map (encSDNode true)))] mix (by
            refine W.run D_ok 3 105 (by kernel_rfl) ?_
            rcases cond_some hv39 with ⟨hc40, hv39⟩ | ⟨hc40, hv39⟩
            · refine W.is 37 hc40 (by kernel_rfl) ?_
              refine W.run D_ok 5 105 (by kernel_rfl) ?_
              have hv39 := Option.some.inj hv39
              subst hv39
              exact W.fin (by decide) (by kernel_rfl) (Weak.sel [(101, 100), (103, 101)] [0, 4, 6, 42] (by kernel_rfl) (by kernel_rfl) (by kernel_rfl))
            · refine W.is 37 hc40 (by kernel_rfl) ?_
              refine W.run D_ok 2 105 (by kernel_rfl) ?_
              obtain ⟨r30, hx41, hv39⟩ := bind_some hv39
              refine W.lend (m_laws_eqDNodeS_ok N r10 r6 hx41) cok34 [] [] (LayOk.cons (j := 103) (encSDNode true) (encSDNode false) r10 (by kernel_rfl) (share_encSDNode _) (LayOk.cons (j := 101) (encSDNode true) (encSDNode false) r6 (by kernel_rfl) (share_encSDNode _) (show LayOk _ [] from trivial))) (.c _) .nil (by kernel_rfl) (by kernel_rfl) ?_
              refine W.run D_ok 2 105 (by kernel_rfl) ?_
              have hv39 := Option.some.inj hv39
              subst hv39
              exact W.fin (by decide) (by kernel_rfl) (Weak.sel [(101, 100), (103, 101)] [0, 4, 6, 42] (by kernel_rfl) (by kernel_rfl) (by kernel_rfl))
            ) ?_
        rcases cond_some h with ⟨hc42, h⟩ | ⟨hc42, h⟩
        · refine CodeOk.ifT hc42 (by kernel_rfl) ?_
          refine CodeOk.cutR (tl 69 [(2, V.bool false)]) [] mix (by
              refine W.run D_ok 1 105 (by kernel_rfl) ?_
              exact W.fin (by decide) (by kernel_rfl) (Weak.sel [] [2] (by kernel_rfl) (by kernel_rfl) (by kernel_rfl))
              ) ?_
          refine CodeOk.ret ?_
          have h := Option.some.inj h
          subst h
          exact Ends.gen [] (.inr rfl) (RetV.one rfl (OneR.tmp (t := 2) (r := V.bool false) (by kernel_rfl))) (by kernel_rfl) (by kernel_rfl) (by kernel_rfl)
        · refine CodeOk.ifF hc42 (by kernel_rfl) ?_
          refine CodeOk.skip ?_
          refine CodeOk.weak (st' := ⟨tl 69 [(0, .sl false false (a0.map (encSDNode false))), (4, .own 100), (6, .own 101), (42, V.bool y29)], [(100, .vec false 83 4 (r6.map (encSDNode true))), (101, .vec false 83 4 (r10.map (encSDNode true)))]⟩) (Weak.refl _) ?_
          refine CodeOk.cutR (tl 69 [(0, .sl false false (a0.map (encSDNode false))), (4, .own 100), (6, .own 101), (8, V.int 1)]) [(100, .vec false 83 4 (r6.map (encSDNode true))), (101, .vec false 83 4 (r10.map (encSDNode true)))] mix (by
              refine W.run D_ok 1 105 (by kernel_rfl) ?_
              exact W.fin (by decide) (by kernel_rfl) (Weak.sel [(100, 100), (101, 101)] [0, 4, 6, 8] (by kernel_rfl) (by kernel_rfl) (by kernel_rfl))
              ) ?_
          obtain ⟨r32, hx44, h⟩ := bind_some h
          refine CodeOk.cutR (tl 69 [(0, .sl false false (a0.map (encSDNode false))), (4, .own 100), (6, .own 101), (8, V.int r32.1)]) [(100, .vec false 83 4 (r6.map (encSDNode true))), (101, .vec false 83 4 (r32.2.map (encSDNode true)))] mix (by
              refine W.run D_ok 2 105 (by kernel_rfl) ?_
              refine W.call (m_laws_markDNodeS_ok 83 N 1 r10 hx44) cok35 [(101, 0)] [(0, 101)] [] (show LayOk _ [] from trivial) (by kernel_rfl) (by kernel_rfl) ?_
              refine W.run D_ok 1 105 (by kernel_rfl) ?_
              exact W.fin (by decide) (by kernel_rfl) (Weak.sel [(100, 100), (101, 101)] [0, 4, 6, 8] (by kernel_rfl) (by kernel_rfl) (by kernel_rfl))
              ) ?_
          refine CodeOk.cutR (tl 69 [(0, .sl false false (a0.map (encSDNode false))), (4, .own 100), (6, .own 101), (8, V.int r32.1), (9, V.int 1)]) [(100, .vec false 83 4 (r6.map (encSDNode true))), (101, .vec false 83 4 (r32.2.map (encSDNode true)))] mix (by
              refine W.run D_ok 1 105 (by kernel_rfl) ?_
              exact W.fin (by decide) (by kernel_rfl) (Weak.sel [(100, 100), (101, 101)] [0, 4, 6, 8, 9] (by kernel_rfl) (by kernel_rfl) (by kernel_rfl))
              ) ?_
          obtain ⟨r34, hx46, h⟩ := bind_some h
          refine CodeOk.cutR (tl 69 [(0, .sl false false (a0.map (encSDNode false))), (4, .own 100), (6, .own 101), (8, V.int r32.1), (9, V.int r34)]) [(100, .vec false 83 4 (r6.map (encSDNode true))), (101, .vec false 83 4 (r32.2.map (encSDNode true)))] mix (by
              refine W.run D_ok 2 105 (by kernel_rfl) ?_
              refine W.lend (m_laws_heldDNodeS_ok N r32.2 1 hx46) cok36 [] [] (LayOk.cons (j := 101) (encSDNode true) (encSDNode false) r32.2 (by kernel_rfl) (share_encSDNode _) (show LayOk _ [] from trivial)) (.c _) .nil (by kernel_rfl) (by kernel_rfl) ?_
              refine W.run D_ok 1 105 (by kernel_rfl) ?_
              exact W.fin (by decide) (by kernel_rfl) (Weak.sel [(100, 100), (101, 101)] [0, 4, 6, 8, 9] (by kernel_rfl) (by kernel_rfl) (by kernel_rfl))
              ) ?_
          refine CodeOk.seq' ?_
          refine CodeOk.cutR (tl 69 [(0, .sl false false (a0.map (encSDNode false))), (4, .own 100), (6, .own 101), (8, V.int r32.1), (9, V.int r34), (50, V.bool (decide (r34 < 0)))]) [(100, .vec false 83 4 (r6.map (encSDNode true))), (101, .vec false 83 4 (r32.2.map (encSDNode true)))] mix (by
              refine W.run D_ok 2 105 (by kernel_rfl) ?_
              exact W.fin (by decide) (by kernel_rfl) (Weak.sel [(100, 100), (101, 101)] [0, 4, 6, 8, 9, 50] (by kernel_rfl) (by kernel_rfl) (by kernel_rfl))
              ) ?_
          rcases cond_some h with ⟨hc48, h⟩ | ⟨hc48, h⟩
          · refine CodeOk.ifT hc48 (by kernel_rfl) ?_
            refine CodeOk.cutR (tl 69 [(2, V.bool false)]) [] mix (by
                refine W.run D_ok 1 105 (by kernel_rfl) ?_
                exact W.fin (by decide) (by kernel_rfl) (Weak.sel [] [2] (by kernel_rfl) (by kernel_rfl) (by kernel_rfl))
                ) ?_
            refine CodeOk.ret ?_
            have h := Option.some.inj h
            subst h
            exact Ends.gen [] (.inr rfl) (RetV.one rfl (OneR.tmp (t := 2) (r := V.bool false) (by kernel_rfl))) (by kernel_rfl) (by kernel_rfl) (by kernel_rfl)
          · refine CodeOk.ifF hc48 (by kernel_rfl) ?_
            refine CodeOk.skip ?_
            refine CodeOk.weak (st' := ⟨tl 69 [(0, .sl false false (a0.map (encSDNode false))), (4, .own 100), (6, .own 101), (8, V.int r32.1), (9, V.int r34), (50, V.bool (decide (r34 < 0)))], [(100, .vec false 83 4 (r6.map (encSDNode true))), (101, .vec false 83 4 (r32.2.map (encSDNode true)))]⟩) (Weak.refl _) ?_
            refine CodeOk.seq' ?_
            refine CodeOk.cutR (tl 69 [(0, .sl false false (a0.map (encSDNode false))), (4, .own 100), (6, .own 101), (8, V.int r32.1), (53, V.bool (r34 != r32.1))]) [(100, .vec false 83 4 (r6.map (encSDNode true))), (101, .vec false 83 4 (r32.2.map (encSDNode true)))] mix (by
                refine W.run D_ok 3 105 (by kernel_rfl) ?_
                exact W.fin (by decide) (by kernel_rfl) (Weak.sel [(100, 100), (101, 101)] [0, 4, 6, 8, 53] (by kernel_rfl) (by kernel_rfl) (by kernel_rfl))
                ) ?_
            rcases cond_some h with ⟨hc50, h⟩ | ⟨hc50, h⟩
            · refine CodeOk.ifT hc50 (by kernel_rfl) ?_
              refine CodeOk.cutR (tl 69 [(2, V.bool false)]) [] mix (by
                  refine W.run D_ok 1 105 (by kernel_rfl) ?_
                  exact W.fin (by decide) (by kernel_rfl) (Weak.sel [] [2] (by kernel_rfl) (by kernel_rfl) (by kernel_rfl))
                  ) ?_
              refine CodeOk.ret ?_
              have h := Option.some.inj h
              subst h
              exact Ends.gen [] (.inr rfl) (RetV.one rfl (OneR.tmp (t := 2) (r := V.bool false) (by kernel_rfl))) (by kernel_rfl) (by kernel_rfl) (by kernel_rfl)
            · refine CodeOk.ifF hc50 (by kernel_rfl) ?_
              refine CodeOk.skip ?_
              refine CodeOk.weak (st' := ⟨tl 69 [(0, .sl false false (a0.map (encSDNode false))), (4, .own 100), (6, .own 101), (8, V.int r32.1), (53, V.bool (r34 != r32.1))], [(100, .vec false 83 4 (r6.map (encSDNode true))), (101, .vec false 83 4 (r32.2.map (encSDNode true)))]⟩) (Weak.refl _) ?_
              obtain ⟨r37, hx53, h⟩ := bind_some h
              obtain ⟨r38, hx54, h⟩ := bind_some h
              refine CodeOk.cutR (tl 69 [(4, .own 100), (6, .own 101), (8, V.int r32.1), (10, .own 106)]) [(106, .vec false 83 4 (r38.map (encSDNode true))), (100, .vec false 83 4 (r6.map (encSDNode true))), (101, .vec false 83 4 (r32.2.map (encSDNode true)))] mix (by
                  refine W.run D_ok 1 105 (by kernel_rfl) ?_
                  refine W.call (m_laws_toDNodeS_ok N a0 hx53) cok32 [] [(100, 105)] [105] (show LayOk _ [] from trivial) (by kernel_rfl) (by kernel_rfl) ?_
                  refine W.lend (m_impl_Ungrouped_ok N r37 hx54) cok38 [(100, 106)] [106] (LayOk.cons (j := 105) (encSDNode true) (encSDNode false) r37 (by kernel_rfl) (share_encSDNode _) (show LayOk _ [] from trivial)) (.own _) (.cons (DeepR.map (fun _ => (.cons (.c _) (.cons (.c _) (.cons (.c _) (.cons (.sl _ _ (DeepR.map (fun _ => (.cons (.c _) .nil)) _)) .nil))))) _) .nil) (by kernel_rfl) (by kernel_rfl) ?_
                  refine W.run D_ok 1 107 (by kernel_rfl) ?_
                  exact W.fin (by decide) (by kernel_rfl) (Weak.sel [(106, 106), (100, 100), (101, 101)] [4, 6, 8, 10] (by kernel_rfl) (by kernel_rfl) (by kernel_rfl))
                  ) ?_
              refine CodeOk.seq' ?_
              obtain ⟨r42, hx59, h⟩ := bind_some h
              refine CodeOk.cutR (tl 69 [(6, .own 101), (8, V.int r32.1), (60, V.bool (!r42))]) [(101, .vec false 83 4 (r32.2.map (encSDNode true)))] mix (by
                  refine W.run D_ok 2 107 (by kernel_rfl) ?_
                  refine W.lend (m_laws_eqDNodeS_ok N r38 r6 hx59) cok34 [] [] (LayOk.cons (j := 106) (encSDNode true) (encSDNode false) r38 (by kernel_rfl) (share_encSDNode _) (LayOk.cons (j := 100) (encSDNode true) (encSDNode false) r6 (by kernel_rfl) (share_encSDNode _) (show LayOk _ [] from trivial))) (.c _) .nil (by kernel_rfl) (by kernel_rfl) ?_
                  refine W.run D_ok 1 107 (by kernel_rfl) ?_
                  exact W.fin (by decide) (by kernel_rfl) (Weak.sel [(101, 101)] [6, 8, 60] (by kernel_rfl) (by kernel_rfl) (by kernel_rfl))
                  ) ?_
              rcases cond_some h with ⟨hc60, h⟩ | ⟨hc60, h⟩
              · refine CodeOk.ifT hc60 (by kernel_rfl) ?_
                refine CodeOk.cutR (tl 69 [(2, V.bool false)]) [] mix (by
                    refine W.run D_ok 1 107 (by kernel_rfl) ?_
                    exact W.fin (by decide) (by kernel_rfl) (Weak.sel [] [2] (by kernel_rfl) (by kernel_rfl) (by kernel_rfl))
                    ) ?_
                refine CodeOk.ret ?_
                have h := Option.some.inj h
                subst h
                exact Ends.gen [] (.inr rfl) (RetV.one rfl (OneR.tmp (t := 2) (r := V.bool false) (by kernel_rfl))) (by kernel_rfl) (by kernel_rfl) (by kernel_rfl)
              · refine CodeOk.ifF hc60 (by kernel_rfl) ?_
                refine CodeOk.skip ?_
                refine CodeOk.weak (st' := ⟨tl 69 [(6, .own 101), (8, V.int r32.1), (60, V.bool (!r42))], [(101, .vec false 83 4 (r32.2.map (encSDNode true)))]⟩) (Weak.refl _) ?_
                refine CodeOk.cutR (tl 69 [(6, .own 101), (8, V.int r32.1), (9, V.int 1)]) [(101, .vec false 83 4 (r32.2.map (encSDNode true)))] mix (by
                    refine W.run D_ok 1 107 (by kernel_rfl) ?_
                    exact W.fin (by decide) (by kernel_rfl) (Weak.sel [(101, 101)] [6, 8, 9] (by kernel_rfl) (by kernel_rfl) (by kernel_rfl))
                    ) ?_
                obtain ⟨r44, hx62, h⟩ := bind_some h
                refine CodeOk.cutR (tl 69 [(8, V.int r32.1), (9, V.int r44)]) [] mix (by
                    refine W.run D_ok 2 107 (by kernel_rfl) ?_
                    refine W.lend (m_laws_heldDNodeS_ok N r32.2 1 hx62) cok36 [] [] (LayOk.cons (j := 101) (encSDNode true) (encSDNode false) r32.2 (by kernel_rfl) (share_encSDNode _) (show LayOk _ [] from trivial)) (.c _) .nil (by kernel_rfl) (by kernel_rfl) ?_
                    refine W.run D_ok 1 107 (by kernel_rfl) ?_
                    exact W.fin (by decide) (by kernel_rfl) (Weak.sel [] [8, 9] (by kernel_rfl) (by kernel_rfl) (by kernel_rfl))
                    ) ?_
                refine CodeOk.seq' ?_
                refine CodeOk.cutR (tl 69 [(8, V.int r32.1), (9, V.int r44), (65, V.bool (decide (r44 < 0)))]) [] mix (by
                    refine W.run D_ok 2 107 (by kernel_rfl) ?_
                    exact W.fin (by decide) (by kernel_rfl) (Weak.sel [] [8, 9, 65] (by kernel_rfl) (by kernel_rfl) (by kernel_rfl))
                    ) ?_
                rcases cond_some h with ⟨hc64, h⟩ | ⟨hc64, h⟩
                · refine CodeOk.ifT hc64 (by kernel_rfl) ?_
                  refine CodeOk.cutR (tl 69 [(2, V.bool false)]) [] mix (by
                      refine W.run D_ok 1 107 (by kernel_rfl) ?_
                      exact W.fin (by decide) (by kernel_rfl) (Weak.sel [] [2] (by kernel_rfl) (by kernel_rfl) (by kernel_rfl))
                      ) ?_
                  refine CodeOk.ret ?_
                  have h := Option.some.inj h
                  subst h
                  exact Ends.gen [] (.inr rfl) (RetV.one rfl (OneR.tmp (t := 2) (r := V.bool false) (by kernel_rfl))) (by kernel_rfl) (by kernel_rfl) (by kernel_rfl)
                · refine CodeOk.ifF hc64 (by kernel_rfl) ?_
                  refine CodeOk.skip ?_
                  refine CodeOk.weak (st' := ⟨tl 69 [(8, V.int r32.1), (9, V.int r44), (65, V.bool (decide (r44 < 0)))], []⟩) (Weak.refl _) ?_
                  refine CodeOk.seq' ?_
                  refine CodeOk.cutR (tl 69 [(68, V.bool (r44 != r32.1))]) [] mix (by
                      refine W.run D_ok 3 107 (by kernel_rfl) ?_
                      exact W.fin (by decide) (by kernel_rfl) (Weak.sel [] [68] (by kernel_rfl) (by kernel_rfl) (by kernel_rfl))
                      ) ?_
                  rcases cond_some h with ⟨hc66, h⟩ | ⟨hc66, h⟩
                  · refine CodeOk.ifT hc66 (by kernel_rfl) ?_
                    refine CodeOk.cutR (tl 69 [(2, V.bool false)]) [] mix (by
                        refine W.run D_ok 1 107 (by kernel_rfl) ?_
                        exact W.fin (by decide) (by kernel_rfl) (Weak.sel [] [2] (by kernel_rfl) (by kernel_rfl) (by kernel_rfl))
                        ) ?_
                    refine CodeOk.ret ?_
                    have h := Option.some.inj h
                    subst h
                    exact Ends.gen [] (.inr rfl) (RetV.one rfl (OneR.tmp (t := 2) (r := V.bool false) (by kernel_rfl))) (by kernel_rfl) (by kernel_rfl) (by kernel_rfl)
                  · refine CodeOk.ifF hc66 (by kernel_rfl) ?_
                    refine CodeOk.skip ?_
                    refine CodeOk.weak (st' := ⟨tl 69 [(68, V.bool (r44 != r32.1))], []⟩) (Weak.refl _) ?_
                    refine CodeOk.cutR (tl 69 [(2, V.bool true)]) [] mix (by
                        refine W.run D_ok 1 107 (by kernel_rfl) ?_
                        exact W.fin (by decide) (by kernel_rfl) (Weak.sel [] [2] (by kernel_rfl) (by kernel_rfl) (by kernel_rfl))
                        ) ?_
                    refine CodeOk.ret ?_
                    have h := Option.some.inj h
                    subst h
                    exact Ends.gen [] (.inr rfl) (RetV.one rfl (OneR.tmp (t := 2) (r := V.bool true) (by kernel_rfl))) (by kernel_rfl) (by kernel_rfl) (by kernel_rfl)

theorem m_spec_l15Over_ok (N : Nat) (a0 : Int) (a1 : Int) (a2 : List (List SDNode)) {r : (List SDNode)} (h : m_spec_l15Over N a0 a1 a2 = some r) :
    AC Try.prog GG 69 [V.int a0, V.int a1, .sl false false (a2.map (encL false (encSDNode false)))] [] (.own 100) [(100, .vec false 83 4 (r.map (encSDNode true)))] := by
  rw [m_spec_l15Over] at h
  refine AC.enter Try.func69 rfl ?_
  refine CodeOk.cutR (tl 41 [(0, V.int a0), (1, V.int a1), (2, .sl false false (a2.map (encL false (encSDNode false))))]) [] mix (by
      refine W.run D_ok 1 100 (by kernel_rfl) ?_
      exact W.fin (by decide) (by kernel_rfl) (Weak.sel [] [0, 1, 2] (by kernel_rfl) (by kernel_rfl) (by kernel_rfl))
      ) ?_
  refine CodeOk.cutR (tl 41 [(0, V.int a0), (1, V.int a1), (2, .sl false false (a2.map (encL false (encSDNode false)))), (7, .own 100)]) [(100, .vec false 83 4 ([].map (encSDNode true)))] mix (by
      refine W.run D_ok 2 100 (by kernel_rfl) ?_
      exact W.fin (by decide) (by kernel_rfl) (Weak.sel [(100, 100)] [0, 1, 2, 7] (by kernel_rfl) (by kernel_rfl) (by kernel_rfl))
      ) ?_
  refine CodeOk.cutR (tl 41 [(2, .sl false false (a2.map (encL false (encSDNode false)))), (7, .own 100), (8, .loc 101 0)]) [(101, .cells 83 [V.int a0, V.int a1, V.str [], .c (.slice none 0 0)]), (100, .vec false 83 4 ([].map (encSDNode true)))] mix (by
      refine W.run D_ok 5 101 (by kernel_rfl) ?_
      exact W.fin (by decide) (by kernel_rfl) (Weak.sel [(101, 101), (100, 100)] [2, 7, 8] (by kernel_rfl) (by kernel_rfl) (by kernel_rfl))
      ) ?_
  refine CodeOk.seq' ?_
  refine CodeOk.cutR (tl 41 [(2, .sl false false (a2.map (encL false (encSDNode false)))), (7, .own 100), (8, .loc 101 0), (9, V.int 0)]) [(101, .cells 83 [V.int a0, V.int a1, V.str [], .c (.slice none 0 0)]), (100, .vec false 83 4 ([].map (encSDNode true)))] mix (by
      refine W.run D_ok 1 102 (by kernel_rfl) ?_
      exact W.fin (by decide) (by kernel_rfl) (Weak.sel [(101, 101), (100, 100)] [2, 7, 8, 9] (by kernel_rfl) (by kernel_rfl) (by kernel_rfl))
      ) ?_
  refine CodeOk.block' ?_
  refine CodeOk.loopJ (fun (⟨a2, a0, a1, y75, y76, y77⟩ : ((List (List SDNode)) × Int × Int × Int × (List SDNode) × (List Int))) => ⟨tl 41 [(2, .sl false false (a2.map (encL false (encSDNode false)))), (7, .own 100), (8, .loc 101 0), (9, V.int y75)], [(100, .vec false 83 4 (y76.map (encSDNode true))), (101, .cells 83 [V.int a0, V.int a1, V.str [], .own 102]), (102, .vec false 3 1 (y77.map encI))]⟩) (fun n i => m_spec_l15Over_l1 N n i = some r) (n0 := N) (i0 := (a2, a0, a1, 0, [], [])) ((Weak.nilCell 101 3 102 3 1 (ety := 83) (cs := [V.int a0, V.int a1, V.str [], .c (.slice none 0 0)]) (by kernel_rfl) (by kernel_rfl) (by kernel_rfl)).trans (Weak.sel [(100, 100), (101, 101), (102, 102)] [2, 7, 8, 9] (by kernel_rfl) (by kernel_rfl) (by kernel_rfl))) h (fun i h => by simp [m_spec_l15Over_l1] at h) ?_
  rintro n1 ⟨a2, a0, a1, y75, y76, y77⟩ h97 ih98
  rw [m_spec_l15Over_l1] at h97
  refine CodeOk.seq' ?_
  refine CodeOk.cutR (tl 41 [(2, .sl false false (a2.map (encL false (encSDNode false)))), (7, .own 100), (8, .loc 101 0), (9, V.int y75), (17, V.bool (decide (y75 < (a2.length : Int))))]) [(100, .vec false 83 4 (y76.map (encSDNode true))), (101, .cells 83 [V.int a0, V.int a1, V.str [], .own 102]), (102, .vec false 3 1 (y77.map encI))] mix (by
      refine W.run D_ok 2 171 (by kernel_rfl) ?_
      refine W.len D_ok (encL false (encSDNode false)) a2 [] (by kernel_rfl) (by kernel_rfl) ?_
      refine W.run D_ok 1 171 (by kernel_rfl) ?_
      exact W.fin (by decide) (by kernel_rfl) (Weak.sel [(100, 100), (101, 101), (102, 102)] [2, 7, 8, 9, 17] (by kernel_rfl) (by kernel_rfl) (by kernel_rfl))
      ) ?_
  rcases cond_some h97 with ⟨hc100, h97⟩ | ⟨hc100, h97⟩
  · refine CodeOk.ifT hc100 (by kernel_rfl) ?_
    refine CodeOk.skip ?_
    refine CodeOk.weak (st' := ⟨tl 41 [(2, .sl false false (a2.map (encL false (encSDNode false)))), (7, .own 100), (8, .loc 101 0), (9, V.int y75), (17, V.bool (decide (y75 < (a2.length : Int))))], [(100, .vec false 83 4 (y76.map (encSDNode true))), (101, .cells 83 [V.int a0, V.int a1, V.str [], .own 102]), (102, .vec false 3 1 (y77.map encI))]⟩) (Weak.refl _) ?_
    refine CodeOk.seq' ?_
    refine CodeOk.block' ?_
    obtain ⟨e108, hx112, h97⟩ := bind_some h97
    obtain ⟨r109, hx113, h97⟩ := bind_some h97
    obtain ⟨x110, hx114, h97⟩ := bind_some h97
    refine CodeOk.cutR (tl 41 [(2, .sl false false (a2.map (encL false (encSDNode false)))), (7, .own 172), (8, .loc 101 0), (9, V.int y75)]) [(172, .vec false 83 4 (x110.map (encSDNode true))), (101, .cells 83 [V.int a0, V.int a1, V.str [], .own 102]), (102, .vec false 3 1 (y77.map encI))] mix (by
        refine W.run D_ok 3 171 (by kernel_rfl) ?_
        refine W.ixD D_ok (encL false (encSDNode false)) hx112 1 (by kernel_rfl) (by kernel_rfl) ?_
        refine W.run D_ok 2 171 (by kernel_rfl) ?_
        refine W.len D_ok (encSDNode true) y76 [100] (by kernel_rfl) (by kernel_rfl) ?_
        refine W.call (m_spec_l15Shift_ok N e108 (y76.length : Int) hx113) cok62 [] [(100, 171)] [171] (show LayOk _ [] from trivial) (by kernel_rfl) (by kernel_rfl) ?_
        refine W.appO D_ok (encSDNode true) (a := 100) (c := 171) (el := 83) (sz := 4) 56 hx114 rfl 172 (by kernel_rfl) ?_
        refine W.run D_ok 1 173 (by kernel_rfl) ?_
        exact W.fin (by decide) (by kernel_rfl) (Weak.sel [(172, 172), (101, 101), (102, 102)] [2, 7, 8, 9] (by kernel_rfl) (by kernel_rfl) (by kernel_rfl))
        ) ?_
    obtain ⟨x112, hx116, h97⟩ := bind_some h97
    refine CodeOk.endR (tl 41 [(2, .sl false false (a2.map (encL false (encSDNode false)))), (7, .own 172), (8, .loc 101 0), (9, V.int y75)]) [(101, .cells 83 [V.int a0, V.int a1, V.str [], .own 174]), (174, .vec false 3 1 (x112.map encI)), (172, .vec false 83 4 (x110.map (encSDNode true)))] mix (by
        refine W.run D_ok 3 173 (by kernel_rfl) ?_
        refine W.len D_ok (encSDNode true) x110 [172] (by kernel_rfl) (by kernel_rfl) ?_
        refine W.run D_ok 2 173 (by kernel_rfl) ?_
        refine W.appO D_ok encI (a := 102) (c := 173) (el := 3) (sz := 1) 8 hx116 rfl 174 (by kernel_rfl) ?_
        refine W.run D_ok 2 175 (by kernel_rfl) ?_
        exact W.fin (by decide) (by kernel_rfl) (Weak.sel [(101, 101), (174, 174), (172, 172)] [2, 7, 8, 9] (by kernel_rfl) (by kernel_rfl) (by kernel_rfl))
        ) (fun st hw => ?_)
    refine CodeOk.weak (st' := ⟨tl 41 [(2, .sl false false (a2.map (encL false (encSDNode false)))), (7, .own 172), (8, .loc 101 0), (9, V.int y75)], [(101, .cells 83 [V.int a0, V.int a1, V.str [], .own 174]), (174, .vec false 3 1 (x112.map encI)), (172, .vec false 83 4 (x110.map (encSDNode true)))]⟩) hw ?_
    refine CodeOk.endR (tl 41 [(2, .sl false false (a2.map (encL false (encSDNode false)))), (7, .own 172), (8, .loc 101 0), (9, V.int (IntKind.wrap .i64 (y75 + 1)))]) [(101, .cells 83 [V.int a0, V.int a1, V.str [], .own 174]), (174, .vec false 3 1 (x112.map encI)), (172, .vec false 83 4 (x110.map (encSDNode true)))] mix (by
        refine W.run D_ok 3 175 (by kernel_rfl) ?_
        exact W.fin (by decide) (by kernel_rfl) (Weak.sel [(101, 101), (174, 174), (172, 172)] [2, 7, 8, 9] (by kernel_rfl) (by kernel_rfl) (by kernel_rfl))
        ) (fun st hw => ?_)
    exact ih98 (a2, a0, a1, (IntKind.wrap .i64 (y75 + 1)), x110, x112) h97 _ (hw.trans (Weak.sel [(172, 100), (101, 101), (174, 102)] [2, 7, 8, 9] (by kernel_rfl) (by kernel_rfl) (by kernel_rfl)))
  · refine CodeOk.ifF hc100 (by kernel_rfl) ?_
    refine CodeOk.exit ?_
    refine CodeOk.weak (st' := ⟨tl 41 [(2, .sl false false (a2.map (encL false (encSDNode false)))), (7, .own 100), (8, .loc 101 0), (9, V.int y75), (17, V.bool (decide (y75 < (a2.length : Int))))], [(100, .vec false 83 4 (y76.map (encSDNode true))), (101, .cells 83 [V.int a0, V.int a1, V.str [], .own 102]), (102, .vec false 3 1 (y77.map encI))]⟩) (Weak.refl _) ?_
    obtain ⟨x114, hx118, h97⟩ := bind_some h97
    refine CodeOk.cutR (tl 41 [(6, .own 172)]) [(172, .vec false 83 4 (x114.map (encSDNode true)))] mix (by
        refine W.run D_ok 3 171 (by kernel_rfl) ?_
        refine W.appO D_ok (encSDNode true) (a := 100) (c := 171) (el := 83) (sz := 4) 56 hx118 rfl 172 (by kernel_rfl) ?_
        refine W.run D_ok 1 173 (by kernel_rfl) ?_
        exact W.fin (by decide) (by kernel_rfl) (Weak.sel [(172, 172)] [6] (by kernel_rfl) (by kernel_rfl) (by kernel_rfl))
        ) ?_
    refine CodeOk.ret ?_
    have h97 := Option.some.inj h97
    subst h97
    exact Ends.gen [(172, 100)] (.inr rfl) (RetV.one rfl (OneR.tmp (t := 6) (r := .own 172) (by kernel_rfl))) (by kernel_rfl) (by kernel_rfl) (by kernel_rfl)

theorem m_spec_Deeper_ok (N : Nat) (a0 : List SDNode) (a1 : Int) {r : (List SDNode)} (h : m_spec_Deeper N a0 a1 = some r) :
    AC Try.prog GG 39 [.sl false false (a0.map (encSDNode false)), V.int a1] [] (.own 100) [(100, .vec false 83 4 (r.map (encSDNode true)))] := by
  rw [m_spec_Deeper] at h
  refine AC.enter Try.func39 rfl ?_
  refine CodeOk.cutR (tl 23 [(0, .sl false false (a0.map (encSDNode false))), (1, V.int a1)]) [] mix (by
      refine W.run D_ok 1 100 (by kernel_rfl) ?_
      exact W.fin (by decide) (by kernel_rfl) (Weak.sel [] [0, 1] (by kernel_rfl) (by kernel_rfl) (by kernel_rfl))
      ) ?_
  refine CodeOk.seq' ?_
  obtain ⟨y8, hv15, h⟩ := bind_some h
  refine CodeOk.cutR (tl 23 [(0, .sl false false (a0.map (encSDNode false))), (1, V.int a1), (17, V.bool y8)]) [] mix (by
      refine W.run D_ok 1 100 (by kernel_rfl) ?_
      obtain ⟨r9, hx16, hv15⟩ := bind_some hv15
      refine W.call0 (m_spec_DocOk_ok N a0 hx16) cok61 rfl (by kernel_rfl) ?_
      refine W.run D_ok 2 100 (by kernel_rfl) ?_
      rcases cond_some hv15 with ⟨hc17, hv15⟩ | ⟨hc17, hv15⟩
      · refine W.is 8 hc17 (by kernel_rfl) ?_
        refine W.run D_ok 9 100 (by kernel_rfl) ?_
        have hv15 := Option.some.inj hv15
        subst hv15
        exact W.fin (by decide) (by kernel_rfl) (Weak.sel [] [0, 1, 17] (by kernel_rfl) (by kernel_rfl) (by kernel_rfl))
      · refine W.is 8 hc17 (by kernel_rfl) ?_
        refine W.run D_ok 1 100 (by kernel_rfl) ?_
        obtain ⟨r10, hx18, hv15⟩ := bind_some hv15
        refine W.call0 (m_spec_l1In_ok a1 0 40 hx18) cok46 rfl (by kernel_rfl) ?_
        refine W.run D_ok 3 100 (by kernel_rfl) ?_
        rcases cond_some hv15 with ⟨hc19, hv15⟩ | ⟨hc19, hv15⟩
        · refine W.is 13 hc19 (by kernel_rfl) ?_
          refine W.run D_ok 4 100 (by kernel_rfl) ?_
          have hv15 := Option.some.inj hv15
          subst hv15
          exact W.fin (by decide) (by kernel_rfl) (Weak.sel [] [0, 1, 17] (by kernel_rfl) (by kernel_rfl) (by kernel_rfl))
        · refine W.is 13 hc19 (by kernel_rfl) ?_
          refine W.run D_ok 1 100 (by kernel_rfl) ?_
          refine W.len D_ok (encSDNode false) a0 [] (by kernel_rfl) (by kernel_rfl) ?_
          refine W.run D_ok 2 100 (by kernel_rfl) ?_
          have hv15 := Option.some.inj hv15
          subst hv15
          exact W.fin (by decide) (by kernel_rfl) (Weak.sel [] [0, 1, 17] (by kernel_rfl) (by kernel_rfl) (by kernel_rfl))
      ) ?_
  rcases cond_some h with ⟨hc20, h⟩ | ⟨hc20, h⟩
  · refine CodeOk.ifT hc20 (by kernel_rfl) ?_
    refine CodeOk.cutR (tl 23 [(4, .own 100)]) [(100, .vec false 83 4 ([].map (encSDNode true)))] mix (by
        refine W.run D_ok 2 100 (by kernel_rfl) ?_
        exact W.fin (by decide) (by kernel_rfl) (Weak.sel [(100, 100)] [4] (by kernel_rfl) (by kernel_rfl) (by kernel_rfl))
        ) ?_
    refine CodeOk.ret ?_
    have h := Option.some.inj h
    subst h
    exact Ends.gen [(100, 100)] (.inr rfl) (RetV.one rfl (OneR.tmp (t := 4) (r := .own 100) (by kernel_rfl))) (by kernel_rfl) (by kernel_rfl) (by kernel_rfl)
  · refine CodeOk.ifF hc20 (by kernel_rfl) ?_
    refine CodeOk.skip ?_
    refine CodeOk.weak (st' := ⟨tl 23 [(0, .sl false false (a0.map (encSDNode false))), (1, V.int a1), (17, V.bool y8)], []⟩) (Weak.refl _) ?_
    obtain ⟨r12, hx22, h⟩ := bind_some h
    refine CodeOk.cutR (tl 23 [(4, .own 101)]) [(101, .vec false 83 4 (r12.map (encSDNode true)))] mix (by
        refine W.run D_ok 3 100 (by kernel_rfl) ?_
        refine W.lend (m_spec_l15Over_ok N 4 a1 [a0] hx22) cok69 [(100, 101)] [101] (LayOk.cons (j := 100) (encL false (encSDNode false)) (encL false (encSDNode false)) ([a0] : List (List SDNode)) (by kernel_rfl) (share_encL _ (share_encSDNode _)) (show LayOk _ [] from trivial)) (.own _) (.cons (DeepR.map (fun _ => (.cons (.c _) (.cons (.c _) (.cons (.c _) (.cons (.sl _ _ (DeepR.map (fun _ => (.cons (.c _) .nil)) _)) .nil))))) _) .nil) (by kernel_rfl) (by kernel_rfl) ?_
        refine W.run D_ok 1 102 (by kernel_rfl) ?_
        exact W.fin (by decide) (by kernel_rfl) (Weak.sel [(101, 101)] [4] (by kernel_rfl) (by kernel_rfl) (by kernel_rfl))
        ) ?_
    refine CodeOk.ret ?_
    have h := Option.some.inj h
    subst h
    exact Ends.gen [(101, 100)] (.inr rfl) (RetV.one rfl (OneR.tmp (t := 4) (r := .own 101) (by kernel_rfl))) (by kernel_rfl) (by kernel_rfl) (by kernel_rfl)

end Go.Proofs.Try
