/-
  The walks that show that the code computes the models, part 3.
-/
import Derived.Test.YtkfpmbinifaakaaDoorW2
namespace Go.Proofs.Tryd
open Go.Av
set_option maxRecDepth 100000

theorem m_spec_l36From_ok (N : Nat) (a0 : List UInt8) (a1 : Int) (a2 : Int) {r : ((List SToken) × SFault)} (h : m_spec_l36From N a0 a1 a2 = some r) :
    AC Tryd.prog (GS []) 30 [V.str a0, V.int a1, V.int a2] [] (.tup [.own 100, .agg [V.int r.2.Kind, V.int r.2.At]]) [(100, .vec false 46 3 (r.1.map encSToken))] := by
  rw [m_spec_l36From] at h
  refine AC.enter Tryd.func30 rfl ?_
  refine CodeOk.cutR (tl 60 [(0, V.str a0), (1, V.int a1), (2, V.int a2), (7, .loc 100 0)]) [(100, .cells 30 [V.int 0, V.int 0])] mix (by
      refine W.run D_ok 2 100 (by kernel_rfl) ?_
      exact W.fin (by decide) (by kernel_rfl) (Weak.sel [(100, 100)] [0, 1, 2, 7] (by kernel_rfl) (by kernel_rfl) (by kernel_rfl))
      ) ?_
  refine CodeOk.cutR (tl 60 [(0, V.str a0), (1, V.int a1), (2, V.int a2), (7, .loc 100 0), (8, .own 101)]) [(101, .vec false 46 3 ([].map encSToken)), (100, .cells 30 [V.int 0, V.int 0])] mix (by
      refine W.run D_ok 2 101 (by kernel_rfl) ?_
      exact W.fin (by decide) (by kernel_rfl) (Weak.sel [(101, 101), (100, 100)] [0, 1, 2, 7, 8] (by kernel_rfl) (by kernel_rfl) (by kernel_rfl))
      ) ?_
  refine CodeOk.seq' ?_
  refine CodeOk.block' ?_
  refine CodeOk.loopJ (fun (⟨a0, y103, y104, y105⟩ : ((List UInt8) × Int × Int × (List SToken))) => ⟨tl 60 [(0, V.str a0), (1, V.int y103), (2, V.int y104), (7, .loc 100 0), (8, .own 101)], [(100, .cells 30 [V.int 0, V.int 0]), (101, .vec false 46 3 (y105.map encSToken))]⟩) (fun n i => m_spec_l36From_l1 N n i = some r) (n0 := N) (i0 := (a0, a1, a2, [])) (Weak.sel [(100, 100), (101, 101)] [0, 1, 2, 7, 8] (by kernel_rfl) (by kernel_rfl) (by kernel_rfl)) h (fun i h => by simp [m_spec_l36From_l1] at h) ?_
  rintro n1 ⟨a0, y103, y104, y105⟩ h183 ih184
  rw [m_spec_l36From_l1] at h183
  refine CodeOk.seq' ?_
  refine CodeOk.cutR (tl 60 [(0, V.str a0), (1, V.int y103), (2, V.int y104), (7, .loc 100 0), (8, .own 101), (14, V.bool (decide (y103 < (a0.length : Int))))]) [(100, .cells 30 [V.int 0, V.int 0]), (101, .vec false 46 3 (y105.map encSToken))] mix (by
      refine W.run D_ok 4 168 (by kernel_rfl) ?_
      exact W.fin (by decide) (by kernel_rfl) (Weak.sel [(100, 100), (101, 101)] [0, 1, 2, 7, 8, 14] (by kernel_rfl) (by kernel_rfl) (by kernel_rfl))
      ) ?_
  rcases cond_some h183 with ⟨hc186, h183⟩ | ⟨hc186, h183⟩
  · refine CodeOk.ifT hc186 (by kernel_rfl) ?_
    refine CodeOk.skip ?_
    refine CodeOk.weak (st' := ⟨tl 60 [(0, V.str a0), (1, V.int y103), (2, V.int y104), (7, .loc 100 0), (8, .own 101), (14, V.bool (decide (y103 < (a0.length : Int))))], [(100, .cells 30 [V.int 0, V.int 0]), (101, .vec false 46 3 (y105.map encSToken))]⟩) (Weak.refl _) ?_
    refine CodeOk.block' ?_
    refine CodeOk.seq' ?_
    obtain ⟨b139, hx194, h183⟩ := bind_some h183
    obtain ⟨r140, hx195, h183⟩ := bind_some h183
    refine CodeOk.cutR (tl 60 [(0, V.str a0), (1, V.int y103), (2, V.int y104), (7, .loc 100 0), (8, .own 101), (19, V.bool r140)]) [(100, .cells 30 [V.int 0, V.int 0]), (101, .vec false 46 3 (y105.map encSToken))] mix (by
        refine W.run D_ok 2 168 (by kernel_rfl) ?_
        refine W.ixS D_ok hx194 (by kernel_rfl) ?_
        refine W.run D_ok 1 168 (by kernel_rfl) ?_
        refine W.call0 (m_spec_IsBlank_ok (IntKind.wrap .i64 ((b139).toNat : Int)) hx195) cok49 rfl (by kernel_rfl) ?_
        exact W.fin (by decide) (by kernel_rfl) (Weak.sel [(100, 100), (101, 101)] [0, 1, 2, 7, 8, 19] (by kernel_rfl) (by kernel_rfl) (by kernel_rfl))
        ) ?_
    rcases cond_some h183 with ⟨hc196, h183⟩ | ⟨hc196, h183⟩
    · refine CodeOk.ifT hc196 (by kernel_rfl) ?_
      refine CodeOk.cutR (tl 60 [(0, V.str a0), (1, V.int (IntKind.wrap .i64 (y103 + 1))), (2, V.int y104), (7, .loc 100 0), (8, .own 101)]) [(100, .cells 30 [V.int 0, V.int 0]), (101, .vec false 46 3 (y105.map encSToken))] mix (by
          refine W.run D_ok 3 168 (by kernel_rfl) ?_
          exact W.fin (by decide) (by kernel_rfl) (Weak.sel [(100, 100), (101, 101)] [0, 1, 2, 7, 8] (by kernel_rfl) (by kernel_rfl) (by kernel_rfl))
          ) ?_
      refine CodeOk.exit ?_
      exact ih184 (a0, (IntKind.wrap .i64 (y103 + 1)), y104, y105) h183 _ (Weak.sel [(100, 100), (101, 101)] [0, 1, 2, 7, 8] (by kernel_rfl) (by kernel_rfl) (by kernel_rfl))
    · refine CodeOk.ifF hc196 (by kernel_rfl) ?_
      refine CodeOk.skip ?_
      refine CodeOk.weak (st' := ⟨tl 60 [(0, V.str a0), (1, V.int y103), (2, V.int y104), (7, .loc 100 0), (8, .own 101), (19, V.bool r140)], [(100, .cells 30 [V.int 0, V.int 0]), (101, .vec false 46 3 (y105.map encSToken))]⟩) (Weak.refl _) ?_
      refine CodeOk.seq' ?_
      obtain ⟨y148, hv208, h183⟩ := bind_some h183
      refine CodeOk.cutR (tl 60 [(0, V.str a0), (1, V.int y103), (2, V.int y104), (7, .loc 100 0), (8, .own 101), (32, V.bool y148)]) [(100, .cells 30 [V.int 0, V.int 0]), (101, .vec false 46 3 (y105.map encSToken))] mix (by
          refine W.run D_ok 2 168 (by kernel_rfl) ?_
          obtain ⟨b149, hx209, hv208⟩ := bind_some hv208
          refine W.ixS D_ok hx209 (by kernel_rfl) ?_
          refine W.run D_ok 2 168 (by kernel_rfl) ?_
          rcases cond_some hv208 with ⟨hc210, hv208⟩ | ⟨hc210, hv208⟩
          · refine W.is 26 hc210 (by kernel_rfl) ?_
            refine W.run D_ok 3 168 (by kernel_rfl) ?_
            obtain ⟨r150, hx211, hv208⟩ := bind_some hv208
            refine W.call0 (m_spec_l4Byte_ok a0 (IntKind.wrap .i64 (y103 + 1)) hx211) cok50 rfl (by kernel_rfl) ?_
            refine W.run D_ok 2 168 (by kernel_rfl) ?_
            have hv208 := Option.some.inj hv208
            subst hv208
            exact W.fin (by decide) (by kernel_rfl) (Weak.sel [(100, 100), (101, 101)] [0, 1, 2, 7, 8, 32] (by kernel_rfl) (by kernel_rfl) (by kernel_rfl))
          · refine W.is 26 hc210 (by kernel_rfl) ?_
            refine W.run D_ok 6 168 (by kernel_rfl) ?_
            have hv208 := Option.some.inj hv208
            subst hv208
            exact W.fin (by decide) (by kernel_rfl) (Weak.sel [(100, 100), (101, 101)] [0, 1, 2, 7, 8, 32] (by kernel_rfl) (by kernel_rfl) (by kernel_rfl))
          ) ?_
      rcases cond_some h183 with ⟨hc212, h183⟩ | ⟨hc212, h183⟩
      · refine CodeOk.ifT hc212 (by kernel_rfl) ?_
        refine CodeOk.cutR (tl 60 [(0, V.str a0), (1, V.int (IntKind.wrap .i64 (y103 + 2))), (2, V.int y104), (7, .loc 100 0), (8, .own 101)]) [(100, .cells 30 [V.int 0, V.int 0]), (101, .vec false 46 3 (y105.map encSToken))] mix (by
            refine W.run D_ok 3 168 (by kernel_rfl) ?_
            exact W.fin (by decide) (by kernel_rfl) (Weak.sel [(100, 100), (101, 101)] [0, 1, 2, 7, 8] (by kernel_rfl) (by kernel_rfl) (by kernel_rfl))
            ) ?_
        refine CodeOk.exit ?_
        exact ih184 (a0, (IntKind.wrap .i64 (y103 + 2)), y104, y105) h183 _ (Weak.sel [(100, 100), (101, 101)] [0, 1, 2, 7, 8] (by kernel_rfl) (by kernel_rfl) (by kernel_rfl))
      · refine CodeOk.ifF hc212 (by kernel_rfl) ?_
        refine CodeOk.skip ?_
        refine CodeOk.weak (st' := ⟨tl 60 [(0, V.str a0), (1, V.int y103), (2, V.int y104), (7, .loc 100 0), (8, .own 101), (32, V.bool y148)], [(100, .cells 30 [V.int 0, V.int 0]), (101, .vec false 46 3 (y105.map encSToken))]⟩) (Weak.refl _) ?_
        obtain ⟨r153, hx215, h183⟩ := bind_some h183
        obtain ⟨r154, hx216, h183⟩ := bind_some h183
        refine CodeOk.cutR (tl 60 [(0, V.str a0), (1, V.int y103), (7, .loc 100 0), (8, .own 101), (9, .loc 168 0)]) [(168, .cells 46 [V.int r154.Kind, V.str r154.Text, V.int r154.At]), (100, .cells 30 [V.int 0, V.int 0]), (101, .vec false 46 3 (y105.map encSToken))] mix (by
            refine W.run D_ok 3 168 (by kernel_rfl) ?_
            refine W.call0 (m_spec_EndsOperand_ok y104 hx215) cok45 rfl (by kernel_rfl) ?_
            refine W.run D_ok 1 168 (by kernel_rfl) ?_
            refine W.call0 (m_spec_l5Next_ok N a0 y103 (!r153) hx216) cok51 rfl (by kernel_rfl) ?_
            refine W.run D_ok 2 168 (by kernel_rfl) ?_
            exact W.fin (by decide) (by kernel_rfl) (Weak.sel [(168, 168), (100, 100), (101, 101)] [0, 1, 7, 8, 9] (by kernel_rfl) (by kernel_rfl) (by kernel_rfl))
            ) ?_
        refine CodeOk.seq' ?_
        refine CodeOk.cutR (tl 60 [(0, V.str a0), (1, V.int y103), (7, .loc 100 0), (8, .own 101), (9, .loc 168 0), (43, V.bool (r154.Kind == 0))]) [(168, .cells 46 [V.int r154.Kind, V.str r154.Text, V.int r154.At]), (100, .cells 30 [V.int 0, V.int 0]), (101, .vec false 46 3 (y105.map encSToken))] mix (by
            refine W.run D_ok 3 169 (by kernel_rfl) ?_
            exact W.fin (by decide) (by kernel_rfl) (Weak.sel [(168, 168), (100, 100), (101, 101)] [0, 1, 7, 8, 9, 43] (by kernel_rfl) (by kernel_rfl) (by kernel_rfl))
            ) ?_
        rcases cond_some h183 with ⟨hc218, h183⟩ | ⟨hc218, h183⟩
        · refine CodeOk.ifT hc218 (by kernel_rfl) ?_
          refine CodeOk.cutR (tl 60 [(6, .own 101), (7, .loc 100 0)]) [(100, .cells 30 [V.int 2, V.int y103]), (101, .vec false 46 3 (y105.map encSToken))] mix (by
              refine W.run D_ok 5 169 (by kernel_rfl) ?_
              exact W.fin (by decide) (by kernel_rfl) (Weak.sel [(100, 100), (101, 101)] [6, 7] (by kernel_rfl) (by kernel_rfl) (by kernel_rfl))
              ) ?_
          refine CodeOk.ret ?_
          have h183 := Option.some.inj h183
          subst h183
          exact Ends.gen [(101, 100)] (.inr rfl) (RetV.two rfl (OneR.tmp (t := 6) (r := .own 101) (by kernel_rfl)) (OneR.cell D_ok (r := .agg [V.int 2, V.int y103]) (i := 100) (ety := 30) (cs := [V.int 2, V.int y103]) (by kernel_rfl) (by kernel_rfl) (by kernel_rfl))) (by kernel_rfl) (by kernel_rfl) (by kernel_rfl)
        · refine CodeOk.ifF hc218 (by kernel_rfl) ?_
          refine CodeOk.skip ?_
          refine CodeOk.weak (st' := ⟨tl 60 [(0, V.str a0), (1, V.int y103), (7, .loc 100 0), (8, .own 101), (9, .loc 168 0), (43, V.bool (r154.Kind == 0))], [(168, .cells 46 [V.int r154.Kind, V.str r154.Text, V.int r154.At]), (100, .cells 30 [V.int 0, V.int 0]), (101, .vec false 46 3 (y105.map encSToken))]⟩) (Weak.refl _) ?_
          obtain ⟨x156, hx220, h183⟩ := bind_some h183
          refine CodeOk.cutR (tl 60 [(0, V.str a0), (1, V.int y103), (7, .loc 100 0), (8, .own 170), (9, .loc 168 0)]) [(170, .vec false 46 3 (x156.map encSToken)), (168, .cells 46 [V.int r154.Kind, V.str r154.Text, V.int r154.At]), (100, .cells 30 [V.int 0, V.int 0])] mix (by
              refine W.run D_ok 3 169 (by kernel_rfl) ?_
              refine W.appO D_ok encSToken (a := 101) (c := 169) (el := 46) (sz := 3) 32 hx220 rfl 170 (by kernel_rfl) ?_
              refine W.run D_ok 1 171 (by kernel_rfl) ?_
              exact W.fin (by decide) (by kernel_rfl) (Weak.sel [(170, 170), (168, 168), (100, 100)] [0, 1, 7, 8, 9] (by kernel_rfl) (by kernel_rfl) (by kernel_rfl))
              ) ?_
          refine CodeOk.cutR (tl 60 [(0, V.str a0), (1, V.int y103), (2, V.int r154.Kind), (7, .loc 100 0), (8, .own 170), (9, .loc 168 0)]) [(170, .vec false 46 3 (x156.map encSToken)), (168, .cells 46 [V.int r154.Kind, V.str r154.Text, V.int r154.At]), (100, .cells 30 [V.int 0, V.int 0])] mix (by
              refine W.run D_ok 3 171 (by kernel_rfl) ?_
              exact W.fin (by decide) (by kernel_rfl) (Weak.sel [(170, 170), (168, 168), (100, 100)] [0, 1, 2, 7, 8, 9] (by kernel_rfl) (by kernel_rfl) (by kernel_rfl))
              ) ?_
          refine CodeOk.endR (tl 60 [(0, V.str a0), (1, V.int (IntKind.wrap .i64 (y103 + (r154.Text.length : Int)))), (2, V.int r154.Kind), (7, .loc 100 0), (8, .own 170)]) [(170, .vec false 46 3 (x156.map encSToken)), (100, .cells 30 [V.int 0, V.int 0])] mix (by
              refine W.run D_ok 6 171 (by kernel_rfl) ?_
              exact W.fin (by decide) (by kernel_rfl) (Weak.sel [(170, 170), (100, 100)] [0, 1, 2, 7, 8] (by kernel_rfl) (by kernel_rfl) (by kernel_rfl))
              ) (fun st hw => ?_)
          exact ih184 (a0, (IntKind.wrap .i64 (y103 + (r154.Text.length : Int))), r154.Kind, x156) h183 _ (hw.trans (Weak.sel [(100, 100), (170, 101)] [0, 1, 2, 7, 8] (by kernel_rfl) (by kernel_rfl) (by kernel_rfl)))
  · refine CodeOk.ifF hc186 (by kernel_rfl) ?_
    refine CodeOk.exit ?_
    refine CodeOk.weak (st' := ⟨tl 60 [(0, V.str a0), (1, V.int y103), (2, V.int y104), (7, .loc 100 0), (8, .own 101), (14, V.bool (decide (y103 < (a0.length : Int))))], [(100, .cells 30 [V.int 0, V.int 0]), (101, .vec false 46 3 (y105.map encSToken))]⟩) (Weak.refl _) ?_
    refine CodeOk.cutR (tl 60 [(6, .own 101), (7, .loc 100 0)]) [(100, .cells 30 [V.int 0, V.int 0]), (101, .vec false 46 3 (y105.map encSToken))] mix (by
        refine W.run D_ok 4 168 (by kernel_rfl) ?_
        exact W.fin (by decide) (by kernel_rfl) (Weak.sel [(100, 100), (101, 101)] [6, 7] (by kernel_rfl) (by kernel_rfl) (by kernel_rfl))
        ) ?_
    refine CodeOk.ret ?_
    have h183 := Option.some.inj h183
    subst h183
    exact Ends.gen [(101, 100)] (.inr rfl) (RetV.two rfl (OneR.tmp (t := 6) (r := .own 101) (by kernel_rfl)) (OneR.cell D_ok (r := .agg [V.int 0, V.int 0]) (i := 100) (ety := 30) (cs := [V.int 0, V.int 0]) (by kernel_rfl) (by kernel_rfl) (by kernel_rfl))) (by kernel_rfl) (by kernel_rfl) (by kernel_rfl)

theorem m_spec_Relex_ok (N : Nat) (a0 : List SToken) (a1 : List UInt8) (a2 : Int) (a3 : Int) (a4 : List UInt8) {r : ((List SToken) × SFault)} (h : m_spec_Relex N a0 a1 a2 a3 a4 = some r) :
    AC Tryd.prog (GS []) 11 [.sl false false (a0.map encSToken), V.str a1, V.int a2, V.int a3, V.str a4] [] (.tup [.own 100, .agg [V.int r.2.Kind, V.int r.2.At]]) [(100, .vec false 46 3 (r.1.map encSToken))] := by
  rw [m_spec_Relex] at h
  refine AC.enter Tryd.func11 rfl ?_
  refine CodeOk.cutR (tl 83 [(0, .sl false false (a0.map encSToken)), (1, V.str a1), (2, V.int a2), (3, V.int a3), (4, V.str a4), (11, .loc 100 0)]) [(100, .cells 30 [V.int 0, V.int 0])] mix (by
      refine W.run D_ok 2 100 (by kernel_rfl) ?_
      exact W.fin (by decide) (by kernel_rfl) (Weak.sel [(100, 100)] [0, 1, 2, 3, 4, 11] (by kernel_rfl) (by kernel_rfl) (by kernel_rfl))
      ) ?_
  obtain ⟨r2, hx2, h⟩ := bind_some h
  refine CodeOk.cutR (tl 83 [(0, .sl false false (a0.map encSToken)), (2, V.int a2), (11, .loc 100 0), (12, V.str r2.1), (13, V.bool r2.2)]) [(100, .cells 30 [V.int 0, V.int 0])] mix (by
      refine W.run D_ok 4 101 (by kernel_rfl) ?_
      refine W.call0 (m_spec_Splice_ok a1 a2 a3 a4 hx2) cok28 rfl (by kernel_rfl) ?_
      refine W.run D_ok 5 101 (by kernel_rfl) ?_
      exact W.fin (by decide) (by kernel_rfl) (Weak.sel [(100, 100)] [0, 2, 11, 12, 13] (by kernel_rfl) (by kernel_rfl) (by kernel_rfl))
      ) ?_
  refine CodeOk.seq' ?_
  obtain ⟨y4, hv8, h⟩ := bind_some h
  refine CodeOk.cutR (tl 83 [(0, .sl false false (a0.map encSToken)), (2, V.int a2), (11, .loc 100 0), (12, V.str r2.1), (34, V.bool y4)]) [(100, .cells 30 [V.int 0, V.int 0])] mix (by
      refine W.run D_ok 3 101 (by kernel_rfl) ?_
      rcases cond_some hv8 with ⟨hc9, hv8⟩ | ⟨hc9, hv8⟩
      · refine W.is 30 hc9 (by kernel_rfl) ?_
        refine W.run D_ok 4 101 (by kernel_rfl) ?_
        have hv8 := Option.some.inj hv8
        subst hv8
        exact W.fin (by decide) (by kernel_rfl) (Weak.sel [(100, 100)] [0, 2, 11, 12, 34] (by kernel_rfl) (by kernel_rfl) (by kernel_rfl))
      · refine W.is 30 hc9 (by kernel_rfl) ?_
        refine W.run D_ok 4 101 (by kernel_rfl) ?_
        have hv8 := Option.some.inj hv8
        subst hv8
        exact W.fin (by decide) (by kernel_rfl) (Weak.sel [(100, 100)] [0, 2, 11, 12, 34] (by kernel_rfl) (by kernel_rfl) (by kernel_rfl))
      ) ?_
  rcases cond_some h with ⟨hc10, h⟩ | ⟨hc10, h⟩
  · refine CodeOk.ifT hc10 (by kernel_rfl) ?_
    refine CodeOk.cutR (tl 83 [(10, .own 101), (11, .loc 100 0)]) [(100, .cells 30 [V.int 1, V.int 0]), (101, .vec false 46 3 ([].map encSToken))] mix (by
        refine W.run D_ok 4 101 (by kernel_rfl) ?_
        exact W.fin (by decide) (by kernel_rfl) (Weak.sel [(100, 100), (101, 101)] [10, 11] (by kernel_rfl) (by kernel_rfl) (by kernel_rfl))
        ) ?_
    refine CodeOk.ret ?_
    have h := Option.some.inj h
    subst h
    exact Ends.gen [(101, 100)] (.inr rfl) (RetV.two rfl (OneR.tmp (t := 10) (r := .own 101) (by kernel_rfl)) (OneR.cell D_ok (r := .agg [V.int 1, V.int 0]) (i := 100) (ety := 30) (cs := [V.int 1, V.int 0]) (by kernel_rfl) (by kernel_rfl) (by kernel_rfl))) (by kernel_rfl) (by kernel_rfl) (by kernel_rfl)
  · refine CodeOk.ifF hc10 (by kernel_rfl) ?_
    refine CodeOk.skip ?_
    refine CodeOk.weak (st' := ⟨tl 83 [(0, .sl false false (a0.map encSToken)), (2, V.int a2), (11, .loc 100 0), (12, V.str r2.1), (34, V.bool y4)], [(100, .cells 30 [V.int 0, V.int 0])]⟩) (Weak.refl _) ?_
    obtain ⟨r6, hx12, h⟩ := bind_some h
    refine CodeOk.cutR (tl 83 [(0, .sl false false (a0.map encSToken)), (11, .loc 100 0), (12, V.str r2.1), (14, V.int r6)]) [(100, .cells 30 [V.int 0, V.int 0])] mix (by
        refine W.run D_ok 2 101 (by kernel_rfl) ?_
        refine W.call0 (m_spec_KeptTokens_ok N a0 a2 hx12) cok29 rfl (by kernel_rfl) ?_
        refine W.run D_ok 1 101 (by kernel_rfl) ?_
        exact W.fin (by decide) (by kernel_rfl) (Weak.sel [(100, 100)] [0, 11, 12, 14] (by kernel_rfl) (by kernel_rfl) (by kernel_rfl))
        ) ?_
    obtain ⟨l9, hx15, h⟩ := bind_some h
    obtain ⟨x10, hx16, h⟩ := bind_some h
    refine CodeOk.cutR (tl 83 [(0, .sl false false (a0.map encSToken)), (11, .loc 100 0), (12, V.str r2.1), (14, V.int r6), (15, .own 102)]) [(102, .vec false 46 3 (x10.map encSToken)), (100, .cells 30 [V.int 0, V.int 0])] mix (by
        refine W.run D_ok 3 101 (by kernel_rfl) ?_
        refine W.cutD D_ok encSToken hx15 false 3 (fun _ => by first | rfl | kernel_rfl) (by kernel_rfl) ?_
        refine W.appD D_ok encSToken (a := 101) (el := 46) 32 hx16 rfl 102 3 (fun _ => by first | rfl | kernel_rfl) (by kernel_rfl) ?_
        refine W.run D_ok 1 103 (by kernel_rfl) ?_
        exact W.fin (by decide) (by kernel_rfl) (Weak.sel [(102, 102), (100, 100)] [0, 11, 12, 14, 15] (by kernel_rfl) (by kernel_rfl) (by kernel_rfl))
        ) ?_
    refine CodeOk.cutR (tl 83 [(0, .sl false false (a0.map encSToken)), (11, .loc 100 0), (12, V.str r2.1), (14, V.int r6), (15, .own 102), (16, V.int 0)]) [(102, .vec false 46 3 (x10.map encSToken)), (100, .cells 30 [V.int 0, V.int 0])] mix (by
        refine W.run D_ok 1 103 (by kernel_rfl) ?_
        exact W.fin (by decide) (by kernel_rfl) (Weak.sel [(102, 102), (100, 100)] [0, 11, 12, 14, 15, 16] (by kernel_rfl) (by kernel_rfl) (by kernel_rfl))
        ) ?_
    refine CodeOk.cutR (tl 83 [(0, .sl false false (a0.map encSToken)), (11, .loc 100 0), (12, V.str r2.1), (14, V.int r6), (15, .own 102), (16, V.int 0), (17, V.int 0)]) [(102, .vec false 46 3 (x10.map encSToken)), (100, .cells 30 [V.int 0, V.int 0])] mix (by
        refine W.run D_ok 1 103 (by kernel_rfl) ?_
        exact W.fin (by decide) (by kernel_rfl) (Weak.sel [(102, 102), (100, 100)] [0, 11, 12, 14, 15, 16, 17] (by kernel_rfl) (by kernel_rfl) (by kernel_rfl))
        ) ?_
    refine CodeOk.join (fun (⟨r2, x10, y17, y18⟩ : (((List UInt8) × Bool) × (List SToken) × Int × Int)) => ⟨tl 83 [(11, .loc 100 0), (12, V.str r2.1), (15, .own 101), (16, V.int y17), (17, V.int y18)], [(100, .cells 30 [V.int 0, V.int 0]), (101, .vec false 46 3 (x10.map encSToken))]⟩) (fun i => m_spec_Relex_k1 N i = some r) ?_ ?_
    · rintro ⟨r2, x10, y17, y18⟩ h24
      rw [m_spec_Relex_k1] at h24
      obtain ⟨r20, hx26, h24⟩ := bind_some h24
      refine CodeOk.cutR (tl 83 [(11, .loc 100 0), (15, .own 101), (18, .own 103), (19, .loc 104 0)]) [(104, .cells 30 [V.int r20.2.Kind, V.int r20.2.At]), (103, .vec false 46 3 (r20.1.map encSToken)), (100, .cells 30 [V.int 0, V.int 0]), (101, .vec false 46 3 (x10.map encSToken))] mix (by
          refine W.run D_ok 3 103 (by kernel_rfl) ?_
          refine W.call (m_spec_l36From_ok N r2.1 y17 y18 hx26) cok30 [] [(100, 103)] [103] (show LayOk _ [] from trivial) (by kernel_rfl) (by kernel_rfl) ?_
          refine W.run D_ok 6 104 (by kernel_rfl) ?_
          exact W.fin (by decide) (by kernel_rfl) (Weak.sel [(104, 104), (103, 103), (100, 100), (101, 101)] [11, 15, 18, 19] (by kernel_rfl) (by kernel_rfl) (by kernel_rfl))
          ) ?_
      refine CodeOk.seq' ?_
      refine CodeOk.cutR (tl 83 [(11, .loc 100 0), (15, .own 101), (18, .own 103), (19, .loc 104 0), (76, V.bool (r20.2.Kind != 0))]) [(104, .cells 30 [V.int r20.2.Kind, V.int r20.2.At]), (103, .vec false 46 3 (r20.1.map encSToken)), (100, .cells 30 [V.int 0, V.int 0]), (101, .vec false 46 3 (x10.map encSToken))] mix (by
          refine W.run D_ok 3 105 (by kernel_rfl) ?_
          exact W.fin (by decide) (by kernel_rfl) (Weak.sel [(104, 104), (103, 103), (100, 100), (101, 101)] [11, 15, 18, 19, 76] (by kernel_rfl) (by kernel_rfl) (by kernel_rfl))
          ) ?_
      rcases cond_some h24 with ⟨hc28, h24⟩ | ⟨hc28, h24⟩
      · refine CodeOk.ifT hc28 (by kernel_rfl) ?_
        refine CodeOk.cutR (tl 83 [(10, .own 105), (11, .loc 100 0)]) [(100, .cells 30 [V.int r20.2.Kind, V.int r20.2.At]), (105, .vec false 46 3 ([].map encSToken))] mix (by
            refine W.run D_ok 4 105 (by kernel_rfl) ?_
            exact W.fin (by decide) (by kernel_rfl) (Weak.sel [(100, 100), (105, 105)] [10, 11] (by kernel_rfl) (by kernel_rfl) (by kernel_rfl))
            ) ?_
        refine CodeOk.ret ?_
        have h24 := Option.some.inj h24
        subst h24
        exact Ends.gen [(105, 100)] (.inr rfl) (RetV.two rfl (OneR.tmp (t := 10) (r := .own 105) (by kernel_rfl)) (OneR.cell D_ok (r := .agg [V.int r20.2.Kind, V.int r20.2.At]) (i := 100) (ety := 30) (cs := [V.int r20.2.Kind, V.int r20.2.At]) (by kernel_rfl) (by kernel_rfl) (by kernel_rfl))) (by kernel_rfl) (by kernel_rfl) (by kernel_rfl)
      · refine CodeOk.ifF hc28 (by kernel_rfl) ?_
        refine CodeOk.skip ?_
        refine CodeOk.weak (st' := ⟨tl 83 [(11, .loc 100 0), (15, .own 101), (18, .own 103), (19, .loc 104 0), (76, V.bool (r20.2.Kind != 0))], [(104, .cells 30 [V.int r20.2.Kind, V.int r20.2.At]), (103, .vec false 46 3 (r20.1.map encSToken)), (100, .cells 30 [V.int 0, V.int 0]), (101, .vec false 46 3 (x10.map encSToken))]⟩) (Weak.refl _) ?_
        obtain ⟨x22, hx30, h24⟩ := bind_some h24
        refine CodeOk.cutR (tl 83 [(10, .own 105), (11, .loc 100 0)]) [(100, .cells 30 [V.int r20.2.Kind, V.int r20.2.At]), (105, .vec false 46 3 (x22.map encSToken))] mix (by
            refine W.run D_ok 2 105 (by kernel_rfl) ?_
            refine W.appO D_ok encSToken (a := 101) (c := 103) (el := 46) (sz := 3) 32 hx30 rfl 105 (by kernel_rfl) ?_
            refine W.run D_ok 3 106 (by kernel_rfl) ?_
            exact W.fin (by decide) (by kernel_rfl) (Weak.sel [(100, 100), (105, 105)] [10, 11] (by kernel_rfl) (by kernel_rfl) (by kernel_rfl))
            ) ?_
        refine CodeOk.ret ?_
        have h24 := Option.some.inj h24
        subst h24
        exact Ends.gen [(105, 100)] (.inr rfl) (RetV.two rfl (OneR.tmp (t := 10) (r := .own 105) (by kernel_rfl)) (OneR.cell D_ok (r := .agg [V.int r20.2.Kind, V.int r20.2.At]) (i := 100) (ety := 30) (cs := [V.int r20.2.Kind, V.int r20.2.At]) (by kernel_rfl) (by kernel_rfl) (by kernel_rfl))) (by kernel_rfl) (by kernel_rfl) (by kernel_rfl)
    intro hk31
    refine CodeOk.cutR (tl 83 [(0, .sl false false (a0.map encSToken)), (11, .loc 100 0), (12, V.str r2.1), (14, V.int r6), (15, .own 102), (16, V.int 0), (17, V.int 0), (46, V.bool (decide (r6 > 0)))]) [(102, .vec false 46 3 (x10.map encSToken)), (100, .cells 30 [V.int 0, V.int 0])] mix (by
        refine W.run D_ok 2 103 (by kernel_rfl) ?_
        exact W.fin (by decide) (by kernel_rfl) (Weak.sel [(102, 102), (100, 100)] [0, 11, 12, 14, 15, 16, 17, 46] (by kernel_rfl) (by kernel_rfl) (by kernel_rfl))
        ) ?_
    rcases cond_some h with ⟨hc32, h⟩ | ⟨hc32, h⟩
    · refine CodeOk.ifT hc32 (by kernel_rfl) ?_
      obtain ⟨e25, hx35, h⟩ := bind_some h
      obtain ⟨e26, hx36, h⟩ := bind_some h
      refine CodeOk.cutR (tl 83 [(0, .sl false false (a0.map encSToken)), (11, .loc 100 0), (12, V.str r2.1), (14, V.int r6), (15, .own 102), (16, V.int (IntKind.wrap .i64 (e25.At + (e26.Text.length : Int))))]) [(102, .vec false 46 3 (x10.map encSToken)), (100, .cells 30 [V.int 0, V.int 0])] mix (by
          refine W.run D_ok 3 103 (by kernel_rfl) ?_
          refine W.ixD D_ok encSToken hx35 3 (by kernel_rfl) (by kernel_rfl) ?_
          refine W.run D_ok 5 103 (by kernel_rfl) ?_
          refine W.ixD D_ok encSToken hx36 3 (by kernel_rfl) (by kernel_rfl) ?_
          refine W.run D_ok 5 103 (by kernel_rfl) ?_
          exact W.fin (by decide) (by kernel_rfl) (Weak.sel [(102, 102), (100, 100)] [0, 11, 12, 14, 15, 16] (by kernel_rfl) (by kernel_rfl) (by kernel_rfl))
          ) ?_
      obtain ⟨e28, hx38, h⟩ := bind_some h
      refine CodeOk.endR (tl 83 [(11, .loc 100 0), (12, V.str r2.1), (15, .own 102), (16, V.int (IntKind.wrap .i64 (e25.At + (e26.Text.length : Int)))), (17, V.int e28.Kind)]) [(102, .vec false 46 3 (x10.map encSToken)), (100, .cells 30 [V.int 0, V.int 0])] mix (by
          refine W.run D_ok 3 103 (by kernel_rfl) ?_
          refine W.ixD D_ok encSToken hx38 3 (by kernel_rfl) (by kernel_rfl) ?_
          refine W.run D_ok 3 103 (by kernel_rfl) ?_
          exact W.fin (by decide) (by kernel_rfl) (Weak.sel [(102, 102), (100, 100)] [11, 12, 15, 16, 17] (by kernel_rfl) (by kernel_rfl) (by kernel_rfl))
          ) (fun st hw => ?_)
      exact hk31 (r2, x10, (IntKind.wrap .i64 (e25.At + (e26.Text.length : Int))), e28.Kind) h _ (hw.trans (Weak.sel [(100, 100), (102, 101)] [11, 12, 15, 16, 17] (by kernel_rfl) (by kernel_rfl) (by kernel_rfl)))
    · refine CodeOk.ifF hc32 (by kernel_rfl) ?_
      refine CodeOk.skip ?_
      exact hk31 (r2, x10, 0, 0) h _ (Weak.sel [(100, 100), (102, 101)] [11, 12, 15, 16, 17] (by kernel_rfl) (by kernel_rfl) (by kernel_rfl))

theorem m_impl_Splice_ok (a0 : List UInt8) (a1 : Int) (a2 : Int) (a3 : List UInt8) {r : ((List UInt8) × Bool)} (h : m_impl_Splice a0 a1 a2 a3 = some r) :
    AC Tryd.prog (GS []) 31 [V.str a0, V.int a1, V.int a2, V.str a3] [] (.tup [V.str r.1, V.bool r.2]) [] := by
  rw [m_impl_Splice] at h
  refine AC.enter Tryd.func31 rfl ?_
  refine CodeOk.cutR (tl 36 [(0, V.str a0), (1, V.int a1), (2, V.int a2), (3, V.str a3)]) [] mix (by
      refine W.run D_ok 2 100 (by kernel_rfl) ?_
      exact W.fin (by decide) (by kernel_rfl) (Weak.sel [] [0, 1, 2, 3] (by kernel_rfl) (by kernel_rfl) (by kernel_rfl))
      ) ?_
  refine CodeOk.seq' ?_
  obtain ⟨y8, hv12, h⟩ := bind_some h
  refine CodeOk.cutR (tl 36 [(0, V.str a0), (1, V.int a1), (2, V.int a2), (3, V.str a3), (23, V.bool y8)]) [] mix (by
      refine W.run D_ok 3 100 (by kernel_rfl) ?_
      obtain ⟨r9, hx13, hv12⟩ := bind_some hv12
      refine W.call0 (m_impl_within_ok a1 0 (a0.length : Int) hx13) cok52 rfl (by kernel_rfl) ?_
      refine W.run D_ok 2 100 (by kernel_rfl) ?_
      rcases cond_some hv12 with ⟨hc14, hv12⟩ | ⟨hc14, hv12⟩
      · refine W.is 15 hc14 (by kernel_rfl) ?_
        refine W.run D_ok 8 100 (by kernel_rfl) ?_
        have hv12 := Option.some.inj hv12
        subst hv12
        exact W.fin (by decide) (by kernel_rfl) (Weak.sel [] [0, 1, 2, 3, 23] (by kernel_rfl) (by kernel_rfl) (by kernel_rfl))
      · refine W.is 15 hc14 (by kernel_rfl) ?_
        refine W.run D_ok 5 100 (by kernel_rfl) ?_
        obtain ⟨r10, hx15, hv12⟩ := bind_some hv12
        refine W.call0 (m_impl_within_ok a2 0 (IntKind.wrap .i64 ((a0.length : Int) - a1)) hx15) cok52 rfl (by kernel_rfl) ?_
        refine W.run D_ok 2 100 (by kernel_rfl) ?_
        have hv12 := Option.some.inj hv12
        subst hv12
        exact W.fin (by decide) (by kernel_rfl) (Weak.sel [] [0, 1, 2, 3, 23] (by kernel_rfl) (by kernel_rfl) (by kernel_rfl))
      ) ?_
  rcases cond_some h with ⟨hc16, h⟩ | ⟨hc16, h⟩
  · refine CodeOk.ifT hc16 (by kernel_rfl) ?_
    refine CodeOk.cutR (tl 36 [(8, V.str a0), (9, V.bool false)]) [] mix (by
        refine W.run D_ok 3 100 (by kernel_rfl) ?_
        exact W.fin (by decide) (by kernel_rfl) (Weak.sel [] [8, 9] (by kernel_rfl) (by kernel_rfl) (by kernel_rfl))
        ) ?_
    refine CodeOk.ret ?_
    have h := Option.some.inj h
    subst h
    exact Ends.gen [] (.inr rfl) (RetV.two rfl (OneR.tmp (t := 8) (r := V.str a0) (by kernel_rfl)) (OneR.tmp (t := 9) (r := V.bool false) (by kernel_rfl))) (by kernel_rfl) (by kernel_rfl) (by kernel_rfl)
  · refine CodeOk.ifF hc16 (by kernel_rfl) ?_
    refine CodeOk.skip ?_
    refine CodeOk.weak (st' := ⟨tl 36 [(0, V.str a0), (1, V.int a1), (2, V.int a2), (3, V.str a3), (23, V.bool y8)], []⟩) (Weak.refl _) ?_
    obtain ⟨s15, hx21, h⟩ := bind_some h
    obtain ⟨s16, hx22, h⟩ := bind_some h
    obtain ⟨s17, hx23, h⟩ := bind_some h
    obtain ⟨s18, hx24, h⟩ := bind_some h
    refine CodeOk.cutR (tl 36 [(8, V.str s18), (9, V.bool true)]) [] mix (by
        refine W.run D_ok 2 100 (by kernel_rfl) ?_
        refine W.cutS D_ok hx21 (by kernel_rfl) ?_
        refine W.run D_ok 1 100 (by kernel_rfl) ?_
        refine W.cat hx22 (by kernel_rfl) ?_
        refine W.run D_ok 4 100 (by kernel_rfl) ?_
        refine W.cutS D_ok hx23 (by kernel_rfl) ?_
        refine W.cat hx24 (by kernel_rfl) ?_
        refine W.run D_ok 2 100 (by kernel_rfl) ?_
        exact W.fin (by decide) (by kernel_rfl) (Weak.sel [] [8, 9] (by kernel_rfl) (by kernel_rfl) (by kernel_rfl))
        ) ?_
    refine CodeOk.ret ?_
    have h := Option.some.inj h
    subst h
    exact Ends.gen [] (.inr rfl) (RetV.two rfl (OneR.tmp (t := 8) (r := V.str s18) (by kernel_rfl)) (OneR.tmp (t := 9) (r := V.bool true) (by kernel_rfl))) (by kernel_rfl) (by kernel_rfl) (by kernel_rfl)

theorem m_impl_KeptTokens_ok (N : Nat) (a0 : List SToken) (a1 : Int) {r : Int} (h : m_impl_KeptTokens N a0 a1 = some r) :
    AC Tryd.prog (GS []) 33 [.sl false false (a0.map encSToken), V.int a1] [] (V.int r) [] := by
  rw [m_impl_KeptTokens] at h
  refine AC.enter Tryd.func33 rfl ?_
  refine CodeOk.cutR (tl 34 [(0, .sl false false (a0.map encSToken)), (1, V.int a1)]) [] mix (by
      refine W.run D_ok 1 100 (by kernel_rfl) ?_
      exact W.fin (by decide) (by kernel_rfl) (Weak.sel [] [0, 1] (by kernel_rfl) (by kernel_rfl) (by kernel_rfl))
      ) ?_
  refine CodeOk.seq' ?_
  refine CodeOk.cutR (tl 34 [(0, .sl false false (a0.map encSToken)), (1, V.int a1), (7, .sl false false (a0.map encSToken)), (8, V.int (a0.length : Int)), (9, V.int 0)]) [] mix (by
      refine W.run D_ok 1 100 (by kernel_rfl) ?_
      refine W.len D_ok encSToken a0 [] (by kernel_rfl) (by kernel_rfl) ?_
      refine W.run D_ok 1 100 (by kernel_rfl) ?_
      exact W.fin (by decide) (by kernel_rfl) (Weak.sel [] [0, 1, 7, 8, 9] (by kernel_rfl) (by kernel_rfl) (by kernel_rfl))
      ) ?_
  refine CodeOk.block' ?_
  refine CodeOk.loopJ (fun (⟨a0, a1, y43⟩ : ((List SToken) × Int × Int)) => ⟨tl 34 [(0, .sl false false (a0.map encSToken)), (1, V.int a1), (7, .sl false false (a0.map encSToken)), (8, V.int (a0.length : Int)), (9, V.int y43)], []⟩) (fun n i => m_impl_KeptTokens_l1 N n i = some r) (n0 := N) (i0 := (a0, a1, 0)) (Weak.sel [] [0, 1, 7, 8, 9] (by kernel_rfl) (by kernel_rfl) (by kernel_rfl)) h (fun i h => by simp [m_impl_KeptTokens_l1] at h) ?_
  rintro n1 ⟨a0, a1, y43⟩ h93 ih94
  rw [m_impl_KeptTokens_l1] at h93
  refine CodeOk.cutR (tl 34 [(0, .sl false false (a0.map encSToken)), (1, V.int a1), (7, .sl false false (a0.map encSToken)), (8, V.int (a0.length : Int)), (9, V.int y43), (10, V.bool (decide (y43 < (a0.length : Int))))]) [] mix (by
      refine W.run D_ok 1 162 (by kernel_rfl) ?_
      exact W.fin (by decide) (by kernel_rfl) (Weak.sel [] [0, 1, 7, 8, 9, 10] (by kernel_rfl) (by kernel_rfl) (by kernel_rfl))
      ) ?_
  refine CodeOk.seq' ?_
  rcases cond_some h93 with ⟨hc96, h93⟩ | ⟨hc96, h93⟩
  · refine CodeOk.ifT hc96 (by kernel_rfl) ?_
    refine CodeOk.skip ?_
    refine CodeOk.weak (st' := ⟨tl 34 [(0, .sl false false (a0.map encSToken)), (1, V.int a1), (7, .sl false false (a0.map encSToken)), (8, V.int (a0.length : Int)), (9, V.int y43), (10, V.bool (decide (y43 < (a0.length : Int))))], []⟩) (Weak.refl _) ?_
    refine CodeOk.seq' ?_
    refine CodeOk.block' ?_
    obtain ⟨e61, hx106, h93⟩ := bind_some h93
    refine CodeOk.cutR (tl 34 [(0, .sl false false (a0.map encSToken)), (1, V.int a1), (5, V.int y43), (6, .loc 162 0), (7, .sl false false (a0.map encSToken)), (8, V.int (a0.length : Int)), (9, V.int y43)]) [(162, .cells 46 [V.int e61.Kind, V.str e61.Text, V.int e61.At])] mix (by
        refine W.run D_ok 1 162 (by kernel_rfl) ?_
        refine W.ixD D_ok encSToken hx106 3 (by kernel_rfl) (by kernel_rfl) ?_
        refine W.run D_ok 4 162 (by kernel_rfl) ?_
        exact W.fin (by decide) (by kernel_rfl) (Weak.sel [(162, 162)] [0, 1, 5, 6, 7, 8, 9] (by kernel_rfl) (by kernel_rfl) (by kernel_rfl))
        ) ?_
    obtain ⟨y63, hv109, h93⟩ := bind_some h93
    refine CodeOk.cutR (tl 34 [(0, .sl false false (a0.map encSToken)), (1, V.int a1), (5, V.int y43), (7, .sl false false (a0.map encSToken)), (8, V.int (a0.length : Int)), (9, V.int y43), (29, V.bool y63)]) [] mix (by
        refine W.run D_ok 3 163 (by kernel_rfl) ?_
        obtain ⟨r64, hx110, hv109⟩ := bind_some hv109
        refine W.call0 (m_impl_within_ok e61.At 0 a1 hx110) cok52 rfl (by kernel_rfl) ?_
        refine W.run D_ok 2 163 (by kernel_rfl) ?_
        rcases cond_some hv109 with ⟨hc111, hv109⟩ | ⟨hc111, hv109⟩
        · refine W.is 19 hc111 (by kernel_rfl) ?_
          refine W.run D_ok 10 163 (by kernel_rfl) ?_
          have hv109 := Option.some.inj hv109
          subst hv109
          exact W.fin (by decide) (by kernel_rfl) (Weak.sel [] [0, 1, 5, 7, 8, 9, 29] (by kernel_rfl) (by kernel_rfl) (by kernel_rfl))
        · refine W.is 19 hc111 (by kernel_rfl) ?_
          refine W.run D_ok 10 163 (by kernel_rfl) ?_
          have hv109 := Option.some.inj hv109
          subst hv109
          exact W.fin (by decide) (by kernel_rfl) (Weak.sel [] [0, 1, 5, 7, 8, 9, 29] (by kernel_rfl) (by kernel_rfl) (by kernel_rfl))
        ) ?_
    rcases cond_some h93 with ⟨hc112, h93⟩ | ⟨hc112, h93⟩
    · refine CodeOk.ifT hc112 (by kernel_rfl) ?_
      refine CodeOk.cutR (tl 34 [(4, V.int y43)]) [] mix (by
          refine W.run D_ok 2 163 (by kernel_rfl) ?_
          exact W.fin (by decide) (by kernel_rfl) (Weak.sel [] [4] (by kernel_rfl) (by kernel_rfl) (by kernel_rfl))
          ) ?_
      refine CodeOk.ret ?_
      have h93 := Option.some.inj h93
      subst h93
      exact Ends.gen [] (.inr rfl) (RetV.one rfl (OneR.tmp (t := 4) (r := V.int y43) (by kernel_rfl))) (by kernel_rfl) (by kernel_rfl) (by kernel_rfl)
    · refine CodeOk.ifF hc112 (by kernel_rfl) ?_
      refine CodeOk.skip ?_
      refine CodeOk.weak (st' := ⟨tl 34 [(0, .sl false false (a0.map encSToken)), (1, V.int a1), (5, V.int y43), (7, .sl false false (a0.map encSToken)), (8, V.int (a0.length : Int)), (9, V.int y43), (29, V.bool y63)], []⟩) (Weak.refl _) ?_
      refine CodeOk.endR (tl 34 [(0, .sl false false (a0.map encSToken)), (1, V.int a1), (7, .sl false false (a0.map encSToken)), (8, V.int (a0.length : Int)), (9, V.int (IntKind.wrap .i64 (y43 + 1)))]) [] mix (by
          refine W.run D_ok 2 163 (by kernel_rfl) ?_
          exact W.fin (by decide) (by kernel_rfl) (Weak.sel [] [0, 1, 7, 8, 9] (by kernel_rfl) (by kernel_rfl) (by kernel_rfl))
          ) (fun st hw => ?_)
      exact ih94 (a0, a1, (IntKind.wrap .i64 (y43 + 1))) h93 _ (hw.trans (Weak.sel [] [0, 1, 7, 8, 9] (by kernel_rfl) (by kernel_rfl) (by kernel_rfl)))
  · refine CodeOk.ifF hc96 (by kernel_rfl) ?_
    refine CodeOk.exit ?_
    refine CodeOk.weak (st' := ⟨tl 34 [(0, .sl false false (a0.map encSToken)), (1, V.int a1), (7, .sl false false (a0.map encSToken)), (8, V.int (a0.length : Int)), (9, V.int y43), (10, V.bool (decide (y43 < (a0.length : Int))))], []⟩) (Weak.refl _) ?_
    refine CodeOk.cutR (tl 34 [(4, V.int (a0.length : Int))]) [] mix (by
        refine W.run D_ok 1 162 (by kernel_rfl) ?_
        refine W.len D_ok encSToken a0 [] (by kernel_rfl) (by kernel_rfl) ?_
        refine W.run D_ok 1 162 (by kernel_rfl) ?_
        exact W.fin (by decide) (by kernel_rfl) (Weak.sel [] [4] (by kernel_rfl) (by kernel_rfl) (by kernel_rfl))
        ) ?_
    refine CodeOk.ret ?_
    have h93 := Option.some.inj h93
    subst h93
    exact Ends.gen [] (.inr rfl) (RetV.one rfl (OneR.tmp (t := 4) (r := V.int (a0.length : Int)) (by kernel_rfl))) (by kernel_rfl) (by kernel_rfl) (by kernel_rfl)

theorem m_slices_Clone_Token_nil : AC Tryd.prog (GS []) 32 [.c (.slice none 0 0)] [] (.own 100) [(100, .vec false 46 3 (([] : List SToken).map encSToken))] := by
  refine AC.enter Tryd.func32 rfl ?_
  refine CodeOk.cutR (tl 8 [(0, .c (.slice none 0 0))]) [] mix (by
      refine W.run D_ok 1 100 (by kernel_rfl) ?_
      exact W.fin (by decide) (by kernel_rfl) (Weak.sel [] [0] (by kernel_rfl) (by kernel_rfl) (by kernel_rfl))
      ) ?_
  refine CodeOk.seq' ?_
  refine CodeOk.cutR (tl 8 [(0, .c (.slice none 0 0)), (4, V.bool true)]) [] mix (by
      refine W.run D_ok 1 100 (by kernel_rfl) ?_
      refine W.nilEq D_ok true (by kernel_rfl) ?_
      exact W.fin (by decide) (by kernel_rfl) (Weak.sel [] [0, 4] (by kernel_rfl) (by kernel_rfl) (by kernel_rfl))
      ) ?_
  refine CodeOk.ifT (c := true) rfl (by kernel_rfl) ?_
  refine CodeOk.cutR (tl 8 [(2, .c (.slice none 0 0))]) [] mix (by
      refine W.run D_ok 1 100 (by kernel_rfl) ?_
      exact W.fin (by decide) (by kernel_rfl) (Weak.sel [] [2] (by kernel_rfl) (by kernel_rfl) (by kernel_rfl))
      ) ?_
  refine CodeOk.weak (Weak.nil 2 101 46 3 (by kernel_rfl) (by kernel_rfl)) ?_
  refine CodeOk.ret ?_
  exact Ends.gen [(101, 100)] (.inr rfl) (RetV.one rfl (OneR.tmp (t := 2) (r := .own 101) (by kernel_rfl))) (by kernel_rfl) (by kernel_rfl) (by kernel_rfl)

theorem m_slices_Clone_Token_nn (a0 : List SToken) {r : (List SToken)} (hx2 : app 32 [] a0 = some r) :
    AC Tryd.prog (GS []) 32 [.sl true false (a0.map encSToken)] [] (.own 100) [(100, .vec false 46 3 (r.map encSToken))] := by
  refine AC.enter Tryd.func32 rfl ?_
  refine CodeOk.cutR (tl 8 [(0, .sl true false (a0.map encSToken))]) [] mix (by
      refine W.run D_ok 1 100 (by kernel_rfl) ?_
      exact W.fin (by decide) (by kernel_rfl) (Weak.sel [] [0] (by kernel_rfl) (by kernel_rfl) (by kernel_rfl))
      ) ?_
  refine CodeOk.seq' ?_
  refine CodeOk.cutR (tl 8 [(0, .sl true false (a0.map encSToken)), (4, V.bool false)]) [] mix (by
      refine W.run D_ok 1 100 (by kernel_rfl) ?_
      refine W.nilEq D_ok false (by kernel_rfl) ?_
      exact W.fin (by decide) (by kernel_rfl) (Weak.sel [] [0, 4] (by kernel_rfl) (by kernel_rfl) (by kernel_rfl))
      ) ?_
  refine CodeOk.ifF (c := false) rfl (by kernel_rfl) ?_
  refine CodeOk.skip ?_
  refine CodeOk.weak (st' := ⟨tl 8 [(0, .sl true false (a0.map encSToken)), (4, V.bool false)], []⟩) (Weak.refl _) ?_
  refine CodeOk.cutR (tl 8 [(2, .own 101)]) [(101, .vec false 46 3 (r.map encSToken))] mix (by
      refine W.run D_ok 2 100 (by kernel_rfl) ?_
      refine W.appD D_ok encSToken (a := 100) (el := 46) 32 hx2 rfl 101 3 (fun _ => by first | rfl | kernel_rfl) (by kernel_rfl) ?_
      refine W.run D_ok 1 102 (by kernel_rfl) ?_
      exact W.fin (by decide) (by kernel_rfl) (Weak.sel [(101, 101)] [2] (by kernel_rfl) (by kernel_rfl) (by kernel_rfl))
      ) ?_
  refine CodeOk.ret ?_
  exact Ends.gen [(101, 100)] (.inr rfl) (RetV.one rfl (OneR.tmp (t := 2) (r := .own 101) (by kernel_rfl))) (by kernel_rfl) (by kernel_rfl) (by kernel_rfl)

theorem m_slices_Clone_Token_ok (a0 : List SToken) {r : (List SToken)} (h : m_slices_Clone_Token a0 = some r) :
    AC Tryd.prog (GS []) 32 [.sl false false (a0.map encSToken)] [] (.own 100) [(100, .vec false 46 3 (r.map encSToken))] := by
  rw [m_slices_Clone_Token] at h
  obtain ⟨x2, h2, h⟩ := bind_some h
  have h := Option.some.inj h
  subst h
  refine AC.slCase (fun h0 => ?_) (m_slices_Clone_Token_nn a0 h2)
  have ha : a0 = [] := by simpa using h0
  subst ha
  have hr : x2 = [] := by
    rw [app_some (by simp)] at h2
    simpa using h2.symm
  subst hr
  exact m_slices_Clone_Token_nil

theorem m_impl_IsBlank_ok (a0 : Int) {r : Bool} (h : m_impl_IsBlank a0 = some r) :
    AC Tryd.prog (GS []) 53 [V.int a0] [] (V.bool r) [] := by
  rw [m_impl_IsBlank] at h
  refine AC.enter Tryd.func53 rfl ?_
  refine CodeOk.cutR (tl 9 [(0, V.int a0)]) [] mix (by
      refine W.run D_ok 1 100 (by kernel_rfl) ?_
      exact W.fin (by decide) (by kernel_rfl) (Weak.sel [] [0] (by kernel_rfl) (by kernel_rfl) (by kernel_rfl))
      ) ?_
  obtain ⟨y1, hv2, h⟩ := bind_some h
  refine CodeOk.cutR (tl 9 [(2, V.bool y1)]) [] mix (by
      refine W.run D_ok 3 100 (by kernel_rfl) ?_
      rcases cond_some hv2 with ⟨hc3, hv2⟩ | ⟨hc3, hv2⟩
      · refine W.is 5 hc3 (by kernel_rfl) ?_
        refine W.run D_ok 4 100 (by kernel_rfl) ?_
        have hv2 := Option.some.inj hv2
        subst hv2
        exact W.fin (by decide) (by kernel_rfl) (Weak.sel [] [2] (by kernel_rfl) (by kernel_rfl) (by kernel_rfl))
      · refine W.is 5 hc3 (by kernel_rfl) ?_
        refine W.run D_ok 4 100 (by kernel_rfl) ?_
        have hv2 := Option.some.inj hv2
        subst hv2
        exact W.fin (by decide) (by kernel_rfl) (Weak.sel [] [2] (by kernel_rfl) (by kernel_rfl) (by kernel_rfl))
      ) ?_
  refine CodeOk.ret ?_
  have h := Option.some.inj h
  subst h
  exact Ends.gen [] (.inr rfl) (RetV.one rfl (OneR.tmp (t := 2) (r := V.bool y1) (by kernel_rfl))) (by kernel_rfl) (by kernel_rfl) (by kernel_rfl)

theorem m_strings_IndexByte_ok (a0 : List UInt8) (a1 : Int) {r : Int} (h : m_strings_IndexByte a0 a1 = some r) :
    AC Tryd.prog (GS []) 88 [V.str a0, .c (.int .u8 a1)] [] (V.int r) [] := by
  rw [m_strings_IndexByte] at h
  refine AC.enter Tryd.func88 rfl ?_
  refine CodeOk.cutR (tl 8 [(0, V.str a0), (1, .c (.int .u8 a1))]) [] mix (by
      refine W.run D_ok 1 100 (by kernel_rfl) ?_
      exact W.fin (by decide) (by kernel_rfl) (Weak.sel [] [0, 1] (by kernel_rfl) (by kernel_rfl) (by kernel_rfl))
      ) ?_
  obtain ⟨r2, hx2, h⟩ := bind_some h
  refine CodeOk.cutR (tl 8 [(4, V.int r2)]) [] mix (by
      refine W.run D_ok 2 100 (by kernel_rfl) ?_
      refine W.call0 (m_stringslite_IndexByte_ok a0 a1 hx2) cok126 rfl (by kernel_rfl) ?_
      refine W.run D_ok 1 100 (by kernel_rfl) ?_
      exact W.fin (by decide) (by kernel_rfl) (Weak.sel [] [4] (by kernel_rfl) (by kernel_rfl) (by kernel_rfl))
      ) ?_
  refine CodeOk.ret ?_
  have h := Option.some.inj h
  subst h
  exact Ends.gen [] (.inr rfl) (RetV.one rfl (OneR.tmp (t := 4) (r := V.int r2) (by kernel_rfl))) (by kernel_rfl) (by kernel_rfl) (by kernel_rfl)

theorem m_impl_NameEnd_ok (N : Nat) (a0 : List UInt8) (a1 : Int) {r : Int} (h : m_impl_NameEnd N a0 a1 = some r) :
    AC Tryd.prog (GS []) 91 [V.str a0, V.int a1] [] (V.int r) [] := by
  rw [m_impl_NameEnd] at h
  refine AC.enter Tryd.func91 rfl ?_
  refine CodeOk.cutR (tl 17 [(0, V.str a0), (1, V.int a1)]) [] mix (by
      refine W.run D_ok 1 100 (by kernel_rfl) ?_
      exact W.fin (by decide) (by kernel_rfl) (Weak.sel [] [0, 1] (by kernel_rfl) (by kernel_rfl) (by kernel_rfl))
      ) ?_
  refine CodeOk.seq' ?_
  obtain ⟨r7, hx8, h⟩ := bind_some h
  obtain ⟨r8, hx9, h⟩ := bind_some h
  refine CodeOk.cutR (tl 17 [(0, V.str a0), (1, V.int a1), (9, V.bool (!r8))]) [] mix (by
      refine W.run D_ok 2 100 (by kernel_rfl) ?_
      refine W.call0 (m_impl_byteAt_ok a0 a1 hx8) cok54 rfl (by kernel_rfl) ?_
      refine W.call0 (m_impl_IsLetter_ok r7 hx9) cok90 rfl (by kernel_rfl) ?_
      refine W.run D_ok 1 100 (by kernel_rfl) ?_
      exact W.fin (by decide) (by kernel_rfl) (Weak.sel [] [0, 1, 9] (by kernel_rfl) (by kernel_rfl) (by kernel_rfl))
      ) ?_
  rcases cond_some h with ⟨hc10, h⟩ | ⟨hc10, h⟩
  · refine CodeOk.ifT hc10 (by kernel_rfl) ?_
    refine CodeOk.cutR (tl 17 [(4, V.int (-1))]) [] mix (by
        refine W.run D_ok 1 100 (by kernel_rfl) ?_
        exact W.fin (by decide) (by kernel_rfl) (Weak.sel [] [4] (by kernel_rfl) (by kernel_rfl) (by kernel_rfl))
        ) ?_
    refine CodeOk.ret ?_
    have h := Option.some.inj h
    subst h
    exact Ends.gen [] (.inr rfl) (RetV.one rfl (OneR.tmp (t := 4) (r := V.int (-1)) (by kernel_rfl))) (by kernel_rfl) (by kernel_rfl) (by kernel_rfl)
  · refine CodeOk.ifF hc10 (by kernel_rfl) ?_
    refine CodeOk.skip ?_
    refine CodeOk.weak (st' := ⟨tl 17 [(0, V.str a0), (1, V.int a1), (9, V.bool (!r8))], []⟩) (Weak.refl _) ?_
    refine CodeOk.seq' ?_
    refine CodeOk.block' ?_
    refine CodeOk.loopJ (fun (⟨a0, a1⟩ : ((List UInt8) × Int)) => ⟨tl 17 [(0, V.str a0), (1, V.int a1)], []⟩) (fun n i => m_impl_NameEnd_l1 N n i = some r) (n0 := N) (i0 := (a0, a1)) (Weak.sel [] [0, 1] (by kernel_rfl) (by kernel_rfl) (by kernel_rfl)) h (fun i h => by simp [m_impl_NameEnd_l1] at h) ?_
    rintro n1 ⟨a0, a1⟩ h43 ih44
    rw [m_impl_NameEnd_l1] at h43
    refine CodeOk.seq' ?_
    obtain ⟨r41, hx52, h43⟩ := bind_some h43
    obtain ⟨r42, hx53, h43⟩ := bind_some h43
    refine CodeOk.cutR (tl 17 [(0, V.str a0), (1, V.int a1), (13, V.bool r42)]) [] mix (by
        refine W.run D_ok 2 140 (by kernel_rfl) ?_
        refine W.call0 (m_impl_byteAt_ok a0 a1 hx52) cok54 rfl (by kernel_rfl) ?_
        refine W.call0 (m_impl_IsWordByte_ok r41 hx53) cok127 rfl (by kernel_rfl) ?_
        exact W.fin (by decide) (by kernel_rfl) (Weak.sel [] [0, 1, 13] (by kernel_rfl) (by kernel_rfl) (by kernel_rfl))
        ) ?_
    rcases cond_some h43 with ⟨hc54, h43⟩ | ⟨hc54, h43⟩
    · refine CodeOk.ifT hc54 (by kernel_rfl) ?_
      refine CodeOk.skip ?_
      refine CodeOk.weak (st' := ⟨tl 17 [(0, V.str a0), (1, V.int a1), (13, V.bool r42)], []⟩) (Weak.refl _) ?_
      refine CodeOk.block' ?_
      refine CodeOk.endR (tl 17 [(0, V.str a0), (1, V.int (IntKind.wrap .i64 (a1 + 1)))]) [] mix (by
          refine W.run D_ok 3 140 (by kernel_rfl) ?_
          exact W.fin (by decide) (by kernel_rfl) (Weak.sel [] [0, 1] (by kernel_rfl) (by kernel_rfl) (by kernel_rfl))
          ) (fun st hw => ?_)
      exact ih44 (a0, (IntKind.wrap .i64 (a1 + 1))) h43 _ (hw.trans (Weak.sel [] [0, 1] (by kernel_rfl) (by kernel_rfl) (by kernel_rfl)))
    · refine CodeOk.ifF hc54 (by kernel_rfl) ?_
      refine CodeOk.exit ?_
      refine CodeOk.weak (st' := ⟨tl 17 [(0, V.str a0), (1, V.int a1), (13, V.bool r42)], []⟩) (Weak.refl _) ?_
      refine CodeOk.cutR (tl 17 [(4, V.int a1)]) [] mix (by
          refine W.run D_ok 2 140 (by kernel_rfl) ?_
          exact W.fin (by decide) (by kernel_rfl) (Weak.sel [] [4] (by kernel_rfl) (by kernel_rfl) (by kernel_rfl))
          ) ?_
      refine CodeOk.ret ?_
      have h43 := Option.some.inj h43
      subst h43
      exact Ends.gen [] (.inr rfl) (RetV.one rfl (OneR.tmp (t := 4) (r := V.int a1) (by kernel_rfl))) (by kernel_rfl) (by kernel_rfl) (by kernel_rfl)

theorem m_impl_wordToken_ok (N : Nat) (a0 : List UInt8) (a1 : Int) (a2 : Int) {r : SToken} (h : m_impl_wordToken N a0 a1 a2 = some r) :
    AC Tryd.prog (GS [0, 1]) 93 [V.str a0, V.int a1, V.int a2] [] (.agg [V.int r.Kind, V.str r.Text, V.int r.At]) [] := by
  rw [m_impl_wordToken] at h
  refine AC.enter Tryd.func93 rfl ?_
  refine CodeOk.cutR (tl 38 [(0, V.str a0), (1, V.int a1), (2, V.int a2), (6, .loc 100 0)]) [(100, .cells 46 [V.int 0, V.str [], V.int 0])] mix (by
      refine W.run D_ok 1 100 (by kernel_rfl) ?_
      exact W.fin (by decide) (by kernel_rfl) (Weak.sel [(100, 100)] [0, 1, 2, 6] (by kernel_rfl) (by kernel_rfl) (by kernel_rfl))
      ) ?_
  obtain ⟨s2, hx2, h⟩ := bind_some h
  refine CodeOk.cutR (tl 38 [(0, V.str a0), (1, V.int a1), (2, V.int a2), (6, .loc 100 0), (7, V.str s2)]) [(100, .cells 46 [V.int 0, V.str [], V.int 0])] mix (by
      refine W.run D_ok 3 101 (by kernel_rfl) ?_
      refine W.cutS D_ok hx2 (by kernel_rfl) ?_
      refine W.run D_ok 1 101 (by kernel_rfl) ?_
      exact W.fin (by decide) (by kernel_rfl) (Weak.sel [(100, 100)] [0, 1, 2, 6, 7] (by kernel_rfl) (by kernel_rfl) (by kernel_rfl))
      ) ?_
  refine CodeOk.seq' ?_
  refine CodeOk.block' ?_
  obtain ⟨r12, hx15, h⟩ := bind_some h
  refine CodeOk.cutR (tl 38 [(0, V.str a0), (1, V.int a1), (2, V.int a2), (6, .loc 100 0), (7, V.str s2), (12, V.bool (r12 != 0))]) [(100, .cells 46 [V.int 0, V.str [], V.int 0])] mix (by
      refine W.run D_ok 1 101 (by kernel_rfl) ?_
      refine W.call0 (AC.gs (m_impl_KeywordOf_ok N s2 hx15) (by decide)) cok121 rfl (by kernel_rfl) ?_
      refine W.run D_ok 2 101 (by kernel_rfl) ?_
      exact W.fin (by decide) (by kernel_rfl) (Weak.sel [(100, 100)] [0, 1, 2, 6, 7, 12] (by kernel_rfl) (by kernel_rfl) (by kernel_rfl))
      ) ?_
  rcases cond_some h with ⟨hc16, h⟩ | ⟨hc16, h⟩
  · refine CodeOk.ifT hc16 (by kernel_rfl) ?_
    obtain ⟨r14, hx18, h⟩ := bind_some h
    refine CodeOk.cutR (tl 38 [(6, .loc 100 0)]) [(100, .cells 46 [V.int r14, V.str s2, V.int a1])] mix (by
        refine W.run D_ok 1 101 (by kernel_rfl) ?_
        refine W.call0 (AC.gs (m_impl_KeywordOf_ok N s2 hx18) (by decide)) cok121 rfl (by kernel_rfl) ?_
        refine W.run D_ok 4 101 (by kernel_rfl) ?_
        exact W.fin (by decide) (by kernel_rfl) (Weak.sel [(100, 100)] [6] (by kernel_rfl) (by kernel_rfl) (by kernel_rfl))
        ) ?_
    refine CodeOk.ret ?_
    have h := Option.some.inj h
    subst h
    exact Ends.gen [] (.inr rfl) (RetV.one rfl (OneR.cell D_ok (r := .agg [V.int r14, V.str s2, V.int a1]) (i := 100) (ety := 46) (cs := [V.int r14, V.str s2, V.int a1]) (by kernel_rfl) (by kernel_rfl) (by kernel_rfl))) (by kernel_rfl) (by kernel_rfl) (by kernel_rfl)
  · refine CodeOk.ifF hc16 (by kernel_rfl) ?_
    obtain ⟨r16, hx20, h⟩ := bind_some h
    refine CodeOk.cutR (tl 38 [(0, V.str a0), (1, V.int a1), (2, V.int a2), (6, .loc 100 0), (7, V.str s2), (21, V.bool r16)]) [(100, .cells 46 [V.int 0, V.str [], V.int 0])] mix (by
        refine W.run D_ok 1 101 (by kernel_rfl) ?_
        refine W.call0 (AC.gs (m_impl_IsBuiltin_ok N s2 hx20) (by decide)) cok80 rfl (by kernel_rfl) ?_
        refine W.run D_ok 1 101 (by kernel_rfl) ?_
        exact W.fin (by decide) (by kernel_rfl) (Weak.sel [(100, 100)] [0, 1, 2, 6, 7, 21] (by kernel_rfl) (by kernel_rfl) (by kernel_rfl))
        ) ?_
    rcases cond_some h with ⟨hc21, h⟩ | ⟨hc21, h⟩
    · refine CodeOk.ifT hc21 (by kernel_rfl) ?_
      refine CodeOk.cutR (tl 38 [(6, .loc 100 0)]) [(100, .cells 46 [V.int 8, V.str s2, V.int a1])] mix (by
          refine W.run D_ok 4 101 (by kernel_rfl) ?_
          exact W.fin (by decide) (by kernel_rfl) (Weak.sel [(100, 100)] [6] (by kernel_rfl) (by kernel_rfl) (by kernel_rfl))
          ) ?_
      refine CodeOk.ret ?_
      have h := Option.some.inj h
      subst h
      exact Ends.gen [] (.inr rfl) (RetV.one rfl (OneR.cell D_ok (r := .agg [V.int 8, V.str s2, V.int a1]) (i := 100) (ety := 46) (cs := [V.int 8, V.str s2, V.int a1]) (by kernel_rfl) (by kernel_rfl) (by kernel_rfl))) (by kernel_rfl) (by kernel_rfl) (by kernel_rfl)
    · refine CodeOk.ifF hc21 (by kernel_rfl) ?_
      obtain ⟨r18, hx23, h⟩ := bind_some h
      refine CodeOk.cutR (tl 38 [(1, V.int a1), (6, .loc 100 0), (7, V.str s2), (27, V.bool (r18 == 40))]) [(100, .cells 46 [V.int 0, V.str [], V.int 0])] mix (by
          refine W.run D_ok 2 101 (by kernel_rfl) ?_
          refine W.call0 (AC.gs (m_impl_byteAt_ok a0 a2 hx23) (by decide)) cok54 rfl (by kernel_rfl) ?_
          refine W.run D_ok 2 101 (by kernel_rfl) ?_
          exact W.fin (by decide) (by kernel_rfl) (Weak.sel [(100, 100)] [1, 6, 7, 27] (by kernel_rfl) (by kernel_rfl) (by kernel_rfl))
          ) ?_
      rcases cond_some h with ⟨hc24, h⟩ | ⟨hc24, h⟩
      · refine CodeOk.ifT hc24 (by kernel_rfl) ?_
        refine CodeOk.cutR (tl 38 [(6, .loc 100 0)]) [(100, .cells 46 [V.int 7, V.str s2, V.int a1])] mix (by
            refine W.run D_ok 4 101 (by kernel_rfl) ?_
            exact W.fin (by decide) (by kernel_rfl) (Weak.sel [(100, 100)] [6] (by kernel_rfl) (by kernel_rfl) (by kernel_rfl))
            ) ?_
        refine CodeOk.ret ?_
        have h := Option.some.inj h
        subst h
        exact Ends.gen [] (.inr rfl) (RetV.one rfl (OneR.cell D_ok (r := .agg [V.int 7, V.str s2, V.int a1]) (i := 100) (ety := 46) (cs := [V.int 7, V.str s2, V.int a1]) (by kernel_rfl) (by kernel_rfl) (by kernel_rfl))) (by kernel_rfl) (by kernel_rfl) (by kernel_rfl)
      · refine CodeOk.ifF hc24 (by kernel_rfl) ?_
        refine CodeOk.skip ?_
        refine CodeOk.weak (st' := ⟨tl 38 [(1, V.int a1), (6, .loc 100 0), (7, V.str s2), (27, V.bool (r18 == 40))], [(100, .cells 46 [V.int 0, V.str [], V.int 0])]⟩) (Weak.refl _) ?_
        refine CodeOk.cutR (tl 38 [(6, .loc 100 0)]) [(100, .cells 46 [V.int 6, V.str s2, V.int a1])] mix (by
            refine W.run D_ok 4 101 (by kernel_rfl) ?_
            exact W.fin (by decide) (by kernel_rfl) (Weak.sel [(100, 100)] [6] (by kernel_rfl) (by kernel_rfl) (by kernel_rfl))
            ) ?_
        refine CodeOk.ret ?_
        have h := Option.some.inj h
        subst h
        exact Ends.gen [] (.inr rfl) (RetV.one rfl (OneR.cell D_ok (r := .agg [V.int 6, V.str s2, V.int a1]) (i := 100) (ety := 46) (cs := [V.int 6, V.str s2, V.int a1]) (by kernel_rfl) (by kernel_rfl) (by kernel_rfl))) (by kernel_rfl) (by kernel_rfl) (by kernel_rfl)

theorem m_stringslite_HasPrefix_ok (a0 : List UInt8) (a1 : List UInt8) {r : Bool} (h : m_stringslite_HasPrefix a0 a1 = some r) :
    AC Tryd.prog (GS []) 137 [V.str a0, V.str a1] [] (V.bool r) [] := by
  rw [m_stringslite_HasPrefix] at h
  refine AC.enter Tryd.func137 rfl ?_
  refine CodeOk.cutR (tl 18 [(0, V.str a0), (1, V.str a1)]) [] mix (by
      refine W.run D_ok 1 100 (by kernel_rfl) ?_
      exact W.fin (by decide) (by kernel_rfl) (Weak.sel [] [0, 1] (by kernel_rfl) (by kernel_rfl) (by kernel_rfl))
      ) ?_
  obtain ⟨y2, hv3, h⟩ := bind_some h
  refine CodeOk.cutR (tl 18 [(4, V.bool y2)]) [] mix (by
      refine W.run D_ok 6 100 (by kernel_rfl) ?_
      rcases cond_some hv3 with ⟨hc4, hv3⟩ | ⟨hc4, hv3⟩
      · refine W.is 10 hc4 (by kernel_rfl) ?_
        refine W.run D_ok 3 100 (by kernel_rfl) ?_
        obtain ⟨s3, hx5, hv3⟩ := bind_some hv3
        refine W.cutS D_ok hx5 (by kernel_rfl) ?_
        refine W.run D_ok 4 100 (by kernel_rfl) ?_
        have hv3 := Option.some.inj hv3
        subst hv3
        exact W.fin (by decide) (by kernel_rfl) (Weak.sel [] [4] (by kernel_rfl) (by kernel_rfl) (by kernel_rfl))
      · refine W.is 10 hc4 (by kernel_rfl) ?_
        refine W.run D_ok 8 100 (by kernel_rfl) ?_
        have hv3 := Option.some.inj hv3
        subst hv3
        exact W.fin (by decide) (by kernel_rfl) (Weak.sel [] [4] (by kernel_rfl) (by kernel_rfl) (by kernel_rfl))
      ) ?_
  refine CodeOk.ret ?_
  have h := Option.some.inj h
  subst h
  exact Ends.gen [] (.inr rfl) (RetV.one rfl (OneR.tmp (t := 4) (r := V.bool y2) (by kernel_rfl))) (by kernel_rfl) (by kernel_rfl) (by kernel_rfl)

theorem m_strings_HasPrefix_ok (a0 : List UInt8) (a1 : List UInt8) {r : Bool} (h : m_strings_HasPrefix a0 a1 = some r) :
    AC Tryd.prog (GS []) 128 [V.str a0, V.str a1] [] (V.bool r) [] := by
  rw [m_strings_HasPrefix] at h
  refine AC.enter Tryd.func128 rfl ?_
  refine CodeOk.cutR (tl 8 [(0, V.str a0), (1, V.str a1)]) [] mix (by
      refine W.run D_ok 1 100 (by kernel_rfl) ?_
      exact W.fin (by decide) (by kernel_rfl) (Weak.sel [] [0, 1] (by kernel_rfl) (by kernel_rfl) (by kernel_rfl))
      ) ?_
  obtain ⟨r2, hx2, h⟩ := bind_some h
  refine CodeOk.cutR (tl 8 [(4, V.bool r2)]) [] mix (by
      refine W.run D_ok 2 100 (by kernel_rfl) ?_
      refine W.call0 (m_stringslite_HasPrefix_ok a0 a1 hx2) cok137 rfl (by kernel_rfl) ?_
      refine W.run D_ok 1 100 (by kernel_rfl) ?_
      exact W.fin (by decide) (by kernel_rfl) (Weak.sel [] [4] (by kernel_rfl) (by kernel_rfl) (by kernel_rfl))
      ) ?_
  refine CodeOk.ret ?_
  have h := Option.some.inj h
  subst h
  exact Ends.gen [] (.inr rfl) (RetV.one rfl (OneR.tmp (t := 4) (r := V.bool r2) (by kernel_rfl))) (by kernel_rfl) (by kernel_rfl) (by kernel_rfl)

theorem m_impl_OpAt_ok (N : Nat) (a0 : List UInt8) (a1 : Int) {r : (Int × Int)} (h : m_impl_OpAt N a0 a1 = some r) :
    AC Tryd.prog (GS [2]) 94 [V.str a0, V.int a1] [] (.tup [V.int r.1, V.int r.2]) [] := by
  rw [m_impl_OpAt] at h
  refine AC.enter Tryd.func94 rfl ?_
  refine CodeOk.cutR (tl 39 [(0, V.str a0), (1, V.int a1)]) [] mix (by
      refine W.run D_ok 2 100 (by kernel_rfl) ?_
      exact W.fin (by decide) (by kernel_rfl) (Weak.sel [] [0, 1] (by kernel_rfl) (by kernel_rfl) (by kernel_rfl))
      ) ?_
  refine CodeOk.seq' ?_
  obtain ⟨r4, hx5, h⟩ := bind_some h
  refine CodeOk.cutR (tl 39 [(0, V.str a0), (1, V.int a1), (15, V.bool (!r4))]) [] mix (by
      refine W.run D_ok 4 100 (by kernel_rfl) ?_
      refine W.call0 (AC.gs (m_impl_within_ok a1 0 (IntKind.wrap .i64 ((a0.length : Int) - 1)) hx5) (by decide)) cok52 rfl (by kernel_rfl) ?_
      refine W.run D_ok 1 100 (by kernel_rfl) ?_
      exact W.fin (by decide) (by kernel_rfl) (Weak.sel [] [0, 1, 15] (by kernel_rfl) (by kernel_rfl) (by kernel_rfl))
      ) ?_
  rcases cond_some h with ⟨hc6, h⟩ | ⟨hc6, h⟩
  · refine CodeOk.ifT hc6 (by kernel_rfl) ?_
    refine CodeOk.cutR (tl 39 [(4, V.int 0), (5, V.int 0)]) [] mix (by
        refine W.run D_ok 2 100 (by kernel_rfl) ?_
        exact W.fin (by decide) (by kernel_rfl) (Weak.sel [] [4, 5] (by kernel_rfl) (by kernel_rfl) (by kernel_rfl))
        ) ?_
    refine CodeOk.ret ?_
    have h := Option.some.inj h
    subst h
    exact Ends.gen [] (.inr rfl) (RetV.two rfl (OneR.tmp (t := 4) (r := V.int 0) (by kernel_rfl)) (OneR.tmp (t := 5) (r := V.int 0) (by kernel_rfl))) (by kernel_rfl) (by kernel_rfl) (by kernel_rfl)
  · refine CodeOk.ifF hc6 (by kernel_rfl) ?_
    refine CodeOk.skip ?_
    refine CodeOk.weak (st' := ⟨tl 39 [(0, V.str a0), (1, V.int a1), (15, V.bool (!r4))], []⟩) (Weak.refl _) ?_
    refine CodeOk.cutR (tl 39 [(0, V.str a0), (1, V.int a1), (6, V.int 0), (7, V.int 0)]) [] mix (by
        refine W.run D_ok 2 100 (by kernel_rfl) ?_
        exact W.fin (by decide) (by kernel_rfl) (Weak.sel [] [0, 1, 6, 7] (by kernel_rfl) (by kernel_rfl) (by kernel_rfl))
        ) ?_
    refine CodeOk.seq' ?_
    refine CodeOk.cutR (tl 39 [(0, V.str a0), (1, V.int a1), (6, V.int 0), (7, V.int 0), (16, .agg (tab_signs.map V.str)), (17, V.int 0)]) [] mix (by
        refine W.run D_ok 2 100 (by kernel_rfl) ?_
        exact W.fin (by decide) (by kernel_rfl) (Weak.sel [] [0, 1, 6, 7, 16, 17] (by kernel_rfl) (by kernel_rfl) (by kernel_rfl))
        ) ?_
    refine CodeOk.block' ?_
    refine CodeOk.loopJ (fun (⟨a0, a1, y75, y76, y77⟩ : ((List UInt8) × Int × Int × Int × Int)) => ⟨tl 39 [(0, V.str a0), (1, V.int a1), (6, V.int y75), (7, V.int y76), (16, .agg (tab_signs.map V.str)), (17, V.int y77)], []⟩) (fun n i => m_impl_OpAt_l1 N n i = some r) (n0 := N) (i0 := (a0, a1, 0, 0, 0)) (Weak.sel [] [0, 1, 6, 7, 16, 17] (by kernel_rfl) (by kernel_rfl) (by kernel_rfl)) h (fun i h => by simp [m_impl_OpAt_l1] at h) ?_
    rintro n1 ⟨a0, a1, y75, y76, y77⟩ h125 ih126
    rw [m_impl_OpAt_l1] at h125
    refine CodeOk.cutR (tl 39 [(0, V.str a0), (1, V.int a1), (6, V.int y75), (7, V.int y76), (16, .agg (tab_signs.map V.str)), (17, V.int y77), (18, V.bool (decide (y77 < 39)))]) [] mix (by
        refine W.run D_ok 1 160 (by kernel_rfl) ?_
        exact W.fin (by decide) (by kernel_rfl) (Weak.sel [] [0, 1, 6, 7, 16, 17, 18] (by kernel_rfl) (by kernel_rfl) (by kernel_rfl))
        ) ?_
    refine CodeOk.seq' ?_
    rcases cond_some h125 with ⟨hc128, h125⟩ | ⟨hc128, h125⟩
    · refine CodeOk.ifT hc128 (by kernel_rfl) ?_
      refine CodeOk.skip ?_
      refine CodeOk.weak (st' := ⟨tl 39 [(0, V.str a0), (1, V.int a1), (6, V.int y75), (7, V.int y76), (16, .agg (tab_signs.map V.str)), (17, V.int y77), (18, V.bool (decide (y77 < 39)))], []⟩) (Weak.refl _) ?_
      refine CodeOk.join (fun (⟨a0, a1, y77, y104, y105⟩ : ((List UInt8) × Int × Int × Int × Int)) => ⟨tl 39 [(0, V.str a0), (1, V.int a1), (6, V.int y104), (7, V.int y105), (16, .agg (tab_signs.map V.str)), (17, V.int y77)], []⟩) (fun i => m_impl_OpAt_k2 N (m_impl_OpAt_l1 N n1) i = some r) ?_ ?_
      · rintro ⟨a0, a1, y77, y104, y105⟩ h139
        rw [m_impl_OpAt_k2] at h139
        refine CodeOk.endR (tl 39 [(0, V.str a0), (1, V.int a1), (6, V.int y104), (7, V.int y105), (16, .agg (tab_signs.map V.str)), (17, V.int (IntKind.wrap .i64 (y77 + 1)))]) [] mix (by
            refine W.run D_ok 2 160 (by kernel_rfl) ?_
            exact W.fin (by decide) (by kernel_rfl) (Weak.sel [] [0, 1, 6, 7, 16, 17] (by kernel_rfl) (by kernel_rfl) (by kernel_rfl))
            ) (fun st hw => ?_)
        exact ih126 (a0, a1, y104, y105, (IntKind.wrap .i64 (y77 + 1))) h139 _ (hw.trans (Weak.sel [] [0, 1, 6, 7, 16, 17] (by kernel_rfl) (by kernel_rfl) (by kernel_rfl)))
      intro hk140
      refine CodeOk.block' ?_
      obtain ⟨e107, hx142, h125⟩ := bind_some h125
      refine CodeOk.cutR (tl 39 [(0, V.str a0), (1, V.int a1), (6, V.int y75), (7, V.int y76), (8, V.int y77), (9, V.str e107), (16, .agg (tab_signs.map V.str)), (17, V.int y77)]) [] mix (by
          refine W.run D_ok 1 160 (by kernel_rfl) ?_
          refine W.ixA D_ok V.str (l := tab_signs) hx142 (by kernel_rfl) ?_
          refine W.run D_ok 2 160 (by kernel_rfl) ?_
          exact W.fin (by decide) (by kernel_rfl) (Weak.sel [] [0, 1, 6, 7, 8, 9, 16, 17] (by kernel_rfl) (by kernel_rfl) (by kernel_rfl))
          ) ?_
      obtain ⟨y110, hv146, h125⟩ := bind_some h125
      refine CodeOk.cutR (tl 39 [(0, V.str a0), (1, V.int a1), (6, V.int y75), (7, V.int y76), (8, V.int y77), (9, V.str e107), (16, .agg (tab_signs.map V.str)), (17, V.int y77), (31, V.bool y110)]) [] mix (by
          refine W.run D_ok 5 160 (by kernel_rfl) ?_
          rcases cond_some hv146 with ⟨hc147, hv146⟩ | ⟨hc147, hv146⟩
          · refine W.is 25 hc147 (by kernel_rfl) ?_
            refine W.run D_ok 2 160 (by kernel_rfl) ?_
            obtain ⟨s111, hx148, hv146⟩ := bind_some hv146
            refine W.cutS D_ok hx148 (by kernel_rfl) ?_
            refine W.run D_ok 1 160 (by kernel_rfl) ?_
            obtain ⟨r112, hx149, hv146⟩ := bind_some hv146
            refine W.call0 (AC.gs (m_strings_HasPrefix_ok s111 e107 hx149) (by decide)) cok128 rfl (by kernel_rfl) ?_
            refine W.run D_ok 1 160 (by kernel_rfl) ?_
            have hv146 := Option.some.inj hv146
            subst hv146
            exact W.fin (by decide) (by kernel_rfl) (Weak.sel [] [0, 1, 6, 7, 8, 9, 16, 17, 31] (by kernel_rfl) (by kernel_rfl) (by kernel_rfl))
          · refine W.is 25 hc147 (by kernel_rfl) ?_
            refine W.run D_ok 6 160 (by kernel_rfl) ?_
            have hv146 := Option.some.inj hv146
            subst hv146
            exact W.fin (by decide) (by kernel_rfl) (Weak.sel [] [0, 1, 6, 7, 8, 9, 16, 17, 31] (by kernel_rfl) (by kernel_rfl) (by kernel_rfl))
          ) ?_
      rcases cond_some h125 with ⟨hc150, h125⟩ | ⟨hc150, h125⟩
      · refine CodeOk.ifT hc150 (by kernel_rfl) ?_
        refine CodeOk.endR (tl 39 [(0, V.str a0), (1, V.int a1), (6, V.int (IntKind.wrap .i64 (30 + y77))), (7, V.int (e107.length : Int)), (16, .agg (tab_signs.map V.str)), (17, V.int y77)]) [] mix (by
            refine W.run D_ok 6 160 (by kernel_rfl) ?_
            exact W.fin (by decide) (by kernel_rfl) (Weak.sel [] [0, 1, 6, 7, 16, 17] (by kernel_rfl) (by kernel_rfl) (by kernel_rfl))
            ) (fun st hw => ?_)
        exact hk140 (a0, a1, y77, (IntKind.wrap .i64 (30 + y77)), (e107.length : Int)) h125 _ (hw.trans (Weak.sel [] [0, 1, 6, 7, 16, 17] (by kernel_rfl) (by kernel_rfl) (by kernel_rfl)))
      · refine CodeOk.ifF hc150 (by kernel_rfl) ?_
        refine CodeOk.skip ?_
        exact hk140 (a0, a1, y77, y75, y76) h125 _ (Weak.sel [] [0, 1, 6, 7, 16, 17] (by kernel_rfl) (by kernel_rfl) (by kernel_rfl))
    · refine CodeOk.ifF hc128 (by kernel_rfl) ?_
      refine CodeOk.exit ?_
      refine CodeOk.weak (st' := ⟨tl 39 [(0, V.str a0), (1, V.int a1), (6, V.int y75), (7, V.int y76), (16, .agg (tab_signs.map V.str)), (17, V.int y77), (18, V.bool (decide (y77 < 39)))], []⟩) (Weak.refl _) ?_
      refine CodeOk.cutR (tl 39 [(4, V.int y75), (5, V.int y76)]) [] mix (by
          refine W.run D_ok 4 160 (by kernel_rfl) ?_
          exact W.fin (by decide) (by kernel_rfl) (Weak.sel [] [4, 5] (by kernel_rfl) (by kernel_rfl) (by kernel_rfl))
          ) ?_
      refine CodeOk.ret ?_
      have h125 := Option.some.inj h125
      subst h125
      exact Ends.gen [] (.inr rfl) (RetV.two rfl (OneR.tmp (t := 4) (r := V.int y75) (by kernel_rfl)) (OneR.tmp (t := 5) (r := V.int y76) (by kernel_rfl))) (by kernel_rfl) (by kernel_rfl) (by kernel_rfl)

theorem m_impl_tokenAt_ok (N : Nat) (a0 : List UInt8) (a1 : Int) (a2 : Int) {r : SToken} (h : m_impl_tokenAt N a0 a1 a2 = some r) :
    AC Tryd.prog (GS [0, 1, 2]) 55 [V.str a0, V.int a1, V.int a2] [] (.agg [V.int r.Kind, V.str r.Text, V.int r.At]) [] := by
  rw [m_impl_tokenAt] at h
  refine AC.enter Tryd.func55 rfl ?_
  refine CodeOk.cutR (tl 102 [(0, V.str a0), (1, V.int a1), (2, V.int a2), (6, .loc 100 0)]) [(100, .cells 46 [V.int 0, V.str [], V.int 0])] mix (by
      refine W.run D_ok 1 100 (by kernel_rfl) ?_
      exact W.fin (by decide) (by kernel_rfl) (Weak.sel [(100, 100)] [0, 1, 2, 6] (by kernel_rfl) (by kernel_rfl) (by kernel_rfl))
      ) ?_
  refine CodeOk.cutR (tl 102 [(0, V.str a0), (1, V.int a1), (2, V.int a2), (6, .loc 100 0), (7, V.int 0)]) [(100, .cells 46 [V.int 0, V.str [], V.int 0])] mix (by
      refine W.run D_ok 2 101 (by kernel_rfl) ?_
      exact W.fin (by decide) (by kernel_rfl) (Weak.sel [(100, 100)] [0, 1, 2, 6, 7] (by kernel_rfl) (by kernel_rfl) (by kernel_rfl))
      ) ?_
  refine CodeOk.join (fun (⟨a0, a1, y31, y32⟩ : ((List UInt8) × Int × Int × Int)) => ⟨tl 102 [(0, V.str a0), (1, V.int a1), (6, .loc 100 0), (7, V.int y31), (8, V.int y32)], [(100, .cells 46 [V.int 0, V.str [], V.int 0])]⟩) (fun i => m_impl_tokenAt_k1 N i = some r) ?_ ?_
  · rintro ⟨a0, a1, y31, y32⟩ h43
    rw [m_impl_tokenAt_k1] at h43
    refine CodeOk.seq' ?_
    obtain ⟨y34, hv49, h43⟩ := bind_some h43
    refine CodeOk.cutR (tl 102 [(0, V.str a0), (1, V.int a1), (6, .loc 100 0), (7, V.int y31), (8, V.int y32), (93, V.bool y34)]) [(100, .cells 46 [V.int 0, V.str [], V.int 0])] mix (by
        refine W.run D_ok 3 101 (by kernel_rfl) ?_
        rcases cond_some hv49 with ⟨hc50, hv49⟩ | ⟨hc50, hv49⟩
        · refine W.is 90 hc50 (by kernel_rfl) ?_
          refine W.run D_ok 3 101 (by kernel_rfl) ?_
          have hv49 := Option.some.inj hv49
          subst hv49
          exact W.fin (by decide) (by kernel_rfl) (Weak.sel [(100, 100)] [0, 1, 6, 7, 8, 93] (by kernel_rfl) (by kernel_rfl) (by kernel_rfl))
        · refine W.is 90 hc50 (by kernel_rfl) ?_
          refine W.run D_ok 3 101 (by kernel_rfl) ?_
          have hv49 := Option.some.inj hv49
          subst hv49
          exact W.fin (by decide) (by kernel_rfl) (Weak.sel [(100, 100)] [0, 1, 6, 7, 8, 93] (by kernel_rfl) (by kernel_rfl) (by kernel_rfl))
        ) ?_
    rcases cond_some h43 with ⟨hc51, h43⟩ | ⟨hc51, h43⟩
    · refine CodeOk.ifT hc51 (by kernel_rfl) ?_
      refine CodeOk.cutR (tl 102 [(6, .loc 100 0)]) [(100, .cells 46 [V.int 0, V.str [], V.int 0])] mix (by
          refine W.run D_ok 2 101 (by kernel_rfl) ?_
          exact W.fin (by decide) (by kernel_rfl) (Weak.sel [(100, 100)] [6] (by kernel_rfl) (by kernel_rfl) (by kernel_rfl))
          ) ?_
      refine CodeOk.ret ?_
      have h43 := Option.some.inj h43
      subst h43
      exact Ends.gen [] (.inr rfl) (RetV.one rfl (OneR.cell D_ok (r := .agg [V.int 0, V.str [], V.int 0]) (i := 100) (ety := 46) (cs := [V.int 0, V.str [], V.int 0]) (by kernel_rfl) (by kernel_rfl) (by kernel_rfl))) (by kernel_rfl) (by kernel_rfl) (by kernel_rfl)
    · refine CodeOk.ifF hc51 (by kernel_rfl) ?_
      refine CodeOk.skip ?_
      refine CodeOk.weak (st' := ⟨tl 102 [(0, V.str a0), (1, V.int a1), (6, .loc 100 0), (7, V.int y31), (8, V.int y32), (93, V.bool y34)], [(100, .cells 46 [V.int 0, V.str [], V.int 0])]⟩) (Weak.refl _) ?_
      obtain ⟨s36, hx53, h43⟩ := bind_some h43
      refine CodeOk.cutR (tl 102 [(6, .loc 100 0)]) [(100, .cells 46 [V.int y31, V.str s36, V.int a1])] mix (by
          refine W.run D_ok 4 101 (by kernel_rfl) ?_
          refine W.cutS D_ok hx53 (by kernel_rfl) ?_
          refine W.run D_ok 3 101 (by kernel_rfl) ?_
          exact W.fin (by decide) (by kernel_rfl) (Weak.sel [(100, 100)] [6] (by kernel_rfl) (by kernel_rfl) (by kernel_rfl))
          ) ?_
      refine CodeOk.ret ?_
      have h43 := Option.some.inj h43
      subst h43
      exact Ends.gen [] (.inr rfl) (RetV.one rfl (OneR.cell D_ok (r := .agg [V.int y31, V.str s36, V.int a1]) (i := 100) (ety := 46) (cs := [V.int y31, V.str s36, V.int a1]) (by kernel_rfl) (by kernel_rfl) (by kernel_rfl))) (by kernel_rfl) (by kernel_rfl) (by kernel_rfl)
  intro hk54
  obtain ⟨b38, hx56, h⟩ := bind_some h
  refine CodeOk.cutR (tl 102 [(0, V.str a0), (1, V.int a1), (2, V.int a2), (6, .loc 100 0), (7, V.int 0), (9, V.int (IntKind.wrap .i64 ((b38).toNat : Int)))]) [(100, .cells 46 [V.int 0, V.str [], V.int 0])] mix (by
      refine W.run D_ok 2 101 (by kernel_rfl) ?_
      refine W.ixS D_ok hx56 (by kernel_rfl) ?_
      refine W.run D_ok 2 101 (by kernel_rfl) ?_
      exact W.fin (by decide) (by kernel_rfl) (Weak.sel [(100, 100)] [0, 1, 2, 6, 7, 9] (by kernel_rfl) (by kernel_rfl) (by kernel_rfl))
      ) ?_
  refine CodeOk.block' ?_
  refine CodeOk.cutR (tl 102 [(0, V.str a0), (1, V.int a1), (2, V.int a2), (6, .loc 100 0), (7, V.int 0), (9, V.int (IntKind.wrap .i64 ((b38).toNat : Int))), (27, V.bool ((IntKind.wrap .i64 ((b38).toNat : Int)) == 10))]) [(100, .cells 46 [V.int 0, V.str [], V.int 0])] mix (by
      refine W.run D_ok 3 101 (by kernel_rfl) ?_
      exact W.fin (by decide) (by kernel_rfl) (Weak.sel [(100, 100)] [0, 1, 2, 6, 7, 9, 27] (by kernel_rfl) (by kernel_rfl) (by kernel_rfl))
      ) ?_
  rcases cond_some h with ⟨hc57, h⟩ | ⟨hc57, h⟩
  · refine CodeOk.ifT hc57 (by kernel_rfl) ?_
    refine CodeOk.endR (tl 102 [(0, V.str a0), (1, V.int a1), (6, .loc 100 0), (7, V.int 1), (8, V.int (IntKind.wrap .i64 (a1 + 1)))]) [(100, .cells 46 [V.int 0, V.str [], V.int 0])] mix (by
        refine W.run D_ok 4 101 (by kernel_rfl) ?_
        exact W.fin (by decide) (by kernel_rfl) (Weak.sel [(100, 100)] [0, 1, 6, 7, 8] (by kernel_rfl) (by kernel_rfl) (by kernel_rfl))
        ) (fun st hw => ?_)
    exact hk54 (a0, a1, 1, (IntKind.wrap .i64 (a1 + 1))) h _ (hw.trans (Weak.sel [(100, 100)] [0, 1, 6, 7, 8] (by kernel_rfl) (by kernel_rfl) (by kernel_rfl)))
  · refine CodeOk.ifF hc57 (by kernel_rfl) ?_
    refine CodeOk.cutR (tl 102 [(0, V.str a0), (1, V.int a1), (2, V.int a2), (6, .loc 100 0), (7, V.int 0), (9, V.int (IntKind.wrap .i64 ((b38).toNat : Int))), (32, V.bool ((IntKind.wrap .i64 ((b38).toNat : Int)) == 35))]) [(100, .cells 46 [V.int 0, V.str [], V.int 0])] mix (by
        refine W.run D_ok 3 101 (by kernel_rfl) ?_
        exact W.fin (by decide) (by kernel_rfl) (Weak.sel [(100, 100)] [0, 1, 2, 6, 7, 9, 32] (by kernel_rfl) (by kernel_rfl) (by kernel_rfl))
        ) ?_
    rcases cond_some h with ⟨hc58, h⟩ | ⟨hc58, h⟩
    · refine CodeOk.ifT hc58 (by kernel_rfl) ?_
      refine CodeOk.cutR (tl 102 [(0, V.str a0), (1, V.int a1), (6, .loc 100 0), (7, V.int 2), (8, V.int (a0.length : Int))]) [(100, .cells 46 [V.int 0, V.str [], V.int 0])] mix (by
          refine W.run D_ok 4 101 (by kernel_rfl) ?_
          exact W.fin (by decide) (by kernel_rfl) (Weak.sel [(100, 100)] [0, 1, 6, 7, 8] (by kernel_rfl) (by kernel_rfl) (by kernel_rfl))
          ) ?_
      obtain ⟨s41, hx61, h⟩ := bind_some h
      obtain ⟨r42, hx62, h⟩ := bind_some h
      refine CodeOk.cutR (tl 102 [(0, V.str a0), (1, V.int a1), (6, .loc 100 0), (7, V.int 2), (8, V.int (a0.length : Int)), (10, V.int r42)]) [(100, .cells 46 [V.int 0, V.str [], V.int 0])] mix (by
          refine W.run D_ok 2 101 (by kernel_rfl) ?_
          refine W.cutS D_ok hx61 (by kernel_rfl) ?_
          refine W.call0 (AC.gs (m_strings_IndexByte_ok s41 10 hx62) (by decide)) cok88 rfl (by kernel_rfl) ?_
          refine W.run D_ok 1 101 (by kernel_rfl) ?_
          exact W.fin (by decide) (by kernel_rfl) (Weak.sel [(100, 100)] [0, 1, 6, 7, 8, 10] (by kernel_rfl) (by kernel_rfl) (by kernel_rfl))
          ) ?_
      refine CodeOk.cutR (tl 102 [(0, V.str a0), (1, V.int a1), (6, .loc 100 0), (7, V.int 2), (8, V.int (a0.length : Int)), (10, V.int r42), (42, V.bool (decide (r42 ≥ 0)))]) [(100, .cells 46 [V.int 0, V.str [], V.int 0])] mix (by
          refine W.run D_ok 2 101 (by kernel_rfl) ?_
          exact W.fin (by decide) (by kernel_rfl) (Weak.sel [(100, 100)] [0, 1, 6, 7, 8, 10, 42] (by kernel_rfl) (by kernel_rfl) (by kernel_rfl))
          ) ?_
      rcases cond_some h with ⟨hc63, h⟩ | ⟨hc63, h⟩
      · refine CodeOk.ifT hc63 (by kernel_rfl) ?_
        refine CodeOk.endR (tl 102 [(0, V.str a0), (1, V.int a1), (6, .loc 100 0), (7, V.int 2), (8, V.int (IntKind.wrap .i64 (a1 + r42)))]) [(100, .cells 46 [V.int 0, V.str [], V.int 0])] mix (by
            refine W.run D_ok 4 101 (by kernel_rfl) ?_
            exact W.fin (by decide) (by kernel_rfl) (Weak.sel [(100, 100)] [0, 1, 6, 7, 8] (by kernel_rfl) (by kernel_rfl) (by kernel_rfl))
            ) (fun st hw => ?_)
        exact hk54 (a0, a1, 2, (IntKind.wrap .i64 (a1 + r42))) h _ (hw.trans (Weak.sel [(100, 100)] [0, 1, 6, 7, 8] (by kernel_rfl) (by kernel_rfl) (by kernel_rfl)))
      · refine CodeOk.ifF hc63 (by kernel_rfl) ?_
        refine CodeOk.skip ?_
        exact hk54 (a0, a1, 2, (a0.length : Int)) h _ (Weak.sel [(100, 100)] [0, 1, 6, 7, 8] (by kernel_rfl) (by kernel_rfl) (by kernel_rfl))
    · refine CodeOk.ifF hc58 (by kernel_rfl) ?_
      obtain ⟨y44, hv66, h⟩ := bind_some h
      refine CodeOk.cutR (tl 102 [(0, V.str a0), (1, V.int a1), (2, V.int a2), (6, .loc 100 0), (7, V.int 0), (9, V.int (IntKind.wrap .i64 ((b38).toNat : Int))), (46, V.bool y44)]) [(100, .cells 46 [V.int 0, V.str [], V.int 0])] mix (by
          refine W.run D_ok 1 101 (by kernel_rfl) ?_
          obtain ⟨r45, hx67, hv66⟩ := bind_some hv66
          refine W.call0 (AC.gs (m_impl_IsDigit_ok (IntKind.wrap .i64 ((b38).toNat : Int)) hx67) (by decide)) cok89 rfl (by kernel_rfl) ?_
          refine W.run D_ok 1 101 (by kernel_rfl) ?_
          rcases cond_some hv66 with ⟨hc68, hv66⟩ | ⟨hc68, hv66⟩
          · refine W.is 49 hc68 (by kernel_rfl) ?_
            refine W.run D_ok 4 101 (by kernel_rfl) ?_
            have hv66 := Option.some.inj hv66
            subst hv66
            exact W.fin (by decide) (by kernel_rfl) (Weak.sel [(100, 100)] [0, 1, 2, 6, 7, 9, 46] (by kernel_rfl) (by kernel_rfl) (by kernel_rfl))
          · refine W.is 49 hc68 (by kernel_rfl) ?_
            refine W.run D_ok 4 101 (by kernel_rfl) ?_
            have hv66 := Option.some.inj hv66
            subst hv66
            exact W.fin (by decide) (by kernel_rfl) (Weak.sel [(100, 100)] [0, 1, 2, 6, 7, 9, 46] (by kernel_rfl) (by kernel_rfl) (by kernel_rfl))
          ) ?_
      rcases cond_some h with ⟨hc69, h⟩ | ⟨hc69, h⟩
      · refine CodeOk.ifT hc69 (by kernel_rfl) ?_
        obtain ⟨r47, hx71, h⟩ := bind_some h
        refine CodeOk.endR (tl 102 [(0, V.str a0), (1, V.int a1), (6, .loc 100 0), (7, V.int 3), (8, V.int r47)]) [(100, .cells 46 [V.int 0, V.str [], V.int 0])] mix (by
            refine W.run D_ok 2 101 (by kernel_rfl) ?_
            refine W.call0 (AC.gs (m_impl_NumEnd_ok N a0 a1 hx71) (by decide)) cok76 rfl (by kernel_rfl) ?_
            refine W.run D_ok 2 101 (by kernel_rfl) ?_
            exact W.fin (by decide) (by kernel_rfl) (Weak.sel [(100, 100)] [0, 1, 6, 7, 8] (by kernel_rfl) (by kernel_rfl) (by kernel_rfl))
            ) (fun st hw => ?_)
        exact hk54 (a0, a1, 3, r47) h _ (hw.trans (Weak.sel [(100, 100)] [0, 1, 6, 7, 8] (by kernel_rfl) (by kernel_rfl) (by kernel_rfl)))
      · refine CodeOk.ifF hc69 (by kernel_rfl) ?_
        refine CodeOk.cutR (tl 102 [(0, V.str a0), (1, V.int a1), (2, V.int a2), (6, .loc 100 0), (7, V.int 0), (9, V.int (IntKind.wrap .i64 ((b38).toNat : Int))), (56, V.bool ((IntKind.wrap .i64 ((b38).toNat : Int)) == 34))]) [(100, .cells 46 [V.int 0, V.str [], V.int 0])] mix (by
            refine W.run D_ok 3 101 (by kernel_rfl) ?_
            exact W.fin (by decide) (by kernel_rfl) (Weak.sel [(100, 100)] [0, 1, 2, 6, 7, 9, 56] (by kernel_rfl) (by kernel_rfl) (by kernel_rfl))
            ) ?_
        rcases cond_some h with ⟨hc72, h⟩ | ⟨hc72, h⟩
        · refine CodeOk.ifT hc72 (by kernel_rfl) ?_
          obtain ⟨r49, hx74, h⟩ := bind_some h
          refine CodeOk.endR (tl 102 [(0, V.str a0), (1, V.int a1), (6, .loc 100 0), (7, V.int 4), (8, V.int r49)]) [(100, .cells 46 [V.int 0, V.str [], V.int 0])] mix (by
              refine W.run D_ok 2 101 (by kernel_rfl) ?_
              refine W.call0 (AC.gs (m_impl_StrEnd_ok N a0 a1 hx74) (by decide)) cok77 rfl (by kernel_rfl) ?_
              refine W.run D_ok 2 101 (by kernel_rfl) ?_
              exact W.fin (by decide) (by kernel_rfl) (Weak.sel [(100, 100)] [0, 1, 6, 7, 8] (by kernel_rfl) (by kernel_rfl) (by kernel_rfl))
              ) (fun st hw => ?_)
          exact hk54 (a0, a1, 4, r49) h _ (hw.trans (Weak.sel [(100, 100)] [0, 1, 6, 7, 8] (by kernel_rfl) (by kernel_rfl) (by kernel_rfl)))
        · refine CodeOk.ifF hc72 (by kernel_rfl) ?_
          obtain ⟨y51, hv77, h⟩ := bind_some h
          refine CodeOk.cutR (tl 102 [(0, V.str a0), (1, V.int a1), (6, .loc 100 0), (7, V.int 0), (9, V.int (IntKind.wrap .i64 ((b38).toNat : Int))), (62, V.bool y51)]) [(100, .cells 46 [V.int 0, V.str [], V.int 0])] mix (by
              refine W.run D_ok 3 101 (by kernel_rfl) ?_
              rcases cond_some hv77 with ⟨hc78, hv77⟩ | ⟨hc78, hv77⟩
              · refine W.is 65 hc78 (by kernel_rfl) ?_
                refine W.run D_ok 1 101 (by kernel_rfl) ?_
                obtain ⟨r52, hx79, hv77⟩ := bind_some hv77
                refine W.call0 (AC.gs (m_impl_EndsOperand_ok a2 hx79) (by decide)) cok47 rfl (by kernel_rfl) ?_
                refine W.run D_ok 3 101 (by kernel_rfl) ?_
                have hv77 := Option.some.inj hv77
                subst hv77
                exact W.fin (by decide) (by kernel_rfl) (Weak.sel [(100, 100)] [0, 1, 6, 7, 9, 62] (by kernel_rfl) (by kernel_rfl) (by kernel_rfl))
              · refine W.is 65 hc78 (by kernel_rfl) ?_
                refine W.run D_ok 5 101 (by kernel_rfl) ?_
                have hv77 := Option.some.inj hv77
                subst hv77
                exact W.fin (by decide) (by kernel_rfl) (Weak.sel [(100, 100)] [0, 1, 6, 7, 9, 62] (by kernel_rfl) (by kernel_rfl) (by kernel_rfl))
              ) ?_
          rcases cond_some h with ⟨hc80, h⟩ | ⟨hc80, h⟩
          · refine CodeOk.ifT hc80 (by kernel_rfl) ?_
            obtain ⟨r54, hx82, h⟩ := bind_some h
            refine CodeOk.endR (tl 102 [(0, V.str a0), (1, V.int a1), (6, .loc 100 0), (7, V.int 5), (8, V.int r54)]) [(100, .cells 46 [V.int 0, V.str [], V.int 0])] mix (by
                refine W.run D_ok 2 101 (by kernel_rfl) ?_
                refine W.call0 (AC.gs (m_impl_EreEnd_ok N a0 a1 hx82) (by decide)) cok78 rfl (by kernel_rfl) ?_
                refine W.run D_ok 2 101 (by kernel_rfl) ?_
                exact W.fin (by decide) (by kernel_rfl) (Weak.sel [(100, 100)] [0, 1, 6, 7, 8] (by kernel_rfl) (by kernel_rfl) (by kernel_rfl))
                ) (fun st hw => ?_)
            exact hk54 (a0, a1, 5, r54) h _ (hw.trans (Weak.sel [(100, 100)] [0, 1, 6, 7, 8] (by kernel_rfl) (by kernel_rfl) (by kernel_rfl)))
          · refine CodeOk.ifF hc80 (by kernel_rfl) ?_
            obtain ⟨r56, hx84, h⟩ := bind_some h
            refine CodeOk.cutR (tl 102 [(0, V.str a0), (1, V.int a1), (6, .loc 100 0), (7, V.int 0), (73, V.bool r56)]) [(100, .cells 46 [V.int 0, V.str [], V.int 0])] mix (by
                refine W.run D_ok 1 101 (by kernel_rfl) ?_
                refine W.call0 (AC.gs (m_impl_IsLetter_ok (IntKind.wrap .i64 ((b38).toNat : Int)) hx84) (by decide)) cok90 rfl (by kernel_rfl) ?_
                refine W.run D_ok 1 101 (by kernel_rfl) ?_
                exact W.fin (by decide) (by kernel_rfl) (Weak.sel [(100, 100)] [0, 1, 6, 7, 73] (by kernel_rfl) (by kernel_rfl) (by kernel_rfl))
                ) ?_
            rcases cond_some h with ⟨hc85, h⟩ | ⟨hc85, h⟩
            · refine CodeOk.ifT hc85 (by kernel_rfl) ?_
              obtain ⟨r58, hx87, h⟩ := bind_some h
              refine CodeOk.cutR (tl 102 [(0, V.str a0), (1, V.int a1), (6, .loc 100 0), (7, V.int 0), (8, V.int r58)]) [(100, .cells 46 [V.int 0, V.str [], V.int 0])] mix (by
                  refine W.run D_ok 2 101 (by kernel_rfl) ?_
                  refine W.call0 (AC.gs (m_impl_NameEnd_ok N a0 a1 hx87) (by decide)) cok91 rfl (by kernel_rfl) ?_
                  refine W.run D_ok 1 101 (by kernel_rfl) ?_
                  exact W.fin (by decide) (by kernel_rfl) (Weak.sel [(100, 100)] [0, 1, 6, 7, 8] (by kernel_rfl) (by kernel_rfl) (by kernel_rfl))
                  ) ?_
              obtain ⟨s61, hx90, h⟩ := bind_some h
              obtain ⟨r62, hx91, h⟩ := bind_some h
              refine CodeOk.cutR (tl 102 [(0, V.str a0), (1, V.int a1), (6, .loc 100 0), (7, V.int 0), (8, V.int r58), (83, V.bool r62)]) [(100, .cells 46 [V.int 0, V.str [], V.int 0])] mix (by
                  refine W.run D_ok 3 101 (by kernel_rfl) ?_
                  refine W.cutS D_ok hx90 (by kernel_rfl) ?_
                  refine W.call0 (AC.gs (m_impl_NameShape_ok N s61 hx91) (by decide)) cok92 rfl (by kernel_rfl) ?_
                  exact W.fin (by decide) (by kernel_rfl) (Weak.sel [(100, 100)] [0, 1, 6, 7, 8, 83] (by kernel_rfl) (by kernel_rfl) (by kernel_rfl))
                  ) ?_
              rcases cond_some h with ⟨hc92, h⟩ | ⟨hc92, h⟩
              · refine CodeOk.ifT hc92 (by kernel_rfl) ?_
                obtain ⟨r64, hx94, h⟩ := bind_some h
                refine CodeOk.cutR (tl 102 [(6, .loc 100 0)]) [(100, .cells 46 [V.int r64.Kind, V.str r64.Text, V.int r64.At])] mix (by
                    refine W.run D_ok 3 101 (by kernel_rfl) ?_
                    refine W.call0 (AC.gs (m_impl_wordToken_ok N a0 a1 r58 hx94) (by decide)) cok93 rfl (by kernel_rfl) ?_
                    refine W.run D_ok 1 101 (by kernel_rfl) ?_
                    exact W.fin (by decide) (by kernel_rfl) (Weak.sel [(100, 100)] [6] (by kernel_rfl) (by kernel_rfl) (by kernel_rfl))
                    ) ?_
                refine CodeOk.ret ?_
                have h := Option.some.inj h
                subst h
                exact Ends.gen [] (.inr rfl) (RetV.one rfl (OneR.cell D_ok (r := .agg [V.int r64.Kind, V.str r64.Text, V.int r64.At]) (i := 100) (ety := 46) (cs := [V.int r64.Kind, V.str r64.Text, V.int r64.At]) (by kernel_rfl) (by kernel_rfl) (by kernel_rfl))) (by kernel_rfl) (by kernel_rfl) (by kernel_rfl)
              · refine CodeOk.ifF hc92 (by kernel_rfl) ?_
                refine CodeOk.skip ?_
                exact hk54 (a0, a1, 0, r58) h _ (Weak.sel [(100, 100)] [0, 1, 6, 7, 8] (by kernel_rfl) (by kernel_rfl) (by kernel_rfl))
            · refine CodeOk.ifF hc85 (by kernel_rfl) ?_
              obtain ⟨r66, hx96, h⟩ := bind_some h
              refine CodeOk.cutR (tl 102 [(0, V.str a0), (1, V.int a1), (6, .loc 100 0), (11, V.int r66.1), (12, V.int r66.2)]) [(100, .cells 46 [V.int 0, V.str [], V.int 0])] mix (by
                  refine W.run D_ok 2 101 (by kernel_rfl) ?_
                  refine W.call0 (AC.gs (m_impl_OpAt_ok N a0 a1 hx96) (by decide)) cok94 rfl (by kernel_rfl) ?_
                  refine W.run D_ok 5 101 (by kernel_rfl) ?_
                  exact W.fin (by decide) (by kernel_rfl) (Weak.sel [(100, 100)] [0, 1, 6, 11, 12] (by kernel_rfl) (by kernel_rfl) (by kernel_rfl))
                  ) ?_
              refine CodeOk.endR (tl 102 [(0, V.str a0), (1, V.int a1), (6, .loc 100 0), (7, V.int r66.1), (8, V.int (IntKind.wrap .i64 (a1 + r66.2)))]) [(100, .cells 46 [V.int 0, V.str [], V.int 0])] mix (by
                  refine W.run D_ok 6 101 (by kernel_rfl) ?_
                  exact W.fin (by decide) (by kernel_rfl) (Weak.sel [(100, 100)] [0, 1, 6, 7, 8] (by kernel_rfl) (by kernel_rfl) (by kernel_rfl))
                  ) (fun st hw => ?_)
              exact hk54 (a0, a1, r66.1, (IntKind.wrap .i64 (a1 + r66.2))) h _ (hw.trans (Weak.sel [(100, 100)] [0, 1, 6, 7, 8] (by kernel_rfl) (by kernel_rfl) (by kernel_rfl)))

theorem m_impl_lexFrom_ok (N : Nat) (a0 : List UInt8) (a1 : Int) (a2 : Int) {r : ((List SToken) × SFault)} (h : m_impl_lexFrom N a0 a1 a2 = some r) :
    AC Tryd.prog (GS [0, 1, 2]) 34 [V.str a0, V.int a1, V.int a2] [] (.tup [.own 100, .agg [V.int r.2.Kind, V.int r.2.At]]) [(100, .vec false 46 3 (r.1.map encSToken))] := by
  rw [m_impl_lexFrom] at h
  refine AC.enter Tryd.func34 rfl ?_
  refine CodeOk.cutR (tl 59 [(0, V.str a0), (1, V.int a1), (2, V.int a2), (7, .loc 100 0)]) [(100, .cells 30 [V.int 0, V.int 0])] mix (by
      refine W.run D_ok 2 100 (by kernel_rfl) ?_
      exact W.fin (by decide) (by kernel_rfl) (Weak.sel [(100, 100)] [0, 1, 2, 7] (by kernel_rfl) (by kernel_rfl) (by kernel_rfl))
      ) ?_
  refine CodeOk.cutR (tl 59 [(0, V.str a0), (1, V.int a1), (2, V.int a2), (7, .loc 100 0), (8, .own 101)]) [(101, .vec false 46 3 ([].map encSToken)), (100, .cells 30 [V.int 0, V.int 0])] mix (by
      refine W.run D_ok 2 101 (by kernel_rfl) ?_
      exact W.fin (by decide) (by kernel_rfl) (Weak.sel [(101, 101), (100, 100)] [0, 1, 2, 7, 8] (by kernel_rfl) (by kernel_rfl) (by kernel_rfl))
      ) ?_
  refine CodeOk.seq' ?_
  refine CodeOk.block' ?_
  refine CodeOk.loopJ (fun (⟨a0, y95, y96, y97⟩ : ((List UInt8) × Int × Int × (List SToken))) => ⟨tl 59 [(0, V.str a0), (1, V.int y95), (2, V.int y96), (7, .loc 100 0), (8, .own 101)], [(100, .cells 30 [V.int 0, V.int 0]), (101, .vec false 46 3 (y97.map encSToken))]⟩) (fun n i => m_impl_lexFrom_l1 N n i = some r) (n0 := N) (i0 := (a0, a1, a2, [])) (Weak.sel [(100, 100), (101, 101)] [0, 1, 2, 7, 8] (by kernel_rfl) (by kernel_rfl) (by kernel_rfl)) h (fun i h => by simp [m_impl_lexFrom_l1] at h) ?_
  rintro n1 ⟨a0, y95, y96, y97⟩ h173 ih174
  rw [m_impl_lexFrom_l1] at h173
  refine CodeOk.seq' ?_
  refine CodeOk.cutR (tl 59 [(0, V.str a0), (1, V.int y95), (2, V.int y96), (7, .loc 100 0), (8, .own 101), (14, V.bool (decide (y95 < (a0.length : Int))))]) [(100, .cells 30 [V.int 0, V.int 0]), (101, .vec false 46 3 (y97.map encSToken))] mix (by
      refine W.run D_ok 4 168 (by kernel_rfl) ?_
      exact W.fin (by decide) (by kernel_rfl) (Weak.sel [(100, 100), (101, 101)] [0, 1, 2, 7, 8, 14] (by kernel_rfl) (by kernel_rfl) (by kernel_rfl))
      ) ?_
  rcases cond_some h173 with ⟨hc176, h173⟩ | ⟨hc176, h173⟩
  · refine CodeOk.ifT hc176 (by kernel_rfl) ?_
    refine CodeOk.skip ?_
    refine CodeOk.weak (st' := ⟨tl 59 [(0, V.str a0), (1, V.int y95), (2, V.int y96), (7, .loc 100 0), (8, .own 101), (14, V.bool (decide (y95 < (a0.length : Int))))], [(100, .cells 30 [V.int 0, V.int 0]), (101, .vec false 46 3 (y97.map encSToken))]⟩) (Weak.refl _) ?_
    refine CodeOk.block' ?_
    refine CodeOk.seq' ?_
    refine CodeOk.block' ?_
    obtain ⟨b134, hx192, h173⟩ := bind_some h173
    obtain ⟨r135, hx193, h173⟩ := bind_some h173
    refine CodeOk.cutR (tl 59 [(0, V.str a0), (1, V.int y95), (2, V.int y96), (7, .loc 100 0), (8, .own 101), (15, V.bool r135)]) [(100, .cells 30 [V.int 0, V.int 0]), (101, .vec false 46 3 (y97.map encSToken))] mix (by
        refine W.run D_ok 2 168 (by kernel_rfl) ?_
        refine W.ixS D_ok hx192 (by kernel_rfl) ?_
        refine W.run D_ok 1 168 (by kernel_rfl) ?_
        refine W.call0 (AC.gs (m_impl_IsBlank_ok (IntKind.wrap .i64 ((b134).toNat : Int)) hx193) (by decide)) cok53 rfl (by kernel_rfl) ?_
        refine W.run D_ok 1 168 (by kernel_rfl) ?_
        exact W.fin (by decide) (by kernel_rfl) (Weak.sel [(100, 100), (101, 101)] [0, 1, 2, 7, 8, 15] (by kernel_rfl) (by kernel_rfl) (by kernel_rfl))
        ) ?_
    rcases cond_some h173 with ⟨hc194, h173⟩ | ⟨hc194, h173⟩
    · refine CodeOk.ifT hc194 (by kernel_rfl) ?_
      refine CodeOk.cutR (tl 59 [(0, V.str a0), (1, V.int (IntKind.wrap .i64 (y95 + 1))), (2, V.int y96), (7, .loc 100 0), (8, .own 101)]) [(100, .cells 30 [V.int 0, V.int 0]), (101, .vec false 46 3 (y97.map encSToken))] mix (by
          refine W.run D_ok 3 168 (by kernel_rfl) ?_
          exact W.fin (by decide) (by kernel_rfl) (Weak.sel [(100, 100), (101, 101)] [0, 1, 2, 7, 8] (by kernel_rfl) (by kernel_rfl) (by kernel_rfl))
          ) ?_
      refine CodeOk.exit ?_
      exact ih174 (a0, (IntKind.wrap .i64 (y95 + 1)), y96, y97) h173 _ (Weak.sel [(100, 100), (101, 101)] [0, 1, 2, 7, 8] (by kernel_rfl) (by kernel_rfl) (by kernel_rfl))
    · refine CodeOk.ifF hc194 (by kernel_rfl) ?_
      obtain ⟨y138, hv198, h173⟩ := bind_some h173
      refine CodeOk.cutR (tl 59 [(0, V.str a0), (1, V.int y95), (2, V.int y96), (7, .loc 100 0), (8, .own 101), (23, V.bool y138)]) [(100, .cells 30 [V.int 0, V.int 0]), (101, .vec false 46 3 (y97.map encSToken))] mix (by
          refine W.run D_ok 2 168 (by kernel_rfl) ?_
          obtain ⟨b139, hx199, hv198⟩ := bind_some hv198
          refine W.ixS D_ok hx199 (by kernel_rfl) ?_
          refine W.run D_ok 2 168 (by kernel_rfl) ?_
          rcases cond_some hv198 with ⟨hc200, hv198⟩ | ⟨hc200, hv198⟩
          · refine W.is 28 hc200 (by kernel_rfl) ?_
            refine W.run D_ok 3 168 (by kernel_rfl) ?_
            obtain ⟨r140, hx201, hv198⟩ := bind_some hv198
            refine W.call0 (AC.gs (m_impl_byteAt_ok a0 (IntKind.wrap .i64 (y95 + 1)) hx201) (by decide)) cok54 rfl (by kernel_rfl) ?_
            refine W.run D_ok 3 168 (by kernel_rfl) ?_
            have hv198 := Option.some.inj hv198
            subst hv198
            exact W.fin (by decide) (by kernel_rfl) (Weak.sel [(100, 100), (101, 101)] [0, 1, 2, 7, 8, 23] (by kernel_rfl) (by kernel_rfl) (by kernel_rfl))
          · refine W.is 28 hc200 (by kernel_rfl) ?_
            refine W.run D_ok 7 168 (by kernel_rfl) ?_
            have hv198 := Option.some.inj hv198
            subst hv198
            exact W.fin (by decide) (by kernel_rfl) (Weak.sel [(100, 100), (101, 101)] [0, 1, 2, 7, 8, 23] (by kernel_rfl) (by kernel_rfl) (by kernel_rfl))
          ) ?_
      rcases cond_some h173 with ⟨hc202, h173⟩ | ⟨hc202, h173⟩
      · refine CodeOk.ifT hc202 (by kernel_rfl) ?_
        refine CodeOk.cutR (tl 59 [(0, V.str a0), (1, V.int (IntKind.wrap .i64 (y95 + 2))), (2, V.int y96), (7, .loc 100 0), (8, .own 101)]) [(100, .cells 30 [V.int 0, V.int 0]), (101, .vec false 46 3 (y97.map encSToken))] mix (by
            refine W.run D_ok 3 168 (by kernel_rfl) ?_
            exact W.fin (by decide) (by kernel_rfl) (Weak.sel [(100, 100), (101, 101)] [0, 1, 2, 7, 8] (by kernel_rfl) (by kernel_rfl) (by kernel_rfl))
            ) ?_
        refine CodeOk.exit ?_
        exact ih174 (a0, (IntKind.wrap .i64 (y95 + 2)), y96, y97) h173 _ (Weak.sel [(100, 100), (101, 101)] [0, 1, 2, 7, 8] (by kernel_rfl) (by kernel_rfl) (by kernel_rfl))
      · refine CodeOk.ifF hc202 (by kernel_rfl) ?_
        refine CodeOk.skip ?_
        refine CodeOk.weak (st' := ⟨tl 59 [(0, V.str a0), (1, V.int y95), (2, V.int y96), (7, .loc 100 0), (8, .own 101), (23, V.bool y138)], [(100, .cells 30 [V.int 0, V.int 0]), (101, .vec false 46 3 (y97.map encSToken))]⟩) (Weak.refl _) ?_
        obtain ⟨r142, hx204, h173⟩ := bind_some h173
        refine CodeOk.cutR (tl 59 [(0, V.str a0), (1, V.int y95), (7, .loc 100 0), (8, .own 101), (9, .loc 168 0)]) [(168, .cells 46 [V.int r142.Kind, V.str r142.Text, V.int r142.At]), (100, .cells 30 [V.int 0, V.int 0]), (101, .vec false 46 3 (y97.map encSToken))] mix (by
            refine W.run D_ok 3 168 (by kernel_rfl) ?_
            refine W.call0 (m_impl_tokenAt_ok N a0 y95 y96 hx204) cok55 rfl (by kernel_rfl) ?_
            refine W.run D_ok 2 168 (by kernel_rfl) ?_
            exact W.fin (by decide) (by kernel_rfl) (Weak.sel [(168, 168), (100, 100), (101, 101)] [0, 1, 7, 8, 9] (by kernel_rfl) (by kernel_rfl) (by kernel_rfl))
            ) ?_
        refine CodeOk.seq' ?_
        refine CodeOk.cutR (tl 59 [(0, V.str a0), (1, V.int y95), (7, .loc 100 0), (8, .own 101), (9, .loc 168 0), (43, V.bool (r142.Kind == 0))]) [(168, .cells 46 [V.int r142.Kind, V.str r142.Text, V.int r142.At]), (100, .cells 30 [V.int 0, V.int 0]), (101, .vec false 46 3 (y97.map encSToken))] mix (by
            refine W.run D_ok 3 169 (by kernel_rfl) ?_
            exact W.fin (by decide) (by kernel_rfl) (Weak.sel [(168, 168), (100, 100), (101, 101)] [0, 1, 7, 8, 9, 43] (by kernel_rfl) (by kernel_rfl) (by kernel_rfl))
            ) ?_
        rcases cond_some h173 with ⟨hc206, h173⟩ | ⟨hc206, h173⟩
        · refine CodeOk.ifT hc206 (by kernel_rfl) ?_
          refine CodeOk.cutR (tl 59 [(6, .c (.slice none 0 0)), (7, .loc 100 0)]) [(100, .cells 30 [V.int 2, V.int y95])] mix (by
              refine W.run D_ok 4 169 (by kernel_rfl) ?_
              exact W.fin (by decide) (by kernel_rfl) (Weak.sel [(100, 100)] [6, 7] (by kernel_rfl) (by kernel_rfl) (by kernel_rfl))
              ) ?_
          refine CodeOk.weak (Weak.nil 6 169 46 3 (by kernel_rfl) (by kernel_rfl)) ?_
          refine CodeOk.ret ?_
          have h173 := Option.some.inj h173
          subst h173
          exact Ends.gen [(169, 100)] (.inr rfl) (RetV.two rfl (OneR.tmp (t := 6) (r := .own 169) (by kernel_rfl)) (OneR.cell D_ok (r := .agg [V.int 2, V.int y95]) (i := 100) (ety := 30) (cs := [V.int 2, V.int y95]) (by kernel_rfl) (by kernel_rfl) (by kernel_rfl))) (by kernel_rfl) (by kernel_rfl) (by kernel_rfl)
        · refine CodeOk.ifF hc206 (by kernel_rfl) ?_
          refine CodeOk.skip ?_
          refine CodeOk.weak (st' := ⟨tl 59 [(0, V.str a0), (1, V.int y95), (7, .loc 100 0), (8, .own 101), (9, .loc 168 0), (43, V.bool (r142.Kind == 0))], [(168, .cells 46 [V.int r142.Kind, V.str r142.Text, V.int r142.At]), (100, .cells 30 [V.int 0, V.int 0]), (101, .vec false 46 3 (y97.map encSToken))]⟩) (Weak.refl _) ?_
          obtain ⟨x144, hx208, h173⟩ := bind_some h173
          refine CodeOk.cutR (tl 59 [(0, V.str a0), (1, V.int y95), (7, .loc 100 0), (8, .own 170), (9, .loc 168 0)]) [(170, .vec false 46 3 (x144.map encSToken)), (168, .cells 46 [V.int r142.Kind, V.str r142.Text, V.int r142.At]), (100, .cells 30 [V.int 0, V.int 0])] mix (by
              refine W.run D_ok 3 169 (by kernel_rfl) ?_
              refine W.appO D_ok encSToken (a := 101) (c := 169) (el := 46) (sz := 3) 32 hx208 rfl 170 (by kernel_rfl) ?_
              refine W.run D_ok 1 171 (by kernel_rfl) ?_
              exact W.fin (by decide) (by kernel_rfl) (Weak.sel [(170, 170), (168, 168), (100, 100)] [0, 1, 7, 8, 9] (by kernel_rfl) (by kernel_rfl) (by kernel_rfl))
              ) ?_
          refine CodeOk.endR (tl 59 [(0, V.str a0), (1, V.int (IntKind.wrap .i64 (y95 + (r142.Text.length : Int)))), (2, V.int r142.Kind), (7, .loc 100 0), (8, .own 170)]) [(170, .vec false 46 3 (x144.map encSToken)), (100, .cells 30 [V.int 0, V.int 0])] mix (by
              refine W.run D_ok 9 171 (by kernel_rfl) ?_
              exact W.fin (by decide) (by kernel_rfl) (Weak.sel [(170, 170), (100, 100)] [0, 1, 2, 7, 8] (by kernel_rfl) (by kernel_rfl) (by kernel_rfl))
              ) (fun st hw => ?_)
          exact ih174 (a0, (IntKind.wrap .i64 (y95 + (r142.Text.length : Int))), r142.Kind, x144) h173 _ (hw.trans (Weak.sel [(100, 100), (170, 101)] [0, 1, 2, 7, 8] (by kernel_rfl) (by kernel_rfl) (by kernel_rfl)))
  · refine CodeOk.ifF hc176 (by kernel_rfl) ?_
    refine CodeOk.exit ?_
    refine CodeOk.weak (st' := ⟨tl 59 [(0, V.str a0), (1, V.int y95), (2, V.int y96), (7, .loc 100 0), (8, .own 101), (14, V.bool (decide (y95 < (a0.length : Int))))], [(100, .cells 30 [V.int 0, V.int 0]), (101, .vec false 46 3 (y97.map encSToken))]⟩) (Weak.refl _) ?_
    refine CodeOk.cutR (tl 59 [(6, .own 101), (7, .loc 100 0)]) [(100, .cells 30 [V.int 0, V.int 0]), (101, .vec false 46 3 (y97.map encSToken))] mix (by
        refine W.run D_ok 4 168 (by kernel_rfl) ?_
        exact W.fin (by decide) (by kernel_rfl) (Weak.sel [(100, 100), (101, 101)] [6, 7] (by kernel_rfl) (by kernel_rfl) (by kernel_rfl))
        ) ?_
    refine CodeOk.ret ?_
    have h173 := Option.some.inj h173
    subst h173
    exact Ends.gen [(101, 100)] (.inr rfl) (RetV.two rfl (OneR.tmp (t := 6) (r := .own 101) (by kernel_rfl)) (OneR.cell D_ok (r := .agg [V.int 0, V.int 0]) (i := 100) (ety := 30) (cs := [V.int 0, V.int 0]) (by kernel_rfl) (by kernel_rfl) (by kernel_rfl))) (by kernel_rfl) (by kernel_rfl) (by kernel_rfl)

theorem m_impl_Relex_ok (N : Nat) (a0 : List SToken) (a1 : List UInt8) (a2 : Int) (a3 : Int) (a4 : List UInt8) {r : ((List SToken) × SFault)} (h : m_impl_Relex N a0 a1 a2 a3 a4 = some r) :
    AC Tryd.prog (GS [0, 1, 2]) 12 [.sl false false (a0.map encSToken), V.str a1, V.int a2, V.int a3, V.str a4] [] (.tup [.own 100, .agg [V.int r.2.Kind, V.int r.2.At]]) [(100, .vec false 46 3 (r.1.map encSToken))] := by
  rw [m_impl_Relex] at h
  refine AC.enter Tryd.func12 rfl ?_
  refine CodeOk.cutR (tl 74 [(0, .sl false false (a0.map encSToken)), (1, V.str a1), (2, V.int a2), (3, V.int a3), (4, V.str a4), (11, .loc 100 0)]) [(100, .cells 30 [V.int 0, V.int 0])] mix (by
      refine W.run D_ok 2 100 (by kernel_rfl) ?_
      exact W.fin (by decide) (by kernel_rfl) (Weak.sel [(100, 100)] [0, 1, 2, 3, 4, 11] (by kernel_rfl) (by kernel_rfl) (by kernel_rfl))
      ) ?_
  obtain ⟨r2, hx2, h⟩ := bind_some h
  refine CodeOk.cutR (tl 74 [(0, .sl false false (a0.map encSToken)), (2, V.int a2), (11, .loc 100 0), (12, V.str r2.1), (13, V.bool r2.2)]) [(100, .cells 30 [V.int 0, V.int 0])] mix (by
      refine W.run D_ok 4 101 (by kernel_rfl) ?_
      refine W.call0 (AC.gs (m_impl_Splice_ok a1 a2 a3 a4 hx2) (by decide)) cok31 rfl (by kernel_rfl) ?_
      refine W.run D_ok 5 101 (by kernel_rfl) ?_
      exact W.fin (by decide) (by kernel_rfl) (Weak.sel [(100, 100)] [0, 2, 11, 12, 13] (by kernel_rfl) (by kernel_rfl) (by kernel_rfl))
      ) ?_
  refine CodeOk.seq' ?_
  obtain ⟨y4, hv8, h⟩ := bind_some h
  refine CodeOk.cutR (tl 74 [(0, .sl false false (a0.map encSToken)), (2, V.int a2), (11, .loc 100 0), (12, V.str r2.1), (34, V.bool y4)]) [(100, .cells 30 [V.int 0, V.int 0])] mix (by
      refine W.run D_ok 3 101 (by kernel_rfl) ?_
      rcases cond_some hv8 with ⟨hc9, hv8⟩ | ⟨hc9, hv8⟩
      · refine W.is 30 hc9 (by kernel_rfl) ?_
        refine W.run D_ok 4 101 (by kernel_rfl) ?_
        have hv8 := Option.some.inj hv8
        subst hv8
        exact W.fin (by decide) (by kernel_rfl) (Weak.sel [(100, 100)] [0, 2, 11, 12, 34] (by kernel_rfl) (by kernel_rfl) (by kernel_rfl))
      · refine W.is 30 hc9 (by kernel_rfl) ?_
        refine W.run D_ok 4 101 (by kernel_rfl) ?_
        have hv8 := Option.some.inj hv8
        subst hv8
        exact W.fin (by decide) (by kernel_rfl) (Weak.sel [(100, 100)] [0, 2, 11, 12, 34] (by kernel_rfl) (by kernel_rfl) (by kernel_rfl))
      ) ?_
  rcases cond_some h with ⟨hc10, h⟩ | ⟨hc10, h⟩
  · refine CodeOk.ifT hc10 (by kernel_rfl) ?_
    refine CodeOk.cutR (tl 74 [(10, .c (.slice none 0 0)), (11, .loc 100 0)]) [(100, .cells 30 [V.int 1, V.int 0])] mix (by
        refine W.run D_ok 3 101 (by kernel_rfl) ?_
        exact W.fin (by decide) (by kernel_rfl) (Weak.sel [(100, 100)] [10, 11] (by kernel_rfl) (by kernel_rfl) (by kernel_rfl))
        ) ?_
    refine CodeOk.weak (Weak.nil 10 101 46 3 (by kernel_rfl) (by kernel_rfl)) ?_
    refine CodeOk.ret ?_
    have h := Option.some.inj h
    subst h
    exact Ends.gen [(101, 100)] (.inr rfl) (RetV.two rfl (OneR.tmp (t := 10) (r := .own 101) (by kernel_rfl)) (OneR.cell D_ok (r := .agg [V.int 1, V.int 0]) (i := 100) (ety := 30) (cs := [V.int 1, V.int 0]) (by kernel_rfl) (by kernel_rfl) (by kernel_rfl))) (by kernel_rfl) (by kernel_rfl) (by kernel_rfl)
  · refine CodeOk.ifF hc10 (by kernel_rfl) ?_
    refine CodeOk.skip ?_
    refine CodeOk.weak (st' := ⟨tl 74 [(0, .sl false false (a0.map encSToken)), (2, V.int a2), (11, .loc 100 0), (12, V.str r2.1), (34, V.bool y4)], [(100, .cells 30 [V.int 0, V.int 0])]⟩) (Weak.refl _) ?_
    obtain ⟨r8, hx14, h⟩ := bind_some h
    obtain ⟨l9, hx15, h⟩ := bind_some h
    obtain ⟨r10, hx16, h⟩ := bind_some h
    refine CodeOk.cutR (tl 74 [(11, .loc 100 0), (12, V.str r2.1), (14, .own 101)]) [(101, .vec false 46 3 (r10.map encSToken)), (100, .cells 30 [V.int 0, V.int 0])] mix (by
        refine W.run D_ok 3 101 (by kernel_rfl) ?_
        refine W.call0 (AC.gs (m_impl_KeptTokens_ok N a0 a2 hx14) (by decide)) cok33 rfl (by kernel_rfl) ?_
        refine W.cutD D_ok encSToken hx15 false 3 (fun _ => by first | rfl | kernel_rfl) (by kernel_rfl) ?_
        refine W.call (AC.gs (m_slices_Clone_Token_ok l9 hx16) (by decide)) cok32 [] [(100, 101)] [101] (show LayOk _ [] from trivial) (by kernel_rfl) (by kernel_rfl) ?_
        refine W.run D_ok 1 102 (by kernel_rfl) ?_
        exact W.fin (by decide) (by kernel_rfl) (Weak.sel [(101, 101), (100, 100)] [11, 12, 14] (by kernel_rfl) (by kernel_rfl) (by kernel_rfl))
        ) ?_
    refine CodeOk.cutR (tl 74 [(11, .loc 100 0), (12, V.str r2.1), (14, .own 101), (15, V.int 0), (16, V.int 0)]) [(101, .vec false 46 3 (r10.map encSToken)), (100, .cells 30 [V.int 0, V.int 0])] mix (by
        refine W.run D_ok 2 102 (by kernel_rfl) ?_
        exact W.fin (by decide) (by kernel_rfl) (Weak.sel [(101, 101), (100, 100)] [11, 12, 14, 15, 16] (by kernel_rfl) (by kernel_rfl) (by kernel_rfl))
        ) ?_
    refine CodeOk.join (fun (⟨r2, r10, y13, y14⟩ : (((List UInt8) × Bool) × (List SToken) × Int × Int)) => ⟨tl 74 [(11, .loc 100 0), (12, V.str r2.1), (14, .own 101), (15, V.int y13), (16, V.int y14)], [(100, .cells 30 [V.int 0, V.int 0]), (101, .vec false 46 3 (r10.map encSToken))]⟩) (fun i => m_impl_Relex_k1 N i = some r) ?_ ?_
    · rintro ⟨r2, r10, y13, y14⟩ h20
      rw [m_impl_Relex_k1] at h20
      obtain ⟨r16, hx22, h20⟩ := bind_some h20
      refine CodeOk.cutR (tl 74 [(11, .loc 100 0), (14, .own 101), (18, .own 103), (19, .loc 104 0)]) [(104, .cells 30 [V.int r16.2.Kind, V.int r16.2.At]), (103, .vec false 46 3 (r16.1.map encSToken)), (100, .cells 30 [V.int 0, V.int 0]), (101, .vec false 46 3 (r10.map encSToken))] mix (by
          refine W.run D_ok 3 103 (by kernel_rfl) ?_
          refine W.call (m_impl_lexFrom_ok N r2.1 y13 y14 hx22) cok34 [] [(100, 103)] [103] (show LayOk _ [] from trivial) (by kernel_rfl) (by kernel_rfl) ?_
          refine W.run D_ok 6 104 (by kernel_rfl) ?_
          exact W.fin (by decide) (by kernel_rfl) (Weak.sel [(104, 104), (103, 103), (100, 100), (101, 101)] [11, 14, 18, 19] (by kernel_rfl) (by kernel_rfl) (by kernel_rfl))
          ) ?_
      refine CodeOk.seq' ?_
      refine CodeOk.cutR (tl 74 [(11, .loc 100 0), (14, .own 101), (18, .own 103), (19, .loc 104 0), (68, V.bool (!((r16.2.Kind == 0) && ((r16.2.At == 0) && true))))]) [(104, .cells 30 [V.int r16.2.Kind, V.int r16.2.At]), (103, .vec false 46 3 (r16.1.map encSToken)), (100, .cells 30 [V.int 0, V.int 0]), (101, .vec false 46 3 (r10.map encSToken))] mix (by
          refine W.run D_ok 3 105 (by kernel_rfl) ?_
          exact W.fin (by decide) (by kernel_rfl) (Weak.sel [(104, 104), (103, 103), (100, 100), (101, 101)] [11, 14, 18, 19, 68] (by kernel_rfl) (by kernel_rfl) (by kernel_rfl))
          ) ?_
      rcases cond_some h20 with ⟨hc24, h20⟩ | ⟨hc24, h20⟩
      · refine CodeOk.ifT hc24 (by kernel_rfl) ?_
        refine CodeOk.cutR (tl 74 [(10, .c (.slice none 0 0)), (11, .loc 100 0)]) [(100, .cells 30 [V.int r16.2.Kind, V.int r16.2.At])] mix (by
            refine W.run D_ok 3 105 (by kernel_rfl) ?_
            exact W.fin (by decide) (by kernel_rfl) (Weak.sel [(100, 100)] [10, 11] (by kernel_rfl) (by kernel_rfl) (by kernel_rfl))
            ) ?_
        refine CodeOk.weak (Weak.nil 10 105 46 3 (by kernel_rfl) (by kernel_rfl)) ?_
        refine CodeOk.ret ?_
        have h20 := Option.some.inj h20
        subst h20
        exact Ends.gen [(105, 100)] (.inr rfl) (RetV.two rfl (OneR.tmp (t := 10) (r := .own 105) (by kernel_rfl)) (OneR.cell D_ok (r := .agg [V.int r16.2.Kind, V.int r16.2.At]) (i := 100) (ety := 30) (cs := [V.int r16.2.Kind, V.int r16.2.At]) (by kernel_rfl) (by kernel_rfl) (by kernel_rfl))) (by kernel_rfl) (by kernel_rfl) (by kernel_rfl)
      · refine CodeOk.ifF hc24 (by kernel_rfl) ?_
        refine CodeOk.skip ?_
        refine CodeOk.weak (st' := ⟨tl 74 [(11, .loc 100 0), (14, .own 101), (18, .own 103), (19, .loc 104 0), (68, V.bool (!((r16.2.Kind == 0) && ((r16.2.At == 0) && true))))], [(104, .cells 30 [V.int r16.2.Kind, V.int r16.2.At]), (103, .vec false 46 3 (r16.1.map encSToken)), (100, .cells 30 [V.int 0, V.int 0]), (101, .vec false 46 3 (r10.map encSToken))]⟩) (Weak.refl _) ?_
        obtain ⟨x18, hx26, h20⟩ := bind_some h20
        refine CodeOk.cutR (tl 74 [(10, .own 105), (11, .loc 100 0)]) [(100, .cells 30 [V.int 0, V.int 0]), (105, .vec false 46 3 (x18.map encSToken))] mix (by
            refine W.run D_ok 2 105 (by kernel_rfl) ?_
            refine W.appO D_ok encSToken (a := 101) (c := 103) (el := 46) (sz := 3) 32 hx26 rfl 105 (by kernel_rfl) ?_
            refine W.run D_ok 3 106 (by kernel_rfl) ?_
            exact W.fin (by decide) (by kernel_rfl) (Weak.sel [(100, 100), (105, 105)] [10, 11] (by kernel_rfl) (by kernel_rfl) (by kernel_rfl))
            ) ?_
        refine CodeOk.ret ?_
        have h20 := Option.some.inj h20
        subst h20
        exact Ends.gen [(105, 100)] (.inr rfl) (RetV.two rfl (OneR.tmp (t := 10) (r := .own 105) (by kernel_rfl)) (OneR.cell D_ok (r := .agg [V.int 0, V.int 0]) (i := 100) (ety := 30) (cs := [V.int 0, V.int 0]) (by kernel_rfl) (by kernel_rfl) (by kernel_rfl))) (by kernel_rfl) (by kernel_rfl) (by kernel_rfl)
    intro hk27
    refine CodeOk.cutR (tl 74 [(11, .loc 100 0), (12, V.str r2.1), (14, .own 101), (15, V.int 0), (16, V.int 0), (44, V.bool (decide ((r10.length : Int) > 0)))]) [(101, .vec false 46 3 (r10.map encSToken)), (100, .cells 30 [V.int 0, V.int 0])] mix (by
        refine W.run D_ok 1 102 (by kernel_rfl) ?_
        refine W.len D_ok encSToken r10 [101] (by kernel_rfl) (by kernel_rfl) ?_
        refine W.run D_ok 1 102 (by kernel_rfl) ?_
        exact W.fin (by decide) (by kernel_rfl) (Weak.sel [(101, 101), (100, 100)] [11, 12, 14, 15, 16, 44] (by kernel_rfl) (by kernel_rfl) (by kernel_rfl))
        ) ?_
    rcases cond_some h with ⟨hc28, h⟩ | ⟨hc28, h⟩
    · refine CodeOk.ifT hc28 (by kernel_rfl) ?_
      obtain ⟨e20, hx30, h⟩ := bind_some h
      refine CodeOk.cutR (tl 74 [(11, .loc 100 0), (12, V.str r2.1), (14, .own 101), (17, .loc 102 0)]) [(102, .cells 46 [V.int e20.Kind, V.str e20.Text, V.int e20.At]), (101, .vec false 46 3 (r10.map encSToken)), (100, .cells 30 [V.int 0, V.int 0])] mix (by
          refine W.run D_ok 2 102 (by kernel_rfl) ?_
          refine W.len D_ok encSToken r10 [101] (by kernel_rfl) (by kernel_rfl) ?_
          refine W.run D_ok 1 102 (by kernel_rfl) ?_
          refine W.ixO D_ok encSToken hx30 101 3 (by kernel_rfl) ?_
          refine W.ldO D_ok encSToken hx30 46 101 0 (.agg [V.int e20.Kind, V.str e20.Text, V.int e20.At]) (by kernel_rfl) (by kernel_rfl) ?_
          refine W.run D_ok 2 102 (by kernel_rfl) ?_
          exact W.fin (by decide) (by kernel_rfl) (Weak.sel [(102, 102), (101, 101), (100, 100)] [11, 12, 14, 17] (by kernel_rfl) (by kernel_rfl) (by kernel_rfl))
          ) ?_
      refine CodeOk.endR (tl 74 [(11, .loc 100 0), (12, V.str r2.1), (14, .own 101), (15, V.int (IntKind.wrap .i64 (e20.At + (e20.Text.length : Int)))), (16, V.int e20.Kind)]) [(101, .vec false 46 3 (r10.map encSToken)), (100, .cells 30 [V.int 0, V.int 0])] mix (by
          refine W.run D_ok 10 103 (by kernel_rfl) ?_
          exact W.fin (by decide) (by kernel_rfl) (Weak.sel [(101, 101), (100, 100)] [11, 12, 14, 15, 16] (by kernel_rfl) (by kernel_rfl) (by kernel_rfl))
          ) (fun st hw => ?_)
      exact hk27 (r2, r10, (IntKind.wrap .i64 (e20.At + (e20.Text.length : Int))), e20.Kind) h _ (hw.trans (Weak.sel [(100, 100), (101, 101)] [11, 12, 14, 15, 16] (by kernel_rfl) (by kernel_rfl) (by kernel_rfl)))
    · refine CodeOk.ifF hc28 (by kernel_rfl) ?_
      refine CodeOk.skip ?_
      exact hk27 (r2, r10, 0, 0) h _ (Weak.sel [(100, 100), (101, 101)] [11, 12, 14, 15, 16] (by kernel_rfl) (by kernel_rfl) (by kernel_rfl))

theorem m_laws_eqFault_ok (a0 : SFault) (a1 : SFault) {r : Bool} (h : m_laws_eqFault a0 a1 = some r) :
    AC Tryd.prog (GS []) 13 [.agg [V.int a0.Kind, V.int a0.At], .agg [V.int a1.Kind, V.int a1.At]] [] (V.bool r) [] := by
  rw [m_laws_eqFault] at h
  refine AC.enter Tryd.func13 rfl ?_
  refine CodeOk.cutR (tl 15 [(2, .loc 100 0), (3, .loc 101 0)]) [(101, .cells 30 [V.int a1.Kind, V.int a1.At]), (100, .cells 30 [V.int a0.Kind, V.int a0.At])] mix (by
      refine W.run D_ok 3 100 (by kernel_rfl) ?_
      exact W.fin (by decide) (by kernel_rfl) (Weak.sel [(101, 101), (100, 100)] [2, 3] (by kernel_rfl) (by kernel_rfl) (by kernel_rfl))
      ) ?_
  refine CodeOk.seq' ?_
  refine CodeOk.cutR (tl 15 [(2, .loc 100 0), (3, .loc 101 0), (9, V.bool (a0.Kind != a1.Kind))]) [(101, .cells 30 [V.int a1.Kind, V.int a1.At]), (100, .cells 30 [V.int a0.Kind, V.int a0.At])] mix (by
      refine W.run D_ok 5 102 (by kernel_rfl) ?_
      exact W.fin (by decide) (by kernel_rfl) (Weak.sel [(101, 101), (100, 100)] [2, 3, 9] (by kernel_rfl) (by kernel_rfl) (by kernel_rfl))
      ) ?_
  rcases cond_some h with ⟨hc2, h⟩ | ⟨hc2, h⟩
  · refine CodeOk.ifT hc2 (by kernel_rfl) ?_
    refine CodeOk.cutR (tl 15 [(4, V.bool false)]) [] mix (by
        refine W.run D_ok 1 102 (by kernel_rfl) ?_
        exact W.fin (by decide) (by kernel_rfl) (Weak.sel [] [4] (by kernel_rfl) (by kernel_rfl) (by kernel_rfl))
        ) ?_
    refine CodeOk.ret ?_
    have h := Option.some.inj h
    subst h
    exact Ends.gen [] (.inr rfl) (RetV.one rfl (OneR.tmp (t := 4) (r := V.bool false) (by kernel_rfl))) (by kernel_rfl) (by kernel_rfl) (by kernel_rfl)
  · refine CodeOk.ifF hc2 (by kernel_rfl) ?_
    refine CodeOk.skip ?_
    refine CodeOk.weak (st' := ⟨tl 15 [(2, .loc 100 0), (3, .loc 101 0), (9, V.bool (a0.Kind != a1.Kind))], [(101, .cells 30 [V.int a1.Kind, V.int a1.At]), (100, .cells 30 [V.int a0.Kind, V.int a0.At])]⟩) (Weak.refl _) ?_
    refine CodeOk.seq' ?_
    refine CodeOk.cutR (tl 15 [(14, V.bool (a0.At != a1.At))]) [] mix (by
        refine W.run D_ok 5 102 (by kernel_rfl) ?_
        exact W.fin (by decide) (by kernel_rfl) (Weak.sel [] [14] (by kernel_rfl) (by kernel_rfl) (by kernel_rfl))
        ) ?_
    rcases cond_some h with ⟨hc4, h⟩ | ⟨hc4, h⟩
    · refine CodeOk.ifT hc4 (by kernel_rfl) ?_
      refine CodeOk.cutR (tl 15 [(4, V.bool false)]) [] mix (by
          refine W.run D_ok 1 102 (by kernel_rfl) ?_
          exact W.fin (by decide) (by kernel_rfl) (Weak.sel [] [4] (by kernel_rfl) (by kernel_rfl) (by kernel_rfl))
          ) ?_
      refine CodeOk.ret ?_
      have h := Option.some.inj h
      subst h
      exact Ends.gen [] (.inr rfl) (RetV.one rfl (OneR.tmp (t := 4) (r := V.bool false) (by kernel_rfl))) (by kernel_rfl) (by kernel_rfl) (by kernel_rfl)
    · refine CodeOk.ifF hc4 (by kernel_rfl) ?_
      refine CodeOk.skip ?_
      refine CodeOk.weak (st' := ⟨tl 15 [(14, V.bool (a0.At != a1.At))], []⟩) (Weak.refl _) ?_
      refine CodeOk.cutR (tl 15 [(4, V.bool true)]) [] mix (by
          refine W.run D_ok 1 102 (by kernel_rfl) ?_
          exact W.fin (by decide) (by kernel_rfl) (Weak.sel [] [4] (by kernel_rfl) (by kernel_rfl) (by kernel_rfl))
          ) ?_
      refine CodeOk.ret ?_
      have h := Option.some.inj h
      subst h
      exact Ends.gen [] (.inr rfl) (RetV.one rfl (OneR.tmp (t := 4) (r := V.bool true) (by kernel_rfl))) (by kernel_rfl) (by kernel_rfl) (by kernel_rfl)

theorem m_laws_markText_ok (N : Nat) (a0 : Int) {r : (List UInt8)} (h : m_laws_markText N a0 = some r) :
    AC Tryd.prog (GS []) 35 [V.int a0] [] (V.str r) [] := by
  rw [m_laws_markText] at h
  refine AC.enter Tryd.func35 rfl ?_
  refine CodeOk.cutR (tl 20 [(0, V.int a0)]) [] mix (by
      refine W.run D_ok 1 100 (by kernel_rfl) ?_
      exact W.fin (by decide) (by kernel_rfl) (Weak.sel [] [0] (by kernel_rfl) (by kernel_rfl) (by kernel_rfl))
      ) ?_
  refine CodeOk.seq' ?_
  refine CodeOk.cutR (tl 20 [(0, V.int a0), (5, V.bool (decide (a0 ≤ 0)))]) [] mix (by
      refine W.run D_ok 2 100 (by kernel_rfl) ?_
      exact W.fin (by decide) (by kernel_rfl) (Weak.sel [] [0, 5] (by kernel_rfl) (by kernel_rfl) (by kernel_rfl))
      ) ?_
  rcases cond_some h with ⟨hc2, h⟩ | ⟨hc2, h⟩
  · refine CodeOk.ifT hc2 (by kernel_rfl) ?_
    refine CodeOk.cutR (tl 20 [(2, V.str [109, 48])]) [] mix (by
        refine W.run D_ok 1 100 (by kernel_rfl) ?_
        exact W.fin (by decide) (by kernel_rfl) (Weak.sel [] [2] (by kernel_rfl) (by kernel_rfl) (by kernel_rfl))
        ) ?_
    refine CodeOk.ret ?_
    have h := Option.some.inj h
    subst h
    exact Ends.gen [] (.inr rfl) (RetV.one rfl (OneR.tmp (t := 2) (r := V.str [109, 48]) (by kernel_rfl))) (by kernel_rfl) (by kernel_rfl) (by kernel_rfl)
  · refine CodeOk.ifF hc2 (by kernel_rfl) ?_
    refine CodeOk.skip ?_
    refine CodeOk.weak (st' := ⟨tl 20 [(0, V.int a0), (5, V.bool (decide (a0 ≤ 0)))], []⟩) (Weak.refl _) ?_
    refine CodeOk.cutR (tl 20 [(0, V.int a0), (3, V.str [])]) [] mix (by
        refine W.run D_ok 1 100 (by kernel_rfl) ?_
        exact W.fin (by decide) (by kernel_rfl) (Weak.sel [] [0, 3] (by kernel_rfl) (by kernel_rfl) (by kernel_rfl))
        ) ?_
    refine CodeOk.seq' ?_
    refine CodeOk.block' ?_
    refine CodeOk.loopJ (fun (⟨y13, y14⟩ : (Int × (List UInt8))) => ⟨tl 20 [(0, V.int y13), (3, V.str y14)], []⟩) (fun n i => m_laws_markText_l1 N n i = some r) (n0 := N) (i0 := (a0, [])) (Weak.sel [] [0, 3] (by kernel_rfl) (by kernel_rfl) (by kernel_rfl)) h (fun i h => by simp [m_laws_markText_l1] at h) ?_
    rintro n1 ⟨y13, y14⟩ h25 ih26
    rw [m_laws_markText_l1] at h25
    refine CodeOk.seq' ?_
    refine CodeOk.cutR (tl 20 [(0, V.int y13), (3, V.str y14), (7, V.bool (decide (y13 > 0)))]) [] mix (by
        refine W.run D_ok 2 162 (by kernel_rfl) ?_
        exact W.fin (by decide) (by kernel_rfl) (Weak.sel [] [0, 3, 7] (by kernel_rfl) (by kernel_rfl) (by kernel_rfl))
        ) ?_
    rcases cond_some h25 with ⟨hc28, h25⟩ | ⟨hc28, h25⟩
    · refine CodeOk.ifT hc28 (by kernel_rfl) ?_
      refine CodeOk.skip ?_
      refine CodeOk.weak (st' := ⟨tl 20 [(0, V.int y13), (3, V.str y14), (7, V.bool (decide (y13 > 0)))], []⟩) (Weak.refl _) ?_
      refine CodeOk.block' ?_
      obtain ⟨s20, hx30, h25⟩ := bind_some h25
      refine CodeOk.cutR (tl 20 [(0, V.int y13), (3, V.str s20)]) [] mix (by
          refine W.run D_ok 4 162 (by kernel_rfl) ?_
          refine W.run D_ok 1 162 (by kernel_rfl) ?_
          refine W.vecEq 162 (nn := true) (e := 5) (k := 1) (rows := [[.c (.int .u8 (IntKind.wrap .u8 (IntKind.wrap .i64 (48 + (Int.tmod y13 10)))))]]) (rows' := [(bytI (IntKind.wrap .i64 (48 + (Int.tmod y13 10))))].map byteRow) (by kernel_rfl) (by first | (simp only [List.map_cons, List.map_nil, ← bytI_row]; done) | (simp only [List.map_cons, List.map_nil, ← bytI_row]; rfl)) ?_
          refine W.strO D_ok ([(bytI (IntKind.wrap .i64 (48 + (Int.tmod y13 10))))] : List UInt8) (a := 162) (by kernel_rfl) ?_
          refine W.run D_ok 1 163 (by kernel_rfl) ?_
          refine W.cat hx30 (by kernel_rfl) ?_
          refine W.run D_ok 1 163 (by kernel_rfl) ?_
          exact W.fin (by decide) (by kernel_rfl) (Weak.sel [] [0, 3] (by kernel_rfl) (by kernel_rfl) (by kernel_rfl))
          ) ?_
      refine CodeOk.endR (tl 20 [(0, V.int (IntKind.wrap .i64 (Int.tdiv y13 10))), (3, V.str s20)]) [] mix (by
          refine W.run D_ok 3 163 (by kernel_rfl) ?_
          exact W.fin (by decide) (by kernel_rfl) (Weak.sel [] [0, 3] (by kernel_rfl) (by kernel_rfl) (by kernel_rfl))
          ) (fun st hw => ?_)
      exact ih26 ((IntKind.wrap .i64 (Int.tdiv y13 10)), s20) h25 _ (hw.trans (Weak.sel [] [0, 3] (by kernel_rfl) (by kernel_rfl) (by kernel_rfl)))
    · refine CodeOk.ifF hc28 (by kernel_rfl) ?_
      refine CodeOk.exit ?_
      refine CodeOk.weak (st' := ⟨tl 20 [(0, V.int y13), (3, V.str y14), (7, V.bool (decide (y13 > 0)))], []⟩) (Weak.refl _) ?_
      obtain ⟨s22, hx32, h25⟩ := bind_some h25
      refine CodeOk.cutR (tl 20 [(2, V.str s22)]) [] mix (by
          refine W.run D_ok 1 162 (by kernel_rfl) ?_
          refine W.cat hx32 (by kernel_rfl) ?_
          refine W.run D_ok 1 162 (by kernel_rfl) ?_
          exact W.fin (by decide) (by kernel_rfl) (Weak.sel [] [2] (by kernel_rfl) (by kernel_rfl) (by kernel_rfl))
          ) ?_
      refine CodeOk.ret ?_
      have h25 := Option.some.inj h25
      subst h25
      exact Ends.gen [] (.inr rfl) (RetV.one rfl (OneR.tmp (t := 2) (r := V.str s22) (by kernel_rfl))) (by kernel_rfl) (by kernel_rfl) (by kernel_rfl)

theorem m_laws_markTokenS_ok (e0 : TypeId) (N : Nat) (a1 : Int) (p0 : List SToken) {r : (Int × (List SToken))} (h : m_laws_markTokenS N a1 p0 = some r) :
    AC Tryd.prog (GS []) 14 [.own 0, V.int a1] [(0, .vec false e0 3 (p0.map encSToken))] (V.int r.1) [(0, .vec false e0 3 (r.2.map encSToken))] := by
  rw [m_laws_markTokenS] at h
  refine AC.enter Tryd.func14 rfl ?_
  refine CodeOk.cutR (tl 35 [(0, .own 0), (1, V.int a1)]) [(0, .vec false e0 3 (p0.map encSToken))] mix (by
      refine W.run D_ok 1 100 (by kernel_rfl) ?_
      exact W.fin (by decide) (by kernel_rfl) (Weak.sel [(0, 0)] [0, 1] (by kernel_rfl) (by kernel_rfl) (by kernel_rfl))
      ) ?_
  refine CodeOk.seq' ?_
  refine CodeOk.cutR (tl 35 [(0, .own 0), (1, V.int a1), (5, V.int 0)]) [(0, .vec false e0 3 (p0.map encSToken))] mix (by
      refine W.run D_ok 1 100 (by kernel_rfl) ?_
      exact W.fin (by decide) (by kernel_rfl) (Weak.sel [(0, 0)] [0, 1, 5] (by kernel_rfl) (by kernel_rfl) (by kernel_rfl))
      ) ?_
  refine CodeOk.block' ?_
  refine CodeOk.loopJ (fun (⟨y119, y120, y121⟩ : (Int × Int × (List SToken))) => ⟨tl 35 [(0, .own 0), (1, V.int y119), (5, V.int y120)], [(0, .vec false e0 3 (y121.map encSToken))]⟩) (fun n i => m_laws_markTokenS_l1 N n i = some r) (n0 := N) (i0 := (a1, 0, p0)) (Weak.sel [(0, 0)] [0, 1, 5] (by kernel_rfl) (by kernel_rfl) (by kernel_rfl)) h (fun i h => by simp [m_laws_markTokenS_l1] at h) ?_
  rintro n1 ⟨y119, y120, y121⟩ h153 ih154
  rw [m_laws_markTokenS_l1] at h153
  refine CodeOk.seq' ?_
  refine CodeOk.cutR (tl 35 [(0, .own 0), (1, V.int y119), (5, V.int y120), (9, V.bool (decide (y120 < (y121.length : Int))))]) [(0, .vec false e0 3 (y121.map encSToken))] mix (by
      refine W.run D_ok 2 160 (by kernel_rfl) ?_
      refine W.len D_ok encSToken y121 [0] (by kernel_rfl) (by kernel_rfl) ?_
      refine W.run D_ok 1 160 (by kernel_rfl) ?_
      exact W.fin (by decide) (by kernel_rfl) (Weak.sel [(0, 0)] [0, 1, 5, 9] (by kernel_rfl) (by kernel_rfl) (by kernel_rfl))
      ) ?_
  rcases cond_some h153 with ⟨hc156, h153⟩ | ⟨hc156, h153⟩
  · refine CodeOk.ifT hc156 (by kernel_rfl) ?_
    refine CodeOk.skip ?_
    refine CodeOk.weak (st' := ⟨tl 35 [(0, .own 0), (1, V.int y119), (5, V.int y120), (9, V.bool (decide (y120 < (y121.length : Int))))], [(0, .vec false e0 3 (y121.map encSToken))]⟩) (Weak.refl _) ?_
    refine CodeOk.seq' ?_
    refine CodeOk.block' ?_
    obtain ⟨e169, hx173, h153⟩ := bind_some h153
    obtain ⟨x170, hu174, h153⟩ := bind_some h153
    refine CodeOk.cutR (tl 35 [(0, .own 0), (1, V.int y119), (5, V.int y120)]) [(0, .vec false e0 3 (x170.map encSToken))] mix (by
        refine W.run D_ok 3 160 (by kernel_rfl) ?_
        refine W.ixO D_ok encSToken hx173 0 3 (by kernel_rfl) ?_
        refine W.run D_ok 1 160 (by kernel_rfl) ?_
        refine W.stO D_ok encSToken (x' := (⟨y119, e169.Text, e169.At⟩ : SToken)) hx173 hu174 (j := 0) (nn := false) (ety := e0) (sz := 3) (b := 0) (ys := [V.int y119]) (C := []) (R := []) (by kernel_rfl) (by kernel_rfl) ?_
        exact W.fin (by decide) (by kernel_rfl) (Weak.sel [(0, 0)] [0, 1, 5] (by kernel_rfl) (by kernel_rfl) (by kernel_rfl))
        ) ?_
    refine CodeOk.cutR (tl 35 [(0, .own 0), (1, V.int (IntKind.wrap .i64 (y119 + 1))), (5, V.int y120)]) [(0, .vec false e0 3 (x170.map encSToken))] mix (by
        refine W.run D_ok 3 160 (by kernel_rfl) ?_
        exact W.fin (by decide) (by kernel_rfl) (Weak.sel [(0, 0)] [0, 1, 5] (by kernel_rfl) (by kernel_rfl) (by kernel_rfl))
        ) ?_
    obtain ⟨r174, hx178, h153⟩ := bind_some h153
    obtain ⟨e175, hx179, h153⟩ := bind_some h153
    obtain ⟨x176, hu180, h153⟩ := bind_some h153
    refine CodeOk.cutR (tl 35 [(0, .own 0), (1, V.int (IntKind.wrap .i64 (y119 + 1))), (5, V.int y120)]) [(0, .vec false e0 3 (x176.map encSToken))] mix (by
        refine W.run D_ok 3 160 (by kernel_rfl) ?_
        refine W.call0 (m_laws_markText_ok N (IntKind.wrap .i64 (y119 + 1)) hx178) cok35 rfl (by kernel_rfl) ?_
        refine W.ixO D_ok encSToken hx179 0 3 (by kernel_rfl) ?_
        refine W.run D_ok 1 160 (by kernel_rfl) ?_
        refine W.stO D_ok encSToken (x' := (⟨e175.Kind, r174, e175.At⟩ : SToken)) hx179 hu180 (j := 0) (nn := false) (ety := e0) (sz := 3) (b := 1) (ys := [V.str r174]) (C := []) (R := []) (by kernel_rfl) (by kernel_rfl) ?_
        exact W.fin (by decide) (by kernel_rfl) (Weak.sel [(0, 0)] [0, 1, 5] (by kernel_rfl) (by kernel_rfl) (by kernel_rfl))
        ) ?_
    refine CodeOk.cutR (tl 35 [(0, .own 0), (1, V.int (IntKind.wrap .i64 ((IntKind.wrap .i64 (y119 + 1)) + 1))), (5, V.int y120)]) [(0, .vec false e0 3 (x176.map encSToken))] mix (by
        refine W.run D_ok 3 160 (by kernel_rfl) ?_
        exact W.fin (by decide) (by kernel_rfl) (Weak.sel [(0, 0)] [0, 1, 5] (by kernel_rfl) (by kernel_rfl) (by kernel_rfl))
        ) ?_
    obtain ⟨e179, hx183, h153⟩ := bind_some h153
    obtain ⟨x180, hu184, h153⟩ := bind_some h153
    refine CodeOk.cutR (tl 35 [(0, .own 0), (1, V.int (IntKind.wrap .i64 ((IntKind.wrap .i64 (y119 + 1)) + 1))), (5, V.int y120)]) [(0, .vec false e0 3 (x180.map encSToken))] mix (by
        refine W.run D_ok 3 160 (by kernel_rfl) ?_
        refine W.ixO D_ok encSToken hx183 0 3 (by kernel_rfl) ?_
        refine W.run D_ok 1 160 (by kernel_rfl) ?_
        refine W.stO D_ok encSToken (x' := (⟨e179.Kind, e179.Text, (IntKind.wrap .i64 ((IntKind.wrap .i64 (y119 + 1)) + 1))⟩ : SToken)) hx183 hu184 (j := 0) (nn := false) (ety := e0) (sz := 3) (b := 2) (ys := [V.int (IntKind.wrap .i64 ((IntKind.wrap .i64 (y119 + 1)) + 1))]) (C := []) (R := []) (by kernel_rfl) (by kernel_rfl) ?_
        exact W.fin (by decide) (by kernel_rfl) (Weak.sel [(0, 0)] [0, 1, 5] (by kernel_rfl) (by kernel_rfl) (by kernel_rfl))
        ) ?_
    refine CodeOk.endR (tl 35 [(0, .own 0), (1, V.int (IntKind.wrap .i64 ((IntKind.wrap .i64 ((IntKind.wrap .i64 (y119 + 1)) + 1)) + 1))), (5, V.int y120)]) [(0, .vec false e0 3 (x180.map encSToken))] mix (by
        refine W.run D_ok 3 160 (by kernel_rfl) ?_
        exact W.fin (by decide) (by kernel_rfl) (Weak.sel [(0, 0)] [0, 1, 5] (by kernel_rfl) (by kernel_rfl) (by kernel_rfl))
        ) (fun st hw => ?_)
    refine CodeOk.weak (st' := ⟨tl 35 [(0, .own 0), (1, V.int (IntKind.wrap .i64 ((IntKind.wrap .i64 ((IntKind.wrap .i64 (y119 + 1)) + 1)) + 1))), (5, V.int y120)], [(0, .vec false e0 3 (x180.map encSToken))]⟩) hw ?_
    refine CodeOk.endR (tl 35 [(0, .own 0), (1, V.int (IntKind.wrap .i64 ((IntKind.wrap .i64 ((IntKind.wrap .i64 (y119 + 1)) + 1)) + 1))), (5, V.int (IntKind.wrap .i64 (y120 + 1)))]) [(0, .vec false e0 3 (x180.map encSToken))] mix (by
        refine W.run D_ok 3 160 (by kernel_rfl) ?_
        exact W.fin (by decide) (by kernel_rfl) (Weak.sel [(0, 0)] [0, 1, 5] (by kernel_rfl) (by kernel_rfl) (by kernel_rfl))
        ) (fun st hw => ?_)
    exact ih154 ((IntKind.wrap .i64 ((IntKind.wrap .i64 ((IntKind.wrap .i64 (y119 + 1)) + 1)) + 1)), (IntKind.wrap .i64 (y120 + 1)), x180) h153 _ (hw.trans (Weak.sel [(0, 0)] [0, 1, 5] (by kernel_rfl) (by kernel_rfl) (by kernel_rfl)))
  · refine CodeOk.ifF hc156 (by kernel_rfl) ?_
    refine CodeOk.exit ?_
    refine CodeOk.weak (st' := ⟨tl 35 [(0, .own 0), (1, V.int y119), (5, V.int y120), (9, V.bool (decide (y120 < (y121.length : Int))))], [(0, .vec false e0 3 (y121.map encSToken))]⟩) (Weak.refl _) ?_
    refine CodeOk.cutR (tl 35 [(4, V.int y119)]) [(0, .vec false e0 3 (y121.map encSToken))] mix (by
        refine W.run D_ok 2 160 (by kernel_rfl) ?_
        exact W.fin (by decide) (by kernel_rfl) (Weak.sel [(0, 0)] [4] (by kernel_rfl) (by kernel_rfl) (by kernel_rfl))
        ) ?_
    refine CodeOk.ret ?_
    have h153 := Option.some.inj h153
    subst h153
    exact Ends.gen [(0, 0)] (.inr rfl) (RetV.one rfl (OneR.tmp (t := 4) (r := V.int y119) (by kernel_rfl))) (by kernel_rfl) (by kernel_rfl) (by kernel_rfl)

theorem m_laws_heldTokenS_ok (N : Nat) (a0 : List SToken) (a1 : Int) {r : Int} (h : m_laws_heldTokenS N a0 a1 = some r) :
    AC Tryd.prog (GS []) 15 [.sl false false (a0.map encSToken), V.int a1] [] (V.int r) [] := by
  rw [m_laws_heldTokenS] at h
  refine AC.enter Tryd.func15 rfl ?_
  refine CodeOk.cutR (tl 41 [(0, .sl false false (a0.map encSToken)), (1, V.int a1)]) [] mix (by
      refine W.run D_ok 1 100 (by kernel_rfl) ?_
      exact W.fin (by decide) (by kernel_rfl) (Weak.sel [] [0, 1] (by kernel_rfl) (by kernel_rfl) (by kernel_rfl))
      ) ?_
  refine CodeOk.seq' ?_
  refine CodeOk.cutR (tl 41 [(0, .sl false false (a0.map encSToken)), (1, V.int a1), (5, V.int 0)]) [] mix (by
      refine W.run D_ok 1 100 (by kernel_rfl) ?_
      exact W.fin (by decide) (by kernel_rfl) (Weak.sel [] [0, 1, 5] (by kernel_rfl) (by kernel_rfl) (by kernel_rfl))
      ) ?_
  refine CodeOk.block' ?_
  refine CodeOk.loopJ (fun (⟨a0, y133, y134⟩ : ((List SToken) × Int × Int)) => ⟨tl 41 [(0, .sl false false (a0.map encSToken)), (1, V.int y133), (5, V.int y134)], []⟩) (fun n i => m_laws_heldTokenS_l1 N n i = some r) (n0 := N) (i0 := (a0, a1, 0)) (Weak.sel [] [0, 1, 5] (by kernel_rfl) (by kernel_rfl) (by kernel_rfl)) h (fun i h => by simp [m_laws_heldTokenS_l1] at h) ?_
  rintro n1 ⟨a0, y133, y134⟩ h233 ih234
  rw [m_laws_heldTokenS_l1] at h233
  refine CodeOk.seq' ?_
  refine CodeOk.cutR (tl 41 [(0, .sl false false (a0.map encSToken)), (1, V.int y133), (5, V.int y134), (9, V.bool (decide (y134 < (a0.length : Int))))]) [] mix (by
      refine W.run D_ok 2 160 (by kernel_rfl) ?_
      refine W.len D_ok encSToken a0 [] (by kernel_rfl) (by kernel_rfl) ?_
      refine W.run D_ok 1 160 (by kernel_rfl) ?_
      exact W.fin (by decide) (by kernel_rfl) (Weak.sel [] [0, 1, 5, 9] (by kernel_rfl) (by kernel_rfl) (by kernel_rfl))
      ) ?_
  rcases cond_some h233 with ⟨hc236, h233⟩ | ⟨hc236, h233⟩
  · refine CodeOk.ifT hc236 (by kernel_rfl) ?_
    refine CodeOk.skip ?_
    refine CodeOk.weak (st' := ⟨tl 41 [(0, .sl false false (a0.map encSToken)), (1, V.int y133), (5, V.int y134), (9, V.bool (decide (y134 < (a0.length : Int))))], []⟩) (Weak.refl _) ?_
    refine CodeOk.seq' ?_
    refine CodeOk.block' ?_
    refine CodeOk.seq' ?_
    obtain ⟨e188, hx263, h233⟩ := bind_some h233
    refine CodeOk.cutR (tl 41 [(0, .sl false false (a0.map encSToken)), (1, V.int y133), (5, V.int y134), (18, V.bool (e188.Kind != y133))]) [] mix (by
        refine W.run D_ok 2 160 (by kernel_rfl) ?_
        refine W.ixD D_ok encSToken hx263 3 (by kernel_rfl) (by kernel_rfl) ?_
        refine W.run D_ok 4 160 (by kernel_rfl) ?_
        exact W.fin (by decide) (by kernel_rfl) (Weak.sel [] [0, 1, 5, 18] (by kernel_rfl) (by kernel_rfl) (by kernel_rfl))
        ) ?_
    rcases cond_some h233 with ⟨hc264, h233⟩ | ⟨hc264, h233⟩
    · refine CodeOk.ifT hc264 (by kernel_rfl) ?_
      refine CodeOk.cutR (tl 41 [(4, V.int (-1))]) [] mix (by
          refine W.run D_ok 1 160 (by kernel_rfl) ?_
          exact W.fin (by decide) (by kernel_rfl) (Weak.sel [] [4] (by kernel_rfl) (by kernel_rfl) (by kernel_rfl))
          ) ?_
      refine CodeOk.ret ?_
      have h233 := Option.some.inj h233
      subst h233
      exact Ends.gen [] (.inr rfl) (RetV.one rfl (OneR.tmp (t := 4) (r := V.int (-1)) (by kernel_rfl))) (by kernel_rfl) (by kernel_rfl) (by kernel_rfl)
    · refine CodeOk.ifF hc264 (by kernel_rfl) ?_
      refine CodeOk.skip ?_
      refine CodeOk.weak (st' := ⟨tl 41 [(0, .sl false false (a0.map encSToken)), (1, V.int y133), (5, V.int y134), (18, V.bool (e188.Kind != y133))], []⟩) (Weak.refl _) ?_
      refine CodeOk.cutR (tl 41 [(0, .sl false false (a0.map encSToken)), (1, V.int (IntKind.wrap .i64 (y133 + 1))), (5, V.int y134)]) [] mix (by
          refine W.run D_ok 3 160 (by kernel_rfl) ?_
          exact W.fin (by decide) (by kernel_rfl) (Weak.sel [] [0, 1, 5] (by kernel_rfl) (by kernel_rfl) (by kernel_rfl))
          ) ?_
      refine CodeOk.seq' ?_
      obtain ⟨e195, hx272, h233⟩ := bind_some h233
      obtain ⟨r196, hx273, h233⟩ := bind_some h233
      refine CodeOk.cutR (tl 41 [(0, .sl false false (a0.map encSToken)), (1, V.int (IntKind.wrap .i64 (y133 + 1))), (5, V.int y134), (28, V.bool (!(e195.Text == r196)))]) [] mix (by
          refine W.run D_ok 2 160 (by kernel_rfl) ?_
          refine W.ixD D_ok encSToken hx272 3 (by kernel_rfl) (by kernel_rfl) ?_
          refine W.run D_ok 3 160 (by kernel_rfl) ?_
          refine W.call0 (m_laws_markText_ok N (IntKind.wrap .i64 (y133 + 1)) hx273) cok35 rfl (by kernel_rfl) ?_
          refine W.run D_ok 1 160 (by kernel_rfl) ?_
          exact W.fin (by decide) (by kernel_rfl) (Weak.sel [] [0, 1, 5, 28] (by kernel_rfl) (by kernel_rfl) (by kernel_rfl))
          ) ?_
      rcases cond_some h233 with ⟨hc274, h233⟩ | ⟨hc274, h233⟩
      · refine CodeOk.ifT hc274 (by kernel_rfl) ?_
        refine CodeOk.cutR (tl 41 [(4, V.int (-1))]) [] mix (by
            refine W.run D_ok 1 160 (by kernel_rfl) ?_
            exact W.fin (by decide) (by kernel_rfl) (Weak.sel [] [4] (by kernel_rfl) (by kernel_rfl) (by kernel_rfl))
            ) ?_
        refine CodeOk.ret ?_
        have h233 := Option.some.inj h233
        subst h233
        exact Ends.gen [] (.inr rfl) (RetV.one rfl (OneR.tmp (t := 4) (r := V.int (-1)) (by kernel_rfl))) (by kernel_rfl) (by kernel_rfl) (by kernel_rfl)
      · refine CodeOk.ifF hc274 (by kernel_rfl) ?_
        refine CodeOk.skip ?_
        refine CodeOk.weak (st' := ⟨tl 41 [(0, .sl false false (a0.map encSToken)), (1, V.int (IntKind.wrap .i64 (y133 + 1))), (5, V.int y134), (28, V.bool (!(e195.Text == r196)))], []⟩) (Weak.refl _) ?_
        refine CodeOk.cutR (tl 41 [(0, .sl false false (a0.map encSToken)), (1, V.int (IntKind.wrap .i64 ((IntKind.wrap .i64 (y133 + 1)) + 1))), (5, V.int y134)]) [] mix (by
            refine W.run D_ok 3 160 (by kernel_rfl) ?_
            exact W.fin (by decide) (by kernel_rfl) (Weak.sel [] [0, 1, 5] (by kernel_rfl) (by kernel_rfl) (by kernel_rfl))
            ) ?_
        refine CodeOk.seq' ?_
        obtain ⟨e200, hx279, h233⟩ := bind_some h233
        refine CodeOk.cutR (tl 41 [(0, .sl false false (a0.map encSToken)), (1, V.int (IntKind.wrap .i64 ((IntKind.wrap .i64 (y133 + 1)) + 1))), (5, V.int y134), (37, V.bool (e200.At != (IntKind.wrap .i64 ((IntKind.wrap .i64 (y133 + 1)) + 1))))]) [] mix (by
            refine W.run D_ok 2 160 (by kernel_rfl) ?_
            refine W.ixD D_ok encSToken hx279 3 (by kernel_rfl) (by kernel_rfl) ?_
            refine W.run D_ok 4 160 (by kernel_rfl) ?_
            exact W.fin (by decide) (by kernel_rfl) (Weak.sel [] [0, 1, 5, 37] (by kernel_rfl) (by kernel_rfl) (by kernel_rfl))
            ) ?_
        rcases cond_some h233 with ⟨hc280, h233⟩ | ⟨hc280, h233⟩
        · refine CodeOk.ifT hc280 (by kernel_rfl) ?_
          refine CodeOk.cutR (tl 41 [(4, V.int (-1))]) [] mix (by
              refine W.run D_ok 1 160 (by kernel_rfl) ?_
              exact W.fin (by decide) (by kernel_rfl) (Weak.sel [] [4] (by kernel_rfl) (by kernel_rfl) (by kernel_rfl))
              ) ?_
          refine CodeOk.ret ?_
          have h233 := Option.some.inj h233
          subst h233
          exact Ends.gen [] (.inr rfl) (RetV.one rfl (OneR.tmp (t := 4) (r := V.int (-1)) (by kernel_rfl))) (by kernel_rfl) (by kernel_rfl) (by kernel_rfl)
        · refine CodeOk.ifF hc280 (by kernel_rfl) ?_
          refine CodeOk.skip ?_
          refine CodeOk.weak (st' := ⟨tl 41 [(0, .sl false false (a0.map encSToken)), (1, V.int (IntKind.wrap .i64 ((IntKind.wrap .i64 (y133 + 1)) + 1))), (5, V.int y134), (37, V.bool (e200.At != (IntKind.wrap .i64 ((IntKind.wrap .i64 (y133 + 1)) + 1))))], []⟩) (Weak.refl _) ?_
          refine CodeOk.endR (tl 41 [(0, .sl false false (a0.map encSToken)), (1, V.int (IntKind.wrap .i64 ((IntKind.wrap .i64 ((IntKind.wrap .i64 (y133 + 1)) + 1)) + 1))), (5, V.int y134)]) [] mix (by
              refine W.run D_ok 3 160 (by kernel_rfl) ?_
              exact W.fin (by decide) (by kernel_rfl) (Weak.sel [] [0, 1, 5] (by kernel_rfl) (by kernel_rfl) (by kernel_rfl))
              ) (fun st hw => ?_)
          refine CodeOk.weak (st' := ⟨tl 41 [(0, .sl false false (a0.map encSToken)), (1, V.int (IntKind.wrap .i64 ((IntKind.wrap .i64 ((IntKind.wrap .i64 (y133 + 1)) + 1)) + 1))), (5, V.int y134)], []⟩) hw ?_
          refine CodeOk.endR (tl 41 [(0, .sl false false (a0.map encSToken)), (1, V.int (IntKind.wrap .i64 ((IntKind.wrap .i64 ((IntKind.wrap .i64 (y133 + 1)) + 1)) + 1))), (5, V.int (IntKind.wrap .i64 (y134 + 1)))]) [] mix (by
              refine W.run D_ok 3 160 (by kernel_rfl) ?_
              exact W.fin (by decide) (by kernel_rfl) (Weak.sel [] [0, 1, 5] (by kernel_rfl) (by kernel_rfl) (by kernel_rfl))
              ) (fun st hw => ?_)
          exact ih234 (a0, (IntKind.wrap .i64 ((IntKind.wrap .i64 ((IntKind.wrap .i64 (y133 + 1)) + 1)) + 1)), (IntKind.wrap .i64 (y134 + 1))) h233 _ (hw.trans (Weak.sel [] [0, 1, 5] (by kernel_rfl) (by kernel_rfl) (by kernel_rfl)))
  · refine CodeOk.ifF hc236 (by kernel_rfl) ?_
    refine CodeOk.exit ?_
    refine CodeOk.weak (st' := ⟨tl 41 [(0, .sl false false (a0.map encSToken)), (1, V.int y133), (5, V.int y134), (9, V.bool (decide (y134 < (a0.length : Int))))], []⟩) (Weak.refl _) ?_
    refine CodeOk.cutR (tl 41 [(4, V.int y133)]) [] mix (by
        refine W.run D_ok 2 160 (by kernel_rfl) ?_
        exact W.fin (by decide) (by kernel_rfl) (Weak.sel [] [4] (by kernel_rfl) (by kernel_rfl) (by kernel_rfl))
        ) ?_
    refine CodeOk.ret ?_
    have h233 := Option.some.inj h233
    subst h233
    exact Ends.gen [] (.inr rfl) (RetV.one rfl (OneR.tmp (t := 4) (r := V.int y133) (by kernel_rfl))) (by kernel_rfl) (by kernel_rfl) (by kernel_rfl)

theorem m_laws_FnExactRelex_ok (N : Nat) (a0 : List SToken) (a1 : List UInt8) (a2 : Int) (a3 : Int) (a4 : List UInt8) {r : Bool} (h : m_laws_FnExactRelex N a0 a1 a2 a3 a4 = some r) :
    AC Tryd.prog (GS [0, 1, 2]) 4 [.sl false false (a0.map encSToken), V.str a1, V.int a2, V.int a3, V.str a4] [] (V.bool r) [] := by
  rw [m_laws_FnExactRelex] at h
  refine AC.enter Tryd.func4 rfl ?_
  refine CodeOk.cutR (tl 125 [(0, .sl false false (a0.map encSToken)), (1, V.str a1), (2, V.int a2), (3, V.int a3), (4, V.str a4)]) [] mix (by
      refine W.run D_ok 1 100 (by kernel_rfl) ?_
      exact W.fin (by decide) (by kernel_rfl) (Weak.sel [] [0, 1, 2, 3, 4] (by kernel_rfl) (by kernel_rfl) (by kernel_rfl))
      ) ?_
  refine CodeOk.seq' ?_
  refine CodeOk.cutR (tl 125 [(0, .sl false false (a0.map encSToken)), (1, V.str a1), (2, V.int a2), (3, V.int a3), (4, V.str a4), (24, V.bool (decide ((a1.length : Int) > 1048576)))]) [] mix (by
      refine W.run D_ok 3 100 (by kernel_rfl) ?_
      exact W.fin (by decide) (by kernel_rfl) (Weak.sel [] [0, 1, 2, 3, 4, 24] (by kernel_rfl) (by kernel_rfl) (by kernel_rfl))
      ) ?_
  rcases cond_some h with ⟨hc2, h⟩ | ⟨hc2, h⟩
  · refine CodeOk.ifT hc2 (by kernel_rfl) ?_
    refine CodeOk.cutR (tl 125 [(10, V.bool true)]) [] mix (by
        refine W.run D_ok 1 100 (by kernel_rfl) ?_
        exact W.fin (by decide) (by kernel_rfl) (Weak.sel [] [10] (by kernel_rfl) (by kernel_rfl) (by kernel_rfl))
        ) ?_
    refine CodeOk.ret ?_
    have h := Option.some.inj h
    subst h
    exact Ends.gen [] (.inr rfl) (RetV.one rfl (OneR.tmp (t := 10) (r := V.bool true) (by kernel_rfl))) (by kernel_rfl) (by kernel_rfl) (by kernel_rfl)
  · refine CodeOk.ifF hc2 (by kernel_rfl) ?_
    refine CodeOk.skip ?_
    refine CodeOk.weak (st' := ⟨tl 125 [(0, .sl false false (a0.map encSToken)), (1, V.str a1), (2, V.int a2), (3, V.int a3), (4, V.str a4), (24, V.bool (decide ((a1.length : Int) > 1048576)))], []⟩) (Weak.refl _) ?_
    refine CodeOk.seq' ?_
    refine CodeOk.cutR (tl 125 [(0, .sl false false (a0.map encSToken)), (1, V.str a1), (2, V.int a2), (3, V.int a3), (4, V.str a4), (27, V.bool (decide ((a4.length : Int) > 1048576)))]) [] mix (by
        refine W.run D_ok 3 100 (by kernel_rfl) ?_
        exact W.fin (by decide) (by kernel_rfl) (Weak.sel [] [0, 1, 2, 3, 4, 27] (by kernel_rfl) (by kernel_rfl) (by kernel_rfl))
        ) ?_
    rcases cond_some h with ⟨hc4, h⟩ | ⟨hc4, h⟩
    · refine CodeOk.ifT hc4 (by kernel_rfl) ?_
      refine CodeOk.cutR (tl 125 [(10, V.bool true)]) [] mix (by
          refine W.run D_ok 1 100 (by kernel_rfl) ?_
          exact W.fin (by decide) (by kernel_rfl) (Weak.sel [] [10] (by kernel_rfl) (by kernel_rfl) (by kernel_rfl))
          ) ?_
      refine CodeOk.ret ?_
      have h := Option.some.inj h
      subst h
      exact Ends.gen [] (.inr rfl) (RetV.one rfl (OneR.tmp (t := 10) (r := V.bool true) (by kernel_rfl))) (by kernel_rfl) (by kernel_rfl) (by kernel_rfl)
    · refine CodeOk.ifF hc4 (by kernel_rfl) ?_
      refine CodeOk.skip ?_
      refine CodeOk.weak (st' := ⟨tl 125 [(0, .sl false false (a0.map encSToken)), (1, V.str a1), (2, V.int a2), (3, V.int a3), (4, V.str a4), (27, V.bool (decide ((a4.length : Int) > 1048576)))], []⟩) (Weak.refl _) ?_
      refine CodeOk.cutR (tl 125 [(0, .sl false false (a0.map encSToken)), (1, V.str a1), (2, V.int a2), (3, V.int a3), (4, V.str a4), (11, V.int 1048576)]) [] mix (by
          refine W.run D_ok 1 100 (by kernel_rfl) ?_
          exact W.fin (by decide) (by kernel_rfl) (Weak.sel [] [0, 1, 2, 3, 4, 11] (by kernel_rfl) (by kernel_rfl) (by kernel_rfl))
          ) ?_
      obtain ⟨r2, hx6, h⟩ := bind_some h
      refine CodeOk.cutR (tl 125 [(0, .sl false false (a0.map encSToken)), (1, V.str a1), (2, V.int a2), (3, V.int a3), (4, V.str a4), (11, V.int r2)]) [] mix (by
          refine W.run D_ok 2 100 (by kernel_rfl) ?_
          refine W.call0 (AC.gs (m_laws_szTokenS_ok N a0 1048576 hx6) (by decide)) cok6 rfl (by kernel_rfl) ?_
          refine W.run D_ok 1 100 (by kernel_rfl) ?_
          exact W.fin (by decide) (by kernel_rfl) (Weak.sel [] [0, 1, 2, 3, 4, 11] (by kernel_rfl) (by kernel_rfl) (by kernel_rfl))
          ) ?_
      refine CodeOk.seq' ?_
      refine CodeOk.cutR (tl 125 [(0, .sl false false (a0.map encSToken)), (1, V.str a1), (2, V.int a2), (3, V.int a3), (4, V.str a4), (32, V.bool (decide (r2 < 0)))]) [] mix (by
          refine W.run D_ok 2 100 (by kernel_rfl) ?_
          exact W.fin (by decide) (by kernel_rfl) (Weak.sel [] [0, 1, 2, 3, 4, 32] (by kernel_rfl) (by kernel_rfl) (by kernel_rfl))
          ) ?_
      rcases cond_some h with ⟨hc8, h⟩ | ⟨hc8, h⟩
      · refine CodeOk.ifT hc8 (by kernel_rfl) ?_
        refine CodeOk.cutR (tl 125 [(10, V.bool true)]) [] mix (by
            refine W.run D_ok 1 100 (by kernel_rfl) ?_
            exact W.fin (by decide) (by kernel_rfl) (Weak.sel [] [10] (by kernel_rfl) (by kernel_rfl) (by kernel_rfl))
            ) ?_
        refine CodeOk.ret ?_
        have h := Option.some.inj h
        subst h
        exact Ends.gen [] (.inr rfl) (RetV.one rfl (OneR.tmp (t := 10) (r := V.bool true) (by kernel_rfl))) (by kernel_rfl) (by kernel_rfl) (by kernel_rfl)
      · refine CodeOk.ifF hc8 (by kernel_rfl) ?_
        refine CodeOk.skip ?_
        refine CodeOk.weak (st' := ⟨tl 125 [(0, .sl false false (a0.map encSToken)), (1, V.str a1), (2, V.int a2), (3, V.int a3), (4, V.str a4), (32, V.bool (decide (r2 < 0)))], []⟩) (Weak.refl _) ?_
        obtain ⟨r5, hx11, h⟩ := bind_some h
        obtain ⟨r6, hx12, h⟩ := bind_some h
        refine CodeOk.cutR (tl 125 [(0, .sl false false (a0.map encSToken)), (1, V.str a1), (2, V.int a2), (3, V.int a3), (4, V.str a4), (12, .own 101), (13, .loc 102 0)]) [(102, .cells 30 [V.int r6.2.Kind, V.int r6.2.At]), (101, .vec false 46 3 (r6.1.map encSToken))] mix (by
            refine W.run D_ok 1 100 (by kernel_rfl) ?_
            refine W.call (AC.gs (m_laws_toTokenS_ok N a0 hx11) (by decide)) cok8 [] [(100, 100)] [100] (show LayOk _ [] from trivial) (by kernel_rfl) (by kernel_rfl) ?_
            refine W.run D_ok 4 101 (by kernel_rfl) ?_
            refine W.lend (AC.gs (m_spec_Relex_ok N r5 a1 a2 a3 a4 hx12) (by decide)) cok11 [(100, 101)] [101] (LayOk.cons (j := 100) encSToken encSToken r5 (by kernel_rfl) (fun _ => rfl) (show LayOk _ [] from trivial)) (.tup _ (.cons (.own _) (.cons (.agg _ (.cons (.c _) (.cons (.c _) .nil))) .nil))) (.cons (DeepR.map (fun _ => (.cons (.c _) (.cons (.c _) (.cons (.c _) .nil)))) _) .nil) (by kernel_rfl) (by kernel_rfl) ?_
            refine W.run D_ok 6 102 (by kernel_rfl) ?_
            exact W.fin (by decide) (by kernel_rfl) (Weak.sel [(102, 102), (101, 101)] [0, 1, 2, 3, 4, 12, 13] (by kernel_rfl) (by kernel_rfl) (by kernel_rfl))
            ) ?_
        obtain ⟨r8, hx14, h⟩ := bind_some h
        refine CodeOk.cutR (tl 125 [(0, .sl false false (a0.map encSToken)), (1, V.str a1), (2, V.int a2), (3, V.int a3), (4, V.str a4), (12, .own 101), (13, .loc 102 0), (14, .own 103)]) [(103, .vec false 46 3 (r8.map encSToken)), (102, .cells 30 [V.int r6.2.Kind, V.int r6.2.At]), (101, .vec false 46 3 (r6.1.map encSToken))] mix (by
            refine W.run D_ok 1 103 (by kernel_rfl) ?_
            refine W.call (AC.gs (m_laws_toTokenS_ok N a0 hx14) (by decide)) cok8 [] [(100, 103)] [103] (show LayOk _ [] from trivial) (by kernel_rfl) (by kernel_rfl) ?_
            refine W.run D_ok 1 104 (by kernel_rfl) ?_
            exact W.fin (by decide) (by kernel_rfl) (Weak.sel [(103, 103), (102, 102), (101, 101)] [0, 1, 2, 3, 4, 12, 13, 14] (by kernel_rfl) (by kernel_rfl) (by kernel_rfl))
            ) ?_
        obtain ⟨r10, hx16, h⟩ := bind_some h
        refine CodeOk.cutR (tl 125 [(0, .sl false false (a0.map encSToken)), (1, V.str a1), (2, V.int a2), (3, V.int a3), (4, V.str a4), (12, .own 101), (13, .loc 102 0), (14, .own 103), (15, .own 104), (16, .loc 105 0)]) [(105, .cells 30 [V.int r10.2.Kind, V.int r10.2.At]), (104, .vec false 46 3 (r10.1.map encSToken)), (103, .vec false 46 3 (r8.map encSToken)), (102, .cells 30 [V.int r6.2.Kind, V.int r6.2.At]), (101, .vec false 46 3 (r6.1.map encSToken))] mix (by
            refine W.run D_ok 5 104 (by kernel_rfl) ?_
            refine W.lend (m_impl_Relex_ok N r8 a1 a2 a3 a4 hx16) cok12 [(100, 104)] [104] (LayOk.cons (j := 103) encSToken encSToken r8 (by kernel_rfl) (fun _ => rfl) (show LayOk _ [] from trivial)) (.tup _ (.cons (.own _) (.cons (.agg _ (.cons (.c _) (.cons (.c _) .nil))) .nil))) (.cons (DeepR.map (fun _ => (.cons (.c _) (.cons (.c _) (.cons (.c _) .nil)))) _) .nil) (by kernel_rfl) (by kernel_rfl) ?_
            refine W.run D_ok 6 105 (by kernel_rfl) ?_
            exact W.fin (by decide) (by kernel_rfl) (Weak.sel [(105, 105), (104, 104), (103, 103), (102, 102), (101, 101)] [0, 1, 2, 3, 4, 12, 13, 14, 15, 16] (by kernel_rfl) (by kernel_rfl) (by kernel_rfl))
            ) ?_
        refine CodeOk.seq' ?_
        obtain ⟨y18, hv28, h⟩ := bind_some h
        refine CodeOk.cutR (tl 125 [(0, .sl false false (a0.map encSToken)), (1, V.str a1), (2, V.int a2), (3, V.int a3), (4, V.str a4), (12, .own 100), (13, .loc 101 0), (14, .own 102), (15, .own 103), (16, .loc 104 0), (63, V.bool y18)]) [(100, .vec false 46 3 (r6.1.map encSToken)), (101, .cells 30 [V.int r6.2.Kind, V.int r6.2.At]), (102, .vec false 46 3 (r8.map encSToken)), (103, .vec false 46 3 (r10.1.map encSToken)), (104, .cells 30 [V.int r10.2.Kind, V.int r10.2.At])] mix (by
            refine W.run D_ok 2 106 (by kernel_rfl) ?_
            obtain ⟨r19, hx29, hv28⟩ := bind_some hv28
            refine W.lend (AC.gs (m_laws_eqTokenS_ok N r10.1 r6.1 hx29) (by decide)) cok10 [] [] (LayOk.cons (j := 104) encSToken encSToken r10.1 (by kernel_rfl) (fun _ => rfl) (LayOk.cons (j := 101) encSToken encSToken r6.1 (by kernel_rfl) (fun _ => rfl) (show LayOk _ [] from trivial))) (.c _) .nil (by kernel_rfl) (by kernel_rfl) ?_
            refine W.run D_ok 2 106 (by kernel_rfl) ?_
            rcases cond_some hv28 with ⟨hc30, hv28⟩ | ⟨hc30, hv28⟩
            · refine W.is 58 hc30 (by kernel_rfl) ?_
              refine W.run D_ok 5 106 (by kernel_rfl) ?_
              have hv28 := Option.some.inj hv28
              subst hv28
              exact W.fin (by decide) (by kernel_rfl) (Weak.sel [(101, 100), (102, 101), (103, 102), (104, 103), (105, 104)] [0, 1, 2, 3, 4, 12, 13, 14, 15, 16, 63] (by kernel_rfl) (by kernel_rfl) (by kernel_rfl))
            · refine W.is 58 hc30 (by kernel_rfl) ?_
              refine W.run D_ok 2 106 (by kernel_rfl) ?_
              obtain ⟨r20, hx31, hv28⟩ := bind_some hv28
              refine W.call0 (AC.gs (m_laws_eqFault_ok r10.2 r6.2 hx31) (by decide)) cok13 rfl (by kernel_rfl) ?_
              refine W.run D_ok 2 106 (by kernel_rfl) ?_
              have hv28 := Option.some.inj hv28
              subst hv28
              exact W.fin (by decide) (by kernel_rfl) (Weak.sel [(101, 100), (102, 101), (103, 102), (104, 103), (105, 104)] [0, 1, 2, 3, 4, 12, 13, 14, 15, 16, 63] (by kernel_rfl) (by kernel_rfl) (by kernel_rfl))
            ) ?_
        rcases cond_some h with ⟨hc32, h⟩ | ⟨hc32, h⟩
        · refine CodeOk.ifT hc32 (by kernel_rfl) ?_
          refine CodeOk.cutR (tl 125 [(10, V.bool false)]) [] mix (by
              refine W.run D_ok 1 106 (by kernel_rfl) ?_
              exact W.fin (by decide) (by kernel_rfl) (Weak.sel [] [10] (by kernel_rfl) (by kernel_rfl) (by kernel_rfl))
              ) ?_
          refine CodeOk.ret ?_
          have h := Option.some.inj h
          subst h
          exact Ends.gen [] (.inr rfl) (RetV.one rfl (OneR.tmp (t := 10) (r := V.bool false) (by kernel_rfl))) (by kernel_rfl) (by kernel_rfl) (by kernel_rfl)
        · refine CodeOk.ifF hc32 (by kernel_rfl) ?_
          refine CodeOk.skip ?_
          refine CodeOk.weak (st' := ⟨tl 125 [(0, .sl false false (a0.map encSToken)), (1, V.str a1), (2, V.int a2), (3, V.int a3), (4, V.str a4), (12, .own 100), (13, .loc 101 0), (14, .own 102), (15, .own 103), (16, .loc 104 0), (63, V.bool y18)], [(100, .vec false 46 3 (r6.1.map encSToken)), (101, .cells 30 [V.int r6.2.Kind, V.int r6.2.At]), (102, .vec false 46 3 (r8.map encSToken)), (103, .vec false 46 3 (r10.1.map encSToken)), (104, .cells 30 [V.int r10.2.Kind, V.int r10.2.At])]⟩) (Weak.refl _) ?_
          refine CodeOk.seq' ?_
          obtain ⟨r27, hx40, h⟩ := bind_some h
          obtain ⟨r28, hx41, h⟩ := bind_some h
          refine CodeOk.cutR (tl 125 [(0, .sl false false (a0.map encSToken)), (1, V.str a1), (2, V.int a2), (3, V.int a3), (4, V.str a4), (12, .own 100), (13, .loc 101 0), (14, .own 102), (15, .own 103), (16, .loc 104 0), (68, V.bool (!r28))]) [(100, .vec false 46 3 (r6.1.map encSToken)), (101, .cells 30 [V.int r6.2.Kind, V.int r6.2.At]), (102, .vec false 46 3 (r8.map encSToken)), (103, .vec false 46 3 (r10.1.map encSToken)), (104, .cells 30 [V.int r10.2.Kind, V.int r10.2.At])] mix (by
              refine W.run D_ok 2 106 (by kernel_rfl) ?_
              refine W.call (AC.gs (m_laws_toTokenS_ok N a0 hx40) (by decide)) cok8 [] [(100, 106)] [106] (show LayOk _ [] from trivial) (by kernel_rfl) (by kernel_rfl) ?_
              refine W.lend (AC.gs (m_laws_eqTokenS_ok N r8 r27 hx41) (by decide)) cok10 [] [] (LayOk.cons (j := 102) encSToken encSToken r8 (by kernel_rfl) (fun _ => rfl) (LayOk.cons (j := 106) encSToken encSToken r27 (by kernel_rfl) (fun _ => rfl) (show LayOk _ [] from trivial))) (.c _) .nil (by kernel_rfl) (by kernel_rfl) ?_
              refine W.run D_ok 1 107 (by kernel_rfl) ?_
              exact W.fin (by decide) (by kernel_rfl) (Weak.sel [(100, 100), (101, 101), (102, 102), (103, 103), (104, 104)] [0, 1, 2, 3, 4, 12, 13, 14, 15, 16, 68] (by kernel_rfl) (by kernel_rfl) (by kernel_rfl))
              ) ?_
          rcases cond_some h with ⟨hc42, h⟩ | ⟨hc42, h⟩
          · refine CodeOk.ifT hc42 (by kernel_rfl) ?_
            refine CodeOk.cutR (tl 125 [(10, V.bool false)]) [] mix (by
                refine W.run D_ok 1 107 (by kernel_rfl) ?_
                exact W.fin (by decide) (by kernel_rfl) (Weak.sel [] [10] (by kernel_rfl) (by kernel_rfl) (by kernel_rfl))
                ) ?_
            refine CodeOk.ret ?_
            have h := Option.some.inj h
            subst h
            exact Ends.gen [] (.inr rfl) (RetV.one rfl (OneR.tmp (t := 10) (r := V.bool false) (by kernel_rfl))) (by kernel_rfl) (by kernel_rfl) (by kernel_rfl)
          · refine CodeOk.ifF hc42 (by kernel_rfl) ?_
            refine CodeOk.skip ?_
            refine CodeOk.weak (st' := ⟨tl 125 [(0, .sl false false (a0.map encSToken)), (1, V.str a1), (2, V.int a2), (3, V.int a3), (4, V.str a4), (12, .own 100), (13, .loc 101 0), (14, .own 102), (15, .own 103), (16, .loc 104 0), (68, V.bool (!r28))], [(100, .vec false 46 3 (r6.1.map encSToken)), (101, .cells 30 [V.int r6.2.Kind, V.int r6.2.At]), (102, .vec false 46 3 (r8.map encSToken)), (103, .vec false 46 3 (r10.1.map encSToken)), (104, .cells 30 [V.int r10.2.Kind, V.int r10.2.At])]⟩) (Weak.refl _) ?_
            refine CodeOk.cutR (tl 125 [(0, .sl false false (a0.map encSToken)), (1, V.str a1), (2, V.int a2), (3, V.int a3), (4, V.str a4), (12, .own 100), (13, .loc 101 0), (14, .own 102), (15, .own 103), (16, .loc 104 0), (17, V.int 1)]) [(100, .vec false 46 3 (r6.1.map encSToken)), (101, .cells 30 [V.int r6.2.Kind, V.int r6.2.At]), (102, .vec false 46 3 (r8.map encSToken)), (103, .vec false 46 3 (r10.1.map encSToken)), (104, .cells 30 [V.int r10.2.Kind, V.int r10.2.At])] mix (by
                refine W.run D_ok 1 107 (by kernel_rfl) ?_
                exact W.fin (by decide) (by kernel_rfl) (Weak.sel [(100, 100), (101, 101), (102, 102), (103, 103), (104, 104)] [0, 1, 2, 3, 4, 12, 13, 14, 15, 16, 17] (by kernel_rfl) (by kernel_rfl) (by kernel_rfl))
                ) ?_
            obtain ⟨r30, hx44, h⟩ := bind_some h
            refine CodeOk.cutR (tl 125 [(0, .sl false false (a0.map encSToken)), (1, V.str a1), (2, V.int a2), (3, V.int a3), (4, V.str a4), (12, .own 100), (13, .loc 101 0), (15, .own 103), (16, .loc 104 0), (17, V.int r30.1)]) [(100, .vec false 46 3 (r6.1.map encSToken)), (101, .cells 30 [V.int r6.2.Kind, V.int r6.2.At]), (103, .vec false 46 3 (r10.1.map encSToken)), (104, .cells 30 [V.int r10.2.Kind, V.int r10.2.At])] mix (by
                refine W.run D_ok 2 107 (by kernel_rfl) ?_
                refine W.call (AC.gs (m_laws_markTokenS_ok 46 N 1 r8 hx44) (by decide)) cok14 [(102, 0)] [(0, 102)] [] (show LayOk _ [] from trivial) (by kernel_rfl) (by kernel_rfl) ?_
                refine W.run D_ok 1 107 (by kernel_rfl) ?_
                exact W.fin (by decide) (by kernel_rfl) (Weak.sel [(100, 100), (101, 101), (103, 103), (104, 104)] [0, 1, 2, 3, 4, 12, 13, 15, 16, 17] (by kernel_rfl) (by kernel_rfl) (by kernel_rfl))
                ) ?_
            refine CodeOk.seq' ?_
            obtain ⟨y38, hv59, h⟩ := bind_some h
            refine CodeOk.cutR (tl 125 [(0, .sl false false (a0.map encSToken)), (1, V.str a1), (2, V.int a2), (3, V.int a3), (4, V.str a4), (12, .own 100), (13, .loc 101 0), (15, .own 102), (85, V.bool y38)]) [(100, .vec false 46 3 (r6.1.map encSToken)), (101, .cells 30 [V.int r6.2.Kind, V.int r6.2.At]), (102, .vec false 46 3 (r10.1.map encSToken))] mix (by
                refine W.run D_ok 3 107 (by kernel_rfl) ?_
                rcases cond_some hv59 with ⟨hc60, hv59⟩ | ⟨hc60, hv59⟩
                · refine W.is 74 hc60 (by kernel_rfl) ?_
                  refine W.run D_ok 11 107 (by kernel_rfl) ?_
                  have hv59 := Option.some.inj hv59
                  subst hv59
                  exact W.fin (by decide) (by kernel_rfl) (Weak.sel [(100, 100), (101, 101), (103, 102)] [0, 1, 2, 3, 4, 12, 13, 15, 85] (by kernel_rfl) (by kernel_rfl) (by kernel_rfl))
                · refine W.is 74 hc60 (by kernel_rfl) ?_
                  refine W.run D_ok 2 107 (by kernel_rfl) ?_
                  obtain ⟨r39, hx61, hv59⟩ := bind_some hv59
                  refine W.lend (AC.gs (m_laws_eqTokenS_ok N r10.1 r6.1 hx61) (by decide)) cok10 [] [] (LayOk.cons (j := 103) encSToken encSToken r10.1 (by kernel_rfl) (fun _ => rfl) (LayOk.cons (j := 100) encSToken encSToken r6.1 (by kernel_rfl) (fun _ => rfl) (show LayOk _ [] from trivial))) (.c _) .nil (by kernel_rfl) (by kernel_rfl) ?_
                  refine W.run D_ok 3 107 (by kernel_rfl) ?_
                  rcases cond_some hv59 with ⟨hc62, hv59⟩ | ⟨hc62, hv59⟩
                  · refine W.is 80 hc62 (by kernel_rfl) ?_
                    refine W.run D_ok 5 107 (by kernel_rfl) ?_
                    have hv59 := Option.some.inj hv59
                    subst hv59
                    exact W.fin (by decide) (by kernel_rfl) (Weak.sel [(100, 100), (101, 101), (103, 102)] [0, 1, 2, 3, 4, 12, 13, 15, 85] (by kernel_rfl) (by kernel_rfl) (by kernel_rfl))
                  · refine W.is 80 hc62 (by kernel_rfl) ?_
                    refine W.run D_ok 2 107 (by kernel_rfl) ?_
                    obtain ⟨r40, hx63, hv59⟩ := bind_some hv59
                    refine W.call0 (AC.gs (m_laws_eqFault_ok r10.2 r6.2 hx63) (by decide)) cok13 rfl (by kernel_rfl) ?_
                    refine W.run D_ok 2 107 (by kernel_rfl) ?_
                    have hv59 := Option.some.inj hv59
                    subst hv59
                    exact W.fin (by decide) (by kernel_rfl) (Weak.sel [(100, 100), (101, 101), (103, 102)] [0, 1, 2, 3, 4, 12, 13, 15, 85] (by kernel_rfl) (by kernel_rfl) (by kernel_rfl))
                ) ?_
            rcases cond_some h with ⟨hc64, h⟩ | ⟨hc64, h⟩
            · refine CodeOk.ifT hc64 (by kernel_rfl) ?_
              refine CodeOk.cutR (tl 125 [(10, V.bool false)]) [] mix (by
                  refine W.run D_ok 1 107 (by kernel_rfl) ?_
                  exact W.fin (by decide) (by kernel_rfl) (Weak.sel [] [10] (by kernel_rfl) (by kernel_rfl) (by kernel_rfl))
                  ) ?_
              refine CodeOk.ret ?_
              have h := Option.some.inj h
              subst h
              exact Ends.gen [] (.inr rfl) (RetV.one rfl (OneR.tmp (t := 10) (r := V.bool false) (by kernel_rfl))) (by kernel_rfl) (by kernel_rfl) (by kernel_rfl)
            · refine CodeOk.ifF hc64 (by kernel_rfl) ?_
              refine CodeOk.skip ?_
              refine CodeOk.weak (st' := ⟨tl 125 [(0, .sl false false (a0.map encSToken)), (1, V.str a1), (2, V.int a2), (3, V.int a3), (4, V.str a4), (12, .own 100), (13, .loc 101 0), (15, .own 102), (85, V.bool y38)], [(100, .vec false 46 3 (r6.1.map encSToken)), (101, .cells 30 [V.int r6.2.Kind, V.int r6.2.At]), (102, .vec false 46 3 (r10.1.map encSToken))]⟩) (Weak.refl _) ?_
              refine CodeOk.cutR (tl 125 [(0, .sl false false (a0.map encSToken)), (1, V.str a1), (2, V.int a2), (3, V.int a3), (4, V.str a4), (12, .own 100), (13, .loc 101 0), (15, .own 102), (18, V.int 1)]) [(100, .vec false 46 3 (r6.1.map encSToken)), (101, .cells 30 [V.int r6.2.Kind, V.int r6.2.At]), (102, .vec false 46 3 (r10.1.map encSToken))] mix (by
                  refine W.run D_ok 1 107 (by kernel_rfl) ?_
                  exact W.fin (by decide) (by kernel_rfl) (Weak.sel [(100, 100), (101, 101), (102, 102)] [0, 1, 2, 3, 4, 12, 13, 15, 18] (by kernel_rfl) (by kernel_rfl) (by kernel_rfl))
                  ) ?_
              obtain ⟨r42, hx66, h⟩ := bind_some h
              refine CodeOk.cutR (tl 125 [(0, .sl false false (a0.map encSToken)), (1, V.str a1), (2, V.int a2), (3, V.int a3), (4, V.str a4), (12, .own 100), (13, .loc 101 0), (15, .own 102), (18, V.int r42.1)]) [(100, .vec false 46 3 (r6.1.map encSToken)), (101, .cells 30 [V.int r6.2.Kind, V.int r6.2.At]), (102, .vec false 46 3 (r42.2.map encSToken))] mix (by
                  refine W.run D_ok 2 107 (by kernel_rfl) ?_
                  refine W.call (AC.gs (m_laws_markTokenS_ok 46 N 1 r10.1 hx66) (by decide)) cok14 [(102, 0)] [(0, 102)] [] (show LayOk _ [] from trivial) (by kernel_rfl) (by kernel_rfl) ?_
                  refine W.run D_ok 1 107 (by kernel_rfl) ?_
                  exact W.fin (by decide) (by kernel_rfl) (Weak.sel [(100, 100), (101, 101), (102, 102)] [0, 1, 2, 3, 4, 12, 13, 15, 18] (by kernel_rfl) (by kernel_rfl) (by kernel_rfl))
                  ) ?_
              refine CodeOk.cutR (tl 125 [(0, .sl false false (a0.map encSToken)), (1, V.str a1), (2, V.int a2), (3, V.int a3), (4, V.str a4), (12, .own 100), (13, .loc 101 0), (15, .own 102), (18, V.int r42.1), (19, V.int 1)]) [(100, .vec false 46 3 (r6.1.map encSToken)), (101, .cells 30 [V.int r6.2.Kind, V.int r6.2.At]), (102, .vec false 46 3 (r42.2.map encSToken))] mix (by
                  refine W.run D_ok 1 107 (by kernel_rfl) ?_
                  exact W.fin (by decide) (by kernel_rfl) (Weak.sel [(100, 100), (101, 101), (102, 102)] [0, 1, 2, 3, 4, 12, 13, 15, 18, 19] (by kernel_rfl) (by kernel_rfl) (by kernel_rfl))
                  ) ?_
              obtain ⟨r44, hx68, h⟩ := bind_some h
              refine CodeOk.cutR (tl 125 [(0, .sl false false (a0.map encSToken)), (1, V.str a1), (2, V.int a2), (3, V.int a3), (4, V.str a4), (12, .own 100), (13, .loc 101 0), (15, .own 102), (18, V.int r42.1), (19, V.int r44)]) [(100, .vec false 46 3 (r6.1.map encSToken)), (101, .cells 30 [V.int r6.2.Kind, V.int r6.2.At]), (102, .vec false 46 3 (r42.2.map encSToken))] mix (by
                  refine W.run D_ok 2 107 (by kernel_rfl) ?_
                  refine W.lend (AC.gs (m_laws_heldTokenS_ok N r42.2 1 hx68) (by decide)) cok15 [] [] (LayOk.cons (j := 102) encSToken encSToken r42.2 (by kernel_rfl) (fun _ => rfl) (show LayOk _ [] from trivial)) (.c _) .nil (by kernel_rfl) (by kernel_rfl) ?_
                  refine W.run D_ok 1 107 (by kernel_rfl) ?_
                  exact W.fin (by decide) (by kernel_rfl) (Weak.sel [(100, 100), (101, 101), (102, 102)] [0, 1, 2, 3, 4, 12, 13, 15, 18, 19] (by kernel_rfl) (by kernel_rfl) (by kernel_rfl))
                  ) ?_
              refine CodeOk.seq' ?_
              refine CodeOk.cutR (tl 125 [(0, .sl false false (a0.map encSToken)), (1, V.str a1), (2, V.int a2), (3, V.int a3), (4, V.str a4), (12, .own 100), (13, .loc 101 0), (15, .own 102), (18, V.int r42.1), (19, V.int r44), (93, V.bool (decide (r44 < 0)))]) [(100, .vec false 46 3 (r6.1.map encSToken)), (101, .cells 30 [V.int r6.2.Kind, V.int r6.2.At]), (102, .vec false 46 3 (r42.2.map encSToken))] mix (by
                  refine W.run D_ok 2 107 (by kernel_rfl) ?_
                  exact W.fin (by decide) (by kernel_rfl) (Weak.sel [(100, 100), (101, 101), (102, 102)] [0, 1, 2, 3, 4, 12, 13, 15, 18, 19, 93] (by kernel_rfl) (by kernel_rfl) (by kernel_rfl))
                  ) ?_
              rcases cond_some h with ⟨hc70, h⟩ | ⟨hc70, h⟩
              · refine CodeOk.ifT hc70 (by kernel_rfl) ?_
                refine CodeOk.cutR (tl 125 [(10, V.bool false)]) [] mix (by
                    refine W.run D_ok 1 107 (by kernel_rfl) ?_
                    exact W.fin (by decide) (by kernel_rfl) (Weak.sel [] [10] (by kernel_rfl) (by kernel_rfl) (by kernel_rfl))
                    ) ?_
                refine CodeOk.ret ?_
                have h := Option.some.inj h
                subst h
                exact Ends.gen [] (.inr rfl) (RetV.one rfl (OneR.tmp (t := 10) (r := V.bool false) (by kernel_rfl))) (by kernel_rfl) (by kernel_rfl) (by kernel_rfl)
              · refine CodeOk.ifF hc70 (by kernel_rfl) ?_
                refine CodeOk.skip ?_
                refine CodeOk.weak (st' := ⟨tl 125 [(0, .sl false false (a0.map encSToken)), (1, V.str a1), (2, V.int a2), (3, V.int a3), (4, V.str a4), (12, .own 100), (13, .loc 101 0), (15, .own 102), (18, V.int r42.1), (19, V.int r44), (93, V.bool (decide (r44 < 0)))], [(100, .vec false 46 3 (r6.1.map encSToken)), (101, .cells 30 [V.int r6.2.Kind, V.int r6.2.At]), (102, .vec false 46 3 (r42.2.map encSToken))]⟩) (Weak.refl _) ?_
                refine CodeOk.seq' ?_
                refine CodeOk.cutR (tl 125 [(0, .sl false false (a0.map encSToken)), (1, V.str a1), (2, V.int a2), (3, V.int a3), (4, V.str a4), (12, .own 100), (13, .loc 101 0), (15, .own 102), (18, V.int r42.1), (96, V.bool (r44 != r42.1))]) [(100, .vec false 46 3 (r6.1.map encSToken)), (101, .cells 30 [V.int r6.2.Kind, V.int r6.2.At]), (102, .vec false 46 3 (r42.2.map encSToken))] mix (by
                    refine W.run D_ok 3 107 (by kernel_rfl) ?_
                    exact W.fin (by decide) (by kernel_rfl) (Weak.sel [(100, 100), (101, 101), (102, 102)] [0, 1, 2, 3, 4, 12, 13, 15, 18, 96] (by kernel_rfl) (by kernel_rfl) (by kernel_rfl))
                    ) ?_
                rcases cond_some h with ⟨hc72, h⟩ | ⟨hc72, h⟩
                · refine CodeOk.ifT hc72 (by kernel_rfl) ?_
                  refine CodeOk.cutR (tl 125 [(10, V.bool false)]) [] mix (by
                      refine W.run D_ok 1 107 (by kernel_rfl) ?_
                      exact W.fin (by decide) (by kernel_rfl) (Weak.sel [] [10] (by kernel_rfl) (by kernel_rfl) (by kernel_rfl))
                      ) ?_
                  refine CodeOk.ret ?_
                  have h := Option.some.inj h
                  subst h
                  exact Ends.gen [] (.inr rfl) (RetV.one rfl (OneR.tmp (t := 10) (r := V.bool false) (by kernel_rfl))) (by kernel_rfl) (by kernel_rfl) (by kernel_rfl)
                · refine CodeOk.ifF hc72 (by kernel_rfl) ?_
                  refine CodeOk.skip ?_
                  refine CodeOk.weak (st' := ⟨tl 125 [(0, .sl false false (a0.map encSToken)), (1, V.str a1), (2, V.int a2), (3, V.int a3), (4, V.str a4), (12, .own 100), (13, .loc 101 0), (15, .own 102), (18, V.int r42.1), (96, V.bool (r44 != r42.1))], [(100, .vec false 46 3 (r6.1.map encSToken)), (101, .cells 30 [V.int r6.2.Kind, V.int r6.2.At]), (102, .vec false 46 3 (r42.2.map encSToken))]⟩) (Weak.refl _) ?_
                  obtain ⟨r47, hx75, h⟩ := bind_some h
                  obtain ⟨r48, hx76, h⟩ := bind_some h
                  refine CodeOk.cutR (tl 125 [(12, .own 100), (13, .loc 101 0), (15, .own 102), (18, V.int r42.1), (20, .own 108), (21, .loc 109 0)]) [(109, .cells 30 [V.int r48.2.Kind, V.int r48.2.At]), (108, .vec false 46 3 (r48.1.map encSToken)), (100, .vec false 46 3 (r6.1.map encSToken)), (101, .cells 30 [V.int r6.2.Kind, V.int r6.2.At]), (102, .vec false 46 3 (r42.2.map encSToken))] mix (by
                      refine W.run D_ok 1 107 (by kernel_rfl) ?_
                      refine W.call (AC.gs (m_laws_toTokenS_ok N a0 hx75) (by decide)) cok8 [] [(100, 107)] [107] (show LayOk _ [] from trivial) (by kernel_rfl) (by kernel_rfl) ?_
                      refine W.run D_ok 4 108 (by kernel_rfl) ?_
                      refine W.lend (m_impl_Relex_ok N r47 a1 a2 a3 a4 hx76) cok12 [(100, 108)] [108] (LayOk.cons (j := 107) encSToken encSToken r47 (by kernel_rfl) (fun _ => rfl) (show LayOk _ [] from trivial)) (.tup _ (.cons (.own _) (.cons (.agg _ (.cons (.c _) (.cons (.c _) .nil))) .nil))) (.cons (DeepR.map (fun _ => (.cons (.c _) (.cons (.c _) (.cons (.c _) .nil)))) _) .nil) (by kernel_rfl) (by kernel_rfl) ?_
                      refine W.run D_ok 6 109 (by kernel_rfl) ?_
                      exact W.fin (by decide) (by kernel_rfl) (Weak.sel [(109, 109), (108, 108), (100, 100), (101, 101), (102, 102)] [12, 13, 15, 18, 20, 21] (by kernel_rfl) (by kernel_rfl) (by kernel_rfl))
                      ) ?_
                  refine CodeOk.seq' ?_
                  obtain ⟨y56, hv88, h⟩ := bind_some h
                  refine CodeOk.cutR (tl 125 [(15, .own 100), (18, V.int r42.1), (116, V.bool y56)]) [(100, .vec false 46 3 (r42.2.map encSToken))] mix (by
                      refine W.run D_ok 2 110 (by kernel_rfl) ?_
                      obtain ⟨r57, hx89, hv88⟩ := bind_some hv88
                      refine W.lend (AC.gs (m_laws_eqTokenS_ok N r48.1 r6.1 hx89) (by decide)) cok10 [] [] (LayOk.cons (j := 108) encSToken encSToken r48.1 (by kernel_rfl) (fun _ => rfl) (LayOk.cons (j := 100) encSToken encSToken r6.1 (by kernel_rfl) (fun _ => rfl) (show LayOk _ [] from trivial))) (.c _) .nil (by kernel_rfl) (by kernel_rfl) ?_
                      refine W.run D_ok 2 110 (by kernel_rfl) ?_
                      rcases cond_some hv88 with ⟨hc90, hv88⟩ | ⟨hc90, hv88⟩
                      · refine W.is 111 hc90 (by kernel_rfl) ?_
                        refine W.run D_ok 5 110 (by kernel_rfl) ?_
                        have hv88 := Option.some.inj hv88
                        subst hv88
                        exact W.fin (by decide) (by kernel_rfl) (Weak.sel [(102, 100)] [15, 18, 116] (by kernel_rfl) (by kernel_rfl) (by kernel_rfl))
                      · refine W.is 111 hc90 (by kernel_rfl) ?_
                        refine W.run D_ok 2 110 (by kernel_rfl) ?_
                        obtain ⟨r58, hx91, hv88⟩ := bind_some hv88
                        refine W.call0 (AC.gs (m_laws_eqFault_ok r48.2 r6.2 hx91) (by decide)) cok13 rfl (by kernel_rfl) ?_
                        refine W.run D_ok 2 110 (by kernel_rfl) ?_
                        have hv88 := Option.some.inj hv88
                        subst hv88
                        exact W.fin (by decide) (by kernel_rfl) (Weak.sel [(102, 100)] [15, 18, 116] (by kernel_rfl) (by kernel_rfl) (by kernel_rfl))
                      ) ?_
                  rcases cond_some h with ⟨hc92, h⟩ | ⟨hc92, h⟩
                  · refine CodeOk.ifT hc92 (by kernel_rfl) ?_
                    refine CodeOk.cutR (tl 125 [(10, V.bool false)]) [] mix (by
                        refine W.run D_ok 1 110 (by kernel_rfl) ?_
                        exact W.fin (by decide) (by kernel_rfl) (Weak.sel [] [10] (by kernel_rfl) (by kernel_rfl) (by kernel_rfl))
                        ) ?_
                    refine CodeOk.ret ?_
                    have h := Option.some.inj h
                    subst h
                    exact Ends.gen [] (.inr rfl) (RetV.one rfl (OneR.tmp (t := 10) (r := V.bool false) (by kernel_rfl))) (by kernel_rfl) (by kernel_rfl) (by kernel_rfl)
                  · refine CodeOk.ifF hc92 (by kernel_rfl) ?_
                    refine CodeOk.skip ?_
                    refine CodeOk.weak (st' := ⟨tl 125 [(15, .own 100), (18, V.int r42.1), (116, V.bool y56)], [(100, .vec false 46 3 (r42.2.map encSToken))]⟩) (Weak.refl _) ?_
                    refine CodeOk.cutR (tl 125 [(15, .own 100), (18, V.int r42.1), (19, V.int 1)]) [(100, .vec false 46 3 (r42.2.map encSToken))] mix (by
                        refine W.run D_ok 1 110 (by kernel_rfl) ?_
                        exact W.fin (by decide) (by kernel_rfl) (Weak.sel [(100, 100)] [15, 18, 19] (by kernel_rfl) (by kernel_rfl) (by kernel_rfl))
                        ) ?_
                    obtain ⟨r60, hx94, h⟩ := bind_some h
                    refine CodeOk.cutR (tl 125 [(18, V.int r42.1), (19, V.int r60)]) [] mix (by
                        refine W.run D_ok 2 110 (by kernel_rfl) ?_
                        refine W.lend (AC.gs (m_laws_heldTokenS_ok N r42.2 1 hx94) (by decide)) cok15 [] [] (LayOk.cons (j := 100) encSToken encSToken r42.2 (by kernel_rfl) (fun _ => rfl) (show LayOk _ [] from trivial)) (.c _) .nil (by kernel_rfl) (by kernel_rfl) ?_
                        refine W.run D_ok 1 110 (by kernel_rfl) ?_
                        exact W.fin (by decide) (by kernel_rfl) (Weak.sel [] [18, 19] (by kernel_rfl) (by kernel_rfl) (by kernel_rfl))
                        ) ?_
                    refine CodeOk.seq' ?_
                    refine CodeOk.cutR (tl 125 [(18, V.int r42.1), (19, V.int r60), (121, V.bool (decide (r60 < 0)))]) [] mix (by
                        refine W.run D_ok 2 110 (by kernel_rfl) ?_
                        exact W.fin (by decide) (by kernel_rfl) (Weak.sel [] [18, 19, 121] (by kernel_rfl) (by kernel_rfl) (by kernel_rfl))
                        ) ?_
                    rcases cond_some h with ⟨hc96, h⟩ | ⟨hc96, h⟩
                    · refine CodeOk.ifT hc96 (by kernel_rfl) ?_
                      refine CodeOk.cutR (tl 125 [(10, V.bool false)]) [] mix (by
                          refine W.run D_ok 1 110 (by kernel_rfl) ?_
                          exact W.fin (by decide) (by kernel_rfl) (Weak.sel [] [10] (by kernel_rfl) (by kernel_rfl) (by kernel_rfl))
                          ) ?_
                      refine CodeOk.ret ?_
                      have h := Option.some.inj h
                      subst h
                      exact Ends.gen [] (.inr rfl) (RetV.one rfl (OneR.tmp (t := 10) (r := V.bool false) (by kernel_rfl))) (by kernel_rfl) (by kernel_rfl) (by kernel_rfl)
                    · refine CodeOk.ifF hc96 (by kernel_rfl) ?_
                      refine CodeOk.skip ?_
                      refine CodeOk.weak (st' := ⟨tl 125 [(18, V.int r42.1), (19, V.int r60), (121, V.bool (decide (r60 < 0)))], []⟩) (Weak.refl _) ?_
                      refine CodeOk.seq' ?_
                      refine CodeOk.cutR (tl 125 [(124, V.bool (r60 != r42.1))]) [] mix (by
                          refine W.run D_ok 3 110 (by kernel_rfl) ?_
                          exact W.fin (by decide) (by kernel_rfl) (Weak.sel [] [124] (by kernel_rfl) (by kernel_rfl) (by kernel_rfl))
                          ) ?_
                      rcases cond_some h with ⟨hc98, h⟩ | ⟨hc98, h⟩
                      · refine CodeOk.ifT hc98 (by kernel_rfl) ?_
                        refine CodeOk.cutR (tl 125 [(10, V.bool false)]) [] mix (by
                            refine W.run D_ok 1 110 (by kernel_rfl) ?_
                            exact W.fin (by decide) (by kernel_rfl) (Weak.sel [] [10] (by kernel_rfl) (by kernel_rfl) (by kernel_rfl))
                            ) ?_
                        refine CodeOk.ret ?_
                        have h := Option.some.inj h
                        subst h
                        exact Ends.gen [] (.inr rfl) (RetV.one rfl (OneR.tmp (t := 10) (r := V.bool false) (by kernel_rfl))) (by kernel_rfl) (by kernel_rfl) (by kernel_rfl)
                      · refine CodeOk.ifF hc98 (by kernel_rfl) ?_
                        refine CodeOk.skip ?_
                        refine CodeOk.weak (st' := ⟨tl 125 [(124, V.bool (r60 != r42.1))], []⟩) (Weak.refl _) ?_
                        refine CodeOk.cutR (tl 125 [(10, V.bool true)]) [] mix (by
                            refine W.run D_ok 1 110 (by kernel_rfl) ?_
                            exact W.fin (by decide) (by kernel_rfl) (Weak.sel [] [10] (by kernel_rfl) (by kernel_rfl) (by kernel_rfl))
                            ) ?_
                        refine CodeOk.ret ?_
                        have h := Option.some.inj h
                        subst h
                        exact Ends.gen [] (.inr rfl) (RetV.one rfl (OneR.tmp (t := 10) (r := V.bool true) (by kernel_rfl))) (by kernel_rfl) (by kernel_rfl) (by kernel_rfl)

end Go.Proofs.Tryd
