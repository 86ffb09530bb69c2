/-
  The walks that show that the code computes the models, part 1.
-/
import Derived.Test.YtjmlnhngemeeaaaDoorM1
namespace Go.Proofs.Tryd
open Go.Av
set_option maxRecDepth 100000

theorem ext60 (s : List UInt8) (c : Int) (w : World) : (callFunc 60 #[.string ⟨⟨s⟩⟩, .int .u8 c]).run Tryd.prog w = .ok (.value (.int .i64 (Go.Lib.countByte s c.toNat.toUInt8))) w := by
  rw [run_callFunc_extern Tryd.func60 (by kernel_rfl) rfl (by kernel_rfl) (by kernel_rfl)]
  rw [show _ = _ from Go.Lib.run_countString ⟨⟨s⟩⟩ c w]
  rfl

theorem ext111 (s : List UInt8) (c : Int) (w : World) : (callFunc 111 #[.string ⟨⟨s⟩⟩, .int .u8 c]).run Tryd.prog w = .ok (.value (.int .i64 (Go.Lib.indexByte s c.toNat.toUInt8))) w := by
  rw [run_callFunc_extern Tryd.func111 (by kernel_rfl) rfl (by kernel_rfl) (by kernel_rfl)]
  rw [show _ = _ from Go.Lib.run_indexByteString ⟨⟨s⟩⟩ c w]
  rfl

theorem cok3 : callOk Tryd.prog 3 := fun _ _ => Tryd.call3 _ _
theorem cok4 : callOk Tryd.prog 4 := fun _ _ => Tryd.call4 _ _
theorem cok6 : callOk Tryd.prog 6 := fun _ _ => Tryd.call6 _ _
theorem cok7 : callOk Tryd.prog 7 := fun _ _ => Tryd.call7 _ _
theorem cok8 : callOk Tryd.prog 8 := fun _ _ => Tryd.call8 _ _
theorem cok9 : callOk Tryd.prog 9 := fun _ _ => Tryd.call9 _ _
theorem cok10 : callOk Tryd.prog 10 := fun _ _ => Tryd.call10 _ _
theorem cok11 : callOk Tryd.prog 11 := fun _ _ => Tryd.call11 _ _
theorem cok12 : callOk Tryd.prog 12 := fun _ _ => Tryd.call12 _ _
theorem cok13 : callOk Tryd.prog 13 := fun _ _ => Tryd.call13 _ _
theorem cok14 : callOk Tryd.prog 14 := fun _ _ => Tryd.call14 _ _
theorem cok15 : callOk Tryd.prog 15 := fun _ _ => Tryd.call15 _ _
theorem cok19 : callOk Tryd.prog 19 := fun _ _ => Tryd.call19 _ _
theorem cok20 : callOk Tryd.prog 20 := fun _ _ => Tryd.call20 _ _
theorem cok21 : callOk Tryd.prog 21 := fun _ _ => Tryd.call21 _ _
theorem cok22 : callOk Tryd.prog 22 := fun _ _ => Tryd.call22 _ _
theorem cok23 : callOk Tryd.prog 23 := fun _ _ => Tryd.call23 _ _
theorem cok24 : callOk Tryd.prog 24 := fun _ _ => Tryd.call24 _ _
theorem cok25 : callOk Tryd.prog 25 := fun _ _ => Tryd.call25 _ _
theorem cok26 : callOk Tryd.prog 26 := fun _ _ => Tryd.call26 _ _
theorem cok27 : callOk Tryd.prog 27 := fun _ _ => Tryd.call27 _ _
theorem cok28 : callOk Tryd.prog 28 := fun _ _ => Tryd.call28 _ _
theorem cok29 : callOk Tryd.prog 29 := fun _ _ => Tryd.call29 _ _
theorem cok30 : callOk Tryd.prog 30 := fun _ _ => Tryd.call30 _ _
theorem cok37 : callOk Tryd.prog 37 := fun _ _ => Tryd.call37 _ _
theorem cok38 : callOk Tryd.prog 38 := fun _ _ => Tryd.call38 _ _
theorem cok39 : callOk Tryd.prog 39 := fun _ _ => Tryd.call39 _ _
theorem cok40 : callOk Tryd.prog 40 := fun _ _ => Tryd.call40 _ _
theorem cok41 : callOk Tryd.prog 41 := fun _ _ => Tryd.call41 _ _
theorem cok42 : callOk Tryd.prog 42 := fun _ _ => Tryd.call42 _ _
theorem cok43 : callOk Tryd.prog 43 := fun _ _ => Tryd.call43 _ _
theorem cok44 : callOk Tryd.prog 44 := fun _ _ => Tryd.call44 _ _
theorem cok45 : callOk Tryd.prog 45 := fun _ _ => Tryd.call45 _ _
theorem cok48 : callOk Tryd.prog 48 := fun _ _ => Tryd.call48 _ _
theorem cok49 : callOk Tryd.prog 49 := fun _ _ => Tryd.call49 _ _
theorem cok50 : callOk Tryd.prog 50 := fun _ _ => Tryd.call50 _ _
theorem cok51 : callOk Tryd.prog 51 := fun _ _ => Tryd.call51 _ _
theorem cok52 : callOk Tryd.prog 52 := fun _ _ => Tryd.call52 _ _
theorem cok53 : callOk Tryd.prog 53 := fun _ _ => Tryd.call53 _ _
theorem cok54 : callOk Tryd.prog 54 := fun _ _ => Tryd.call54 _ _
theorem cok55 : callOk Tryd.prog 55 := fun _ _ => Tryd.call55 _ _
theorem cok56 : callOk Tryd.prog 56 := fun _ _ => Tryd.call56 _ _
theorem cok58 : callOk Tryd.prog 58 := fun _ _ => Tryd.call58 _ _
theorem cok63 : callOk Tryd.prog 63 := fun _ _ => Tryd.call63 _ _
theorem cok64 : callOk Tryd.prog 64 := fun _ _ => Tryd.call64 _ _
theorem cok65 : callOk Tryd.prog 65 := fun _ _ => Tryd.call65 _ _
theorem cok66 : callOk Tryd.prog 66 := fun _ _ => Tryd.call66 _ _
theorem cok67 : callOk Tryd.prog 67 := fun _ _ => Tryd.call67 _ _
theorem cok68 : callOk Tryd.prog 68 := fun _ _ => Tryd.call68 _ _
theorem cok69 : callOk Tryd.prog 69 := fun _ _ => Tryd.call69 _ _
theorem cok70 : callOk Tryd.prog 70 := fun _ _ => Tryd.call70 _ _
theorem cok71 : callOk Tryd.prog 71 := fun _ _ => Tryd.call71 _ _
theorem cok72 : callOk Tryd.prog 72 := fun _ _ => Tryd.call72 _ _
theorem cok73 : callOk Tryd.prog 73 := fun _ _ => Tryd.call73 _ _
theorem cok74 : callOk Tryd.prog 74 := fun _ _ => Tryd.call74 _ _
theorem cok76 : callOk Tryd.prog 76 := fun _ _ => Tryd.call76 _ _
theorem cok78 : callOk Tryd.prog 78 := fun _ _ => Tryd.call78 _ _
theorem cok79 : callOk Tryd.prog 79 := fun _ _ => Tryd.call79 _ _
theorem cok80 : callOk Tryd.prog 80 := fun _ _ => Tryd.call80 _ _
theorem cok81 : callOk Tryd.prog 81 := fun _ _ => Tryd.call81 _ _
theorem cok82 : callOk Tryd.prog 82 := fun _ _ => Tryd.call82 _ _
theorem cok83 : callOk Tryd.prog 83 := fun _ _ => Tryd.call83 _ _
theorem cok84 : callOk Tryd.prog 84 := fun _ _ => Tryd.call84 _ _
theorem cok85 : callOk Tryd.prog 85 := fun _ _ => Tryd.call85 _ _
theorem cok86 : callOk Tryd.prog 86 := fun _ _ => Tryd.call86 _ _
theorem cok87 : callOk Tryd.prog 87 := fun _ _ => Tryd.call87 _ _
theorem cok88 : callOk Tryd.prog 88 := fun _ _ => Tryd.call88 _ _
theorem cok89 : callOk Tryd.prog 89 := fun _ _ => Tryd.call89 _ _
theorem cok90 : callOk Tryd.prog 90 := fun _ _ => Tryd.call90 _ _
theorem cok91 : callOk Tryd.prog 91 := fun _ _ => Tryd.call91 _ _
theorem cok92 : callOk Tryd.prog 92 := fun _ _ => Tryd.call92 _ _
theorem cok93 : callOk Tryd.prog 93 := fun _ _ => Tryd.call93 _ _
theorem cok95 : callOk Tryd.prog 95 := fun _ _ => Tryd.call95 _ _
theorem cok103 : callOk Tryd.prog 103 := fun _ _ => Tryd.call103 _ _
theorem cok104 : callOk Tryd.prog 104 := fun _ _ => Tryd.call104 _ _
theorem cok105 : callOk Tryd.prog 105 := fun _ _ => Tryd.call105 _ _
theorem cok106 : callOk Tryd.prog 106 := fun _ _ => Tryd.call106 _ _
theorem cok107 : callOk Tryd.prog 107 := fun _ _ => Tryd.call107 _ _
theorem cok108 : callOk Tryd.prog 108 := fun _ _ => Tryd.call108 _ _
theorem cok109 : callOk Tryd.prog 109 := fun _ _ => Tryd.call109 _ _
theorem cok110 : callOk Tryd.prog 110 := fun _ _ => Tryd.call110 _ _
theorem cok118 : callOk Tryd.prog 118 := fun _ _ => Tryd.call118 _ _
theorem cok119 : callOk Tryd.prog 119 := fun _ _ => Tryd.call119 _ _
theorem cok120 : callOk Tryd.prog 120 := fun _ _ => Tryd.call120 _ _

theorem m_laws_szToken_ok (a0 : SToken) (a1 : Int) {r : Int} (h : m_laws_szToken a0 a1 = some r) :
    AC Tryd.prog (GS []) 21 [.agg [V.int a0.Kind, V.str a0.Text, V.int a0.At], V.int a1] [] (V.int r) [] := by
  rw [m_laws_szToken] at h
  refine AC.enter Tryd.func21 rfl ?_
  refine CodeOk.cutR (tl 13 [(1, V.int a1), (2, .loc 100 0)]) [(100, .cells 44 [V.int a0.Kind, V.str a0.Text, V.int a0.At])] mix (by
      refine W.run D_ok 2 100 (by kernel_rfl) ?_
      exact W.fin (by decide) (by kernel_rfl) (Weak.sel [(100, 100)] [1, 2] (by kernel_rfl) (by kernel_rfl) (by kernel_rfl))
      ) ?_
  refine CodeOk.cutR (tl 13 [(1, V.int (IntKind.wrap .i64 (a1 - (a0.Text.length : Int))))]) [] mix (by
      refine W.run D_ok 6 101 (by kernel_rfl) ?_
      exact W.fin (by decide) (by kernel_rfl) (Weak.sel [] [1] (by kernel_rfl) (by kernel_rfl) (by kernel_rfl))
      ) ?_
  refine CodeOk.seq' ?_
  refine CodeOk.cutR (tl 13 [(1, V.int (IntKind.wrap .i64 (a1 - (a0.Text.length : Int)))), (11, V.bool (decide ((IntKind.wrap .i64 (a1 - (a0.Text.length : Int))) < 0)))]) [] mix (by
      refine W.run D_ok 2 101 (by kernel_rfl) ?_
      exact W.fin (by decide) (by kernel_rfl) (Weak.sel [] [1, 11] (by kernel_rfl) (by kernel_rfl) (by kernel_rfl))
      ) ?_
  rcases cond_some h with ⟨hc2, h⟩ | ⟨hc2, h⟩
  · refine CodeOk.ifT hc2 (by kernel_rfl) ?_
    refine CodeOk.cutR (tl 13 [(4, V.int (-1))]) [] mix (by
        refine W.run D_ok 1 101 (by kernel_rfl) ?_
        exact W.fin (by decide) (by kernel_rfl) (Weak.sel [] [4] (by kernel_rfl) (by kernel_rfl) (by kernel_rfl))
        ) ?_
    refine CodeOk.ret ?_
    have h := Option.some.inj h
    subst h
    exact Ends.gen [] (.inr rfl) (RetV.one rfl (OneR.tmp (t := 4) (r := V.int (-1)) (by kernel_rfl))) (by kernel_rfl) (by kernel_rfl) (by kernel_rfl)
  · refine CodeOk.ifF hc2 (by kernel_rfl) ?_
    refine CodeOk.skip ?_
    refine CodeOk.weak (st' := ⟨tl 13 [(1, V.int (IntKind.wrap .i64 (a1 - (a0.Text.length : Int)))), (11, V.bool (decide ((IntKind.wrap .i64 (a1 - (a0.Text.length : Int))) < 0)))], []⟩) (Weak.refl _) ?_
    refine CodeOk.cutR (tl 13 [(4, V.int (IntKind.wrap .i64 (a1 - (a0.Text.length : Int))))]) [] mix (by
        refine W.run D_ok 2 101 (by kernel_rfl) ?_
        exact W.fin (by decide) (by kernel_rfl) (Weak.sel [] [4] (by kernel_rfl) (by kernel_rfl) (by kernel_rfl))
        ) ?_
    refine CodeOk.ret ?_
    have h := Option.some.inj h
    subst h
    exact Ends.gen [] (.inr rfl) (RetV.one rfl (OneR.tmp (t := 4) (r := V.int (IntKind.wrap .i64 (a1 - (a0.Text.length : Int)))) (by kernel_rfl))) (by kernel_rfl) (by kernel_rfl) (by kernel_rfl)

theorem m_laws_szTokenS_ok (N : Nat) (a0 : List SToken) (a1 : Int) {r : Int} (h : m_laws_szTokenS N a0 a1 = some r) :
    AC Tryd.prog (GS []) 7 [.sl false false (a0.map encSToken), V.int a1] [] (V.int r) [] := by
  rw [m_laws_szTokenS] at h
  refine AC.enter Tryd.func7 rfl ?_
  refine CodeOk.cutR (tl 27 [(0, .sl false false (a0.map encSToken)), (1, V.int a1)]) [] mix (by
      refine W.run D_ok 1 100 (by kernel_rfl) ?_
      exact W.fin (by decide) (by kernel_rfl) (Weak.sel [] [0, 1] (by kernel_rfl) (by kernel_rfl) (by kernel_rfl))
      ) ?_
  refine CodeOk.cutR (tl 27 [(0, .sl false false (a0.map encSToken)), (1, V.int (IntKind.wrap .i64 (a1 - (a0.length : Int))))]) [] mix (by
      refine W.run D_ok 2 100 (by kernel_rfl) ?_
      refine W.len D_ok encSToken a0 [] (by kernel_rfl) (by kernel_rfl) ?_
      refine W.run D_ok 2 100 (by kernel_rfl) ?_
      exact W.fin (by decide) (by kernel_rfl) (Weak.sel [] [0, 1] (by kernel_rfl) (by kernel_rfl) (by kernel_rfl))
      ) ?_
  refine CodeOk.seq' ?_
  refine CodeOk.cutR (tl 27 [(0, .sl false false (a0.map encSToken)), (1, V.int (IntKind.wrap .i64 (a1 - (a0.length : Int)))), (11, V.bool (decide ((IntKind.wrap .i64 (a1 - (a0.length : Int))) < 0)))]) [] mix (by
      refine W.run D_ok 2 100 (by kernel_rfl) ?_
      exact W.fin (by decide) (by kernel_rfl) (Weak.sel [] [0, 1, 11] (by kernel_rfl) (by kernel_rfl) (by kernel_rfl))
      ) ?_
  rcases cond_some h with ⟨hc2, h⟩ | ⟨hc2, h⟩
  · refine CodeOk.ifT hc2 (by kernel_rfl) ?_
    refine CodeOk.cutR (tl 27 [(4, V.int (-1))]) [] mix (by
        refine W.run D_ok 1 100 (by kernel_rfl) ?_
        exact W.fin (by decide) (by kernel_rfl) (Weak.sel [] [4] (by kernel_rfl) (by kernel_rfl) (by kernel_rfl))
        ) ?_
    refine CodeOk.ret ?_
    have h := Option.some.inj h
    subst h
    exact Ends.gen [] (.inr rfl) (RetV.one rfl (OneR.tmp (t := 4) (r := V.int (-1)) (by kernel_rfl))) (by kernel_rfl) (by kernel_rfl) (by kernel_rfl)
  · refine CodeOk.ifF hc2 (by kernel_rfl) ?_
    refine CodeOk.skip ?_
    refine CodeOk.weak (st' := ⟨tl 27 [(0, .sl false false (a0.map encSToken)), (1, V.int (IntKind.wrap .i64 (a1 - (a0.length : Int)))), (11, V.bool (decide ((IntKind.wrap .i64 (a1 - (a0.length : Int))) < 0)))], []⟩) (Weak.refl _) ?_
    refine CodeOk.seq' ?_
    refine CodeOk.cutR (tl 27 [(0, .sl false false (a0.map encSToken)), (1, V.int (IntKind.wrap .i64 (a1 - (a0.length : Int)))), (5, V.int 0)]) [] mix (by
        refine W.run D_ok 1 100 (by kernel_rfl) ?_
        exact W.fin (by decide) (by kernel_rfl) (Weak.sel [] [0, 1, 5] (by kernel_rfl) (by kernel_rfl) (by kernel_rfl))
        ) ?_
    refine CodeOk.block' ?_
    refine CodeOk.loopJ (fun (⟨a0, y37, y38⟩ : ((List SToken) × Int × Int)) => ⟨tl 27 [(0, .sl false false (a0.map encSToken)), (1, V.int y37), (5, V.int y38)], []⟩) (fun n i => m_laws_szTokenS_l1 N n i = some r) (n0 := N) (i0 := (a0, (IntKind.wrap .i64 (a1 - (a0.length : Int))), 0)) (Weak.sel [] [0, 1, 5] (by kernel_rfl) (by kernel_rfl) (by kernel_rfl)) h (fun i h => by simp [m_laws_szTokenS_l1] at h) ?_
    rintro n1 ⟨a0, y37, y38⟩ h65 ih66
    rw [m_laws_szTokenS_l1] at h65
    refine CodeOk.seq' ?_
    refine CodeOk.cutR (tl 27 [(0, .sl false false (a0.map encSToken)), (1, V.int y37), (5, V.int y38), (15, V.bool (decide (y38 < (a0.length : Int))))]) [] mix (by
        refine W.run D_ok 2 160 (by kernel_rfl) ?_
        refine W.len D_ok encSToken a0 [] (by kernel_rfl) (by kernel_rfl) ?_
        refine W.run D_ok 1 160 (by kernel_rfl) ?_
        exact W.fin (by decide) (by kernel_rfl) (Weak.sel [] [0, 1, 5, 15] (by kernel_rfl) (by kernel_rfl) (by kernel_rfl))
        ) ?_
    rcases cond_some h65 with ⟨hc68, h65⟩ | ⟨hc68, h65⟩
    · refine CodeOk.ifT hc68 (by kernel_rfl) ?_
      refine CodeOk.skip ?_
      refine CodeOk.weak (st' := ⟨tl 27 [(0, .sl false false (a0.map encSToken)), (1, V.int y37), (5, V.int y38), (15, V.bool (decide (y38 < (a0.length : Int))))], []⟩) (Weak.refl _) ?_
      refine CodeOk.seq' ?_
      refine CodeOk.block' ?_
      obtain ⟨e55, hx76, h65⟩ := bind_some h65
      obtain ⟨r56, hx77, h65⟩ := bind_some h65
      refine CodeOk.cutR (tl 27 [(0, .sl false false (a0.map encSToken)), (1, V.int r56), (5, V.int y38)]) [] mix (by
          refine W.run D_ok 2 160 (by kernel_rfl) ?_
          refine W.ixD D_ok encSToken hx76 3 (by kernel_rfl) (by kernel_rfl) ?_
          refine W.run D_ok 2 160 (by kernel_rfl) ?_
          refine W.call0 (m_laws_szToken_ok e55 y37 hx77) cok21 rfl (by kernel_rfl) ?_
          refine W.run D_ok 1 160 (by kernel_rfl) ?_
          exact W.fin (by decide) (by kernel_rfl) (Weak.sel [] [0, 1, 5] (by kernel_rfl) (by kernel_rfl) (by kernel_rfl))
          ) ?_
      refine CodeOk.cutR (tl 27 [(0, .sl false false (a0.map encSToken)), (1, V.int r56), (5, V.int y38), (25, V.bool (decide (r56 < 0)))]) [] mix (by
          refine W.run D_ok 2 160 (by kernel_rfl) ?_
          exact W.fin (by decide) (by kernel_rfl) (Weak.sel [] [0, 1, 5, 25] (by kernel_rfl) (by kernel_rfl) (by kernel_rfl))
          ) ?_
      rcases cond_some h65 with ⟨hc78, h65⟩ | ⟨hc78, h65⟩
      · refine CodeOk.ifT hc78 (by kernel_rfl) ?_
        refine CodeOk.cutR (tl 27 [(4, V.int (-1))]) [] mix (by
            refine W.run D_ok 1 160 (by kernel_rfl) ?_
            exact W.fin (by decide) (by kernel_rfl) (Weak.sel [] [4] (by kernel_rfl) (by kernel_rfl) (by kernel_rfl))
            ) ?_
        refine CodeOk.ret ?_
        have h65 := Option.some.inj h65
        subst h65
        exact Ends.gen [] (.inr rfl) (RetV.one rfl (OneR.tmp (t := 4) (r := V.int (-1)) (by kernel_rfl))) (by kernel_rfl) (by kernel_rfl) (by kernel_rfl)
      · refine CodeOk.ifF hc78 (by kernel_rfl) ?_
        refine CodeOk.skip ?_
        refine CodeOk.weak (st' := ⟨tl 27 [(0, .sl false false (a0.map encSToken)), (1, V.int r56), (5, V.int y38), (25, V.bool (decide (r56 < 0)))], []⟩) (Weak.refl _) ?_
        refine CodeOk.endR (tl 27 [(0, .sl false false (a0.map encSToken)), (1, V.int r56), (5, V.int (IntKind.wrap .i64 (y38 + 1)))]) [] mix (by
            refine W.run D_ok 3 160 (by kernel_rfl) ?_
            exact W.fin (by decide) (by kernel_rfl) (Weak.sel [] [0, 1, 5] (by kernel_rfl) (by kernel_rfl) (by kernel_rfl))
            ) (fun st hw => ?_)
        exact ih66 (a0, r56, (IntKind.wrap .i64 (y38 + 1))) h65 _ (hw.trans (Weak.sel [] [0, 1, 5] (by kernel_rfl) (by kernel_rfl) (by kernel_rfl)))
    · refine CodeOk.ifF hc68 (by kernel_rfl) ?_
      refine CodeOk.exit ?_
      refine CodeOk.weak (st' := ⟨tl 27 [(0, .sl false false (a0.map encSToken)), (1, V.int y37), (5, V.int y38), (15, V.bool (decide (y38 < (a0.length : Int))))], []⟩) (Weak.refl _) ?_
      refine CodeOk.cutR (tl 27 [(4, V.int y37)]) [] mix (by
          refine W.run D_ok 2 160 (by kernel_rfl) ?_
          exact W.fin (by decide) (by kernel_rfl) (Weak.sel [] [4] (by kernel_rfl) (by kernel_rfl) (by kernel_rfl))
          ) ?_
      refine CodeOk.ret ?_
      have h65 := Option.some.inj h65
      subst h65
      exact Ends.gen [] (.inr rfl) (RetV.one rfl (OneR.tmp (t := 4) (r := V.int y37) (by kernel_rfl))) (by kernel_rfl) (by kernel_rfl) (by kernel_rfl)

theorem m_laws_toToken_ok (a0 : SToken) {r : SToken} (h : m_laws_toToken a0 = some r) :
    AC Tryd.prog (GS []) 23 [.agg [V.int a0.Kind, V.str a0.Text, V.int a0.At]] [] (.agg [V.int r.Kind, V.str r.Text, V.int r.At]) [] := by
  rw [m_laws_toToken] at h
  refine AC.enter Tryd.func23 rfl ?_
  refine CodeOk.cutR (tl 14 [(1, .loc 100 0), (2, .loc 101 0)]) [(101, .cells 45 [V.int 0, V.str [], V.int 0]), (100, .cells 44 [V.int a0.Kind, V.str a0.Text, V.int a0.At])] mix (by
      refine W.run D_ok 2 100 (by kernel_rfl) ?_
      exact W.fin (by decide) (by kernel_rfl) (Weak.sel [(101, 101), (100, 100)] [1, 2] (by kernel_rfl) (by kernel_rfl) (by kernel_rfl))
      ) ?_
  refine CodeOk.cutR (tl 14 [(1, .loc 100 0), (2, .loc 101 0), (3, .loc 102 0)]) [(102, .cells 45 [V.int 0, V.str [], V.int 0]), (101, .cells 45 [V.int 0, V.str [], V.int 0]), (100, .cells 44 [V.int a0.Kind, V.str a0.Text, V.int a0.At])] mix (by
      refine W.run D_ok 1 102 (by kernel_rfl) ?_
      exact W.fin (by decide) (by kernel_rfl) (Weak.sel [(102, 102), (101, 101), (100, 100)] [1, 2, 3] (by kernel_rfl) (by kernel_rfl) (by kernel_rfl))
      ) ?_
  refine CodeOk.cutR (tl 14 [(1, .loc 100 0), (2, .loc 101 0), (3, .loc 102 0)]) [(102, .cells 45 [V.int a0.Kind, V.str [], V.int 0]), (101, .cells 45 [V.int 0, V.str [], V.int 0]), (100, .cells 44 [V.int a0.Kind, V.str a0.Text, V.int a0.At])] mix (by
      refine W.run D_ok 4 103 (by kernel_rfl) ?_
      exact W.fin (by decide) (by kernel_rfl) (Weak.sel [(102, 102), (101, 101), (100, 100)] [1, 2, 3] (by kernel_rfl) (by kernel_rfl) (by kernel_rfl))
      ) ?_
  refine CodeOk.cutR (tl 14 [(1, .loc 100 0), (2, .loc 101 0), (3, .loc 102 0)]) [(102, .cells 45 [V.int a0.Kind, V.str a0.Text, V.int 0]), (101, .cells 45 [V.int 0, V.str [], V.int 0]), (100, .cells 44 [V.int a0.Kind, V.str a0.Text, V.int a0.At])] mix (by
      refine W.run D_ok 4 103 (by kernel_rfl) ?_
      exact W.fin (by decide) (by kernel_rfl) (Weak.sel [(102, 102), (101, 101), (100, 100)] [1, 2, 3] (by kernel_rfl) (by kernel_rfl) (by kernel_rfl))
      ) ?_
  refine CodeOk.cutR (tl 14 [(2, .loc 101 0), (3, .loc 102 0)]) [(102, .cells 45 [V.int a0.Kind, V.str a0.Text, V.int a0.At]), (101, .cells 45 [V.int 0, V.str [], V.int 0])] mix (by
      refine W.run D_ok 4 103 (by kernel_rfl) ?_
      exact W.fin (by decide) (by kernel_rfl) (Weak.sel [(102, 102), (101, 101)] [2, 3] (by kernel_rfl) (by kernel_rfl) (by kernel_rfl))
      ) ?_
  refine CodeOk.cutR (tl 14 [(2, .loc 101 0)]) [(101, .cells 45 [V.int a0.Kind, V.str a0.Text, V.int a0.At])] mix (by
      refine W.run D_ok 2 103 (by kernel_rfl) ?_
      exact W.fin (by decide) (by kernel_rfl) (Weak.sel [(101, 101)] [2] (by kernel_rfl) (by kernel_rfl) (by kernel_rfl))
      ) ?_
  refine CodeOk.ret ?_
  have h := Option.some.inj h
  subst h
  exact Ends.gen [] (.inr rfl) (RetV.one rfl (OneR.cell D_ok (r := .agg [V.int a0.Kind, V.str a0.Text, V.int a0.At]) (i := 101) (ety := 45) (cs := [V.int a0.Kind, V.str a0.Text, V.int a0.At]) (by kernel_rfl) (by kernel_rfl) (by kernel_rfl))) (by kernel_rfl) (by kernel_rfl) (by kernel_rfl)

theorem m_laws_toTokenS_ok (N : Nat) (a0 : List SToken) {r : (List SToken)} (h : m_laws_toTokenS N a0 = some r) :
    AC Tryd.prog (GS []) 9 [.sl false false (a0.map encSToken)] [] (.own 100) [(100, .vec false 45 3 (r.map encSToken))] := by
  rw [m_laws_toTokenS] at h
  refine AC.enter Tryd.func9 rfl ?_
  refine CodeOk.cutR (tl 23 [(0, .sl false false (a0.map encSToken))]) [] mix (by
      refine W.run D_ok 1 100 (by kernel_rfl) ?_
      exact W.fin (by decide) (by kernel_rfl) (Weak.sel [] [0] (by kernel_rfl) (by kernel_rfl) (by kernel_rfl))
      ) ?_
  obtain ⟨x2, hx2, h⟩ := bind_some h
  refine CodeOk.cutR (tl 23 [(0, .sl false false (a0.map encSToken)), (3, .own 100)]) [(100, .vec false 45 3 (x2.map encSToken))] mix (by
      refine W.run D_ok 1 100 (by kernel_rfl) ?_
      refine W.len D_ok encSToken a0 [] (by kernel_rfl) (by kernel_rfl) ?_
      refine W.mk D_ok encSToken 32 hx2 100 45 3 [.int .i64 0, .string ⟨#[]⟩, .int .i64 0] (by kernel_rfl) (by kernel_rfl) ?_
      refine W.run D_ok 1 101 (by kernel_rfl) ?_
      exact W.fin (by decide) (by kernel_rfl) (Weak.sel [(100, 100)] [0, 3] (by kernel_rfl) (by kernel_rfl) (by kernel_rfl))
      ) ?_
  refine CodeOk.seq' ?_
  refine CodeOk.cutR (tl 23 [(0, .sl false false (a0.map encSToken)), (3, .own 100), (4, V.int 0)]) [(100, .vec false 45 3 (x2.map encSToken))] mix (by
      refine W.run D_ok 1 101 (by kernel_rfl) ?_
      exact W.fin (by decide) (by kernel_rfl) (Weak.sel [(100, 100)] [0, 3, 4] (by kernel_rfl) (by kernel_rfl) (by kernel_rfl))
      ) ?_
  refine CodeOk.block' ?_
  refine CodeOk.loopJ (fun (⟨a0, y71, y72⟩ : ((List SToken) × Int × (List SToken))) => ⟨tl 23 [(0, .sl false false (a0.map encSToken)), (3, .own 100), (4, V.int y71)], [(100, .vec false 45 3 (y72.map encSToken))]⟩) (fun n i => m_laws_toTokenS_l1 N n i = some r) (n0 := N) (i0 := (a0, 0, x2)) (Weak.sel [(100, 100)] [0, 3, 4] (by kernel_rfl) (by kernel_rfl) (by kernel_rfl)) h (fun i h => by simp [m_laws_toTokenS_l1] at h) ?_
  rintro n1 ⟨a0, y71, y72⟩ h95 ih96
  rw [m_laws_toTokenS_l1] at h95
  refine CodeOk.seq' ?_
  refine CodeOk.cutR (tl 23 [(0, .sl false false (a0.map encSToken)), (3, .own 100), (4, V.int y71), (11, V.bool (decide (y71 < (a0.length : Int))))]) [(100, .vec false 45 3 (y72.map encSToken))] mix (by
      refine W.run D_ok 2 161 (by kernel_rfl) ?_
      refine W.len D_ok encSToken a0 [] (by kernel_rfl) (by kernel_rfl) ?_
      refine W.run D_ok 1 161 (by kernel_rfl) ?_
      exact W.fin (by decide) (by kernel_rfl) (Weak.sel [(100, 100)] [0, 3, 4, 11] (by kernel_rfl) (by kernel_rfl) (by kernel_rfl))
      ) ?_
  rcases cond_some h95 with ⟨hc98, h95⟩ | ⟨hc98, h95⟩
  · refine CodeOk.ifT hc98 (by kernel_rfl) ?_
    refine CodeOk.skip ?_
    refine CodeOk.weak (st' := ⟨tl 23 [(0, .sl false false (a0.map encSToken)), (3, .own 100), (4, V.int y71), (11, V.bool (decide (y71 < (a0.length : Int))))], [(100, .vec false 45 3 (y72.map encSToken))]⟩) (Weak.refl _) ?_
    refine CodeOk.seq' ?_
    refine CodeOk.block' ?_
    obtain ⟨e103, hx111, h95⟩ := bind_some h95
    obtain ⟨r104, hx112, h95⟩ := bind_some h95
    obtain ⟨e105, hx113, h95⟩ := bind_some h95
    obtain ⟨x106, hu114, h95⟩ := bind_some h95
    refine CodeOk.endR (tl 23 [(0, .sl false false (a0.map encSToken)), (3, .own 100), (4, V.int y71)]) [(100, .vec false 45 3 (x106.map encSToken))] mix (by
        refine W.run D_ok 4 161 (by kernel_rfl) ?_
        refine W.ixD D_ok encSToken hx111 3 (by kernel_rfl) (by kernel_rfl) ?_
        refine W.run D_ok 1 161 (by kernel_rfl) ?_
        refine W.call0 (m_laws_toToken_ok e103 hx112) cok23 rfl (by kernel_rfl) ?_
        refine W.ixO D_ok encSToken hx113 100 3 (by kernel_rfl) ?_
        refine W.stO D_ok encSToken (x' := r104) hx113 hu114 (j := 100) (nn := false) (ety := 45) (sz := 3) (b := 0) (ys := [V.int r104.Kind, V.str r104.Text, V.int r104.At]) (C := []) (R := []) (by kernel_rfl) (by kernel_rfl) ?_
        exact W.fin (by decide) (by kernel_rfl) (Weak.sel [(100, 100)] [0, 3, 4] (by kernel_rfl) (by kernel_rfl) (by kernel_rfl))
        ) (fun st hw => ?_)
    refine CodeOk.weak (st' := ⟨tl 23 [(0, .sl false false (a0.map encSToken)), (3, .own 100), (4, V.int y71)], [(100, .vec false 45 3 (x106.map encSToken))]⟩) hw ?_
    refine CodeOk.endR (tl 23 [(0, .sl false false (a0.map encSToken)), (3, .own 100), (4, V.int (IntKind.wrap .i64 (y71 + 1)))]) [(100, .vec false 45 3 (x106.map encSToken))] mix (by
        refine W.run D_ok 3 161 (by kernel_rfl) ?_
        exact W.fin (by decide) (by kernel_rfl) (Weak.sel [(100, 100)] [0, 3, 4] (by kernel_rfl) (by kernel_rfl) (by kernel_rfl))
        ) (fun st hw => ?_)
    exact ih96 (a0, (IntKind.wrap .i64 (y71 + 1)), x106) h95 _ (hw.trans (Weak.sel [(100, 100)] [0, 3, 4] (by kernel_rfl) (by kernel_rfl) (by kernel_rfl)))
  · refine CodeOk.ifF hc98 (by kernel_rfl) ?_
    refine CodeOk.exit ?_
    refine CodeOk.weak (st' := ⟨tl 23 [(0, .sl false false (a0.map encSToken)), (3, .own 100), (4, V.int y71), (11, V.bool (decide (y71 < (a0.length : Int))))], [(100, .vec false 45 3 (y72.map encSToken))]⟩) (Weak.refl _) ?_
    refine CodeOk.cutR (tl 23 [(2, .own 100)]) [(100, .vec false 45 3 (y72.map encSToken))] mix (by
        refine W.run D_ok 2 161 (by kernel_rfl) ?_
        exact W.fin (by decide) (by kernel_rfl) (Weak.sel [(100, 100)] [2] (by kernel_rfl) (by kernel_rfl) (by kernel_rfl))
        ) ?_
    refine CodeOk.ret ?_
    have h95 := Option.some.inj h95
    subst h95
    exact Ends.gen [(100, 100)] (.inr rfl) (RetV.one rfl (OneR.tmp (t := 2) (r := .own 100) (by kernel_rfl))) (by kernel_rfl) (by kernel_rfl) (by kernel_rfl)

theorem m_spec_l1In_ok (a0 : Int) (a1 : Int) (a2 : Int) {r : Bool} (h : m_spec_l1In a0 a1 a2 = some r) :
    AC Tryd.prog (GS []) 44 [V.int a0, V.int a1, V.int a2] [] (V.bool r) [] := by
  rw [m_spec_l1In] at h
  refine AC.enter Tryd.func44 rfl ?_
  refine CodeOk.cutR (tl 15 [(0, V.int a0), (1, V.int a1), (2, V.int a2)]) [] mix (by
      refine W.run D_ok 1 100 (by kernel_rfl) ?_
      exact W.fin (by decide) (by kernel_rfl) (Weak.sel [] [0, 1, 2] (by kernel_rfl) (by kernel_rfl) (by kernel_rfl))
      ) ?_
  obtain ⟨y1, hv2, h⟩ := bind_some h
  refine CodeOk.cutR (tl 15 [(6, V.bool y1)]) [] mix (by
      refine W.run D_ok 4 100 (by kernel_rfl) ?_
      rcases cond_some hv2 with ⟨hc3, hv2⟩ | ⟨hc3, hv2⟩
      · refine W.is 10 hc3 (by kernel_rfl) ?_
        refine W.run D_ok 5 100 (by kernel_rfl) ?_
        have hv2 := Option.some.inj hv2
        subst hv2
        exact W.fin (by decide) (by kernel_rfl) (Weak.sel [] [6] (by kernel_rfl) (by kernel_rfl) (by kernel_rfl))
      · refine W.is 10 hc3 (by kernel_rfl) ?_
        refine W.run D_ok 5 100 (by kernel_rfl) ?_
        have hv2 := Option.some.inj hv2
        subst hv2
        exact W.fin (by decide) (by kernel_rfl) (Weak.sel [] [6] (by kernel_rfl) (by kernel_rfl) (by kernel_rfl))
      ) ?_
  refine CodeOk.ret ?_
  have h := Option.some.inj h
  subst h
  exact Ends.gen [] (.inr rfl) (RetV.one rfl (OneR.tmp (t := 6) (r := V.bool y1) (by kernel_rfl))) (by kernel_rfl) (by kernel_rfl) (by kernel_rfl)

theorem m_spec_l3Words_ok {r : (List (List UInt8))} (h : m_spec_l3Words = some r) :
    AC Tryd.prog (GS []) 55 [] [] (.own 100) [(100, .vec false 9 1 (r.map encS))] := by
  rw [m_spec_l3Words] at h
  refine AC.enter Tryd.func55 rfl ?_
  refine CodeOk.cutR (tl 2 []) [] mix (by
      refine W.run D_ok 1 100 (by kernel_rfl) ?_
      exact W.fin (by decide) (by kernel_rfl) (Weak.sel [] [] (by kernel_rfl) (by kernel_rfl) (by kernel_rfl))
      ) ?_
  refine CodeOk.cutR (tl 2 [(0, .own 100)]) [(100, .vec false 9 1 ([[66, 69, 71, 73, 78], [69, 78, 68], [102, 117, 110, 99, 116, 105, 111, 110], [105, 102], [101, 108, 115, 101], [119, 104, 105, 108, 101], [102, 111, 114], [100, 111], [98, 114, 101, 97, 107], [99, 111, 110, 116, 105, 110, 117, 101], [110, 101, 120, 116], [101, 120, 105, 116], [114, 101, 116, 117, 114, 110], [100, 101, 108, 101, 116, 101], [105, 110], [112, 114, 105, 110, 116], [112, 114, 105, 110, 116, 102]].map encS))] mix (by
      refine W.run D_ok 2 100 (by kernel_rfl) ?_
      exact W.fin (by decide) (by kernel_rfl) (Weak.sel [(100, 100)] [0] (by kernel_rfl) (by kernel_rfl) (by kernel_rfl))
      ) ?_
  refine CodeOk.ret ?_
  have h := Option.some.inj h
  subst h
  exact Ends.gen [(100, 100)] (.inr rfl) (RetV.one rfl (OneR.tmp (t := 0) (r := .own 100) (by kernel_rfl))) (by kernel_rfl) (by kernel_rfl) (by kernel_rfl)

theorem m_spec_l3Signs_ok {r : (List (List UInt8))} (h : m_spec_l3Signs = some r) :
    AC Tryd.prog (GS []) 56 [] [] (.own 100) [(100, .vec false 9 1 (r.map encS))] := by
  rw [m_spec_l3Signs] at h
  refine AC.enter Tryd.func56 rfl ?_
  refine CodeOk.cutR (tl 2 []) [] mix (by
      refine W.run D_ok 1 100 (by kernel_rfl) ?_
      exact W.fin (by decide) (by kernel_rfl) (Weak.sel [] [] (by kernel_rfl) (by kernel_rfl) (by kernel_rfl))
      ) ?_
  refine CodeOk.cutR (tl 2 [(0, .own 100)]) [(100, .vec false 9 1 ([[123], [125], [40], [41], [91], [93], [44], [59], [43, 61], [45, 61], [42, 61], [47, 61], [37, 61], [94, 61], [124, 124], [38, 38], [33, 126], [61, 61], [60, 61], [62, 61], [33, 61], [43, 43], [45, 45], [62, 62], [61], [43], [45], [42], [47], [37], [94], [33], [62], [60], [124], [63], [58], [126], [36]].map encS))] mix (by
      refine W.run D_ok 2 100 (by kernel_rfl) ?_
      exact W.fin (by decide) (by kernel_rfl) (Weak.sel [(100, 100)] [0] (by kernel_rfl) (by kernel_rfl) (by kernel_rfl))
      ) ?_
  refine CodeOk.ret ?_
  have h := Option.some.inj h
  subst h
  exact Ends.gen [(100, 100)] (.inr rfl) (RetV.one rfl (OneR.tmp (t := 0) (r := .own 100) (by kernel_rfl))) (by kernel_rfl) (by kernel_rfl) (by kernel_rfl)

theorem m_spec_SpellOf_ok (a0 : Int) {r : (List UInt8)} (h : m_spec_SpellOf a0 = some r) :
    AC Tryd.prog (GS []) 41 [V.int a0] [] (V.str r) [] := by
  rw [m_spec_SpellOf] at h
  refine AC.enter Tryd.func41 rfl ?_
  refine CodeOk.cutR (tl 22 [(0, V.int a0)]) [] mix (by
      refine W.run D_ok 1 100 (by kernel_rfl) ?_
      exact W.fin (by decide) (by kernel_rfl) (Weak.sel [] [0] (by kernel_rfl) (by kernel_rfl) (by kernel_rfl))
      ) ?_
  refine CodeOk.seq' ?_
  refine CodeOk.block' ?_
  refine CodeOk.cutR (tl 22 [(0, V.int a0), (3, V.bool (a0 == 1))]) [] mix (by
      refine W.run D_ok 3 100 (by kernel_rfl) ?_
      exact W.fin (by decide) (by kernel_rfl) (Weak.sel [] [0, 3] (by kernel_rfl) (by kernel_rfl) (by kernel_rfl))
      ) ?_
  rcases cond_some h with ⟨hc16, h⟩ | ⟨hc16, h⟩
  · refine CodeOk.ifT hc16 (by kernel_rfl) ?_
    refine CodeOk.cutR (tl 22 [(2, V.str [10])]) [] mix (by
        refine W.run D_ok 1 100 (by kernel_rfl) ?_
        exact W.fin (by decide) (by kernel_rfl) (Weak.sel [] [2] (by kernel_rfl) (by kernel_rfl) (by kernel_rfl))
        ) ?_
    refine CodeOk.ret ?_
    have h := Option.some.inj h
    subst h
    exact Ends.gen [] (.inr rfl) (RetV.one rfl (OneR.tmp (t := 2) (r := V.str [10]) (by kernel_rfl))) (by kernel_rfl) (by kernel_rfl) (by kernel_rfl)
  · refine CodeOk.ifF hc16 (by kernel_rfl) ?_
    obtain ⟨r14, hx18, h⟩ := bind_some h
    refine CodeOk.cutR (tl 22 [(0, V.int a0), (6, V.bool r14)]) [] mix (by
        refine W.run D_ok 1 100 (by kernel_rfl) ?_
        refine W.call0 (m_spec_l1In_ok a0 10 26 hx18) cok44 rfl (by kernel_rfl) ?_
        refine W.run D_ok 1 100 (by kernel_rfl) ?_
        exact W.fin (by decide) (by kernel_rfl) (Weak.sel [] [0, 6] (by kernel_rfl) (by kernel_rfl) (by kernel_rfl))
        ) ?_
    rcases cond_some h with ⟨hc19, h⟩ | ⟨hc19, h⟩
    · refine CodeOk.ifT hc19 (by kernel_rfl) ?_
      obtain ⟨r17, hx22, h⟩ := bind_some h
      obtain ⟨e18, hx23, h⟩ := bind_some h
      refine CodeOk.cutR (tl 22 [(2, V.str e18)]) [] mix (by
          refine W.call (m_spec_l3Words_ok  hx22) cok55 [] [(100, 100)] [100] (show LayOk _ [] from trivial) (by kernel_rfl) (by kernel_rfl) ?_
          refine W.run D_ok 2 101 (by kernel_rfl) ?_
          refine W.ixO D_ok encS hx23 100 1 (by kernel_rfl) ?_
          refine W.ldO D_ok encS hx23 9 100 0 (V.str e18) (by kernel_rfl) (by kernel_rfl) ?_
          refine W.run D_ok 1 101 (by kernel_rfl) ?_
          exact W.fin (by decide) (by kernel_rfl) (Weak.sel [] [2] (by kernel_rfl) (by kernel_rfl) (by kernel_rfl))
          ) ?_
      refine CodeOk.ret ?_
      have h := Option.some.inj h
      subst h
      exact Ends.gen [] (.inr rfl) (RetV.one rfl (OneR.tmp (t := 2) (r := V.str e18) (by kernel_rfl))) (by kernel_rfl) (by kernel_rfl) (by kernel_rfl)
    · refine CodeOk.ifF hc19 (by kernel_rfl) ?_
      obtain ⟨r20, hx25, h⟩ := bind_some h
      refine CodeOk.cutR (tl 22 [(0, V.int a0), (14, V.bool r20)]) [] mix (by
          refine W.run D_ok 1 100 (by kernel_rfl) ?_
          refine W.call0 (m_spec_l1In_ok a0 30 68 hx25) cok44 rfl (by kernel_rfl) ?_
          refine W.run D_ok 1 100 (by kernel_rfl) ?_
          exact W.fin (by decide) (by kernel_rfl) (Weak.sel [] [0, 14] (by kernel_rfl) (by kernel_rfl) (by kernel_rfl))
          ) ?_
      rcases cond_some h with ⟨hc26, h⟩ | ⟨hc26, h⟩
      · refine CodeOk.ifT hc26 (by kernel_rfl) ?_
        obtain ⟨r23, hx29, h⟩ := bind_some h
        obtain ⟨e24, hx30, h⟩ := bind_some h
        refine CodeOk.cutR (tl 22 [(2, V.str e24)]) [] mix (by
            refine W.call (m_spec_l3Signs_ok  hx29) cok56 [] [(100, 100)] [100] (show LayOk _ [] from trivial) (by kernel_rfl) (by kernel_rfl) ?_
            refine W.run D_ok 2 101 (by kernel_rfl) ?_
            refine W.ixO D_ok encS hx30 100 1 (by kernel_rfl) ?_
            refine W.ldO D_ok encS hx30 9 100 0 (V.str e24) (by kernel_rfl) (by kernel_rfl) ?_
            refine W.run D_ok 1 101 (by kernel_rfl) ?_
            exact W.fin (by decide) (by kernel_rfl) (Weak.sel [] [2] (by kernel_rfl) (by kernel_rfl) (by kernel_rfl))
            ) ?_
        refine CodeOk.ret ?_
        have h := Option.some.inj h
        subst h
        exact Ends.gen [] (.inr rfl) (RetV.one rfl (OneR.tmp (t := 2) (r := V.str e24) (by kernel_rfl))) (by kernel_rfl) (by kernel_rfl) (by kernel_rfl)
      · refine CodeOk.ifF hc26 (by kernel_rfl) ?_
        refine CodeOk.skip ?_
        refine CodeOk.weak (st' := ⟨tl 22 [(0, V.int a0), (14, V.bool r20)], []⟩) (Weak.refl _) ?_
        refine CodeOk.cutR (tl 22 [(2, V.str [])]) [] mix (by
            refine W.run D_ok 1 100 (by kernel_rfl) ?_
            exact W.fin (by decide) (by kernel_rfl) (Weak.sel [] [2] (by kernel_rfl) (by kernel_rfl) (by kernel_rfl))
            ) ?_
        refine CodeOk.ret ?_
        have h := Option.some.inj h
        subst h
        exact Ends.gen [] (.inr rfl) (RetV.one rfl (OneR.tmp (t := 2) (r := V.str []) (by kernel_rfl))) (by kernel_rfl) (by kernel_rfl) (by kernel_rfl)

theorem m_spec_l10Tok_ok (a0 : Int) {r : SToken} (h : m_spec_l10Tok a0 = some r) :
    AC Tryd.prog (GS []) 22 [V.int a0] [] (.agg [V.int r.Kind, V.str r.Text, V.int r.At]) [] := by
  rw [m_spec_l10Tok] at h
  refine AC.enter Tryd.func22 rfl ?_
  refine CodeOk.cutR (tl 7 [(0, V.int a0), (2, .loc 100 0)]) [(100, .cells 45 [V.int 0, V.str [], V.int 0])] mix (by
      refine W.run D_ok 1 100 (by kernel_rfl) ?_
      exact W.fin (by decide) (by kernel_rfl) (Weak.sel [(100, 100)] [0, 2] (by kernel_rfl) (by kernel_rfl) (by kernel_rfl))
      ) ?_
  obtain ⟨r2, hx2, h⟩ := bind_some h
  refine CodeOk.cutR (tl 7 [(2, .loc 100 0)]) [(100, .cells 45 [V.int a0, V.str r2, V.int 0])] mix (by
      refine W.run D_ok 2 101 (by kernel_rfl) ?_
      refine W.call0 (m_spec_SpellOf_ok a0 hx2) cok41 rfl (by kernel_rfl) ?_
      refine W.run D_ok 2 101 (by kernel_rfl) ?_
      exact W.fin (by decide) (by kernel_rfl) (Weak.sel [(100, 100)] [2] (by kernel_rfl) (by kernel_rfl) (by kernel_rfl))
      ) ?_
  refine CodeOk.ret ?_
  have h := Option.some.inj h
  subst h
  exact Ends.gen [] (.inr rfl) (RetV.one rfl (OneR.cell D_ok (r := .agg [V.int a0, V.str r2, V.int 0]) (i := 100) (ety := 45) (cs := [V.int a0, V.str r2, V.int 0]) (by kernel_rfl) (by kernel_rfl) (by kernel_rfl))) (by kernel_rfl) (by kernel_rfl) (by kernel_rfl)

theorem m_spec_MinTokens_ok (N : Nat) (a0 : List SToken) {r : (List SToken)} (h : m_spec_MinTokens N a0 = some r) :
    AC Tryd.prog (GS []) 8 [.sl false false (a0.map encSToken)] [] (.own 100) [(100, .vec false 45 3 (r.map encSToken))] := by
  rw [m_spec_MinTokens] at h
  refine AC.enter Tryd.func8 rfl ?_
  refine CodeOk.cutR (tl 93 [(0, .sl false false (a0.map encSToken))]) [] mix (by
      refine W.run D_ok 1 100 (by kernel_rfl) ?_
      exact W.fin (by decide) (by kernel_rfl) (Weak.sel [] [0] (by kernel_rfl) (by kernel_rfl) (by kernel_rfl))
      ) ?_
  refine CodeOk.cutR (tl 93 [(0, .sl false false (a0.map encSToken)), (3, .own 100)]) [(100, .vec false 45 3 ([].map encSToken))] mix (by
      refine W.run D_ok 2 100 (by kernel_rfl) ?_
      exact W.fin (by decide) (by kernel_rfl) (Weak.sel [(100, 100)] [0, 3] (by kernel_rfl) (by kernel_rfl) (by kernel_rfl))
      ) ?_
  refine CodeOk.seq' ?_
  refine CodeOk.cutR (tl 93 [(0, .sl false false (a0.map encSToken)), (3, .own 100), (4, V.int 0)]) [(100, .vec false 45 3 ([].map encSToken))] mix (by
      refine W.run D_ok 1 101 (by kernel_rfl) ?_
      exact W.fin (by decide) (by kernel_rfl) (Weak.sel [(100, 100)] [0, 3, 4] (by kernel_rfl) (by kernel_rfl) (by kernel_rfl))
      ) ?_
  refine CodeOk.block' ?_
  refine CodeOk.loopJ (fun (⟨a0, y313, y314⟩ : ((List SToken) × Int × (List SToken))) => ⟨tl 93 [(0, .sl false false (a0.map encSToken)), (3, .own 100), (4, V.int y313)], [(100, .vec false 45 3 (y314.map encSToken))]⟩) (fun n i => m_spec_MinTokens_l1 N n i = some r) (n0 := N) (i0 := (a0, 0, [])) (Weak.sel [(100, 100)] [0, 3, 4] (by kernel_rfl) (by kernel_rfl) (by kernel_rfl)) h (fun i h => by simp [m_spec_MinTokens_l1] at h) ?_
  rintro n1 ⟨a0, y313, y314⟩ h803 ih804
  rw [m_spec_MinTokens_l1] at h803
  refine CodeOk.seq' ?_
  refine CodeOk.cutR (tl 93 [(0, .sl false false (a0.map encSToken)), (3, .own 100), (4, V.int y313), (10, V.bool (decide (y313 < (a0.length : Int))))]) [(100, .vec false 45 3 (y314.map encSToken))] mix (by
      refine W.run D_ok 2 167 (by kernel_rfl) ?_
      refine W.len D_ok encSToken a0 [] (by kernel_rfl) (by kernel_rfl) ?_
      refine W.run D_ok 1 167 (by kernel_rfl) ?_
      exact W.fin (by decide) (by kernel_rfl) (Weak.sel [(100, 100)] [0, 3, 4, 10] (by kernel_rfl) (by kernel_rfl) (by kernel_rfl))
      ) ?_
  rcases cond_some h803 with ⟨hc806, h803⟩ | ⟨hc806, h803⟩
  · refine CodeOk.ifT hc806 (by kernel_rfl) ?_
    refine CodeOk.skip ?_
    refine CodeOk.weak (st' := ⟨tl 93 [(0, .sl false false (a0.map encSToken)), (3, .own 100), (4, V.int y313), (10, V.bool (decide (y313 < (a0.length : Int))))], [(100, .vec false 45 3 (y314.map encSToken))]⟩) (Weak.refl _) ?_
    refine CodeOk.join (fun (⟨a0, y313, y432⟩ : ((List SToken) × Int × (List SToken))) => ⟨tl 93 [(0, .sl false false (a0.map encSToken)), (3, .own 100), (4, V.int y313)], [(100, .vec false 45 3 (y432.map encSToken))]⟩) (fun i => m_spec_MinTokens_k2 N (m_spec_MinTokens_l1 N n1) i = some r) ?_ ?_
    · rintro ⟨a0, y313, y432⟩ h885
      rw [m_spec_MinTokens_k2] at h885
      refine CodeOk.endR (tl 93 [(0, .sl false false (a0.map encSToken)), (3, .own 100), (4, V.int (IntKind.wrap .i64 (y313 + 1)))]) [(100, .vec false 45 3 (y432.map encSToken))] mix (by
          refine W.run D_ok 3 170 (by kernel_rfl) ?_
          exact W.fin (by decide) (by kernel_rfl) (Weak.sel [(100, 100)] [0, 3, 4] (by kernel_rfl) (by kernel_rfl) (by kernel_rfl))
          ) (fun st hw => ?_)
      exact ih804 (a0, (IntKind.wrap .i64 (y313 + 1)), y432) h885 _ (hw.trans (Weak.sel [(100, 100)] [0, 3, 4] (by kernel_rfl) (by kernel_rfl) (by kernel_rfl)))
    intro hk886
    refine CodeOk.block' ?_
    refine CodeOk.seq' ?_
    obtain ⟨e436, hx891, h803⟩ := bind_some h803
    refine CodeOk.cutR (tl 93 [(0, .sl false false (a0.map encSToken)), (3, .own 100), (4, V.int y313), (18, V.bool (e436.Kind == 2))]) [(100, .vec false 45 3 (y314.map encSToken))] mix (by
        refine W.run D_ok 2 167 (by kernel_rfl) ?_
        refine W.ixD D_ok encSToken hx891 3 (by kernel_rfl) (by kernel_rfl) ?_
        refine W.run D_ok 3 167 (by kernel_rfl) ?_
        exact W.fin (by decide) (by kernel_rfl) (Weak.sel [(100, 100)] [0, 3, 4, 18] (by kernel_rfl) (by kernel_rfl) (by kernel_rfl))
        ) ?_
    rcases cond_some h803 with ⟨hc892, h803⟩ | ⟨hc892, h803⟩
    · refine CodeOk.ifT hc892 (by kernel_rfl) ?_
      refine CodeOk.exit ?_
      exact hk886 (a0, y313, y314) h803 _ (Weak.sel [(100, 100)] [0, 3, 4] (by kernel_rfl) (by kernel_rfl) (by kernel_rfl))
    · refine CodeOk.ifF hc892 (by kernel_rfl) ?_
      refine CodeOk.skip ?_
      refine CodeOk.weak (st' := ⟨tl 93 [(0, .sl false false (a0.map encSToken)), (3, .own 100), (4, V.int y313), (18, V.bool (e436.Kind == 2))], [(100, .vec false 45 3 (y314.map encSToken))]⟩) (Weak.refl _) ?_
      refine CodeOk.cutR (tl 93 [(0, .sl false false (a0.map encSToken)), (3, .own 100), (4, V.int y313), (5, V.int 0)]) [(100, .vec false 45 3 (y314.map encSToken))] mix (by
          refine W.run D_ok 1 167 (by kernel_rfl) ?_
          exact W.fin (by decide) (by kernel_rfl) (Weak.sel [(100, 100)] [0, 3, 4, 5] (by kernel_rfl) (by kernel_rfl) (by kernel_rfl))
          ) ?_
      refine CodeOk.join (fun (⟨a0, y313, y314, y439⟩ : ((List SToken) × Int × (List SToken) × Int)) => ⟨tl 93 [(0, .sl false false (a0.map encSToken)), (3, .own 100), (4, V.int y313), (5, V.int y439)], [(100, .vec false 45 3 (y314.map encSToken))]⟩) (fun i => m_spec_MinTokens_k3 N (m_spec_MinTokens_l1 N n1) i = some r) ?_ ?_
      · rintro ⟨a0, y313, y314, y439⟩ h896
        rw [m_spec_MinTokens_k3] at h896
        refine CodeOk.join (fun (⟨a0, y313, y439, y445⟩ : ((List SToken) × Int × Int × (List SToken))) => ⟨tl 93 [(0, .sl false false (a0.map encSToken)), (3, .own 100), (4, V.int y313), (5, V.int y439)], [(100, .vec false 45 3 (y445.map encSToken))]⟩) (fun i => m_spec_MinTokens_k4 N (m_spec_MinTokens_l1 N n1) i = some r) ?_ ?_
        · rintro ⟨a0, y313, y439, y445⟩ h905
          rw [m_spec_MinTokens_k4] at h905
          refine CodeOk.seq' ?_
          obtain ⟨e453, hx914, h905⟩ := bind_some h905
          refine CodeOk.cutR (tl 93 [(0, .sl false false (a0.map encSToken)), (3, .own 100), (4, V.int y313), (5, V.int y439), (49, V.bool (e453.Kind != 1))]) [(100, .vec false 45 3 (y445.map encSToken))] mix (by
              refine W.run D_ok 2 168 (by kernel_rfl) ?_
              refine W.ixD D_ok encSToken hx914 3 (by kernel_rfl) (by kernel_rfl) ?_
              refine W.run D_ok 3 168 (by kernel_rfl) ?_
              exact W.fin (by decide) (by kernel_rfl) (Weak.sel [(100, 100)] [0, 3, 4, 5, 49] (by kernel_rfl) (by kernel_rfl) (by kernel_rfl))
              ) ?_
          rcases cond_some h905 with ⟨hc915, h905⟩ | ⟨hc915, h905⟩
          · refine CodeOk.ifT hc915 (by kernel_rfl) ?_
            obtain ⟨e456, hx918, h905⟩ := bind_some h905
            obtain ⟨x457, hx919, h905⟩ := bind_some h905
            refine CodeOk.cutR (tl 93 [(0, .sl false false (a0.map encSToken)), (3, .own 169), (4, V.int y313)]) [(169, .vec false 45 3 (x457.map encSToken))] mix (by
                refine W.run D_ok 3 168 (by kernel_rfl) ?_
                refine W.ixD D_ok encSToken hx918 3 (by kernel_rfl) (by kernel_rfl) ?_
                refine W.run D_ok 2 168 (by kernel_rfl) ?_
                refine W.appO D_ok encSToken (a := 100) (c := 168) (el := 45) (sz := 3) 32 hx919 rfl 169 (by kernel_rfl) ?_
                refine W.run D_ok 1 170 (by kernel_rfl) ?_
                exact W.fin (by decide) (by kernel_rfl) (Weak.sel [(169, 169)] [0, 3, 4] (by kernel_rfl) (by kernel_rfl) (by kernel_rfl))
                ) ?_
            refine CodeOk.exit ?_
            exact hk886 (a0, y313, x457) h905 _ (Weak.sel [(169, 100)] [0, 3, 4] (by kernel_rfl) (by kernel_rfl) (by kernel_rfl))
          · refine CodeOk.ifF hc915 (by kernel_rfl) ?_
            refine CodeOk.skip ?_
            refine CodeOk.weak (st' := ⟨tl 93 [(0, .sl false false (a0.map encSToken)), (3, .own 100), (4, V.int y313), (5, V.int y439), (49, V.bool (e453.Kind != 1))], [(100, .vec false 45 3 (y445.map encSToken))]⟩) (Weak.refl _) ?_
            refine CodeOk.seq' ?_
            refine CodeOk.cutR (tl 93 [(0, .sl false false (a0.map encSToken)), (3, .own 100), (4, V.int y313), (5, V.int y439), (59, V.bool ((y445.length : Int) == 0))]) [(100, .vec false 45 3 (y445.map encSToken))] mix (by
                refine W.run D_ok 1 168 (by kernel_rfl) ?_
                refine W.len D_ok encSToken y445 [100] (by kernel_rfl) (by kernel_rfl) ?_
                refine W.run D_ok 1 168 (by kernel_rfl) ?_
                exact W.fin (by decide) (by kernel_rfl) (Weak.sel [(100, 100)] [0, 3, 4, 5, 59] (by kernel_rfl) (by kernel_rfl) (by kernel_rfl))
                ) ?_
            rcases cond_some h905 with ⟨hc921, h905⟩ | ⟨hc921, h905⟩
            · refine CodeOk.ifT hc921 (by kernel_rfl) ?_
              refine CodeOk.exit ?_
              exact hk886 (a0, y313, y445) h905 _ (Weak.sel [(100, 100)] [0, 3, 4] (by kernel_rfl) (by kernel_rfl) (by kernel_rfl))
            · refine CodeOk.ifF hc921 (by kernel_rfl) ?_
              refine CodeOk.skip ?_
              refine CodeOk.weak (st' := ⟨tl 93 [(0, .sl false false (a0.map encSToken)), (3, .own 100), (4, V.int y313), (5, V.int y439), (59, V.bool ((y445.length : Int) == 0))], [(100, .vec false 45 3 (y445.map encSToken))]⟩) (Weak.refl _) ?_
              refine CodeOk.seq' ?_
              refine CodeOk.cutR (tl 93 [(0, .sl false false (a0.map encSToken)), (3, .own 100), (4, V.int y313), (60, V.int y439)]) [(100, .vec false 45 3 (y445.map encSToken))] mix (by
                  refine W.run D_ok 1 168 (by kernel_rfl) ?_
                  exact W.fin (by decide) (by kernel_rfl) (Weak.sel [(100, 100)] [0, 3, 4, 60] (by kernel_rfl) (by kernel_rfl) (by kernel_rfl))
                  ) ?_
              refine CodeOk.block' ?_
              refine CodeOk.join (fun (⟨a0, y313, y445, y459⟩ : ((List SToken) × Int × (List SToken) × Bool)) => ⟨tl 93 [(0, .sl false false (a0.map encSToken)), (3, .own 100), (4, V.int y313), (61, V.bool y459)], [(100, .vec false 45 3 (y445.map encSToken))]⟩) (fun i => m_spec_MinTokens_k5 N (m_spec_MinTokens_l1 N n1) i = some r) ?_ ?_
              · rintro ⟨a0, y313, y445, y459⟩ h940
                rw [m_spec_MinTokens_k5] at h940
                rcases cond_some h940 with ⟨hc941, h940⟩ | ⟨hc941, h940⟩
                · refine CodeOk.ifT hc941 (by kernel_rfl) ?_
                  refine CodeOk.exit ?_
                  exact hk886 (a0, y313, y445) h940 _ (Weak.sel [(100, 100)] [0, 3, 4] (by kernel_rfl) (by kernel_rfl) (by kernel_rfl))
                · refine CodeOk.ifF hc941 (by kernel_rfl) ?_
                  refine CodeOk.skip ?_
                  refine CodeOk.weak (st' := ⟨tl 93 [(0, .sl false false (a0.map encSToken)), (3, .own 100), (4, V.int y313), (61, V.bool y459)], [(100, .vec false 45 3 (y445.map encSToken))]⟩) (Weak.refl _) ?_
                  obtain ⟨r462, hx944, h940⟩ := bind_some h940
                  obtain ⟨x463, hx945, h940⟩ := bind_some h940
                  refine CodeOk.endR (tl 93 [(0, .sl false false (a0.map encSToken)), (3, .own 169), (4, V.int y313)]) [(169, .vec false 45 3 (x463.map encSToken))] mix (by
                      refine W.run D_ok 1 168 (by kernel_rfl) ?_
                      refine W.call0 (m_spec_l10Tok_ok 37 hx944) cok22 rfl (by kernel_rfl) ?_
                      refine W.run D_ok 1 168 (by kernel_rfl) ?_
                      refine W.appO D_ok encSToken (a := 100) (c := 168) (el := 45) (sz := 3) 32 hx945 rfl 169 (by kernel_rfl) ?_
                      refine W.run D_ok 1 170 (by kernel_rfl) ?_
                      exact W.fin (by decide) (by kernel_rfl) (Weak.sel [(169, 169)] [0, 3, 4] (by kernel_rfl) (by kernel_rfl) (by kernel_rfl))
                      ) (fun st hw => ?_)
                  exact hk886 (a0, y313, x463) h940 _ (hw.trans (Weak.sel [(169, 100)] [0, 3, 4] (by kernel_rfl) (by kernel_rfl) (by kernel_rfl)))
              intro hk946
              refine CodeOk.cutR (tl 93 [(0, .sl false false (a0.map encSToken)), (3, .own 100), (4, V.int y313), (60, V.int y439), (61, V.bool (y439 == 37))]) [(100, .vec false 45 3 (y445.map encSToken))] mix (by
                  refine W.run D_ok 2 168 (by kernel_rfl) ?_
                  exact W.fin (by decide) (by kernel_rfl) (Weak.sel [(100, 100)] [0, 3, 4, 60, 61] (by kernel_rfl) (by kernel_rfl) (by kernel_rfl))
                  ) ?_
              rcases cond_some h905 with ⟨hc947, h905⟩ | ⟨hc947, h905⟩
              · refine CodeOk.ifT hc947 (by kernel_rfl) ?_
                refine CodeOk.skip ?_
                exact hk946 (a0, y313, y445, (y439 == 37)) h905 _ (Weak.sel [(100, 100)] [0, 3, 4, 61] (by kernel_rfl) (by kernel_rfl) (by kernel_rfl))
              · refine CodeOk.ifF hc947 (by kernel_rfl) ?_
                refine CodeOk.cutR (tl 93 [(0, .sl false false (a0.map encSToken)), (3, .own 100), (4, V.int y313), (60, V.int y439), (61, V.bool (y439 == 30))]) [(100, .vec false 45 3 (y445.map encSToken))] mix (by
                    refine W.run D_ok 2 168 (by kernel_rfl) ?_
                    exact W.fin (by decide) (by kernel_rfl) (Weak.sel [(100, 100)] [0, 3, 4, 60, 61] (by kernel_rfl) (by kernel_rfl) (by kernel_rfl))
                    ) ?_
                rcases cond_some h905 with ⟨hc948, h905⟩ | ⟨hc948, h905⟩
                · refine CodeOk.ifT hc948 (by kernel_rfl) ?_
                  refine CodeOk.skip ?_
                  exact hk946 (a0, y313, y445, (y439 == 30)) h905 _ (Weak.sel [(100, 100)] [0, 3, 4, 61] (by kernel_rfl) (by kernel_rfl) (by kernel_rfl))
                · refine CodeOk.ifF hc948 (by kernel_rfl) ?_
                  refine CodeOk.cutR (tl 93 [(0, .sl false false (a0.map encSToken)), (3, .own 100), (4, V.int y313), (60, V.int y439), (61, V.bool (y439 == 31))]) [(100, .vec false 45 3 (y445.map encSToken))] mix (by
                      refine W.run D_ok 2 168 (by kernel_rfl) ?_
                      exact W.fin (by decide) (by kernel_rfl) (Weak.sel [(100, 100)] [0, 3, 4, 60, 61] (by kernel_rfl) (by kernel_rfl) (by kernel_rfl))
                      ) ?_
                  rcases cond_some h905 with ⟨hc949, h905⟩ | ⟨hc949, h905⟩
                  · refine CodeOk.ifT hc949 (by kernel_rfl) ?_
                    refine CodeOk.skip ?_
                    exact hk946 (a0, y313, y445, (y439 == 31)) h905 _ (Weak.sel [(100, 100)] [0, 3, 4, 61] (by kernel_rfl) (by kernel_rfl) (by kernel_rfl))
                  · refine CodeOk.ifF hc949 (by kernel_rfl) ?_
                    refine CodeOk.cutR (tl 93 [(0, .sl false false (a0.map encSToken)), (3, .own 100), (4, V.int y313), (60, V.int y439), (61, V.bool (y439 == 36))]) [(100, .vec false 45 3 (y445.map encSToken))] mix (by
                        refine W.run D_ok 2 168 (by kernel_rfl) ?_
                        exact W.fin (by decide) (by kernel_rfl) (Weak.sel [(100, 100)] [0, 3, 4, 60, 61] (by kernel_rfl) (by kernel_rfl) (by kernel_rfl))
                        ) ?_
                    rcases cond_some h905 with ⟨hc950, h905⟩ | ⟨hc950, h905⟩
                    · refine CodeOk.ifT hc950 (by kernel_rfl) ?_
                      refine CodeOk.skip ?_
                      exact hk946 (a0, y313, y445, (y439 == 36)) h905 _ (Weak.sel [(100, 100)] [0, 3, 4, 61] (by kernel_rfl) (by kernel_rfl) (by kernel_rfl))
                    · refine CodeOk.ifF hc950 (by kernel_rfl) ?_
                      refine CodeOk.cutR (tl 93 [(0, .sl false false (a0.map encSToken)), (3, .own 100), (4, V.int y313), (60, V.int y439), (61, V.bool (y439 == 45))]) [(100, .vec false 45 3 (y445.map encSToken))] mix (by
                          refine W.run D_ok 2 168 (by kernel_rfl) ?_
                          exact W.fin (by decide) (by kernel_rfl) (Weak.sel [(100, 100)] [0, 3, 4, 60, 61] (by kernel_rfl) (by kernel_rfl) (by kernel_rfl))
                          ) ?_
                      rcases cond_some h905 with ⟨hc951, h905⟩ | ⟨hc951, h905⟩
                      · refine CodeOk.ifT hc951 (by kernel_rfl) ?_
                        refine CodeOk.skip ?_
                        exact hk946 (a0, y313, y445, (y439 == 45)) h905 _ (Weak.sel [(100, 100)] [0, 3, 4, 61] (by kernel_rfl) (by kernel_rfl) (by kernel_rfl))
                      · refine CodeOk.ifF hc951 (by kernel_rfl) ?_
                        refine CodeOk.endR (tl 93 [(0, .sl false false (a0.map encSToken)), (3, .own 100), (4, V.int y313), (61, V.bool (y439 == 44))]) [(100, .vec false 45 3 (y445.map encSToken))] mix (by
                            refine W.run D_ok 2 168 (by kernel_rfl) ?_
                            exact W.fin (by decide) (by kernel_rfl) (Weak.sel [(100, 100)] [0, 3, 4, 61] (by kernel_rfl) (by kernel_rfl) (by kernel_rfl))
                            ) (fun st hw => ?_)
                        exact hk946 (a0, y313, y445, (y439 == 44)) h905 _ (hw.trans (Weak.sel [(100, 100)] [0, 3, 4, 61] (by kernel_rfl) (by kernel_rfl) (by kernel_rfl)))
        intro hk952
        obtain ⟨y465, hv955, h896⟩ := bind_some h896
        refine CodeOk.cutR (tl 93 [(0, .sl false false (a0.map encSToken)), (3, .own 100), (4, V.int y313), (5, V.int y439), (38, V.bool y465)]) [(100, .vec false 45 3 (y314.map encSToken))] mix (by
            refine W.run D_ok 2 167 (by kernel_rfl) ?_
            obtain ⟨e466, hx956, hv955⟩ := bind_some hv955
            refine W.ixD D_ok encSToken hx956 3 (by kernel_rfl) (by kernel_rfl) ?_
            refine W.run D_ok 4 167 (by kernel_rfl) ?_
            rcases cond_some hv955 with ⟨hc957, hv955⟩ | ⟨hc957, hv955⟩
            · refine W.is 35 hc957 (by kernel_rfl) ?_
              refine W.run D_ok 3 167 (by kernel_rfl) ?_
              have hv955 := Option.some.inj hv955
              subst hv955
              exact W.fin (by decide) (by kernel_rfl) (Weak.sel [(100, 100)] [0, 3, 4, 5, 38] (by kernel_rfl) (by kernel_rfl) (by kernel_rfl))
            · refine W.is 35 hc957 (by kernel_rfl) ?_
              refine W.run D_ok 3 167 (by kernel_rfl) ?_
              have hv955 := Option.some.inj hv955
              subst hv955
              exact W.fin (by decide) (by kernel_rfl) (Weak.sel [(100, 100)] [0, 3, 4, 5, 38] (by kernel_rfl) (by kernel_rfl) (by kernel_rfl))
            ) ?_
        rcases cond_some h896 with ⟨hc958, h896⟩ | ⟨hc958, h896⟩
        · refine CodeOk.ifT hc958 (by kernel_rfl) ?_
          obtain ⟨l468, hx960, h896⟩ := bind_some h896
          refine CodeOk.endR (tl 93 [(0, .sl false false (a0.map encSToken)), (3, .own 167), (4, V.int y313), (5, V.int y439)]) [(167, .vec false 45 3 (l468.map encSToken))] mix (by
              refine W.run D_ok 2 167 (by kernel_rfl) ?_
              refine W.len D_ok encSToken y314 [100] (by kernel_rfl) (by kernel_rfl) ?_
              refine W.run D_ok 1 167 (by kernel_rfl) ?_
              refine W.cutO D_ok encSToken hx960 167 (j := 100) (el := 45) (sz := 3) (by kernel_rfl) ?_
              refine W.run D_ok 1 168 (by kernel_rfl) ?_
              exact W.fin (by decide) (by kernel_rfl) (Weak.sel [(167, 167)] [0, 3, 4, 5] (by kernel_rfl) (by kernel_rfl) (by kernel_rfl))
              ) (fun st hw => ?_)
          exact hk952 (a0, y313, y439, l468) h896 _ (hw.trans (Weak.sel [(167, 100)] [0, 3, 4, 5] (by kernel_rfl) (by kernel_rfl) (by kernel_rfl)))
        · refine CodeOk.ifF hc958 (by kernel_rfl) ?_
          refine CodeOk.skip ?_
          exact hk952 (a0, y313, y439, y314) h896 _ (Weak.sel [(100, 100)] [0, 3, 4, 5] (by kernel_rfl) (by kernel_rfl) (by kernel_rfl))
      intro hk961
      refine CodeOk.cutR (tl 93 [(0, .sl false false (a0.map encSToken)), (3, .own 100), (4, V.int y313), (5, V.int 0), (21, V.bool (decide ((y314.length : Int) > 0)))]) [(100, .vec false 45 3 (y314.map encSToken))] mix (by
          refine W.run D_ok 1 167 (by kernel_rfl) ?_
          refine W.len D_ok encSToken y314 [100] (by kernel_rfl) (by kernel_rfl) ?_
          refine W.run D_ok 1 167 (by kernel_rfl) ?_
          exact W.fin (by decide) (by kernel_rfl) (Weak.sel [(100, 100)] [0, 3, 4, 5, 21] (by kernel_rfl) (by kernel_rfl) (by kernel_rfl))
          ) ?_
      rcases cond_some h803 with ⟨hc962, h803⟩ | ⟨hc962, h803⟩
      · refine CodeOk.ifT hc962 (by kernel_rfl) ?_
        obtain ⟨e470, hx964, h803⟩ := bind_some h803
        refine CodeOk.endR (tl 93 [(0, .sl false false (a0.map encSToken)), (3, .own 100), (4, V.int y313), (5, V.int e470.Kind)]) [(100, .vec false 45 3 (y314.map encSToken))] mix (by
            refine W.run D_ok 2 167 (by kernel_rfl) ?_
            refine W.len D_ok encSToken y314 [100] (by kernel_rfl) (by kernel_rfl) ?_
            refine W.run D_ok 1 167 (by kernel_rfl) ?_
            refine W.ixO D_ok encSToken hx964 100 3 (by kernel_rfl) ?_
            refine W.run D_ok 1 167 (by kernel_rfl) ?_
            refine W.ldO D_ok encSToken hx964 3 100 0 (V.int e470.Kind) (by kernel_rfl) (by kernel_rfl) ?_
            refine W.run D_ok 1 167 (by kernel_rfl) ?_
            exact W.fin (by decide) (by kernel_rfl) (Weak.sel [(100, 100)] [0, 3, 4, 5] (by kernel_rfl) (by kernel_rfl) (by kernel_rfl))
            ) (fun st hw => ?_)
        exact hk961 (a0, y313, y314, e470.Kind) h803 _ (hw.trans (Weak.sel [(100, 100)] [0, 3, 4, 5] (by kernel_rfl) (by kernel_rfl) (by kernel_rfl)))
      · refine CodeOk.ifF hc962 (by kernel_rfl) ?_
        refine CodeOk.skip ?_
        exact hk961 (a0, y313, y314, 0) h803 _ (Weak.sel [(100, 100)] [0, 3, 4, 5] (by kernel_rfl) (by kernel_rfl) (by kernel_rfl))
  · refine CodeOk.ifF hc806 (by kernel_rfl) ?_
    refine CodeOk.exit ?_
    refine CodeOk.weak (st' := ⟨tl 93 [(0, .sl false false (a0.map encSToken)), (3, .own 100), (4, V.int y313), (10, V.bool (decide (y313 < (a0.length : Int))))], [(100, .vec false 45 3 (y314.map encSToken))]⟩) (Weak.refl _) ?_
    refine CodeOk.join (fun (y476 : (List SToken)) => ⟨tl 93 [(3, .own 100)], [(100, .vec false 45 3 (y476.map encSToken))]⟩) (fun i => m_spec_MinTokens_k6 N (m_spec_MinTokens_l1 N n1) i = some r) ?_ ?_
    · rintro y476 h973
      rw [m_spec_MinTokens_k6] at h973
      obtain ⟨x478, hx975, h973⟩ := bind_some h973
      refine CodeOk.cutR (tl 93 [(2, .own 169)]) [(169, .vec false 45 3 (x478.map encSToken))] mix (by
          refine W.run D_ok 2 168 (by kernel_rfl) ?_
          refine W.appO D_ok encSToken (a := 168) (c := 100) (el := 45) (sz := 3) 32 hx975 rfl 169 (by kernel_rfl) ?_
          refine W.run D_ok 1 170 (by kernel_rfl) ?_
          exact W.fin (by decide) (by kernel_rfl) (Weak.sel [(169, 169)] [2] (by kernel_rfl) (by kernel_rfl) (by kernel_rfl))
          ) ?_
      refine CodeOk.ret ?_
      have h973 := Option.some.inj h973
      subst h973
      exact Ends.gen [(169, 100)] (.inr rfl) (RetV.one rfl (OneR.tmp (t := 2) (r := .own 169) (by kernel_rfl))) (by kernel_rfl) (by kernel_rfl) (by kernel_rfl)
    intro hk976
    obtain ⟨y480, hv979, h803⟩ := bind_some h803
    refine CodeOk.cutR (tl 93 [(3, .own 100), (84, V.bool y480)]) [(100, .vec false 45 3 (y314.map encSToken))] mix (by
        refine W.run D_ok 1 167 (by kernel_rfl) ?_
        refine W.len D_ok encSToken y314 [100] (by kernel_rfl) (by kernel_rfl) ?_
        refine W.run D_ok 2 167 (by kernel_rfl) ?_
        rcases cond_some hv979 with ⟨hc980, hv979⟩ | ⟨hc980, hv979⟩
        · refine W.is 75 hc980 (by kernel_rfl) ?_
          refine W.run D_ok 2 167 (by kernel_rfl) ?_
          refine W.len D_ok encSToken y314 [100] (by kernel_rfl) (by kernel_rfl) ?_
          refine W.run D_ok 1 167 (by kernel_rfl) ?_
          obtain ⟨e481, hx981, hv979⟩ := bind_some hv979
          refine W.ixO D_ok encSToken hx981 100 3 (by kernel_rfl) ?_
          refine W.run D_ok 1 167 (by kernel_rfl) ?_
          refine W.ldO D_ok encSToken hx981 3 100 0 (V.int e481.Kind) (by kernel_rfl) (by kernel_rfl) ?_
          refine W.run D_ok 2 167 (by kernel_rfl) ?_
          have hv979 := Option.some.inj hv979
          subst hv979
          exact W.fin (by decide) (by kernel_rfl) (Weak.sel [(100, 100)] [3, 84] (by kernel_rfl) (by kernel_rfl) (by kernel_rfl))
        · refine W.is 75 hc980 (by kernel_rfl) ?_
          refine W.run D_ok 9 167 (by kernel_rfl) ?_
          have hv979 := Option.some.inj hv979
          subst hv979
          exact W.fin (by decide) (by kernel_rfl) (Weak.sel [(100, 100)] [3, 84] (by kernel_rfl) (by kernel_rfl) (by kernel_rfl))
        ) ?_
    rcases cond_some h803 with ⟨hc982, h803⟩ | ⟨hc982, h803⟩
    · refine CodeOk.ifT hc982 (by kernel_rfl) ?_
      obtain ⟨l483, hx984, h803⟩ := bind_some h803
      refine CodeOk.endR (tl 93 [(3, .own 167)]) [(167, .vec false 45 3 (l483.map encSToken))] mix (by
          refine W.run D_ok 2 167 (by kernel_rfl) ?_
          refine W.len D_ok encSToken y314 [100] (by kernel_rfl) (by kernel_rfl) ?_
          refine W.run D_ok 1 167 (by kernel_rfl) ?_
          refine W.cutO D_ok encSToken hx984 167 (j := 100) (el := 45) (sz := 3) (by kernel_rfl) ?_
          refine W.run D_ok 1 168 (by kernel_rfl) ?_
          exact W.fin (by decide) (by kernel_rfl) (Weak.sel [(167, 167)] [3] (by kernel_rfl) (by kernel_rfl) (by kernel_rfl))
          ) (fun st hw => ?_)
      exact hk976 l483 h803 _ (hw.trans (Weak.sel [(167, 100)] [3] (by kernel_rfl) (by kernel_rfl) (by kernel_rfl)))
    · refine CodeOk.ifF hc982 (by kernel_rfl) ?_
      refine CodeOk.skip ?_
      exact hk976 y314 h803 _ (Weak.sel [(100, 100)] [3] (by kernel_rfl) (by kernel_rfl) (by kernel_rfl))

theorem m_impl_MinTokens_1_ok (p1 : List SToken) {r : Int} (h : m_impl_MinTokens_1 p1 = some r) :
    AC Tryd.prog (GS []) 24 [.loc 0 0] [(0, .cells 24 [.own 1]), (1, .vec false 45 3 (p1.map encSToken))] (V.int r) [(0, .cells 24 [.own 1]), (1, .vec false 45 3 (p1.map encSToken))] := by
  rw [m_impl_MinTokens_1] at h
  refine AC.enter Tryd.func24 rfl ?_
  refine CodeOk.cutR (tl 12 [(0, .loc 0 0)]) [(0, .cells 24 [.own 1]), (1, .vec false 45 3 (p1.map encSToken))] mix (by
      refine W.run D_ok 1 100 (by kernel_rfl) ?_
      exact W.fin (by decide) (by kernel_rfl) (Weak.sel [(0, 0), (1, 1)] [0] (by kernel_rfl) (by kernel_rfl) (by kernel_rfl))
      ) ?_
  refine CodeOk.seq' ?_
  refine CodeOk.cutR (tl 12 [(0, .loc 0 0), (4, V.bool ((p1.length : Int) == 0))]) [(0, .cells 24 [.own 1]), (1, .vec false 45 3 (p1.map encSToken))] mix (by
      refine W.run D_ok 1 100 (by kernel_rfl) ?_
      refine W.len D_ok encSToken p1 [1] (by kernel_rfl) (by kernel_rfl) ?_
      refine W.run D_ok 1 100 (by kernel_rfl) ?_
      exact W.fin (by decide) (by kernel_rfl) (Weak.sel [(0, 0), (1, 1)] [0, 4] (by kernel_rfl) (by kernel_rfl) (by kernel_rfl))
      ) ?_
  rcases cond_some h with ⟨hc2, h⟩ | ⟨hc2, h⟩
  · refine CodeOk.ifT hc2 (by kernel_rfl) ?_
    refine CodeOk.cutR (tl 12 [(1, V.int 0)]) [(0, .cells 24 [.own 1]), (1, .vec false 45 3 (p1.map encSToken))] mix (by
        refine W.run D_ok 1 100 (by kernel_rfl) ?_
        exact W.fin (by decide) (by kernel_rfl) (Weak.sel [(0, 0), (1, 1)] [1] (by kernel_rfl) (by kernel_rfl) (by kernel_rfl))
        ) ?_
    refine CodeOk.ret ?_
    have h := Option.some.inj h
    subst h
    exact Ends.gen [(0, 0), (1, 1)] (.inr rfl) (RetV.one rfl (OneR.tmp (t := 1) (r := V.int 0) (by kernel_rfl))) (by kernel_rfl) (by kernel_rfl) (by kernel_rfl)
  · refine CodeOk.ifF hc2 (by kernel_rfl) ?_
    refine CodeOk.skip ?_
    refine CodeOk.weak (st' := ⟨tl 12 [(0, .loc 0 0), (4, V.bool ((p1.length : Int) == 0))], [(0, .cells 24 [.own 1]), (1, .vec false 45 3 (p1.map encSToken))]⟩) (Weak.refl _) ?_
    obtain ⟨e2, hx4, h⟩ := bind_some h
    refine CodeOk.cutR (tl 12 [(1, V.int e2.Kind)]) [(0, .cells 24 [.own 1]), (1, .vec false 45 3 (p1.map encSToken))] mix (by
        refine W.run D_ok 2 100 (by kernel_rfl) ?_
        refine W.len D_ok encSToken p1 [1] (by kernel_rfl) (by kernel_rfl) ?_
        refine W.run D_ok 1 100 (by kernel_rfl) ?_
        refine W.ixO D_ok encSToken hx4 1 3 (by kernel_rfl) ?_
        refine W.run D_ok 1 100 (by kernel_rfl) ?_
        refine W.ldO D_ok encSToken hx4 3 1 0 (V.int e2.Kind) (by kernel_rfl) (by kernel_rfl) ?_
        refine W.run D_ok 1 100 (by kernel_rfl) ?_
        exact W.fin (by decide) (by kernel_rfl) (Weak.sel [(0, 0), (1, 1)] [1] (by kernel_rfl) (by kernel_rfl) (by kernel_rfl))
        ) ?_
    refine CodeOk.ret ?_
    have h := Option.some.inj h
    subst h
    exact Ends.gen [(0, 0), (1, 1)] (.inr rfl) (RetV.one rfl (OneR.tmp (t := 1) (r := V.int e2.Kind) (by kernel_rfl))) (by kernel_rfl) (by kernel_rfl) (by kernel_rfl)

theorem m_impl_quiet_ok (a0 : Int) {r : Bool} (h : m_impl_quiet a0 = some r) :
    AC Tryd.prog (GS []) 25 [V.int a0] [] (V.bool r) [] := by
  rw [m_impl_quiet] at h
  refine AC.enter Tryd.func25 rfl ?_
  refine CodeOk.cutR (tl 11 [(0, V.int a0)]) [] mix (by
      refine W.run D_ok 1 100 (by kernel_rfl) ?_
      exact W.fin (by decide) (by kernel_rfl) (Weak.sel [] [0] (by kernel_rfl) (by kernel_rfl) (by kernel_rfl))
      ) ?_
  refine CodeOk.seq' ?_
  refine CodeOk.cutR (tl 11 [(3, V.int a0)]) [] mix (by
      refine W.run D_ok 1 100 (by kernel_rfl) ?_
      exact W.fin (by decide) (by kernel_rfl) (Weak.sel [] [3] (by kernel_rfl) (by kernel_rfl) (by kernel_rfl))
      ) ?_
  refine CodeOk.block' ?_
  refine CodeOk.join (fun (y2 : Bool) => ⟨tl 11 [(4, V.bool y2)], []⟩) (fun i => m_impl_quiet_k1 i = some r) ?_ ?_
  · rintro y2 h19
    rw [m_impl_quiet_k1] at h19
    rcases cond_some h19 with ⟨hc20, h19⟩ | ⟨hc20, h19⟩
    · refine CodeOk.ifT hc20 (by kernel_rfl) ?_
      refine CodeOk.cutR (tl 11 [(2, V.bool true)]) [] mix (by
          refine W.run D_ok 1 100 (by kernel_rfl) ?_
          exact W.fin (by decide) (by kernel_rfl) (Weak.sel [] [2] (by kernel_rfl) (by kernel_rfl) (by kernel_rfl))
          ) ?_
      refine CodeOk.ret ?_
      have h19 := Option.some.inj h19
      subst h19
      exact Ends.gen [] (.inr rfl) (RetV.one rfl (OneR.tmp (t := 2) (r := V.bool true) (by kernel_rfl))) (by kernel_rfl) (by kernel_rfl) (by kernel_rfl)
    · refine CodeOk.ifF hc20 (by kernel_rfl) ?_
      refine CodeOk.skip ?_
      refine CodeOk.weak (st' := ⟨tl 11 [(4, V.bool y2)], []⟩) (Weak.refl _) ?_
      refine CodeOk.cutR (tl 11 [(2, V.bool false)]) [] mix (by
          refine W.run D_ok 1 100 (by kernel_rfl) ?_
          exact W.fin (by decide) (by kernel_rfl) (Weak.sel [] [2] (by kernel_rfl) (by kernel_rfl) (by kernel_rfl))
          ) ?_
      refine CodeOk.ret ?_
      have h19 := Option.some.inj h19
      subst h19
      exact Ends.gen [] (.inr rfl) (RetV.one rfl (OneR.tmp (t := 2) (r := V.bool false) (by kernel_rfl))) (by kernel_rfl) (by kernel_rfl) (by kernel_rfl)
  intro hk21
  refine CodeOk.cutR (tl 11 [(3, V.int a0), (4, V.bool (a0 == 37))]) [] mix (by
      refine W.run D_ok 2 100 (by kernel_rfl) ?_
      exact W.fin (by decide) (by kernel_rfl) (Weak.sel [] [3, 4] (by kernel_rfl) (by kernel_rfl) (by kernel_rfl))
      ) ?_
  rcases cond_some h with ⟨hc22, h⟩ | ⟨hc22, h⟩
  · refine CodeOk.ifT hc22 (by kernel_rfl) ?_
    refine CodeOk.skip ?_
    exact hk21 (a0 == 37) h _ (Weak.sel [] [4] (by kernel_rfl) (by kernel_rfl) (by kernel_rfl))
  · refine CodeOk.ifF hc22 (by kernel_rfl) ?_
    refine CodeOk.cutR (tl 11 [(3, V.int a0), (4, V.bool (a0 == 30))]) [] mix (by
        refine W.run D_ok 2 100 (by kernel_rfl) ?_
        exact W.fin (by decide) (by kernel_rfl) (Weak.sel [] [3, 4] (by kernel_rfl) (by kernel_rfl) (by kernel_rfl))
        ) ?_
    rcases cond_some h with ⟨hc23, h⟩ | ⟨hc23, h⟩
    · refine CodeOk.ifT hc23 (by kernel_rfl) ?_
      refine CodeOk.skip ?_
      exact hk21 (a0 == 30) h _ (Weak.sel [] [4] (by kernel_rfl) (by kernel_rfl) (by kernel_rfl))
    · refine CodeOk.ifF hc23 (by kernel_rfl) ?_
      refine CodeOk.cutR (tl 11 [(3, V.int a0), (4, V.bool (a0 == 31))]) [] mix (by
          refine W.run D_ok 2 100 (by kernel_rfl) ?_
          exact W.fin (by decide) (by kernel_rfl) (Weak.sel [] [3, 4] (by kernel_rfl) (by kernel_rfl) (by kernel_rfl))
          ) ?_
      rcases cond_some h with ⟨hc24, h⟩ | ⟨hc24, h⟩
      · refine CodeOk.ifT hc24 (by kernel_rfl) ?_
        refine CodeOk.skip ?_
        exact hk21 (a0 == 31) h _ (Weak.sel [] [4] (by kernel_rfl) (by kernel_rfl) (by kernel_rfl))
      · refine CodeOk.ifF hc24 (by kernel_rfl) ?_
        refine CodeOk.cutR (tl 11 [(3, V.int a0), (4, V.bool (a0 == 36))]) [] mix (by
            refine W.run D_ok 2 100 (by kernel_rfl) ?_
            exact W.fin (by decide) (by kernel_rfl) (Weak.sel [] [3, 4] (by kernel_rfl) (by kernel_rfl) (by kernel_rfl))
            ) ?_
        rcases cond_some h with ⟨hc25, h⟩ | ⟨hc25, h⟩
        · refine CodeOk.ifT hc25 (by kernel_rfl) ?_
          refine CodeOk.skip ?_
          exact hk21 (a0 == 36) h _ (Weak.sel [] [4] (by kernel_rfl) (by kernel_rfl) (by kernel_rfl))
        · refine CodeOk.ifF hc25 (by kernel_rfl) ?_
          refine CodeOk.cutR (tl 11 [(3, V.int a0), (4, V.bool (a0 == 45))]) [] mix (by
              refine W.run D_ok 2 100 (by kernel_rfl) ?_
              exact W.fin (by decide) (by kernel_rfl) (Weak.sel [] [3, 4] (by kernel_rfl) (by kernel_rfl) (by kernel_rfl))
              ) ?_
          rcases cond_some h with ⟨hc26, h⟩ | ⟨hc26, h⟩
          · refine CodeOk.ifT hc26 (by kernel_rfl) ?_
            refine CodeOk.skip ?_
            exact hk21 (a0 == 45) h _ (Weak.sel [] [4] (by kernel_rfl) (by kernel_rfl) (by kernel_rfl))
          · refine CodeOk.ifF hc26 (by kernel_rfl) ?_
            refine CodeOk.endR (tl 11 [(4, V.bool (a0 == 44))]) [] mix (by
                refine W.run D_ok 2 100 (by kernel_rfl) ?_
                exact W.fin (by decide) (by kernel_rfl) (Weak.sel [] [4] (by kernel_rfl) (by kernel_rfl) (by kernel_rfl))
                ) (fun st hw => ?_)
            exact hk21 (a0 == 44) h _ (hw.trans (Weak.sel [] [4] (by kernel_rfl) (by kernel_rfl) (by kernel_rfl)))

theorem m_impl_within_ok (a0 : Int) (a1 : Int) (a2 : Int) {r : Bool} (h : m_impl_within a0 a1 a2 = some r) :
    AC Tryd.prog (GS []) 30 [V.int a0, V.int a1, V.int a2] [] (V.bool r) [] := by
  rw [m_impl_within] at h
  refine AC.enter Tryd.func30 rfl ?_
  refine CodeOk.cutR (tl 15 [(0, V.int a0), (1, V.int a1), (2, V.int a2)]) [] mix (by
      refine W.run D_ok 1 100 (by kernel_rfl) ?_
      exact W.fin (by decide) (by kernel_rfl) (Weak.sel [] [0, 1, 2] (by kernel_rfl) (by kernel_rfl) (by kernel_rfl))
      ) ?_
  obtain ⟨y1, hv2, h⟩ := bind_some h
  refine CodeOk.cutR (tl 15 [(6, V.bool y1)]) [] mix (by
      refine W.run D_ok 4 100 (by kernel_rfl) ?_
      rcases cond_some hv2 with ⟨hc3, hv2⟩ | ⟨hc3, hv2⟩
      · refine W.is 10 hc3 (by kernel_rfl) ?_
        refine W.run D_ok 5 100 (by kernel_rfl) ?_
        have hv2 := Option.some.inj hv2
        subst hv2
        exact W.fin (by decide) (by kernel_rfl) (Weak.sel [] [6] (by kernel_rfl) (by kernel_rfl) (by kernel_rfl))
      · refine W.is 10 hc3 (by kernel_rfl) ?_
        refine W.run D_ok 5 100 (by kernel_rfl) ?_
        have hv2 := Option.some.inj hv2
        subst hv2
        exact W.fin (by decide) (by kernel_rfl) (Weak.sel [] [6] (by kernel_rfl) (by kernel_rfl) (by kernel_rfl))
      ) ?_
  refine CodeOk.ret ?_
  have h := Option.some.inj h
  subst h
  exact Ends.gen [] (.inr rfl) (RetV.one rfl (OneR.tmp (t := 6) (r := V.bool y1) (by kernel_rfl))) (by kernel_rfl) (by kernel_rfl) (by kernel_rfl)

theorem m_impl_isKeywordKind_ok (a0 : Int) {r : Bool} (h : m_impl_isKeywordKind a0 = some r) :
    AC Tryd.prog (GS []) 53 [V.int a0] [] (V.bool r) [] := by
  rw [m_impl_isKeywordKind] at h
  refine AC.enter Tryd.func53 rfl ?_
  refine CodeOk.cutR (tl 5 [(0, V.int a0)]) [] mix (by
      refine W.run D_ok 1 100 (by kernel_rfl) ?_
      exact W.fin (by decide) (by kernel_rfl) (Weak.sel [] [0] (by kernel_rfl) (by kernel_rfl) (by kernel_rfl))
      ) ?_
  obtain ⟨r2, hx2, h⟩ := bind_some h
  refine CodeOk.cutR (tl 5 [(2, V.bool r2)]) [] mix (by
      refine W.run D_ok 1 100 (by kernel_rfl) ?_
      refine W.call0 (m_impl_within_ok a0 10 26 hx2) cok30 rfl (by kernel_rfl) ?_
      refine W.run D_ok 1 100 (by kernel_rfl) ?_
      exact W.fin (by decide) (by kernel_rfl) (Weak.sel [] [2] (by kernel_rfl) (by kernel_rfl) (by kernel_rfl))
      ) ?_
  refine CodeOk.ret ?_
  have h := Option.some.inj h
  subst h
  exact Ends.gen [] (.inr rfl) (RetV.one rfl (OneR.tmp (t := 2) (r := V.bool r2) (by kernel_rfl))) (by kernel_rfl) (by kernel_rfl) (by kernel_rfl)

theorem m_impl_isSignKind_ok (a0 : Int) {r : Bool} (h : m_impl_isSignKind a0 = some r) :
    AC Tryd.prog (GS []) 54 [V.int a0] [] (V.bool r) [] := by
  rw [m_impl_isSignKind] at h
  refine AC.enter Tryd.func54 rfl ?_
  refine CodeOk.cutR (tl 5 [(0, V.int a0)]) [] mix (by
      refine W.run D_ok 1 100 (by kernel_rfl) ?_
      exact W.fin (by decide) (by kernel_rfl) (Weak.sel [] [0] (by kernel_rfl) (by kernel_rfl) (by kernel_rfl))
      ) ?_
  obtain ⟨r2, hx2, h⟩ := bind_some h
  refine CodeOk.cutR (tl 5 [(2, V.bool r2)]) [] mix (by
      refine W.run D_ok 1 100 (by kernel_rfl) ?_
      refine W.call0 (m_impl_within_ok a0 30 68 hx2) cok30 rfl (by kernel_rfl) ?_
      refine W.run D_ok 1 100 (by kernel_rfl) ?_
      exact W.fin (by decide) (by kernel_rfl) (Weak.sel [] [2] (by kernel_rfl) (by kernel_rfl) (by kernel_rfl))
      ) ?_
  refine CodeOk.ret ?_
  have h := Option.some.inj h
  subst h
  exact Ends.gen [] (.inr rfl) (RetV.one rfl (OneR.tmp (t := 2) (r := V.bool r2) (by kernel_rfl))) (by kernel_rfl) (by kernel_rfl) (by kernel_rfl)

theorem m_impl_SpellOf_ok (a0 : Int) {r : (List UInt8)} (h : m_impl_SpellOf a0 = some r) :
    AC Tryd.prog (GS [0, 1]) 42 [V.int a0] [] (V.str r) [] := by
  rw [m_impl_SpellOf] at h
  refine AC.enter Tryd.func42 rfl ?_
  refine CodeOk.cutR (tl 20 [(0, V.int a0)]) [] mix (by
      refine W.run D_ok 1 100 (by kernel_rfl) ?_
      exact W.fin (by decide) (by kernel_rfl) (Weak.sel [] [0] (by kernel_rfl) (by kernel_rfl) (by kernel_rfl))
      ) ?_
  refine CodeOk.seq' ?_
  refine CodeOk.block' ?_
  refine CodeOk.cutR (tl 20 [(0, V.int a0), (3, V.bool (a0 == 1))]) [] mix (by
      refine W.run D_ok 3 100 (by kernel_rfl) ?_
      exact W.fin (by decide) (by kernel_rfl) (Weak.sel [] [0, 3] (by kernel_rfl) (by kernel_rfl) (by kernel_rfl))
      ) ?_
  rcases cond_some h with ⟨hc12, h⟩ | ⟨hc12, h⟩
  · refine CodeOk.ifT hc12 (by kernel_rfl) ?_
    refine CodeOk.cutR (tl 20 [(2, V.str [10])]) [] mix (by
        refine W.run D_ok 1 100 (by kernel_rfl) ?_
        exact W.fin (by decide) (by kernel_rfl) (Weak.sel [] [2] (by kernel_rfl) (by kernel_rfl) (by kernel_rfl))
        ) ?_
    refine CodeOk.ret ?_
    have h := Option.some.inj h
    subst h
    exact Ends.gen [] (.inr rfl) (RetV.one rfl (OneR.tmp (t := 2) (r := V.str [10]) (by kernel_rfl))) (by kernel_rfl) (by kernel_rfl) (by kernel_rfl)
  · refine CodeOk.ifF hc12 (by kernel_rfl) ?_
    obtain ⟨r10, hx14, h⟩ := bind_some h
    refine CodeOk.cutR (tl 20 [(0, V.int a0), (6, V.bool r10)]) [] mix (by
        refine W.run D_ok 1 100 (by kernel_rfl) ?_
        refine W.call0 (AC.gs (m_impl_isKeywordKind_ok a0 hx14) (by decide)) cok53 rfl (by kernel_rfl) ?_
        refine W.run D_ok 1 100 (by kernel_rfl) ?_
        exact W.fin (by decide) (by kernel_rfl) (Weak.sel [] [0, 6] (by kernel_rfl) (by kernel_rfl) (by kernel_rfl))
        ) ?_
    rcases cond_some h with ⟨hc15, h⟩ | ⟨hc15, h⟩
    · refine CodeOk.ifT hc15 (by kernel_rfl) ?_
      obtain ⟨e12, hx17, h⟩ := bind_some h
      refine CodeOk.cutR (tl 20 [(2, V.str e12)]) [] mix (by
          refine W.run D_ok 2 100 (by kernel_rfl) ?_
          refine W.ixG D_ok V.str (l := tab_keywords) hx17 (by kernel_rfl) ?_
          refine W.run D_ok 2 100 (by kernel_rfl) ?_
          exact W.fin (by decide) (by kernel_rfl) (Weak.sel [] [2] (by kernel_rfl) (by kernel_rfl) (by kernel_rfl))
          ) ?_
      refine CodeOk.ret ?_
      have h := Option.some.inj h
      subst h
      exact Ends.gen [] (.inr rfl) (RetV.one rfl (OneR.tmp (t := 2) (r := V.str e12) (by kernel_rfl))) (by kernel_rfl) (by kernel_rfl) (by kernel_rfl)
    · refine CodeOk.ifF hc15 (by kernel_rfl) ?_
      obtain ⟨r14, hx19, h⟩ := bind_some h
      refine CodeOk.cutR (tl 20 [(0, V.int a0), (13, V.bool r14)]) [] mix (by
          refine W.run D_ok 1 100 (by kernel_rfl) ?_
          refine W.call0 (AC.gs (m_impl_isSignKind_ok a0 hx19) (by decide)) cok54 rfl (by kernel_rfl) ?_
          refine W.run D_ok 1 100 (by kernel_rfl) ?_
          exact W.fin (by decide) (by kernel_rfl) (Weak.sel [] [0, 13] (by kernel_rfl) (by kernel_rfl) (by kernel_rfl))
          ) ?_
      rcases cond_some h with ⟨hc20, h⟩ | ⟨hc20, h⟩
      · refine CodeOk.ifT hc20 (by kernel_rfl) ?_
        obtain ⟨e16, hx22, h⟩ := bind_some h
        refine CodeOk.cutR (tl 20 [(2, V.str e16)]) [] mix (by
            refine W.run D_ok 2 100 (by kernel_rfl) ?_
            refine W.ixG D_ok V.str (l := tab_signs) hx22 (by kernel_rfl) ?_
            refine W.run D_ok 2 100 (by kernel_rfl) ?_
            exact W.fin (by decide) (by kernel_rfl) (Weak.sel [] [2] (by kernel_rfl) (by kernel_rfl) (by kernel_rfl))
            ) ?_
        refine CodeOk.ret ?_
        have h := Option.some.inj h
        subst h
        exact Ends.gen [] (.inr rfl) (RetV.one rfl (OneR.tmp (t := 2) (r := V.str e16) (by kernel_rfl))) (by kernel_rfl) (by kernel_rfl) (by kernel_rfl)
      · refine CodeOk.ifF hc20 (by kernel_rfl) ?_
        refine CodeOk.skip ?_
        refine CodeOk.weak (st' := ⟨tl 20 [(0, V.int a0), (13, V.bool r14)], []⟩) (Weak.refl _) ?_
        refine CodeOk.cutR (tl 20 [(2, V.str [])]) [] mix (by
            refine W.run D_ok 1 100 (by kernel_rfl) ?_
            exact W.fin (by decide) (by kernel_rfl) (Weak.sel [] [2] (by kernel_rfl) (by kernel_rfl) (by kernel_rfl))
            ) ?_
        refine CodeOk.ret ?_
        have h := Option.some.inj h
        subst h
        exact Ends.gen [] (.inr rfl) (RetV.one rfl (OneR.tmp (t := 2) (r := V.str []) (by kernel_rfl))) (by kernel_rfl) (by kernel_rfl) (by kernel_rfl)

theorem m_impl_sign_ok (a0 : Int) {r : SToken} (h : m_impl_sign a0 = some r) :
    AC Tryd.prog (GS [0, 1]) 26 [V.int a0] [] (.agg [V.int r.Kind, V.str r.Text, V.int r.At]) [] := by
  rw [m_impl_sign] at h
  refine AC.enter Tryd.func26 rfl ?_
  refine CodeOk.cutR (tl 7 [(0, V.int a0), (2, .loc 100 0)]) [(100, .cells 45 [V.int 0, V.str [], V.int 0])] mix (by
      refine W.run D_ok 1 100 (by kernel_rfl) ?_
      exact W.fin (by decide) (by kernel_rfl) (Weak.sel [(100, 100)] [0, 2] (by kernel_rfl) (by kernel_rfl) (by kernel_rfl))
      ) ?_
  obtain ⟨r2, hx2, h⟩ := bind_some h
  refine CodeOk.cutR (tl 7 [(2, .loc 100 0)]) [(100, .cells 45 [V.int a0, V.str r2, V.int 0])] mix (by
      refine W.run D_ok 2 101 (by kernel_rfl) ?_
      refine W.call0 (m_impl_SpellOf_ok a0 hx2) cok42 rfl (by kernel_rfl) ?_
      refine W.run D_ok 2 101 (by kernel_rfl) ?_
      exact W.fin (by decide) (by kernel_rfl) (Weak.sel [(100, 100)] [2] (by kernel_rfl) (by kernel_rfl) (by kernel_rfl))
      ) ?_
  refine CodeOk.ret ?_
  have h := Option.some.inj h
  subst h
  exact Ends.gen [] (.inr rfl) (RetV.one rfl (OneR.cell D_ok (r := .agg [V.int a0, V.str r2, V.int 0]) (i := 100) (ety := 45) (cs := [V.int a0, V.str r2, V.int 0]) (by kernel_rfl) (by kernel_rfl) (by kernel_rfl))) (by kernel_rfl) (by kernel_rfl) (by kernel_rfl)

theorem m_impl_MinTokens_ok (N : Nat) (a0 : List SToken) {r : (List SToken)} (h : m_impl_MinTokens N a0 = some r) :
    AC Tryd.prog (GS [0, 1]) 10 [.sl false false (a0.map encSToken)] [] (.own 100) [(100, .vec false 45 3 (r.map encSToken))] := by
  rw [m_impl_MinTokens] at h
  refine AC.enter Tryd.func10 rfl ?_
  refine CodeOk.cutR (tl 58 [(0, .sl false false (a0.map encSToken))]) [] mix (by
      refine W.run D_ok 1 100 (by kernel_rfl) ?_
      exact W.fin (by decide) (by kernel_rfl) (Weak.sel [] [0] (by kernel_rfl) (by kernel_rfl) (by kernel_rfl))
      ) ?_
  refine CodeOk.cutR (tl 58 [(0, .sl false false (a0.map encSToken)), (3, .loc 101 0)]) [(101, .cells 24 [.own 100]), (100, .vec false 45 3 ([].map encSToken))] mix (by
      refine W.run D_ok 3 100 (by kernel_rfl) ?_
      exact W.fin (by decide) (by kernel_rfl) (Weak.sel [(101, 101), (100, 100)] [0, 3] (by kernel_rfl) (by kernel_rfl) (by kernel_rfl))
      ) ?_
  refine CodeOk.cutR (tl 58 [(0, .sl false false (a0.map encSToken)), (3, .loc 101 0), (4, .fn 24 [.loc 101 0])]) [(101, .cells 24 [.own 100]), (100, .vec false 45 3 ([].map encSToken))] mix (by
      refine W.run D_ok 2 102 (by kernel_rfl) ?_
      exact W.fin (by decide) (by kernel_rfl) (Weak.sel [(101, 101), (100, 100)] [0, 3, 4] (by kernel_rfl) (by kernel_rfl) (by kernel_rfl))
      ) ?_
  refine CodeOk.seq' ?_
  refine CodeOk.cutR (tl 58 [(3, .loc 101 0), (4, .fn 24 [.loc 101 0]), (9, .sl false false (a0.map encSToken)), (10, V.int (a0.length : Int)), (11, V.int 0)]) [(101, .cells 24 [.own 100]), (100, .vec false 45 3 ([].map encSToken))] mix (by
      refine W.run D_ok 1 102 (by kernel_rfl) ?_
      refine W.len D_ok encSToken a0 [] (by kernel_rfl) (by kernel_rfl) ?_
      refine W.run D_ok 1 102 (by kernel_rfl) ?_
      exact W.fin (by decide) (by kernel_rfl) (Weak.sel [(101, 101), (100, 100)] [3, 4, 9, 10, 11] (by kernel_rfl) (by kernel_rfl) (by kernel_rfl))
      ) ?_
  refine CodeOk.block' ?_
  refine CodeOk.loopJ (fun (⟨a0, y417, y418⟩ : ((List SToken) × Int × (List SToken))) => ⟨tl 58 [(3, .loc 100 0), (4, .fn 24 [.loc 100 0]), (9, .sl false false (a0.map encSToken)), (10, V.int (a0.length : Int)), (11, V.int y417)], [(100, .cells 24 [.own 101]), (101, .vec false 45 3 (y418.map encSToken))]⟩) (fun n i => m_impl_MinTokens_l1 N n i = some r) (n0 := N) (i0 := (a0, 0, [])) (Weak.sel [(101, 100), (100, 101)] [3, 4, 9, 10, 11] (by kernel_rfl) (by kernel_rfl) (by kernel_rfl)) h (fun i h => by simp [m_impl_MinTokens_l1] at h) ?_
  rintro n1 ⟨a0, y417, y418⟩ h763 ih764
  rw [m_impl_MinTokens_l1] at h763
  refine CodeOk.cutR (tl 58 [(3, .loc 100 0), (4, .fn 24 [.loc 100 0]), (9, .sl false false (a0.map encSToken)), (10, V.int (a0.length : Int)), (11, V.int y417), (12, V.bool (decide (y417 < (a0.length : Int))))]) [(100, .cells 24 [.own 101]), (101, .vec false 45 3 (y418.map encSToken))] mix (by
      refine W.run D_ok 1 170 (by kernel_rfl) ?_
      exact W.fin (by decide) (by kernel_rfl) (Weak.sel [(100, 100), (101, 101)] [3, 4, 9, 10, 11, 12] (by kernel_rfl) (by kernel_rfl) (by kernel_rfl))
      ) ?_
  refine CodeOk.seq' ?_
  rcases cond_some h763 with ⟨hc766, h763⟩ | ⟨hc766, h763⟩
  · refine CodeOk.ifT hc766 (by kernel_rfl) ?_
    refine CodeOk.skip ?_
    refine CodeOk.weak (st' := ⟨tl 58 [(3, .loc 100 0), (4, .fn 24 [.loc 100 0]), (9, .sl false false (a0.map encSToken)), (10, V.int (a0.length : Int)), (11, V.int y417), (12, V.bool (decide (y417 < (a0.length : Int))))], [(100, .cells 24 [.own 101]), (101, .vec false 45 3 (y418.map encSToken))]⟩) (Weak.refl _) ?_
    refine CodeOk.join (fun (⟨a0, y417, y575⟩ : ((List SToken) × Int × (List SToken))) => ⟨tl 58 [(3, .loc 100 0), (4, .fn 24 [.loc 100 0]), (9, .sl false false (a0.map encSToken)), (10, V.int (a0.length : Int)), (11, V.int y417)], [(100, .cells 24 [.own 101]), (101, .vec false 45 3 (y575.map encSToken))]⟩) (fun i => m_impl_MinTokens_k2 N (m_impl_MinTokens_l1 N n1) i = some r) ?_ ?_
    · rintro ⟨a0, y417, y575⟩ h841
      rw [m_impl_MinTokens_k2] at h841
      refine CodeOk.endR (tl 58 [(3, .loc 100 0), (4, .fn 24 [.loc 100 0]), (9, .sl false false (a0.map encSToken)), (10, V.int (a0.length : Int)), (11, V.int (IntKind.wrap .i64 (y417 + 1)))]) [(100, .cells 24 [.own 101]), (101, .vec false 45 3 (y575.map encSToken))] mix (by
          refine W.run D_ok 2 174 (by kernel_rfl) ?_
          exact W.fin (by decide) (by kernel_rfl) (Weak.sel [(100, 100), (101, 101)] [3, 4, 9, 10, 11] (by kernel_rfl) (by kernel_rfl) (by kernel_rfl))
          ) (fun st hw => ?_)
      exact ih764 (a0, (IntKind.wrap .i64 (y417 + 1)), y575) h841 _ (hw.trans (Weak.sel [(100, 100), (101, 101)] [3, 4, 9, 10, 11] (by kernel_rfl) (by kernel_rfl) (by kernel_rfl)))
    intro hk842
    refine CodeOk.block' ?_
    obtain ⟨e577, hx844, h763⟩ := bind_some h763
    refine CodeOk.cutR (tl 58 [(3, .loc 100 0), (4, .fn 24 [.loc 100 0]), (6, .loc 170 0), (9, .sl false false (a0.map encSToken)), (10, V.int (a0.length : Int)), (11, V.int y417)]) [(170, .cells 45 [V.int e577.Kind, V.str e577.Text, V.int e577.At]), (100, .cells 24 [.own 101]), (101, .vec false 45 3 (y418.map encSToken))] mix (by
        refine W.ixD D_ok encSToken hx844 3 (by kernel_rfl) (by kernel_rfl) ?_
        refine W.run D_ok 3 170 (by kernel_rfl) ?_
        exact W.fin (by decide) (by kernel_rfl) (Weak.sel [(170, 170), (100, 100), (101, 101)] [3, 4, 6, 9, 10, 11] (by kernel_rfl) (by kernel_rfl) (by kernel_rfl))
        ) ?_
    refine CodeOk.join (fun (⟨a0, y417, e577, y601⟩ : ((List SToken) × Int × SToken × (List SToken))) => ⟨tl 58 [(3, .loc 100 0), (4, .fn 24 [.loc 100 0]), (6, .loc 101 0), (9, .sl false false (a0.map encSToken)), (10, V.int (a0.length : Int)), (11, V.int y417)], [(100, .cells 24 [.own 102]), (101, .cells 45 [V.int e577.Kind, V.str e577.Text, V.int e577.At]), (102, .vec false 45 3 (y601.map encSToken))]⟩) (fun i => m_impl_MinTokens_k3 N (m_impl_MinTokens_l1 N n1) i = some r) ?_ ?_
    · rintro ⟨a0, y417, e577, y601⟩ h879
      rw [m_impl_MinTokens_k3] at h879
      obtain ⟨x603, hx881, h879⟩ := bind_some h879
      refine CodeOk.endR (tl 58 [(3, .loc 100 0), (4, .fn 24 [.loc 100 0]), (9, .sl false false (a0.map encSToken)), (10, V.int (a0.length : Int)), (11, V.int y417)]) [(100, .cells 24 [.own 173]), (173, .vec false 45 3 (x603.map encSToken))] mix (by
          refine W.run D_ok 3 172 (by kernel_rfl) ?_
          refine W.appO D_ok encSToken (a := 102) (c := 172) (el := 45) (sz := 3) 32 hx881 rfl 173 (by kernel_rfl) ?_
          refine W.run D_ok 1 174 (by kernel_rfl) ?_
          exact W.fin (by decide) (by kernel_rfl) (Weak.sel [(100, 100), (173, 173)] [3, 4, 9, 10, 11] (by kernel_rfl) (by kernel_rfl) (by kernel_rfl))
          ) (fun st hw => ?_)
      exact hk842 (a0, y417, x603) h879 _ (hw.trans (Weak.sel [(100, 100), (173, 101)] [3, 4, 9, 10, 11] (by kernel_rfl) (by kernel_rfl) (by kernel_rfl)))
    intro hk882
    refine CodeOk.cutR (tl 58 [(3, .loc 100 0), (4, .fn 24 [.loc 100 0]), (6, .loc 170 0), (9, .sl false false (a0.map encSToken)), (10, V.int (a0.length : Int)), (11, V.int y417), (16, V.int e577.Kind)]) [(170, .cells 45 [V.int e577.Kind, V.str e577.Text, V.int e577.At]), (100, .cells 24 [.own 101]), (101, .vec false 45 3 (y418.map encSToken))] mix (by
        refine W.run D_ok 2 171 (by kernel_rfl) ?_
        exact W.fin (by decide) (by kernel_rfl) (Weak.sel [(170, 170), (100, 100), (101, 101)] [3, 4, 6, 9, 10, 11, 16] (by kernel_rfl) (by kernel_rfl) (by kernel_rfl))
        ) ?_
    refine CodeOk.block' ?_
    refine CodeOk.cutR (tl 58 [(3, .loc 100 0), (4, .fn 24 [.loc 100 0]), (6, .loc 170 0), (9, .sl false false (a0.map encSToken)), (10, V.int (a0.length : Int)), (11, V.int y417), (16, V.int e577.Kind), (17, V.bool (e577.Kind == 2))]) [(170, .cells 45 [V.int e577.Kind, V.str e577.Text, V.int e577.At]), (100, .cells 24 [.own 101]), (101, .vec false 45 3 (y418.map encSToken))] mix (by
        refine W.run D_ok 2 171 (by kernel_rfl) ?_
        exact W.fin (by decide) (by kernel_rfl) (Weak.sel [(170, 170), (100, 100), (101, 101)] [3, 4, 6, 9, 10, 11, 16, 17] (by kernel_rfl) (by kernel_rfl) (by kernel_rfl))
        ) ?_
    rcases cond_some h763 with ⟨hc883, h763⟩ | ⟨hc883, h763⟩
    · refine CodeOk.ifT hc883 (by kernel_rfl) ?_
      refine CodeOk.exit ?_
      exact hk842 (a0, y417, y418) h763 _ (Weak.sel [(100, 100), (101, 101)] [3, 4, 9, 10, 11] (by kernel_rfl) (by kernel_rfl) (by kernel_rfl))
    · refine CodeOk.ifF hc883 (by kernel_rfl) ?_
      refine CodeOk.cutR (tl 58 [(3, .loc 100 0), (4, .fn 24 [.loc 100 0]), (6, .loc 170 0), (9, .sl false false (a0.map encSToken)), (10, V.int (a0.length : Int)), (11, V.int y417), (16, V.int e577.Kind), (19, V.bool (e577.Kind == 1))]) [(170, .cells 45 [V.int e577.Kind, V.str e577.Text, V.int e577.At]), (100, .cells 24 [.own 101]), (101, .vec false 45 3 (y418.map encSToken))] mix (by
          refine W.run D_ok 2 171 (by kernel_rfl) ?_
          exact W.fin (by decide) (by kernel_rfl) (Weak.sel [(170, 170), (100, 100), (101, 101)] [3, 4, 6, 9, 10, 11, 16, 19] (by kernel_rfl) (by kernel_rfl) (by kernel_rfl))
          ) ?_
      rcases cond_some h763 with ⟨hc884, h763⟩ | ⟨hc884, h763⟩
      · refine CodeOk.ifT hc884 (by kernel_rfl) ?_
        refine CodeOk.join (fun (⟨a0, y417, y613⟩ : ((List SToken) × Int × (List SToken))) => ⟨tl 58 [(3, .loc 100 0), (4, .fn 24 [.loc 100 0]), (9, .sl false false (a0.map encSToken)), (10, V.int (a0.length : Int)), (11, V.int y417)], [(100, .cells 24 [.own 101]), (101, .vec false 45 3 (y613.map encSToken))]⟩) (fun i => m_impl_MinTokens_k4 N (m_impl_MinTokens_l1 N n1) i = some r) ?_ ?_
        · rintro ⟨a0, y417, y613⟩ h897
          rw [m_impl_MinTokens_k4] at h897
          refine CodeOk.exit ?_
          exact hk842 (a0, y417, y613) h897 _ (Weak.sel [(100, 100), (101, 101)] [3, 4, 9, 10, 11] (by kernel_rfl) (by kernel_rfl) (by kernel_rfl))
        intro hk898
        obtain ⟨y616, hv902, h763⟩ := bind_some h763
        refine CodeOk.cutR (tl 58 [(3, .loc 100 0), (4, .fn 24 [.loc 100 0]), (9, .sl false false (a0.map encSToken)), (10, V.int (a0.length : Int)), (11, V.int y417), (29, V.bool y616)]) [(100, .cells 24 [.own 101]), (101, .vec false 45 3 (y418.map encSToken))] mix (by
            refine W.run D_ok 1 171 (by kernel_rfl) ?_
            refine W.len D_ok encSToken y418 [101] (by kernel_rfl) (by kernel_rfl) ?_
            refine W.run D_ok 2 171 (by kernel_rfl) ?_
            rcases cond_some hv902 with ⟨hc903, hv902⟩ | ⟨hc903, hv902⟩
            · refine W.is 24 hc903 (by kernel_rfl) ?_
              refine W.run D_ok 1 171 (by kernel_rfl) ?_
              obtain ⟨r617, hx904, hv902⟩ := bind_some hv902
              refine W.call (AC.gs (m_impl_MinTokens_1_ok y418 hx904) (by decide)) cok24 [(100, 0), (101, 1)] [(0, 100), (1, 101)] [] (show LayOk _ [] from trivial) (by kernel_rfl) (by kernel_rfl) ?_
              obtain ⟨r618, hx905, hv902⟩ := bind_some hv902
              refine W.call0 (AC.gs (m_impl_quiet_ok r617 hx905) (by decide)) cok25 rfl (by kernel_rfl) ?_
              refine W.run D_ok 2 171 (by kernel_rfl) ?_
              have hv902 := Option.some.inj hv902
              subst hv902
              exact W.fin (by decide) (by kernel_rfl) (Weak.sel [(100, 100), (101, 101)] [3, 4, 9, 10, 11, 29] (by kernel_rfl) (by kernel_rfl) (by kernel_rfl))
            · refine W.is 24 hc903 (by kernel_rfl) ?_
              refine W.run D_ok 5 171 (by kernel_rfl) ?_
              have hv902 := Option.some.inj hv902
              subst hv902
              exact W.fin (by decide) (by kernel_rfl) (Weak.sel [(100, 100), (101, 101)] [3, 4, 9, 10, 11, 29] (by kernel_rfl) (by kernel_rfl) (by kernel_rfl))
            ) ?_
        rcases cond_some h763 with ⟨hc906, h763⟩ | ⟨hc906, h763⟩
        · refine CodeOk.ifT hc906 (by kernel_rfl) ?_
          obtain ⟨r621, hx909, h763⟩ := bind_some h763
          obtain ⟨x622, hx910, h763⟩ := bind_some h763
          refine CodeOk.endR (tl 58 [(3, .loc 100 0), (4, .fn 24 [.loc 100 0]), (9, .sl false false (a0.map encSToken)), (10, V.int (a0.length : Int)), (11, V.int y417)]) [(100, .cells 24 [.own 172]), (172, .vec false 45 3 (x622.map encSToken))] mix (by
              refine W.run D_ok 1 171 (by kernel_rfl) ?_
              refine W.call0 (m_impl_sign_ok 37 hx909) cok26 rfl (by kernel_rfl) ?_
              refine W.run D_ok 1 171 (by kernel_rfl) ?_
              refine W.appO D_ok encSToken (a := 101) (c := 171) (el := 45) (sz := 3) 32 hx910 rfl 172 (by kernel_rfl) ?_
              refine W.run D_ok 1 173 (by kernel_rfl) ?_
              exact W.fin (by decide) (by kernel_rfl) (Weak.sel [(100, 100), (172, 172)] [3, 4, 9, 10, 11] (by kernel_rfl) (by kernel_rfl) (by kernel_rfl))
              ) (fun st hw => ?_)
          exact hk898 (a0, y417, x622) h763 _ (hw.trans (Weak.sel [(100, 100), (172, 101)] [3, 4, 9, 10, 11] (by kernel_rfl) (by kernel_rfl) (by kernel_rfl)))
        · refine CodeOk.ifF hc906 (by kernel_rfl) ?_
          refine CodeOk.skip ?_
          exact hk898 (a0, y417, y418) h763 _ (Weak.sel [(100, 100), (101, 101)] [3, 4, 9, 10, 11] (by kernel_rfl) (by kernel_rfl) (by kernel_rfl))
      · refine CodeOk.ifF hc884 (by kernel_rfl) ?_
        refine CodeOk.cutR (tl 58 [(3, .loc 100 0), (4, .fn 24 [.loc 100 0]), (6, .loc 170 0), (9, .sl false false (a0.map encSToken)), (10, V.int (a0.length : Int)), (11, V.int y417), (34, V.bool (e577.Kind == 31))]) [(170, .cells 45 [V.int e577.Kind, V.str e577.Text, V.int e577.At]), (100, .cells 24 [.own 101]), (101, .vec false 45 3 (y418.map encSToken))] mix (by
            refine W.run D_ok 2 171 (by kernel_rfl) ?_
            exact W.fin (by decide) (by kernel_rfl) (Weak.sel [(170, 170), (100, 100), (101, 101)] [3, 4, 6, 9, 10, 11, 34] (by kernel_rfl) (by kernel_rfl) (by kernel_rfl))
            ) ?_
        rcases cond_some h763 with ⟨hc911, h763⟩ | ⟨hc911, h763⟩
        · refine CodeOk.ifT hc911 (by kernel_rfl) ?_
          obtain ⟨r624, hx913, h763⟩ := bind_some h763
          refine CodeOk.cutR (tl 58 [(3, .loc 100 0), (4, .fn 24 [.loc 100 0]), (6, .loc 170 0), (9, .sl false false (a0.map encSToken)), (10, V.int (a0.length : Int)), (11, V.int y417), (38, V.bool (r624 == 37))]) [(170, .cells 45 [V.int e577.Kind, V.str e577.Text, V.int e577.At]), (100, .cells 24 [.own 101]), (101, .vec false 45 3 (y418.map encSToken))] mix (by
              refine W.run D_ok 1 171 (by kernel_rfl) ?_
              refine W.call (AC.gs (m_impl_MinTokens_1_ok y418 hx913) (by decide)) cok24 [(100, 0), (101, 1)] [(0, 100), (1, 101)] [] (show LayOk _ [] from trivial) (by kernel_rfl) (by kernel_rfl) ?_
              refine W.run D_ok 1 171 (by kernel_rfl) ?_
              exact W.fin (by decide) (by kernel_rfl) (Weak.sel [(170, 170), (100, 100), (101, 101)] [3, 4, 6, 9, 10, 11, 38] (by kernel_rfl) (by kernel_rfl) (by kernel_rfl))
              ) ?_
          rcases cond_some h763 with ⟨hc914, h763⟩ | ⟨hc914, h763⟩
          · refine CodeOk.ifT hc914 (by kernel_rfl) ?_
            obtain ⟨l626, hx916, h763⟩ := bind_some h763
            refine CodeOk.endR (tl 58 [(3, .loc 100 0), (4, .fn 24 [.loc 100 0]), (6, .loc 170 0), (9, .sl false false (a0.map encSToken)), (10, V.int (a0.length : Int)), (11, V.int y417)]) [(100, .cells 24 [.own 171]), (171, .vec false 45 3 (l626.map encSToken)), (170, .cells 45 [V.int e577.Kind, V.str e577.Text, V.int e577.At])] mix (by
                refine W.run D_ok 2 171 (by kernel_rfl) ?_
                refine W.len D_ok encSToken y418 [101] (by kernel_rfl) (by kernel_rfl) ?_
                refine W.run D_ok 1 171 (by kernel_rfl) ?_
                refine W.cutO D_ok encSToken hx916 171 (j := 101) (el := 45) (sz := 3) (by kernel_rfl) ?_
                refine W.run D_ok 1 172 (by kernel_rfl) ?_
                exact W.fin (by decide) (by kernel_rfl) (Weak.sel [(100, 100), (171, 171), (170, 170)] [3, 4, 6, 9, 10, 11] (by kernel_rfl) (by kernel_rfl) (by kernel_rfl))
                ) (fun st hw => ?_)
            exact hk882 (a0, y417, e577, l626) h763 _ (hw.trans (Weak.sel [(100, 100), (170, 101), (171, 102)] [3, 4, 6, 9, 10, 11] (by kernel_rfl) (by kernel_rfl) (by kernel_rfl)))
          · refine CodeOk.ifF hc914 (by kernel_rfl) ?_
            refine CodeOk.skip ?_
            exact hk882 (a0, y417, e577, y418) h763 _ (Weak.sel [(100, 100), (170, 101), (101, 102)] [3, 4, 6, 9, 10, 11] (by kernel_rfl) (by kernel_rfl) (by kernel_rfl))
        · refine CodeOk.ifF hc911 (by kernel_rfl) ?_
          refine CodeOk.skip ?_
          exact hk882 (a0, y417, e577, y418) h763 _ (Weak.sel [(100, 100), (170, 101), (101, 102)] [3, 4, 6, 9, 10, 11] (by kernel_rfl) (by kernel_rfl) (by kernel_rfl))
  · refine CodeOk.ifF hc766 (by kernel_rfl) ?_
    refine CodeOk.exit ?_
    refine CodeOk.weak (st' := ⟨tl 58 [(3, .loc 100 0), (4, .fn 24 [.loc 100 0]), (9, .sl false false (a0.map encSToken)), (10, V.int (a0.length : Int)), (11, V.int y417), (12, V.bool (decide (y417 < (a0.length : Int))))], [(100, .cells 24 [.own 101]), (101, .vec false 45 3 (y418.map encSToken))]⟩) (Weak.refl _) ?_
    refine CodeOk.join (fun (y631 : (List SToken)) => ⟨tl 58 [(3, .loc 100 0)], [(100, .cells 24 [.own 101]), (101, .vec false 45 3 (y631.map encSToken))]⟩) (fun i => m_impl_MinTokens_k5 N (m_impl_MinTokens_l1 N n1) i = some r) ?_ ?_
    · rintro y631 h922
      rw [m_impl_MinTokens_k5] at h922
      refine CodeOk.cutR (tl 58 [(2, .own 101)]) [(101, .vec false 45 3 (y631.map encSToken))] mix (by
          refine W.run D_ok 2 171 (by kernel_rfl) ?_
          exact W.fin (by decide) (by kernel_rfl) (Weak.sel [(101, 101)] [2] (by kernel_rfl) (by kernel_rfl) (by kernel_rfl))
          ) ?_
      refine CodeOk.ret ?_
      have h922 := Option.some.inj h922
      subst h922
      exact Ends.gen [(101, 100)] (.inr rfl) (RetV.one rfl (OneR.tmp (t := 2) (r := .own 101) (by kernel_rfl))) (by kernel_rfl) (by kernel_rfl) (by kernel_rfl)
    intro hk923
    obtain ⟨r633, hx925, h763⟩ := bind_some h763
    refine CodeOk.cutR (tl 58 [(3, .loc 100 0), (51, V.bool (r633 == 37))]) [(100, .cells 24 [.own 101]), (101, .vec false 45 3 (y418.map encSToken))] mix (by
        refine W.run D_ok 1 170 (by kernel_rfl) ?_
        refine W.call (AC.gs (m_impl_MinTokens_1_ok y418 hx925) (by decide)) cok24 [(100, 0), (101, 1)] [(0, 100), (1, 101)] [] (show LayOk _ [] from trivial) (by kernel_rfl) (by kernel_rfl) ?_
        refine W.run D_ok 1 170 (by kernel_rfl) ?_
        exact W.fin (by decide) (by kernel_rfl) (Weak.sel [(100, 100), (101, 101)] [3, 51] (by kernel_rfl) (by kernel_rfl) (by kernel_rfl))
        ) ?_
    rcases cond_some h763 with ⟨hc926, h763⟩ | ⟨hc926, h763⟩
    · refine CodeOk.ifT hc926 (by kernel_rfl) ?_
      obtain ⟨l635, hx928, h763⟩ := bind_some h763
      refine CodeOk.endR (tl 58 [(3, .loc 100 0)]) [(100, .cells 24 [.own 170]), (170, .vec false 45 3 (l635.map encSToken))] mix (by
          refine W.run D_ok 2 170 (by kernel_rfl) ?_
          refine W.len D_ok encSToken y418 [101] (by kernel_rfl) (by kernel_rfl) ?_
          refine W.run D_ok 1 170 (by kernel_rfl) ?_
          refine W.cutO D_ok encSToken hx928 170 (j := 101) (el := 45) (sz := 3) (by kernel_rfl) ?_
          refine W.run D_ok 1 171 (by kernel_rfl) ?_
          exact W.fin (by decide) (by kernel_rfl) (Weak.sel [(100, 100), (170, 170)] [3] (by kernel_rfl) (by kernel_rfl) (by kernel_rfl))
          ) (fun st hw => ?_)
      exact hk923 l635 h763 _ (hw.trans (Weak.sel [(100, 100), (170, 101)] [3] (by kernel_rfl) (by kernel_rfl) (by kernel_rfl)))
    · refine CodeOk.ifF hc926 (by kernel_rfl) ?_
      refine CodeOk.skip ?_
      exact hk923 y418 h763 _ (Weak.sel [(100, 100), (101, 101)] [3] (by kernel_rfl) (by kernel_rfl) (by kernel_rfl))

theorem m_laws_eqToken_ok (a0 : SToken) (a1 : SToken) {r : Bool} (h : m_laws_eqToken a0 a1 = some r) :
    AC Tryd.prog (GS []) 27 [.agg [V.int a0.Kind, V.str a0.Text, V.int a0.At], .agg [V.int a1.Kind, V.str a1.Text, V.int a1.At]] [] (V.bool r) [] := by
  rw [m_laws_eqToken] at h
  refine AC.enter Tryd.func27 rfl ?_
  refine CodeOk.cutR (tl 20 [(2, .loc 100 0), (3, .loc 101 0)]) [(101, .cells 45 [V.int a1.Kind, V.str a1.Text, V.int a1.At]), (100, .cells 45 [V.int a0.Kind, V.str a0.Text, V.int a0.At])] mix (by
      refine W.run D_ok 3 100 (by kernel_rfl) ?_
      exact W.fin (by decide) (by kernel_rfl) (Weak.sel [(101, 101), (100, 100)] [2, 3] (by kernel_rfl) (by kernel_rfl) (by kernel_rfl))
      ) ?_
  refine CodeOk.seq' ?_
  refine CodeOk.cutR (tl 20 [(2, .loc 100 0), (3, .loc 101 0), (9, V.bool (a0.Kind != a1.Kind))]) [(101, .cells 45 [V.int a1.Kind, V.str a1.Text, V.int a1.At]), (100, .cells 45 [V.int a0.Kind, V.str a0.Text, V.int a0.At])] mix (by
      refine W.run D_ok 5 102 (by kernel_rfl) ?_
      exact W.fin (by decide) (by kernel_rfl) (Weak.sel [(101, 101), (100, 100)] [2, 3, 9] (by kernel_rfl) (by kernel_rfl) (by kernel_rfl))
      ) ?_
  rcases cond_some h with ⟨hc2, h⟩ | ⟨hc2, h⟩
  · refine CodeOk.ifT hc2 (by kernel_rfl) ?_
    refine CodeOk.cutR (tl 20 [(4, V.bool false)]) [] mix (by
        refine W.run D_ok 1 102 (by kernel_rfl) ?_
        exact W.fin (by decide) (by kernel_rfl) (Weak.sel [] [4] (by kernel_rfl) (by kernel_rfl) (by kernel_rfl))
        ) ?_
    refine CodeOk.ret ?_
    have h := Option.some.inj h
    subst h
    exact Ends.gen [] (.inr rfl) (RetV.one rfl (OneR.tmp (t := 4) (r := V.bool false) (by kernel_rfl))) (by kernel_rfl) (by kernel_rfl) (by kernel_rfl)
  · refine CodeOk.ifF hc2 (by kernel_rfl) ?_
    refine CodeOk.skip ?_
    refine CodeOk.weak (st' := ⟨tl 20 [(2, .loc 100 0), (3, .loc 101 0), (9, V.bool (a0.Kind != a1.Kind))], [(101, .cells 45 [V.int a1.Kind, V.str a1.Text, V.int a1.At]), (100, .cells 45 [V.int a0.Kind, V.str a0.Text, V.int a0.At])]⟩) (Weak.refl _) ?_
    refine CodeOk.seq' ?_
    refine CodeOk.cutR (tl 20 [(2, .loc 100 0), (3, .loc 101 0), (14, V.bool (!(a0.Text == a1.Text)))]) [(101, .cells 45 [V.int a1.Kind, V.str a1.Text, V.int a1.At]), (100, .cells 45 [V.int a0.Kind, V.str a0.Text, V.int a0.At])] mix (by
        refine W.run D_ok 5 102 (by kernel_rfl) ?_
        exact W.fin (by decide) (by kernel_rfl) (Weak.sel [(101, 101), (100, 100)] [2, 3, 14] (by kernel_rfl) (by kernel_rfl) (by kernel_rfl))
        ) ?_
    rcases cond_some h with ⟨hc4, h⟩ | ⟨hc4, h⟩
    · refine CodeOk.ifT hc4 (by kernel_rfl) ?_
      refine CodeOk.cutR (tl 20 [(4, V.bool false)]) [] mix (by
          refine W.run D_ok 1 102 (by kernel_rfl) ?_
          exact W.fin (by decide) (by kernel_rfl) (Weak.sel [] [4] (by kernel_rfl) (by kernel_rfl) (by kernel_rfl))
          ) ?_
      refine CodeOk.ret ?_
      have h := Option.some.inj h
      subst h
      exact Ends.gen [] (.inr rfl) (RetV.one rfl (OneR.tmp (t := 4) (r := V.bool false) (by kernel_rfl))) (by kernel_rfl) (by kernel_rfl) (by kernel_rfl)
    · refine CodeOk.ifF hc4 (by kernel_rfl) ?_
      refine CodeOk.skip ?_
      refine CodeOk.weak (st' := ⟨tl 20 [(2, .loc 100 0), (3, .loc 101 0), (14, V.bool (!(a0.Text == a1.Text)))], [(101, .cells 45 [V.int a1.Kind, V.str a1.Text, V.int a1.At]), (100, .cells 45 [V.int a0.Kind, V.str a0.Text, V.int a0.At])]⟩) (Weak.refl _) ?_
      refine CodeOk.seq' ?_
      refine CodeOk.cutR (tl 20 [(19, V.bool (a0.At != a1.At))]) [] mix (by
          refine W.run D_ok 5 102 (by kernel_rfl) ?_
          exact W.fin (by decide) (by kernel_rfl) (Weak.sel [] [19] (by kernel_rfl) (by kernel_rfl) (by kernel_rfl))
          ) ?_
      rcases cond_some h with ⟨hc6, h⟩ | ⟨hc6, h⟩
      · refine CodeOk.ifT hc6 (by kernel_rfl) ?_
        refine CodeOk.cutR (tl 20 [(4, V.bool false)]) [] mix (by
            refine W.run D_ok 1 102 (by kernel_rfl) ?_
            exact W.fin (by decide) (by kernel_rfl) (Weak.sel [] [4] (by kernel_rfl) (by kernel_rfl) (by kernel_rfl))
            ) ?_
        refine CodeOk.ret ?_
        have h := Option.some.inj h
        subst h
        exact Ends.gen [] (.inr rfl) (RetV.one rfl (OneR.tmp (t := 4) (r := V.bool false) (by kernel_rfl))) (by kernel_rfl) (by kernel_rfl) (by kernel_rfl)
      · refine CodeOk.ifF hc6 (by kernel_rfl) ?_
        refine CodeOk.skip ?_
        refine CodeOk.weak (st' := ⟨tl 20 [(19, V.bool (a0.At != a1.At))], []⟩) (Weak.refl _) ?_
        refine CodeOk.cutR (tl 20 [(4, V.bool true)]) [] mix (by
            refine W.run D_ok 1 102 (by kernel_rfl) ?_
            exact W.fin (by decide) (by kernel_rfl) (Weak.sel [] [4] (by kernel_rfl) (by kernel_rfl) (by kernel_rfl))
            ) ?_
        refine CodeOk.ret ?_
        have h := Option.some.inj h
        subst h
        exact Ends.gen [] (.inr rfl) (RetV.one rfl (OneR.tmp (t := 4) (r := V.bool true) (by kernel_rfl))) (by kernel_rfl) (by kernel_rfl) (by kernel_rfl)

theorem m_laws_eqTokenS_ok (N : Nat) (a0 : List SToken) (a1 : List SToken) {r : Bool} (h : m_laws_eqTokenS N a0 a1 = some r) :
    AC Tryd.prog (GS []) 11 [.sl false false (a0.map encSToken), .sl false false (a1.map encSToken)] [] (V.bool r) [] := by
  rw [m_laws_eqTokenS] at h
  refine AC.enter Tryd.func11 rfl ?_
  refine CodeOk.cutR (tl 27 [(0, .sl false false (a0.map encSToken)), (1, .sl false false (a1.map encSToken))]) [] mix (by
      refine W.run D_ok 1 100 (by kernel_rfl) ?_
      exact W.fin (by decide) (by kernel_rfl) (Weak.sel [] [0, 1] (by kernel_rfl) (by kernel_rfl) (by kernel_rfl))
      ) ?_
  refine CodeOk.seq' ?_
  refine CodeOk.cutR (tl 27 [(0, .sl false false (a0.map encSToken)), (1, .sl false false (a1.map encSToken)), (10, V.bool ((a0.length : Int) != (a1.length : Int)))]) [] mix (by
      refine W.run D_ok 1 100 (by kernel_rfl) ?_
      refine W.len D_ok encSToken a0 [] (by kernel_rfl) (by kernel_rfl) ?_
      refine W.run D_ok 1 100 (by kernel_rfl) ?_
      refine W.len D_ok encSToken a1 [] (by kernel_rfl) (by kernel_rfl) ?_
      refine W.run D_ok 1 100 (by kernel_rfl) ?_
      exact W.fin (by decide) (by kernel_rfl) (Weak.sel [] [0, 1, 10] (by kernel_rfl) (by kernel_rfl) (by kernel_rfl))
      ) ?_
  rcases cond_some h with ⟨hc2, h⟩ | ⟨hc2, h⟩
  · refine CodeOk.ifT hc2 (by kernel_rfl) ?_
    refine CodeOk.cutR (tl 27 [(4, V.bool false)]) [] mix (by
        refine W.run D_ok 1 100 (by kernel_rfl) ?_
        exact W.fin (by decide) (by kernel_rfl) (Weak.sel [] [4] (by kernel_rfl) (by kernel_rfl) (by kernel_rfl))
        ) ?_
    refine CodeOk.ret ?_
    have h := Option.some.inj h
    subst h
    exact Ends.gen [] (.inr rfl) (RetV.one rfl (OneR.tmp (t := 4) (r := V.bool false) (by kernel_rfl))) (by kernel_rfl) (by kernel_rfl) (by kernel_rfl)
  · refine CodeOk.ifF hc2 (by kernel_rfl) ?_
    refine CodeOk.skip ?_
    refine CodeOk.weak (st' := ⟨tl 27 [(0, .sl false false (a0.map encSToken)), (1, .sl false false (a1.map encSToken)), (10, V.bool ((a0.length : Int) != (a1.length : Int)))], []⟩) (Weak.refl _) ?_
    refine CodeOk.seq' ?_
    refine CodeOk.cutR (tl 27 [(0, .sl false false (a0.map encSToken)), (1, .sl false false (a1.map encSToken)), (5, V.int 0)]) [] mix (by
        refine W.run D_ok 1 100 (by kernel_rfl) ?_
        exact W.fin (by decide) (by kernel_rfl) (Weak.sel [] [0, 1, 5] (by kernel_rfl) (by kernel_rfl) (by kernel_rfl))
        ) ?_
    refine CodeOk.block' ?_
    refine CodeOk.loopJ (fun (⟨a0, a1, y51⟩ : ((List SToken) × (List SToken) × Int)) => ⟨tl 27 [(0, .sl false false (a0.map encSToken)), (1, .sl false false (a1.map encSToken)), (5, V.int y51)], []⟩) (fun n i => m_laws_eqTokenS_l1 N n i = some r) (n0 := N) (i0 := (a0, a1, 0)) (Weak.sel [] [0, 1, 5] (by kernel_rfl) (by kernel_rfl) (by kernel_rfl)) h (fun i h => by simp [m_laws_eqTokenS_l1] at h) ?_
    rintro n1 ⟨a0, a1, y51⟩ h85 ih86
    rw [m_laws_eqTokenS_l1] at h85
    refine CodeOk.seq' ?_
    refine CodeOk.cutR (tl 27 [(0, .sl false false (a0.map encSToken)), (1, .sl false false (a1.map encSToken)), (5, V.int y51), (14, V.bool (decide (y51 < (a0.length : Int))))]) [] mix (by
        refine W.run D_ok 2 160 (by kernel_rfl) ?_
        refine W.len D_ok encSToken a0 [] (by kernel_rfl) (by kernel_rfl) ?_
        refine W.run D_ok 1 160 (by kernel_rfl) ?_
        exact W.fin (by decide) (by kernel_rfl) (Weak.sel [] [0, 1, 5, 14] (by kernel_rfl) (by kernel_rfl) (by kernel_rfl))
        ) ?_
    rcases cond_some h85 with ⟨hc88, h85⟩ | ⟨hc88, h85⟩
    · refine CodeOk.ifT hc88 (by kernel_rfl) ?_
      refine CodeOk.skip ?_
      refine CodeOk.weak (st' := ⟨tl 27 [(0, .sl false false (a0.map encSToken)), (1, .sl false false (a1.map encSToken)), (5, V.int y51), (14, V.bool (decide (y51 < (a0.length : Int))))], []⟩) (Weak.refl _) ?_
      refine CodeOk.seq' ?_
      refine CodeOk.block' ?_
      obtain ⟨e74, hx99, h85⟩ := bind_some h85
      obtain ⟨e75, hx100, h85⟩ := bind_some h85
      obtain ⟨r76, hx101, h85⟩ := bind_some h85
      refine CodeOk.cutR (tl 27 [(0, .sl false false (a0.map encSToken)), (1, .sl false false (a1.map encSToken)), (5, V.int y51), (26, V.bool (!r76))]) [] mix (by
          refine W.run D_ok 2 160 (by kernel_rfl) ?_
          refine W.ixD D_ok encSToken hx99 3 (by kernel_rfl) (by kernel_rfl) ?_
          refine W.run D_ok 3 160 (by kernel_rfl) ?_
          refine W.ixD D_ok encSToken hx100 3 (by kernel_rfl) (by kernel_rfl) ?_
          refine W.run D_ok 1 160 (by kernel_rfl) ?_
          refine W.call0 (m_laws_eqToken_ok e74 e75 hx101) cok27 rfl (by kernel_rfl) ?_
          refine W.run D_ok 1 160 (by kernel_rfl) ?_
          exact W.fin (by decide) (by kernel_rfl) (Weak.sel [] [0, 1, 5, 26] (by kernel_rfl) (by kernel_rfl) (by kernel_rfl))
          ) ?_
      rcases cond_some h85 with ⟨hc102, h85⟩ | ⟨hc102, h85⟩
      · refine CodeOk.ifT hc102 (by kernel_rfl) ?_
        refine CodeOk.cutR (tl 27 [(4, V.bool false)]) [] mix (by
            refine W.run D_ok 1 160 (by kernel_rfl) ?_
            exact W.fin (by decide) (by kernel_rfl) (Weak.sel [] [4] (by kernel_rfl) (by kernel_rfl) (by kernel_rfl))
            ) ?_
        refine CodeOk.ret ?_
        have h85 := Option.some.inj h85
        subst h85
        exact Ends.gen [] (.inr rfl) (RetV.one rfl (OneR.tmp (t := 4) (r := V.bool false) (by kernel_rfl))) (by kernel_rfl) (by kernel_rfl) (by kernel_rfl)
      · refine CodeOk.ifF hc102 (by kernel_rfl) ?_
        refine CodeOk.skip ?_
        refine CodeOk.weak (st' := ⟨tl 27 [(0, .sl false false (a0.map encSToken)), (1, .sl false false (a1.map encSToken)), (5, V.int y51), (26, V.bool (!r76))], []⟩) (Weak.refl _) ?_
        refine CodeOk.endR (tl 27 [(0, .sl false false (a0.map encSToken)), (1, .sl false false (a1.map encSToken)), (5, V.int (IntKind.wrap .i64 (y51 + 1)))]) [] mix (by
            refine W.run D_ok 3 160 (by kernel_rfl) ?_
            exact W.fin (by decide) (by kernel_rfl) (Weak.sel [] [0, 1, 5] (by kernel_rfl) (by kernel_rfl) (by kernel_rfl))
            ) (fun st hw => ?_)
        exact ih86 (a0, a1, (IntKind.wrap .i64 (y51 + 1))) h85 _ (hw.trans (Weak.sel [] [0, 1, 5] (by kernel_rfl) (by kernel_rfl) (by kernel_rfl)))
    · refine CodeOk.ifF hc88 (by kernel_rfl) ?_
      refine CodeOk.exit ?_
      refine CodeOk.weak (st' := ⟨tl 27 [(0, .sl false false (a0.map encSToken)), (1, .sl false false (a1.map encSToken)), (5, V.int y51), (14, V.bool (decide (y51 < (a0.length : Int))))], []⟩) (Weak.refl _) ?_
      refine CodeOk.cutR (tl 27 [(4, V.bool true)]) [] mix (by
          refine W.run D_ok 1 160 (by kernel_rfl) ?_
          exact W.fin (by decide) (by kernel_rfl) (Weak.sel [] [4] (by kernel_rfl) (by kernel_rfl) (by kernel_rfl))
          ) ?_
      refine CodeOk.ret ?_
      have h85 := Option.some.inj h85
      subst h85
      exact Ends.gen [] (.inr rfl) (RetV.one rfl (OneR.tmp (t := 4) (r := V.bool true) (by kernel_rfl))) (by kernel_rfl) (by kernel_rfl) (by kernel_rfl)

theorem m_laws_markText_ok (N : Nat) (a0 : Int) {r : (List UInt8)} (h : m_laws_markText N a0 = some r) :
    AC Tryd.prog (GS []) 28 [V.int a0] [] (V.str r) [] := by
  rw [m_laws_markText] at h
  refine AC.enter Tryd.func28 rfl ?_
  refine CodeOk.cutR (tl 20 [(0, V.int a0)]) [] mix (by
      refine W.run D_ok 1 100 (by kernel_rfl) ?_
      exact W.fin (by decide) (by kernel_rfl) (Weak.sel [] [0] (by kernel_rfl) (by kernel_rfl) (by kernel_rfl))
      ) ?_
  refine CodeOk.seq' ?_
  refine CodeOk.cutR (tl 20 [(0, V.int a0), (5, V.bool (decide (a0 ≤ 0)))]) [] mix (by
      refine W.run D_ok 2 100 (by kernel_rfl) ?_
      exact W.fin (by decide) (by kernel_rfl) (Weak.sel [] [0, 5] (by kernel_rfl) (by kernel_rfl) (by kernel_rfl))
      ) ?_
  rcases cond_some h with ⟨hc2, h⟩ | ⟨hc2, h⟩
  · refine CodeOk.ifT hc2 (by kernel_rfl) ?_
    refine CodeOk.cutR (tl 20 [(2, V.str [109, 48])]) [] mix (by
        refine W.run D_ok 1 100 (by kernel_rfl) ?_
        exact W.fin (by decide) (by kernel_rfl) (Weak.sel [] [2] (by kernel_rfl) (by kernel_rfl) (by kernel_rfl))
        ) ?_
    refine CodeOk.ret ?_
    have h := Option.some.inj h
    subst h
    exact Ends.gen [] (.inr rfl) (RetV.one rfl (OneR.tmp (t := 2) (r := V.str [109, 48]) (by kernel_rfl))) (by kernel_rfl) (by kernel_rfl) (by kernel_rfl)
  · refine CodeOk.ifF hc2 (by kernel_rfl) ?_
    refine CodeOk.skip ?_
    refine CodeOk.weak (st' := ⟨tl 20 [(0, V.int a0), (5, V.bool (decide (a0 ≤ 0)))], []⟩) (Weak.refl _) ?_
    refine CodeOk.cutR (tl 20 [(0, V.int a0), (3, V.str [])]) [] mix (by
        refine W.run D_ok 1 100 (by kernel_rfl) ?_
        exact W.fin (by decide) (by kernel_rfl) (Weak.sel [] [0, 3] (by kernel_rfl) (by kernel_rfl) (by kernel_rfl))
        ) ?_
    refine CodeOk.seq' ?_
    refine CodeOk.block' ?_
    refine CodeOk.loopJ (fun (⟨y13, y14⟩ : (Int × (List UInt8))) => ⟨tl 20 [(0, V.int y13), (3, V.str y14)], []⟩) (fun n i => m_laws_markText_l1 N n i = some r) (n0 := N) (i0 := (a0, [])) (Weak.sel [] [0, 3] (by kernel_rfl) (by kernel_rfl) (by kernel_rfl)) h (fun i h => by simp [m_laws_markText_l1] at h) ?_
    rintro n1 ⟨y13, y14⟩ h25 ih26
    rw [m_laws_markText_l1] at h25
    refine CodeOk.seq' ?_
    refine CodeOk.cutR (tl 20 [(0, V.int y13), (3, V.str y14), (7, V.bool (decide (y13 > 0)))]) [] mix (by
        refine W.run D_ok 2 162 (by kernel_rfl) ?_
        exact W.fin (by decide) (by kernel_rfl) (Weak.sel [] [0, 3, 7] (by kernel_rfl) (by kernel_rfl) (by kernel_rfl))
        ) ?_
    rcases cond_some h25 with ⟨hc28, h25⟩ | ⟨hc28, h25⟩
    · refine CodeOk.ifT hc28 (by kernel_rfl) ?_
      refine CodeOk.skip ?_
      refine CodeOk.weak (st' := ⟨tl 20 [(0, V.int y13), (3, V.str y14), (7, V.bool (decide (y13 > 0)))], []⟩) (Weak.refl _) ?_
      refine CodeOk.block' ?_
      obtain ⟨s20, hx30, h25⟩ := bind_some h25
      refine CodeOk.cutR (tl 20 [(0, V.int y13), (3, V.str s20)]) [] mix (by
          refine W.run D_ok 4 162 (by kernel_rfl) ?_
          refine W.run D_ok 1 162 (by kernel_rfl) ?_
          refine W.vecEq 162 (nn := true) (e := 5) (k := 1) (rows := [[.c (.int .u8 (IntKind.wrap .u8 (IntKind.wrap .i64 (48 + (Int.tmod y13 10)))))]]) (rows' := [(bytI (IntKind.wrap .i64 (48 + (Int.tmod y13 10))))].map byteRow) (by kernel_rfl) (by first | (simp only [List.map_cons, List.map_nil, ← bytI_row]; done) | (simp only [List.map_cons, List.map_nil, ← bytI_row]; rfl)) ?_
          refine W.strO D_ok ([(bytI (IntKind.wrap .i64 (48 + (Int.tmod y13 10))))] : List UInt8) (a := 162) (by kernel_rfl) ?_
          refine W.run D_ok 1 163 (by kernel_rfl) ?_
          refine W.cat hx30 (by kernel_rfl) ?_
          refine W.run D_ok 1 163 (by kernel_rfl) ?_
          exact W.fin (by decide) (by kernel_rfl) (Weak.sel [] [0, 3] (by kernel_rfl) (by kernel_rfl) (by kernel_rfl))
          ) ?_
      refine CodeOk.endR (tl 20 [(0, V.int (IntKind.wrap .i64 (Int.tdiv y13 10))), (3, V.str s20)]) [] mix (by
          refine W.run D_ok 3 163 (by kernel_rfl) ?_
          exact W.fin (by decide) (by kernel_rfl) (Weak.sel [] [0, 3] (by kernel_rfl) (by kernel_rfl) (by kernel_rfl))
          ) (fun st hw => ?_)
      exact ih26 ((IntKind.wrap .i64 (Int.tdiv y13 10)), s20) h25 _ (hw.trans (Weak.sel [] [0, 3] (by kernel_rfl) (by kernel_rfl) (by kernel_rfl)))
    · refine CodeOk.ifF hc28 (by kernel_rfl) ?_
      refine CodeOk.exit ?_
      refine CodeOk.weak (st' := ⟨tl 20 [(0, V.int y13), (3, V.str y14), (7, V.bool (decide (y13 > 0)))], []⟩) (Weak.refl _) ?_
      obtain ⟨s22, hx32, h25⟩ := bind_some h25
      refine CodeOk.cutR (tl 20 [(2, V.str s22)]) [] mix (by
          refine W.run D_ok 1 162 (by kernel_rfl) ?_
          refine W.cat hx32 (by kernel_rfl) ?_
          refine W.run D_ok 1 162 (by kernel_rfl) ?_
          exact W.fin (by decide) (by kernel_rfl) (Weak.sel [] [2] (by kernel_rfl) (by kernel_rfl) (by kernel_rfl))
          ) ?_
      refine CodeOk.ret ?_
      have h25 := Option.some.inj h25
      subst h25
      exact Ends.gen [] (.inr rfl) (RetV.one rfl (OneR.tmp (t := 2) (r := V.str s22) (by kernel_rfl))) (by kernel_rfl) (by kernel_rfl) (by kernel_rfl)

theorem m_laws_markTokenS_ok (e0 : TypeId) (N : Nat) (a1 : Int) (p0 : List SToken) {r : (Int × (List SToken))} (h : m_laws_markTokenS N a1 p0 = some r) :
    AC Tryd.prog (GS []) 12 [.own 0, V.int a1] [(0, .vec false e0 3 (p0.map encSToken))] (V.int r.1) [(0, .vec false e0 3 (r.2.map encSToken))] := by
  rw [m_laws_markTokenS] at h
  refine AC.enter Tryd.func12 rfl ?_
  refine CodeOk.cutR (tl 35 [(0, .own 0), (1, V.int a1)]) [(0, .vec false e0 3 (p0.map encSToken))] mix (by
      refine W.run D_ok 1 100 (by kernel_rfl) ?_
      exact W.fin (by decide) (by kernel_rfl) (Weak.sel [(0, 0)] [0, 1] (by kernel_rfl) (by kernel_rfl) (by kernel_rfl))
      ) ?_
  refine CodeOk.seq' ?_
  refine CodeOk.cutR (tl 35 [(0, .own 0), (1, V.int a1), (5, V.int 0)]) [(0, .vec false e0 3 (p0.map encSToken))] mix (by
      refine W.run D_ok 1 100 (by kernel_rfl) ?_
      exact W.fin (by decide) (by kernel_rfl) (Weak.sel [(0, 0)] [0, 1, 5] (by kernel_rfl) (by kernel_rfl) (by kernel_rfl))
      ) ?_
  refine CodeOk.block' ?_
  refine CodeOk.loopJ (fun (⟨y119, y120, y121⟩ : (Int × Int × (List SToken))) => ⟨tl 35 [(0, .own 0), (1, V.int y119), (5, V.int y120)], [(0, .vec false e0 3 (y121.map encSToken))]⟩) (fun n i => m_laws_markTokenS_l1 N n i = some r) (n0 := N) (i0 := (a1, 0, p0)) (Weak.sel [(0, 0)] [0, 1, 5] (by kernel_rfl) (by kernel_rfl) (by kernel_rfl)) h (fun i h => by simp [m_laws_markTokenS_l1] at h) ?_
  rintro n1 ⟨y119, y120, y121⟩ h153 ih154
  rw [m_laws_markTokenS_l1] at h153
  refine CodeOk.seq' ?_
  refine CodeOk.cutR (tl 35 [(0, .own 0), (1, V.int y119), (5, V.int y120), (9, V.bool (decide (y120 < (y121.length : Int))))]) [(0, .vec false e0 3 (y121.map encSToken))] mix (by
      refine W.run D_ok 2 160 (by kernel_rfl) ?_
      refine W.len D_ok encSToken y121 [0] (by kernel_rfl) (by kernel_rfl) ?_
      refine W.run D_ok 1 160 (by kernel_rfl) ?_
      exact W.fin (by decide) (by kernel_rfl) (Weak.sel [(0, 0)] [0, 1, 5, 9] (by kernel_rfl) (by kernel_rfl) (by kernel_rfl))
      ) ?_
  rcases cond_some h153 with ⟨hc156, h153⟩ | ⟨hc156, h153⟩
  · refine CodeOk.ifT hc156 (by kernel_rfl) ?_
    refine CodeOk.skip ?_
    refine CodeOk.weak (st' := ⟨tl 35 [(0, .own 0), (1, V.int y119), (5, V.int y120), (9, V.bool (decide (y120 < (y121.length : Int))))], [(0, .vec false e0 3 (y121.map encSToken))]⟩) (Weak.refl _) ?_
    refine CodeOk.seq' ?_
    refine CodeOk.block' ?_
    obtain ⟨e169, hx173, h153⟩ := bind_some h153
    obtain ⟨x170, hu174, h153⟩ := bind_some h153
    refine CodeOk.cutR (tl 35 [(0, .own 0), (1, V.int y119), (5, V.int y120)]) [(0, .vec false e0 3 (x170.map encSToken))] mix (by
        refine W.run D_ok 3 160 (by kernel_rfl) ?_
        refine W.ixO D_ok encSToken hx173 0 3 (by kernel_rfl) ?_
        refine W.run D_ok 1 160 (by kernel_rfl) ?_
        refine W.stO D_ok encSToken (x' := (⟨y119, e169.Text, e169.At⟩ : SToken)) hx173 hu174 (j := 0) (nn := false) (ety := e0) (sz := 3) (b := 0) (ys := [V.int y119]) (C := []) (R := []) (by kernel_rfl) (by kernel_rfl) ?_
        exact W.fin (by decide) (by kernel_rfl) (Weak.sel [(0, 0)] [0, 1, 5] (by kernel_rfl) (by kernel_rfl) (by kernel_rfl))
        ) ?_
    refine CodeOk.cutR (tl 35 [(0, .own 0), (1, V.int (IntKind.wrap .i64 (y119 + 1))), (5, V.int y120)]) [(0, .vec false e0 3 (x170.map encSToken))] mix (by
        refine W.run D_ok 3 160 (by kernel_rfl) ?_
        exact W.fin (by decide) (by kernel_rfl) (Weak.sel [(0, 0)] [0, 1, 5] (by kernel_rfl) (by kernel_rfl) (by kernel_rfl))
        ) ?_
    obtain ⟨r174, hx178, h153⟩ := bind_some h153
    obtain ⟨e175, hx179, h153⟩ := bind_some h153
    obtain ⟨x176, hu180, h153⟩ := bind_some h153
    refine CodeOk.cutR (tl 35 [(0, .own 0), (1, V.int (IntKind.wrap .i64 (y119 + 1))), (5, V.int y120)]) [(0, .vec false e0 3 (x176.map encSToken))] mix (by
        refine W.run D_ok 3 160 (by kernel_rfl) ?_
        refine W.call0 (m_laws_markText_ok N (IntKind.wrap .i64 (y119 + 1)) hx178) cok28 rfl (by kernel_rfl) ?_
        refine W.ixO D_ok encSToken hx179 0 3 (by kernel_rfl) ?_
        refine W.run D_ok 1 160 (by kernel_rfl) ?_
        refine W.stO D_ok encSToken (x' := (⟨e175.Kind, r174, e175.At⟩ : SToken)) hx179 hu180 (j := 0) (nn := false) (ety := e0) (sz := 3) (b := 1) (ys := [V.str r174]) (C := []) (R := []) (by kernel_rfl) (by kernel_rfl) ?_
        exact W.fin (by decide) (by kernel_rfl) (Weak.sel [(0, 0)] [0, 1, 5] (by kernel_rfl) (by kernel_rfl) (by kernel_rfl))
        ) ?_
    refine CodeOk.cutR (tl 35 [(0, .own 0), (1, V.int (IntKind.wrap .i64 ((IntKind.wrap .i64 (y119 + 1)) + 1))), (5, V.int y120)]) [(0, .vec false e0 3 (x176.map encSToken))] mix (by
        refine W.run D_ok 3 160 (by kernel_rfl) ?_
        exact W.fin (by decide) (by kernel_rfl) (Weak.sel [(0, 0)] [0, 1, 5] (by kernel_rfl) (by kernel_rfl) (by kernel_rfl))
        ) ?_
    obtain ⟨e179, hx183, h153⟩ := bind_some h153
    obtain ⟨x180, hu184, h153⟩ := bind_some h153
    refine CodeOk.cutR (tl 35 [(0, .own 0), (1, V.int (IntKind.wrap .i64 ((IntKind.wrap .i64 (y119 + 1)) + 1))), (5, V.int y120)]) [(0, .vec false e0 3 (x180.map encSToken))] mix (by
        refine W.run D_ok 3 160 (by kernel_rfl) ?_
        refine W.ixO D_ok encSToken hx183 0 3 (by kernel_rfl) ?_
        refine W.run D_ok 1 160 (by kernel_rfl) ?_
        refine W.stO D_ok encSToken (x' := (⟨e179.Kind, e179.Text, (IntKind.wrap .i64 ((IntKind.wrap .i64 (y119 + 1)) + 1))⟩ : SToken)) hx183 hu184 (j := 0) (nn := false) (ety := e0) (sz := 3) (b := 2) (ys := [V.int (IntKind.wrap .i64 ((IntKind.wrap .i64 (y119 + 1)) + 1))]) (C := []) (R := []) (by kernel_rfl) (by kernel_rfl) ?_
        exact W.fin (by decide) (by kernel_rfl) (Weak.sel [(0, 0)] [0, 1, 5] (by kernel_rfl) (by kernel_rfl) (by kernel_rfl))
        ) ?_
    refine CodeOk.endR (tl 35 [(0, .own 0), (1, V.int (IntKind.wrap .i64 ((IntKind.wrap .i64 ((IntKind.wrap .i64 (y119 + 1)) + 1)) + 1))), (5, V.int y120)]) [(0, .vec false e0 3 (x180.map encSToken))] mix (by
        refine W.run D_ok 3 160 (by kernel_rfl) ?_
        exact W.fin (by decide) (by kernel_rfl) (Weak.sel [(0, 0)] [0, 1, 5] (by kernel_rfl) (by kernel_rfl) (by kernel_rfl))
        ) (fun st hw => ?_)
    refine CodeOk.weak (st' := ⟨tl 35 [(0, .own 0), (1, V.int (IntKind.wrap .i64 ((IntKind.wrap .i64 ((IntKind.wrap .i64 (y119 + 1)) + 1)) + 1))), (5, V.int y120)], [(0, .vec false e0 3 (x180.map encSToken))]⟩) hw ?_
    refine CodeOk.endR (tl 35 [(0, .own 0), (1, V.int (IntKind.wrap .i64 ((IntKind.wrap .i64 ((IntKind.wrap .i64 (y119 + 1)) + 1)) + 1))), (5, V.int (IntKind.wrap .i64 (y120 + 1)))]) [(0, .vec false e0 3 (x180.map encSToken))] mix (by
        refine W.run D_ok 3 160 (by kernel_rfl) ?_
        exact W.fin (by decide) (by kernel_rfl) (Weak.sel [(0, 0)] [0, 1, 5] (by kernel_rfl) (by kernel_rfl) (by kernel_rfl))
        ) (fun st hw => ?_)
    exact ih154 ((IntKind.wrap .i64 ((IntKind.wrap .i64 ((IntKind.wrap .i64 (y119 + 1)) + 1)) + 1)), (IntKind.wrap .i64 (y120 + 1)), x180) h153 _ (hw.trans (Weak.sel [(0, 0)] [0, 1, 5] (by kernel_rfl) (by kernel_rfl) (by kernel_rfl)))
  · refine CodeOk.ifF hc156 (by kernel_rfl) ?_
    refine CodeOk.exit ?_
    refine CodeOk.weak (st' := ⟨tl 35 [(0, .own 0), (1, V.int y119), (5, V.int y120), (9, V.bool (decide (y120 < (y121.length : Int))))], [(0, .vec false e0 3 (y121.map encSToken))]⟩) (Weak.refl _) ?_
    refine CodeOk.cutR (tl 35 [(4, V.int y119)]) [(0, .vec false e0 3 (y121.map encSToken))] mix (by
        refine W.run D_ok 2 160 (by kernel_rfl) ?_
        exact W.fin (by decide) (by kernel_rfl) (Weak.sel [(0, 0)] [4] (by kernel_rfl) (by kernel_rfl) (by kernel_rfl))
        ) ?_
    refine CodeOk.ret ?_
    have h153 := Option.some.inj h153
    subst h153
    exact Ends.gen [(0, 0)] (.inr rfl) (RetV.one rfl (OneR.tmp (t := 4) (r := V.int y119) (by kernel_rfl))) (by kernel_rfl) (by kernel_rfl) (by kernel_rfl)

theorem m_laws_heldTokenS_ok (N : Nat) (a0 : List SToken) (a1 : Int) {r : Int} (h : m_laws_heldTokenS N a0 a1 = some r) :
    AC Tryd.prog (GS []) 13 [.sl false false (a0.map encSToken), V.int a1] [] (V.int r) [] := by
  rw [m_laws_heldTokenS] at h
  refine AC.enter Tryd.func13 rfl ?_
  refine CodeOk.cutR (tl 41 [(0, .sl false false (a0.map encSToken)), (1, V.int a1)]) [] mix (by
      refine W.run D_ok 1 100 (by kernel_rfl) ?_
      exact W.fin (by decide) (by kernel_rfl) (Weak.sel [] [0, 1] (by kernel_rfl) (by kernel_rfl) (by kernel_rfl))
      ) ?_
  refine CodeOk.seq' ?_
  refine CodeOk.cutR (tl 41 [(0, .sl false false (a0.map encSToken)), (1, V.int a1), (5, V.int 0)]) [] mix (by
      refine W.run D_ok 1 100 (by kernel_rfl) ?_
      exact W.fin (by decide) (by kernel_rfl) (Weak.sel [] [0, 1, 5] (by kernel_rfl) (by kernel_rfl) (by kernel_rfl))
      ) ?_
  refine CodeOk.block' ?_
  refine CodeOk.loopJ (fun (⟨a0, y133, y134⟩ : ((List SToken) × Int × Int)) => ⟨tl 41 [(0, .sl false false (a0.map encSToken)), (1, V.int y133), (5, V.int y134)], []⟩) (fun n i => m_laws_heldTokenS_l1 N n i = some r) (n0 := N) (i0 := (a0, a1, 0)) (Weak.sel [] [0, 1, 5] (by kernel_rfl) (by kernel_rfl) (by kernel_rfl)) h (fun i h => by simp [m_laws_heldTokenS_l1] at h) ?_
  rintro n1 ⟨a0, y133, y134⟩ h233 ih234
  rw [m_laws_heldTokenS_l1] at h233
  refine CodeOk.seq' ?_
  refine CodeOk.cutR (tl 41 [(0, .sl false false (a0.map encSToken)), (1, V.int y133), (5, V.int y134), (9, V.bool (decide (y134 < (a0.length : Int))))]) [] mix (by
      refine W.run D_ok 2 160 (by kernel_rfl) ?_
      refine W.len D_ok encSToken a0 [] (by kernel_rfl) (by kernel_rfl) ?_
      refine W.run D_ok 1 160 (by kernel_rfl) ?_
      exact W.fin (by decide) (by kernel_rfl) (Weak.sel [] [0, 1, 5, 9] (by kernel_rfl) (by kernel_rfl) (by kernel_rfl))
      ) ?_
  rcases cond_some h233 with ⟨hc236, h233⟩ | ⟨hc236, h233⟩
  · refine CodeOk.ifT hc236 (by kernel_rfl) ?_
    refine CodeOk.skip ?_
    refine CodeOk.weak (st' := ⟨tl 41 [(0, .sl false false (a0.map encSToken)), (1, V.int y133), (5, V.int y134), (9, V.bool (decide (y134 < (a0.length : Int))))], []⟩) (Weak.refl _) ?_
    refine CodeOk.seq' ?_
    refine CodeOk.block' ?_
    refine CodeOk.seq' ?_
    obtain ⟨e188, hx263, h233⟩ := bind_some h233
    refine CodeOk.cutR (tl 41 [(0, .sl false false (a0.map encSToken)), (1, V.int y133), (5, V.int y134), (18, V.bool (e188.Kind != y133))]) [] mix (by
        refine W.run D_ok 2 160 (by kernel_rfl) ?_
        refine W.ixD D_ok encSToken hx263 3 (by kernel_rfl) (by kernel_rfl) ?_
        refine W.run D_ok 4 160 (by kernel_rfl) ?_
        exact W.fin (by decide) (by kernel_rfl) (Weak.sel [] [0, 1, 5, 18] (by kernel_rfl) (by kernel_rfl) (by kernel_rfl))
        ) ?_
    rcases cond_some h233 with ⟨hc264, h233⟩ | ⟨hc264, h233⟩
    · refine CodeOk.ifT hc264 (by kernel_rfl) ?_
      refine CodeOk.cutR (tl 41 [(4, V.int (-1))]) [] mix (by
          refine W.run D_ok 1 160 (by kernel_rfl) ?_
          exact W.fin (by decide) (by kernel_rfl) (Weak.sel [] [4] (by kernel_rfl) (by kernel_rfl) (by kernel_rfl))
          ) ?_
      refine CodeOk.ret ?_
      have h233 := Option.some.inj h233
      subst h233
      exact Ends.gen [] (.inr rfl) (RetV.one rfl (OneR.tmp (t := 4) (r := V.int (-1)) (by kernel_rfl))) (by kernel_rfl) (by kernel_rfl) (by kernel_rfl)
    · refine CodeOk.ifF hc264 (by kernel_rfl) ?_
      refine CodeOk.skip ?_
      refine CodeOk.weak (st' := ⟨tl 41 [(0, .sl false false (a0.map encSToken)), (1, V.int y133), (5, V.int y134), (18, V.bool (e188.Kind != y133))], []⟩) (Weak.refl _) ?_
      refine CodeOk.cutR (tl 41 [(0, .sl false false (a0.map encSToken)), (1, V.int (IntKind.wrap .i64 (y133 + 1))), (5, V.int y134)]) [] mix (by
          refine W.run D_ok 3 160 (by kernel_rfl) ?_
          exact W.fin (by decide) (by kernel_rfl) (Weak.sel [] [0, 1, 5] (by kernel_rfl) (by kernel_rfl) (by kernel_rfl))
          ) ?_
      refine CodeOk.seq' ?_
      obtain ⟨e195, hx272, h233⟩ := bind_some h233
      obtain ⟨r196, hx273, h233⟩ := bind_some h233
      refine CodeOk.cutR (tl 41 [(0, .sl false false (a0.map encSToken)), (1, V.int (IntKind.wrap .i64 (y133 + 1))), (5, V.int y134), (28, V.bool (!(e195.Text == r196)))]) [] mix (by
          refine W.run D_ok 2 160 (by kernel_rfl) ?_
          refine W.ixD D_ok encSToken hx272 3 (by kernel_rfl) (by kernel_rfl) ?_
          refine W.run D_ok 3 160 (by kernel_rfl) ?_
          refine W.call0 (m_laws_markText_ok N (IntKind.wrap .i64 (y133 + 1)) hx273) cok28 rfl (by kernel_rfl) ?_
          refine W.run D_ok 1 160 (by kernel_rfl) ?_
          exact W.fin (by decide) (by kernel_rfl) (Weak.sel [] [0, 1, 5, 28] (by kernel_rfl) (by kernel_rfl) (by kernel_rfl))
          ) ?_
      rcases cond_some h233 with ⟨hc274, h233⟩ | ⟨hc274, h233⟩
      · refine CodeOk.ifT hc274 (by kernel_rfl) ?_
        refine CodeOk.cutR (tl 41 [(4, V.int (-1))]) [] mix (by
            refine W.run D_ok 1 160 (by kernel_rfl) ?_
            exact W.fin (by decide) (by kernel_rfl) (Weak.sel [] [4] (by kernel_rfl) (by kernel_rfl) (by kernel_rfl))
            ) ?_
        refine CodeOk.ret ?_
        have h233 := Option.some.inj h233
        subst h233
        exact Ends.gen [] (.inr rfl) (RetV.one rfl (OneR.tmp (t := 4) (r := V.int (-1)) (by kernel_rfl))) (by kernel_rfl) (by kernel_rfl) (by kernel_rfl)
      · refine CodeOk.ifF hc274 (by kernel_rfl) ?_
        refine CodeOk.skip ?_
        refine CodeOk.weak (st' := ⟨tl 41 [(0, .sl false false (a0.map encSToken)), (1, V.int (IntKind.wrap .i64 (y133 + 1))), (5, V.int y134), (28, V.bool (!(e195.Text == r196)))], []⟩) (Weak.refl _) ?_
        refine CodeOk.cutR (tl 41 [(0, .sl false false (a0.map encSToken)), (1, V.int (IntKind.wrap .i64 ((IntKind.wrap .i64 (y133 + 1)) + 1))), (5, V.int y134)]) [] mix (by
            refine W.run D_ok 3 160 (by kernel_rfl) ?_
            exact W.fin (by decide) (by kernel_rfl) (Weak.sel [] [0, 1, 5] (by kernel_rfl) (by kernel_rfl) (by kernel_rfl))
            ) ?_
        refine CodeOk.seq' ?_
        obtain ⟨e200, hx279, h233⟩ := bind_some h233
        refine CodeOk.cutR (tl 41 [(0, .sl false false (a0.map encSToken)), (1, V.int (IntKind.wrap .i64 ((IntKind.wrap .i64 (y133 + 1)) + 1))), (5, V.int y134), (37, V.bool (e200.At != (IntKind.wrap .i64 ((IntKind.wrap .i64 (y133 + 1)) + 1))))]) [] mix (by
            refine W.run D_ok 2 160 (by kernel_rfl) ?_
            refine W.ixD D_ok encSToken hx279 3 (by kernel_rfl) (by kernel_rfl) ?_
            refine W.run D_ok 4 160 (by kernel_rfl) ?_
            exact W.fin (by decide) (by kernel_rfl) (Weak.sel [] [0, 1, 5, 37] (by kernel_rfl) (by kernel_rfl) (by kernel_rfl))
            ) ?_
        rcases cond_some h233 with ⟨hc280, h233⟩ | ⟨hc280, h233⟩
        · refine CodeOk.ifT hc280 (by kernel_rfl) ?_
          refine CodeOk.cutR (tl 41 [(4, V.int (-1))]) [] mix (by
              refine W.run D_ok 1 160 (by kernel_rfl) ?_
              exact W.fin (by decide) (by kernel_rfl) (Weak.sel [] [4] (by kernel_rfl) (by kernel_rfl) (by kernel_rfl))
              ) ?_
          refine CodeOk.ret ?_
          have h233 := Option.some.inj h233
          subst h233
          exact Ends.gen [] (.inr rfl) (RetV.one rfl (OneR.tmp (t := 4) (r := V.int (-1)) (by kernel_rfl))) (by kernel_rfl) (by kernel_rfl) (by kernel_rfl)
        · refine CodeOk.ifF hc280 (by kernel_rfl) ?_
          refine CodeOk.skip ?_
          refine CodeOk.weak (st' := ⟨tl 41 [(0, .sl false false (a0.map encSToken)), (1, V.int (IntKind.wrap .i64 ((IntKind.wrap .i64 (y133 + 1)) + 1))), (5, V.int y134), (37, V.bool (e200.At != (IntKind.wrap .i64 ((IntKind.wrap .i64 (y133 + 1)) + 1))))], []⟩) (Weak.refl _) ?_
          refine CodeOk.endR (tl 41 [(0, .sl false false (a0.map encSToken)), (1, V.int (IntKind.wrap .i64 ((IntKind.wrap .i64 ((IntKind.wrap .i64 (y133 + 1)) + 1)) + 1))), (5, V.int y134)]) [] mix (by
              refine W.run D_ok 3 160 (by kernel_rfl) ?_
              exact W.fin (by decide) (by kernel_rfl) (Weak.sel [] [0, 1, 5] (by kernel_rfl) (by kernel_rfl) (by kernel_rfl))
              ) (fun st hw => ?_)
          refine CodeOk.weak (st' := ⟨tl 41 [(0, .sl false false (a0.map encSToken)), (1, V.int (IntKind.wrap .i64 ((IntKind.wrap .i64 ((IntKind.wrap .i64 (y133 + 1)) + 1)) + 1))), (5, V.int y134)], []⟩) hw ?_
          refine CodeOk.endR (tl 41 [(0, .sl false false (a0.map encSToken)), (1, V.int (IntKind.wrap .i64 ((IntKind.wrap .i64 ((IntKind.wrap .i64 (y133 + 1)) + 1)) + 1))), (5, V.int (IntKind.wrap .i64 (y134 + 1)))]) [] mix (by
              refine W.run D_ok 3 160 (by kernel_rfl) ?_
              exact W.fin (by decide) (by kernel_rfl) (Weak.sel [] [0, 1, 5] (by kernel_rfl) (by kernel_rfl) (by kernel_rfl))
              ) (fun st hw => ?_)
          exact ih234 (a0, (IntKind.wrap .i64 ((IntKind.wrap .i64 ((IntKind.wrap .i64 (y133 + 1)) + 1)) + 1)), (IntKind.wrap .i64 (y134 + 1))) h233 _ (hw.trans (Weak.sel [] [0, 1, 5] (by kernel_rfl) (by kernel_rfl) (by kernel_rfl)))
  · refine CodeOk.ifF hc236 (by kernel_rfl) ?_
    refine CodeOk.exit ?_
    refine CodeOk.weak (st' := ⟨tl 41 [(0, .sl false false (a0.map encSToken)), (1, V.int y133), (5, V.int y134), (9, V.bool (decide (y134 < (a0.length : Int))))], []⟩) (Weak.refl _) ?_
    refine CodeOk.cutR (tl 41 [(4, V.int y133)]) [] mix (by
        refine W.run D_ok 2 160 (by kernel_rfl) ?_
        exact W.fin (by decide) (by kernel_rfl) (Weak.sel [] [4] (by kernel_rfl) (by kernel_rfl) (by kernel_rfl))
        ) ?_
    refine CodeOk.ret ?_
    have h233 := Option.some.inj h233
    subst h233
    exact Ends.gen [] (.inr rfl) (RetV.one rfl (OneR.tmp (t := 4) (r := V.int y133) (by kernel_rfl))) (by kernel_rfl) (by kernel_rfl) (by kernel_rfl)

theorem m_laws_FnExactMinTokens_ok (N : Nat) (a0 : List SToken) {r : Bool} (h : m_laws_FnExactMinTokens N a0 = some r) :
    AC Tryd.prog (GS [0, 1]) 3 [.sl false false (a0.map encSToken)] [] (V.bool r) [] := by
  rw [m_laws_FnExactMinTokens] at h
  refine AC.enter Tryd.func3 rfl ?_
  refine CodeOk.cutR (tl 69 [(0, .sl false false (a0.map encSToken))]) [] mix (by
      refine W.run D_ok 1 100 (by kernel_rfl) ?_
      exact W.fin (by decide) (by kernel_rfl) (Weak.sel [] [0] (by kernel_rfl) (by kernel_rfl) (by kernel_rfl))
      ) ?_
  refine CodeOk.cutR (tl 69 [(0, .sl false false (a0.map encSToken)), (3, V.int 1048576)]) [] mix (by
      refine W.run D_ok 1 100 (by kernel_rfl) ?_
      exact W.fin (by decide) (by kernel_rfl) (Weak.sel [] [0, 3] (by kernel_rfl) (by kernel_rfl) (by kernel_rfl))
      ) ?_
  obtain ⟨r2, hx2, h⟩ := bind_some h
  refine CodeOk.cutR (tl 69 [(0, .sl false false (a0.map encSToken)), (3, V.int r2)]) [] mix (by
      refine W.run D_ok 2 100 (by kernel_rfl) ?_
      refine W.call0 (AC.gs (m_laws_szTokenS_ok N a0 1048576 hx2) (by decide)) cok7 rfl (by kernel_rfl) ?_
      refine W.run D_ok 1 100 (by kernel_rfl) ?_
      exact W.fin (by decide) (by kernel_rfl) (Weak.sel [] [0, 3] (by kernel_rfl) (by kernel_rfl) (by kernel_rfl))
      ) ?_
  refine CodeOk.seq' ?_
  refine CodeOk.cutR (tl 69 [(0, .sl false false (a0.map encSToken)), (15, V.bool (decide (r2 < 0)))]) [] mix (by
      refine W.run D_ok 2 100 (by kernel_rfl) ?_
      exact W.fin (by decide) (by kernel_rfl) (Weak.sel [] [0, 15] (by kernel_rfl) (by kernel_rfl) (by kernel_rfl))
      ) ?_
  rcases cond_some h with ⟨hc4, h⟩ | ⟨hc4, h⟩
  · refine CodeOk.ifT hc4 (by kernel_rfl) ?_
    refine CodeOk.cutR (tl 69 [(2, V.bool true)]) [] mix (by
        refine W.run D_ok 1 100 (by kernel_rfl) ?_
        exact W.fin (by decide) (by kernel_rfl) (Weak.sel [] [2] (by kernel_rfl) (by kernel_rfl) (by kernel_rfl))
        ) ?_
    refine CodeOk.ret ?_
    have h := Option.some.inj h
    subst h
    exact Ends.gen [] (.inr rfl) (RetV.one rfl (OneR.tmp (t := 2) (r := V.bool true) (by kernel_rfl))) (by kernel_rfl) (by kernel_rfl) (by kernel_rfl)
  · refine CodeOk.ifF hc4 (by kernel_rfl) ?_
    refine CodeOk.skip ?_
    refine CodeOk.weak (st' := ⟨tl 69 [(0, .sl false false (a0.map encSToken)), (15, V.bool (decide (r2 < 0)))], []⟩) (Weak.refl _) ?_
    obtain ⟨r5, hx7, h⟩ := bind_some h
    obtain ⟨r6, hx8, h⟩ := bind_some h
    refine CodeOk.cutR (tl 69 [(0, .sl false false (a0.map encSToken)), (4, .own 101)]) [(101, .vec false 45 3 (r6.map encSToken))] mix (by
        refine W.run D_ok 1 100 (by kernel_rfl) ?_
        refine W.call (AC.gs (m_laws_toTokenS_ok N a0 hx7) (by decide)) cok9 [] [(100, 100)] [100] (show LayOk _ [] from trivial) (by kernel_rfl) (by kernel_rfl) ?_
        refine W.lend (AC.gs (m_spec_MinTokens_ok N r5 hx8) (by decide)) cok8 [(100, 101)] [101] (LayOk.cons (j := 100) encSToken encSToken r5 (by kernel_rfl) (fun _ => rfl) (show LayOk _ [] from trivial)) (.own _) (.cons (DeepR.map (fun _ => (.cons (.c _) (.cons (.c _) (.cons (.c _) .nil)))) _) .nil) (by kernel_rfl) (by kernel_rfl) ?_
        refine W.run D_ok 1 102 (by kernel_rfl) ?_
        exact W.fin (by decide) (by kernel_rfl) (Weak.sel [(101, 101)] [0, 4] (by kernel_rfl) (by kernel_rfl) (by kernel_rfl))
        ) ?_
    obtain ⟨r8, hx10, h⟩ := bind_some h
    refine CodeOk.cutR (tl 69 [(0, .sl false false (a0.map encSToken)), (4, .own 101), (5, .own 102)]) [(102, .vec false 45 3 (r8.map encSToken)), (101, .vec false 45 3 (r6.map encSToken))] mix (by
        refine W.run D_ok 1 102 (by kernel_rfl) ?_
        refine W.call (AC.gs (m_laws_toTokenS_ok N a0 hx10) (by decide)) cok9 [] [(100, 102)] [102] (show LayOk _ [] from trivial) (by kernel_rfl) (by kernel_rfl) ?_
        refine W.run D_ok 1 103 (by kernel_rfl) ?_
        exact W.fin (by decide) (by kernel_rfl) (Weak.sel [(102, 102), (101, 101)] [0, 4, 5] (by kernel_rfl) (by kernel_rfl) (by kernel_rfl))
        ) ?_
    obtain ⟨r10, hx12, h⟩ := bind_some h
    refine CodeOk.cutR (tl 69 [(0, .sl false false (a0.map encSToken)), (4, .own 101), (5, .own 102), (6, .own 103)]) [(103, .vec false 45 3 (r10.map encSToken)), (102, .vec false 45 3 (r8.map encSToken)), (101, .vec false 45 3 (r6.map encSToken))] mix (by
        refine W.run D_ok 1 103 (by kernel_rfl) ?_
        refine W.lend (m_impl_MinTokens_ok N r8 hx12) cok10 [(100, 103)] [103] (LayOk.cons (j := 102) encSToken encSToken r8 (by kernel_rfl) (fun _ => rfl) (show LayOk _ [] from trivial)) (.own _) (.cons (DeepR.map (fun _ => (.cons (.c _) (.cons (.c _) (.cons (.c _) .nil)))) _) .nil) (by kernel_rfl) (by kernel_rfl) ?_
        refine W.run D_ok 1 104 (by kernel_rfl) ?_
        exact W.fin (by decide) (by kernel_rfl) (Weak.sel [(103, 103), (102, 102), (101, 101)] [0, 4, 5, 6] (by kernel_rfl) (by kernel_rfl) (by kernel_rfl))
        ) ?_
    refine CodeOk.seq' ?_
    obtain ⟨r14, hx17, h⟩ := bind_some h
    refine CodeOk.cutR (tl 69 [(0, .sl false false (a0.map encSToken)), (4, .own 101), (5, .own 102), (6, .own 103), (26, V.bool (!r14))]) [(103, .vec false 45 3 (r10.map encSToken)), (102, .vec false 45 3 (r8.map encSToken)), (101, .vec false 45 3 (r6.map encSToken))] mix (by
        refine W.run D_ok 2 104 (by kernel_rfl) ?_
        refine W.lend (AC.gs (m_laws_eqTokenS_ok N r10 r6 hx17) (by decide)) cok11 [] [] (LayOk.cons (j := 103) encSToken encSToken r10 (by kernel_rfl) (fun _ => rfl) (LayOk.cons (j := 101) encSToken encSToken r6 (by kernel_rfl) (fun _ => rfl) (show LayOk _ [] from trivial))) (.c _) .nil (by kernel_rfl) (by kernel_rfl) ?_
        refine W.run D_ok 1 104 (by kernel_rfl) ?_
        exact W.fin (by decide) (by kernel_rfl) (Weak.sel [(103, 103), (102, 102), (101, 101)] [0, 4, 5, 6, 26] (by kernel_rfl) (by kernel_rfl) (by kernel_rfl))
        ) ?_
    rcases cond_some h with ⟨hc18, h⟩ | ⟨hc18, h⟩
    · refine CodeOk.ifT hc18 (by kernel_rfl) ?_
      refine CodeOk.cutR (tl 69 [(2, V.bool false)]) [] mix (by
          refine W.run D_ok 1 104 (by kernel_rfl) ?_
          exact W.fin (by decide) (by kernel_rfl) (Weak.sel [] [2] (by kernel_rfl) (by kernel_rfl) (by kernel_rfl))
          ) ?_
      refine CodeOk.ret ?_
      have h := Option.some.inj h
      subst h
      exact Ends.gen [] (.inr rfl) (RetV.one rfl (OneR.tmp (t := 2) (r := V.bool false) (by kernel_rfl))) (by kernel_rfl) (by kernel_rfl) (by kernel_rfl)
    · refine CodeOk.ifF hc18 (by kernel_rfl) ?_
      refine CodeOk.skip ?_
      refine CodeOk.weak (st' := ⟨tl 69 [(0, .sl false false (a0.map encSToken)), (4, .own 101), (5, .own 102), (6, .own 103), (26, V.bool (!r14))], [(103, .vec false 45 3 (r10.map encSToken)), (102, .vec false 45 3 (r8.map encSToken)), (101, .vec false 45 3 (r6.map encSToken))]⟩) (Weak.refl _) ?_
      refine CodeOk.seq' ?_
      obtain ⟨r21, hx26, h⟩ := bind_some h
      obtain ⟨r22, hx27, h⟩ := bind_some h
      refine CodeOk.cutR (tl 69 [(0, .sl false false (a0.map encSToken)), (4, .own 101), (5, .own 102), (6, .own 103), (31, V.bool (!r22))]) [(103, .vec false 45 3 (r10.map encSToken)), (102, .vec false 45 3 (r8.map encSToken)), (101, .vec false 45 3 (r6.map encSToken))] mix (by
          refine W.run D_ok 2 104 (by kernel_rfl) ?_
          refine W.call (AC.gs (m_laws_toTokenS_ok N a0 hx26) (by decide)) cok9 [] [(100, 104)] [104] (show LayOk _ [] from trivial) (by kernel_rfl) (by kernel_rfl) ?_
          refine W.lend (AC.gs (m_laws_eqTokenS_ok N r8 r21 hx27) (by decide)) cok11 [] [] (LayOk.cons (j := 102) encSToken encSToken r8 (by kernel_rfl) (fun _ => rfl) (LayOk.cons (j := 104) encSToken encSToken r21 (by kernel_rfl) (fun _ => rfl) (show LayOk _ [] from trivial))) (.c _) .nil (by kernel_rfl) (by kernel_rfl) ?_
          refine W.run D_ok 1 105 (by kernel_rfl) ?_
          exact W.fin (by decide) (by kernel_rfl) (Weak.sel [(103, 103), (102, 102), (101, 101)] [0, 4, 5, 6, 31] (by kernel_rfl) (by kernel_rfl) (by kernel_rfl))
          ) ?_
      rcases cond_some h with ⟨hc28, h⟩ | ⟨hc28, h⟩
      · refine CodeOk.ifT hc28 (by kernel_rfl) ?_
        refine CodeOk.cutR (tl 69 [(2, V.bool false)]) [] mix (by
            refine W.run D_ok 1 105 (by kernel_rfl) ?_
            exact W.fin (by decide) (by kernel_rfl) (Weak.sel [] [2] (by kernel_rfl) (by kernel_rfl) (by kernel_rfl))
            ) ?_
        refine CodeOk.ret ?_
        have h := Option.some.inj h
        subst h
        exact Ends.gen [] (.inr rfl) (RetV.one rfl (OneR.tmp (t := 2) (r := V.bool false) (by kernel_rfl))) (by kernel_rfl) (by kernel_rfl) (by kernel_rfl)
      · refine CodeOk.ifF hc28 (by kernel_rfl) ?_
        refine CodeOk.skip ?_
        refine CodeOk.weak (st' := ⟨tl 69 [(0, .sl false false (a0.map encSToken)), (4, .own 101), (5, .own 102), (6, .own 103), (31, V.bool (!r22))], [(103, .vec false 45 3 (r10.map encSToken)), (102, .vec false 45 3 (r8.map encSToken)), (101, .vec false 45 3 (r6.map encSToken))]⟩) (Weak.refl _) ?_
        refine CodeOk.cutR (tl 69 [(0, .sl false false (a0.map encSToken)), (4, .own 101), (5, .own 102), (6, .own 103), (7, V.int 1)]) [(103, .vec false 45 3 (r10.map encSToken)), (102, .vec false 45 3 (r8.map encSToken)), (101, .vec false 45 3 (r6.map encSToken))] mix (by
            refine W.run D_ok 1 105 (by kernel_rfl) ?_
            exact W.fin (by decide) (by kernel_rfl) (Weak.sel [(103, 103), (102, 102), (101, 101)] [0, 4, 5, 6, 7] (by kernel_rfl) (by kernel_rfl) (by kernel_rfl))
            ) ?_
        obtain ⟨r24, hx30, h⟩ := bind_some h
        refine CodeOk.cutR (tl 69 [(0, .sl false false (a0.map encSToken)), (4, .own 101), (6, .own 103), (7, V.int r24.1)]) [(103, .vec false 45 3 (r10.map encSToken)), (101, .vec false 45 3 (r6.map encSToken))] mix (by
            refine W.run D_ok 2 105 (by kernel_rfl) ?_
            refine W.call (AC.gs (m_laws_markTokenS_ok 45 N 1 r8 hx30) (by decide)) cok12 [(102, 0)] [(0, 102)] [] (show LayOk _ [] from trivial) (by kernel_rfl) (by kernel_rfl) ?_
            refine W.run D_ok 1 105 (by kernel_rfl) ?_
            exact W.fin (by decide) (by kernel_rfl) (Weak.sel [(103, 103), (101, 101)] [0, 4, 6, 7] (by kernel_rfl) (by kernel_rfl) (by kernel_rfl))
            ) ?_
        refine CodeOk.seq' ?_
        obtain ⟨y29, hv39, h⟩ := bind_some h
        refine CodeOk.cutR (tl 69 [(0, .sl false false (a0.map encSToken)), (4, .own 100), (6, .own 101), (42, V.bool y29)]) [(100, .vec false 45 3 (r6.map encSToken)), (101, .vec false 45 3 (r10.map encSToken))] mix (by
            refine W.run D_ok 3 105 (by kernel_rfl) ?_
            rcases cond_some hv39 with ⟨hc40, hv39⟩ | ⟨hc40, hv39⟩
            · refine W.is 37 hc40 (by kernel_rfl) ?_
              refine W.run D_ok 5 105 (by kernel_rfl) ?_
              have hv39 := Option.some.inj hv39
              subst hv39
              exact W.fin (by decide) (by kernel_rfl) (Weak.sel [(101, 100), (103, 101)] [0, 4, 6, 42] (by kernel_rfl) (by kernel_rfl) (by kernel_rfl))
            · refine W.is 37 hc40 (by kernel_rfl) ?_
              refine W.run D_ok 2 105 (by kernel_rfl) ?_
              obtain ⟨r30, hx41, hv39⟩ := bind_some hv39
              refine W.lend (AC.gs (m_laws_eqTokenS_ok N r10 r6 hx41) (by decide)) cok11 [] [] (LayOk.cons (j := 103) encSToken encSToken r10 (by kernel_rfl) (fun _ => rfl) (LayOk.cons (j := 101) encSToken encSToken r6 (by kernel_rfl) (fun _ => rfl) (show LayOk _ [] from trivial))) (.c _) .nil (by kernel_rfl) (by kernel_rfl) ?_
              refine W.run D_ok 2 105 (by kernel_rfl) ?_
              have hv39 := Option.some.inj hv39
              subst hv39
              exact W.fin (by decide) (by kernel_rfl) (Weak.sel [(101, 100), (103, 101)] [0, 4, 6, 42] (by kernel_rfl) (by kernel_rfl) (by kernel_rfl))
            ) ?_
        rcases cond_some h with ⟨hc42, h⟩ | ⟨hc42, h⟩
        · refine CodeOk.ifT hc42 (by kernel_rfl) ?_
          refine CodeOk.cutR (tl 69 [(2, V.bool false)]) [] mix (by
              refine W.run D_ok 1 105 (by kernel_rfl) ?_
              exact W.fin (by decide) (by kernel_rfl) (Weak.sel [] [2] (by kernel_rfl) (by kernel_rfl) (by kernel_rfl))
              ) ?_
          refine CodeOk.ret ?_
          have h := Option.some.inj h
          subst h
          exact Ends.gen [] (.inr rfl) (RetV.one rfl (OneR.tmp (t := 2) (r := V.bool false) (by kernel_rfl))) (by kernel_rfl) (by kernel_rfl) (by kernel_rfl)
        · refine CodeOk.ifF hc42 (by kernel_rfl) ?_
          refine CodeOk.skip ?_
          refine CodeOk.weak (st' := ⟨tl 69 [(0, .sl false false (a0.map encSToken)), (4, .own 100), (6, .own 101), (42, V.bool y29)], [(100, .vec false 45 3 (r6.map encSToken)), (101, .vec false 45 3 (r10.map encSToken))]⟩) (Weak.refl _) ?_
          refine CodeOk.cutR (tl 69 [(0, .sl false false (a0.map encSToken)), (4, .own 100), (6, .own 101), (8, V.int 1)]) [(100, .vec false 45 3 (r6.map encSToken)), (101, .vec false 45 3 (r10.map encSToken))] mix (by
              refine W.run D_ok 1 105 (by kernel_rfl) ?_
              exact W.fin (by decide) (by kernel_rfl) (Weak.sel [(100, 100), (101, 101)] [0, 4, 6, 8] (by kernel_rfl) (by kernel_rfl) (by kernel_rfl))
              ) ?_
          obtain ⟨r32, hx44, h⟩ := bind_some h
          refine CodeOk.cutR (tl 69 [(0, .sl false false (a0.map encSToken)), (4, .own 100), (6, .own 101), (8, V.int r32.1)]) [(100, .vec false 45 3 (r6.map encSToken)), (101, .vec false 45 3 (r32.2.map encSToken))] mix (by
              refine W.run D_ok 2 105 (by kernel_rfl) ?_
              refine W.call (AC.gs (m_laws_markTokenS_ok 45 N 1 r10 hx44) (by decide)) cok12 [(101, 0)] [(0, 101)] [] (show LayOk _ [] from trivial) (by kernel_rfl) (by kernel_rfl) ?_
              refine W.run D_ok 1 105 (by kernel_rfl) ?_
              exact W.fin (by decide) (by kernel_rfl) (Weak.sel [(100, 100), (101, 101)] [0, 4, 6, 8] (by kernel_rfl) (by kernel_rfl) (by kernel_rfl))
              ) ?_
          refine CodeOk.cutR (tl 69 [(0, .sl false false (a0.map encSToken)), (4, .own 100), (6, .own 101), (8, V.int r32.1), (9, V.int 1)]) [(100, .vec false 45 3 (r6.map encSToken)), (101, .vec false 45 3 (r32.2.map encSToken))] mix (by
              refine W.run D_ok 1 105 (by kernel_rfl) ?_
              exact W.fin (by decide) (by kernel_rfl) (Weak.sel [(100, 100), (101, 101)] [0, 4, 6, 8, 9] (by kernel_rfl) (by kernel_rfl) (by kernel_rfl))
              ) ?_
          obtain ⟨r34, hx46, h⟩ := bind_some h
          refine CodeOk.cutR (tl 69 [(0, .sl false false (a0.map encSToken)), (4, .own 100), (6, .own 101), (8, V.int r32.1), (9, V.int r34)]) [(100, .vec false 45 3 (r6.map encSToken)), (101, .vec false 45 3 (r32.2.map encSToken))] mix (by
              refine W.run D_ok 2 105 (by kernel_rfl) ?_
              refine W.lend (AC.gs (m_laws_heldTokenS_ok N r32.2 1 hx46) (by decide)) cok13 [] [] (LayOk.cons (j := 101) encSToken encSToken r32.2 (by kernel_rfl) (fun _ => rfl) (show LayOk _ [] from trivial)) (.c _) .nil (by kernel_rfl) (by kernel_rfl) ?_
              refine W.run D_ok 1 105 (by kernel_rfl) ?_
              exact W.fin (by decide) (by kernel_rfl) (Weak.sel [(100, 100), (101, 101)] [0, 4, 6, 8, 9] (by kernel_rfl) (by kernel_rfl) (by kernel_rfl))
              ) ?_
          refine CodeOk.seq' ?_
          refine CodeOk.cutR (tl 69 [(0, .sl false false (a0.map encSToken)), (4, .own 100), (6, .own 101), (8, V.int r32.1), (9, V.int r34), (50, V.bool (decide (r34 < 0)))]) [(100, .vec false 45 3 (r6.map encSToken)), (101, .vec false 45 3 (r32.2.map encSToken))] mix (by
              refine W.run D_ok 2 105 (by kernel_rfl) ?_
              exact W.fin (by decide) (by kernel_rfl) (Weak.sel [(100, 100), (101, 101)] [0, 4, 6, 8, 9, 50] (by kernel_rfl) (by kernel_rfl) (by kernel_rfl))
              ) ?_
          rcases cond_some h with ⟨hc48, h⟩ | ⟨hc48, h⟩
          · refine CodeOk.ifT hc48 (by kernel_rfl) ?_
            refine CodeOk.cutR (tl 69 [(2, V.bool false)]) [] mix (by
                refine W.run D_ok 1 105 (by kernel_rfl) ?_
                exact W.fin (by decide) (by kernel_rfl) (Weak.sel [] [2] (by kernel_rfl) (by kernel_rfl) (by kernel_rfl))
                ) ?_
            refine CodeOk.ret ?_
            have h := Option.some.inj h
            subst h
            exact Ends.gen [] (.inr rfl) (RetV.one rfl (OneR.tmp (t := 2) (r := V.bool false) (by kernel_rfl))) (by kernel_rfl) (by kernel_rfl) (by kernel_rfl)
          · refine CodeOk.ifF hc48 (by kernel_rfl) ?_
            refine CodeOk.skip ?_
            refine CodeOk.weak (st' := ⟨tl 69 [(0, .sl false false (a0.map encSToken)), (4, .own 100), (6, .own 101), (8, V.int r32.1), (9, V.int r34), (50, V.bool (decide (r34 < 0)))], [(100, .vec false 45 3 (r6.map encSToken)), (101, .vec false 45 3 (r32.2.map encSToken))]⟩) (Weak.refl _) ?_
            refine CodeOk.seq' ?_
            refine CodeOk.cutR (tl 69 [(0, .sl false false (a0.map encSToken)), (4, .own 100), (6, .own 101), (8, V.int r32.1), (53, V.bool (r34 != r32.1))]) [(100, .vec false 45 3 (r6.map encSToken)), (101, .vec false 45 3 (r32.2.map encSToken))] mix (by
                refine W.run D_ok 3 105 (by kernel_rfl) ?_
                exact W.fin (by decide) (by kernel_rfl) (Weak.sel [(100, 100), (101, 101)] [0, 4, 6, 8, 53] (by kernel_rfl) (by kernel_rfl) (by kernel_rfl))
                ) ?_
            rcases cond_some h with ⟨hc50, h⟩ | ⟨hc50, h⟩
            · refine CodeOk.ifT hc50 (by kernel_rfl) ?_
              refine CodeOk.cutR (tl 69 [(2, V.bool false)]) [] mix (by
                  refine W.run D_ok 1 105 (by kernel_rfl) ?_
                  exact W.fin (by decide) (by kernel_rfl) (Weak.sel [] [2] (by kernel_rfl) (by kernel_rfl) (by kernel_rfl))
                  ) ?_
              refine CodeOk.ret ?_
              have h := Option.some.inj h
              subst h
              exact Ends.gen [] (.inr rfl) (RetV.one rfl (OneR.tmp (t := 2) (r := V.bool false) (by kernel_rfl))) (by kernel_rfl) (by kernel_rfl) (by kernel_rfl)
            · refine CodeOk.ifF hc50 (by kernel_rfl) ?_
              refine CodeOk.skip ?_
              refine CodeOk.weak (st' := ⟨tl 69 [(0, .sl false false (a0.map encSToken)), (4, .own 100), (6, .own 101), (8, V.int r32.1), (53, V.bool (r34 != r32.1))], [(100, .vec false 45 3 (r6.map encSToken)), (101, .vec false 45 3 (r32.2.map encSToken))]⟩) (Weak.refl _) ?_
              obtain ⟨r37, hx53, h⟩ := bind_some h
              obtain ⟨r38, hx54, h⟩ := bind_some h
              refine CodeOk.cutR (tl 69 [(4, .own 100), (6, .own 101), (8, V.int r32.1), (10, .own 106)]) [(106, .vec false 45 3 (r38.map encSToken)), (100, .vec false 45 3 (r6.map encSToken)), (101, .vec false 45 3 (r32.2.map encSToken))] mix (by
                  refine W.run D_ok 1 105 (by kernel_rfl) ?_
                  refine W.call (AC.gs (m_laws_toTokenS_ok N a0 hx53) (by decide)) cok9 [] [(100, 105)] [105] (show LayOk _ [] from trivial) (by kernel_rfl) (by kernel_rfl) ?_
                  refine W.lend (m_impl_MinTokens_ok N r37 hx54) cok10 [(100, 106)] [106] (LayOk.cons (j := 105) encSToken encSToken r37 (by kernel_rfl) (fun _ => rfl) (show LayOk _ [] from trivial)) (.own _) (.cons (DeepR.map (fun _ => (.cons (.c _) (.cons (.c _) (.cons (.c _) .nil)))) _) .nil) (by kernel_rfl) (by kernel_rfl) ?_
                  refine W.run D_ok 1 107 (by kernel_rfl) ?_
                  exact W.fin (by decide) (by kernel_rfl) (Weak.sel [(106, 106), (100, 100), (101, 101)] [4, 6, 8, 10] (by kernel_rfl) (by kernel_rfl) (by kernel_rfl))
                  ) ?_
              refine CodeOk.seq' ?_
              obtain ⟨r42, hx59, h⟩ := bind_some h
              refine CodeOk.cutR (tl 69 [(6, .own 101), (8, V.int r32.1), (60, V.bool (!r42))]) [(101, .vec false 45 3 (r32.2.map encSToken))] mix (by
                  refine W.run D_ok 2 107 (by kernel_rfl) ?_
                  refine W.lend (AC.gs (m_laws_eqTokenS_ok N r38 r6 hx59) (by decide)) cok11 [] [] (LayOk.cons (j := 106) encSToken encSToken r38 (by kernel_rfl) (fun _ => rfl) (LayOk.cons (j := 100) encSToken encSToken r6 (by kernel_rfl) (fun _ => rfl) (show LayOk _ [] from trivial))) (.c _) .nil (by kernel_rfl) (by kernel_rfl) ?_
                  refine W.run D_ok 1 107 (by kernel_rfl) ?_
                  exact W.fin (by decide) (by kernel_rfl) (Weak.sel [(101, 101)] [6, 8, 60] (by kernel_rfl) (by kernel_rfl) (by kernel_rfl))
                  ) ?_
              rcases cond_some h with ⟨hc60, h⟩ | ⟨hc60, h⟩
              · refine CodeOk.ifT hc60 (by kernel_rfl) ?_
                refine CodeOk.cutR (tl 69 [(2, V.bool false)]) [] mix (by
                    refine W.run D_ok 1 107 (by kernel_rfl) ?_
                    exact W.fin (by decide) (by kernel_rfl) (Weak.sel [] [2] (by kernel_rfl) (by kernel_rfl) (by kernel_rfl))
                    ) ?_
                refine CodeOk.ret ?_
                have h := Option.some.inj h
                subst h
                exact Ends.gen [] (.inr rfl) (RetV.one rfl (OneR.tmp (t := 2) (r := V.bool false) (by kernel_rfl))) (by kernel_rfl) (by kernel_rfl) (by kernel_rfl)
              · refine CodeOk.ifF hc60 (by kernel_rfl) ?_
                refine CodeOk.skip ?_
                refine CodeOk.weak (st' := ⟨tl 69 [(6, .own 101), (8, V.int r32.1), (60, V.bool (!r42))], [(101, .vec false 45 3 (r32.2.map encSToken))]⟩) (Weak.refl _) ?_
                refine CodeOk.cutR (tl 69 [(6, .own 101), (8, V.int r32.1), (9, V.int 1)]) [(101, .vec false 45 3 (r32.2.map encSToken))] mix (by
                    refine W.run D_ok 1 107 (by kernel_rfl) ?_
                    exact W.fin (by decide) (by kernel_rfl) (Weak.sel [(101, 101)] [6, 8, 9] (by kernel_rfl) (by kernel_rfl) (by kernel_rfl))
                    ) ?_
                obtain ⟨r44, hx62, h⟩ := bind_some h
                refine CodeOk.cutR (tl 69 [(8, V.int r32.1), (9, V.int r44)]) [] mix (by
                    refine W.run D_ok 2 107 (by kernel_rfl) ?_
                    refine W.lend (AC.gs (m_laws_heldTokenS_ok N r32.2 1 hx62) (by decide)) cok13 [] [] (LayOk.cons (j := 101) encSToken encSToken r32.2 (by kernel_rfl) (fun _ => rfl) (show LayOk _ [] from trivial)) (.c _) .nil (by kernel_rfl) (by kernel_rfl) ?_
                    refine W.run D_ok 1 107 (by kernel_rfl) ?_
                    exact W.fin (by decide) (by kernel_rfl) (Weak.sel [] [8, 9] (by kernel_rfl) (by kernel_rfl) (by kernel_rfl))
                    ) ?_
                refine CodeOk.seq' ?_
                refine CodeOk.cutR (tl 69 [(8, V.int r32.1), (9, V.int r44), (65, V.bool (decide (r44 < 0)))]) [] mix (by
                    refine W.run D_ok 2 107 (by kernel_rfl) ?_
                    exact W.fin (by decide) (by kernel_rfl) (Weak.sel [] [8, 9, 65] (by kernel_rfl) (by kernel_rfl) (by kernel_rfl))
                    ) ?_
                rcases cond_some h with ⟨hc64, h⟩ | ⟨hc64, h⟩
                · refine CodeOk.ifT hc64 (by kernel_rfl) ?_
                  refine CodeOk.cutR (tl 69 [(2, V.bool false)]) [] mix (by
                      refine W.run D_ok 1 107 (by kernel_rfl) ?_
                      exact W.fin (by decide) (by kernel_rfl) (Weak.sel [] [2] (by kernel_rfl) (by kernel_rfl) (by kernel_rfl))
                      ) ?_
                  refine CodeOk.ret ?_
                  have h := Option.some.inj h
                  subst h
                  exact Ends.gen [] (.inr rfl) (RetV.one rfl (OneR.tmp (t := 2) (r := V.bool false) (by kernel_rfl))) (by kernel_rfl) (by kernel_rfl) (by kernel_rfl)
                · refine CodeOk.ifF hc64 (by kernel_rfl) ?_
                  refine CodeOk.skip ?_
                  refine CodeOk.weak (st' := ⟨tl 69 [(8, V.int r32.1), (9, V.int r44), (65, V.bool (decide (r44 < 0)))], []⟩) (Weak.refl _) ?_
                  refine CodeOk.seq' ?_
                  refine CodeOk.cutR (tl 69 [(68, V.bool (r44 != r32.1))]) [] mix (by
                      refine W.run D_ok 3 107 (by kernel_rfl) ?_
                      exact W.fin (by decide) (by kernel_rfl) (Weak.sel [] [68] (by kernel_rfl) (by kernel_rfl) (by kernel_rfl))
                      ) ?_
                  rcases cond_some h with ⟨hc66, h⟩ | ⟨hc66, h⟩
                  · refine CodeOk.ifT hc66 (by kernel_rfl) ?_
                    refine CodeOk.cutR (tl 69 [(2, V.bool false)]) [] mix (by
                        refine W.run D_ok 1 107 (by kernel_rfl) ?_
                        exact W.fin (by decide) (by kernel_rfl) (Weak.sel [] [2] (by kernel_rfl) (by kernel_rfl) (by kernel_rfl))
                        ) ?_
                    refine CodeOk.ret ?_
                    have h := Option.some.inj h
                    subst h
                    exact Ends.gen [] (.inr rfl) (RetV.one rfl (OneR.tmp (t := 2) (r := V.bool false) (by kernel_rfl))) (by kernel_rfl) (by kernel_rfl) (by kernel_rfl)
                  · refine CodeOk.ifF hc66 (by kernel_rfl) ?_
                    refine CodeOk.skip ?_
                    refine CodeOk.weak (st' := ⟨tl 69 [(68, V.bool (r44 != r32.1))], []⟩) (Weak.refl _) ?_
                    refine CodeOk.cutR (tl 69 [(2, V.bool true)]) [] mix (by
                        refine W.run D_ok 1 107 (by kernel_rfl) ?_
                        exact W.fin (by decide) (by kernel_rfl) (Weak.sel [] [2] (by kernel_rfl) (by kernel_rfl) (by kernel_rfl))
                        ) ?_
                    refine CodeOk.ret ?_
                    have h := Option.some.inj h
                    subst h
                    exact Ends.gen [] (.inr rfl) (RetV.one rfl (OneR.tmp (t := 2) (r := V.bool true) (by kernel_rfl))) (by kernel_rfl) (by kernel_rfl) (by kernel_rfl)

theorem m_spec_OffsetOf_ok (N : Nat) (a0 : List UInt8) (a1 : Int) (a2 : Int) {r : (Int × Bool)} (h : m_spec_OffsetOf N a0 a1 a2 = some r) :
    AC Tryd.prog (GS []) 14 [V.str a0, V.int a1, V.int a2] [] (.tup [V.int r.1, V.bool r.2]) [] := by
  rw [m_spec_OffsetOf] at h
  refine AC.enter Tryd.func14 rfl ?_
  refine CodeOk.cutR (tl 63 [(0, V.str a0), (1, V.int a1), (2, V.int a2)]) [] mix (by
      refine W.run D_ok 2 100 (by kernel_rfl) ?_
      exact W.fin (by decide) (by kernel_rfl) (Weak.sel [] [0, 1, 2] (by kernel_rfl) (by kernel_rfl) (by kernel_rfl))
      ) ?_
  refine CodeOk.seq' ?_
  obtain ⟨y2, hv6, h⟩ := bind_some h
  refine CodeOk.cutR (tl 63 [(0, V.str a0), (1, V.int a1), (2, V.int a2), (16, V.bool y2)]) [] mix (by
      refine W.run D_ok 3 100 (by kernel_rfl) ?_
      rcases cond_some hv6 with ⟨hc7, hv6⟩ | ⟨hc7, hv6⟩
      · refine W.is 13 hc7 (by kernel_rfl) ?_
        refine W.run D_ok 3 100 (by kernel_rfl) ?_
        have hv6 := Option.some.inj hv6
        subst hv6
        exact W.fin (by decide) (by kernel_rfl) (Weak.sel [] [0, 1, 2, 16] (by kernel_rfl) (by kernel_rfl) (by kernel_rfl))
      · refine W.is 13 hc7 (by kernel_rfl) ?_
        refine W.run D_ok 3 100 (by kernel_rfl) ?_
        have hv6 := Option.some.inj hv6
        subst hv6
        exact W.fin (by decide) (by kernel_rfl) (Weak.sel [] [0, 1, 2, 16] (by kernel_rfl) (by kernel_rfl) (by kernel_rfl))
      ) ?_
  rcases cond_some h with ⟨hc8, h⟩ | ⟨hc8, h⟩
  · refine CodeOk.ifT hc8 (by kernel_rfl) ?_
    refine CodeOk.cutR (tl 63 [(6, V.int 0), (7, V.bool false)]) [] mix (by
        refine W.run D_ok 2 100 (by kernel_rfl) ?_
        exact W.fin (by decide) (by kernel_rfl) (Weak.sel [] [6, 7] (by kernel_rfl) (by kernel_rfl) (by kernel_rfl))
        ) ?_
    refine CodeOk.ret ?_
    have h := Option.some.inj h
    subst h
    exact Ends.gen [] (.inr rfl) (RetV.two rfl (OneR.tmp (t := 6) (r := V.int 0) (by kernel_rfl)) (OneR.tmp (t := 7) (r := V.bool false) (by kernel_rfl))) (by kernel_rfl) (by kernel_rfl) (by kernel_rfl)
  · refine CodeOk.ifF hc8 (by kernel_rfl) ?_
    refine CodeOk.skip ?_
    refine CodeOk.weak (st' := ⟨tl 63 [(0, V.str a0), (1, V.int a1), (2, V.int a2), (16, V.bool y2)], []⟩) (Weak.refl _) ?_
    refine CodeOk.cutR (tl 63 [(0, V.str a0), (1, V.int a1), (2, V.int a2), (8, V.int 0)]) [] mix (by
        refine W.run D_ok 1 100 (by kernel_rfl) ?_
        exact W.fin (by decide) (by kernel_rfl) (Weak.sel [] [0, 1, 2, 8] (by kernel_rfl) (by kernel_rfl) (by kernel_rfl))
        ) ?_
    refine CodeOk.seq' ?_
    refine CodeOk.cutR (tl 63 [(0, V.str a0), (1, V.int a1), (2, V.int a2), (8, V.int 0), (9, V.int 1)]) [] mix (by
        refine W.run D_ok 1 100 (by kernel_rfl) ?_
        exact W.fin (by decide) (by kernel_rfl) (Weak.sel [] [0, 1, 2, 8, 9] (by kernel_rfl) (by kernel_rfl) (by kernel_rfl))
        ) ?_
    refine CodeOk.block' ?_
    refine CodeOk.loopJ (fun (⟨a0, a1, a2, y327, y328⟩ : ((List UInt8) × Int × Int × Int × Int)) => ⟨tl 63 [(0, V.str a0), (1, V.int a1), (2, V.int a2), (8, V.int y327), (9, V.int y328)], []⟩) (fun n i => m_spec_OffsetOf_l1 N n i = some r) (n0 := N) (i0 := (a0, a1, a2, 0, 1)) (Weak.sel [] [0, 1, 2, 8, 9] (by kernel_rfl) (by kernel_rfl) (by kernel_rfl)) h (fun i h => by simp [m_spec_OffsetOf_l1] at h) ?_
    rintro n1 ⟨a0, a1, a2, y327, y328⟩ h801 ih802
    rw [m_spec_OffsetOf_l1] at h801
    refine CodeOk.seq' ?_
    refine CodeOk.cutR (tl 63 [(0, V.str a0), (1, V.int a1), (2, V.int a2), (8, V.int y327), (9, V.int y328), (19, V.bool (decide (y328 < a1)))]) [] mix (by
        refine W.run D_ok 3 280 (by kernel_rfl) ?_
        exact W.fin (by decide) (by kernel_rfl) (Weak.sel [] [0, 1, 2, 8, 9, 19] (by kernel_rfl) (by kernel_rfl) (by kernel_rfl))
        ) ?_
    rcases cond_some h801 with ⟨hc804, h801⟩ | ⟨hc804, h801⟩
    · refine CodeOk.ifT hc804 (by kernel_rfl) ?_
      refine CodeOk.skip ?_
      refine CodeOk.weak (st' := ⟨tl 63 [(0, V.str a0), (1, V.int a1), (2, V.int a2), (8, V.int y327), (9, V.int y328), (19, V.bool (decide (y328 < a1)))], []⟩) (Weak.refl _) ?_
      refine CodeOk.seq' ?_
      refine CodeOk.block' ?_
      refine CodeOk.seq' ?_
      refine CodeOk.block' ?_
      refine CodeOk.loopJ (fun (⟨a0, a1, a2, y328, y477⟩ : ((List UInt8) × Int × Int × Int × Int)) => ⟨tl 63 [(0, V.str a0), (1, V.int a1), (2, V.int a2), (8, V.int y477), (9, V.int y328)], []⟩) (fun n i => m_spec_OffsetOf_l2 N (m_spec_OffsetOf_l1 N n1) n i = some r) (n0 := N) (i0 := (a0, a1, a2, y328, y327)) (Weak.sel [] [0, 1, 2, 8, 9] (by kernel_rfl) (by kernel_rfl) (by kernel_rfl)) h801 (fun i h => by simp [m_spec_OffsetOf_l2] at h) ?_
      rintro n2 ⟨a0, a1, a2, y328, y477⟩ h945 ih946
      rw [m_spec_OffsetOf_l2] at h945
      refine CodeOk.seq' ?_
      obtain ⟨y489, hv955, h945⟩ := bind_some h945
      refine CodeOk.cutR (tl 63 [(0, V.str a0), (1, V.int a1), (2, V.int a2), (8, V.int y477), (9, V.int y328), (31, V.bool y489)]) [] mix (by
          refine W.run D_ok 5 340 (by kernel_rfl) ?_
          rcases cond_some hv955 with ⟨hc956, hv955⟩ | ⟨hc956, hv955⟩
          · refine W.is 26 hc956 (by kernel_rfl) ?_
            refine W.run D_ok 2 340 (by kernel_rfl) ?_
            obtain ⟨b490, hx957, hv955⟩ := bind_some hv955
            refine W.ixS D_ok hx957 (by kernel_rfl) ?_
            refine W.run D_ok 2 340 (by kernel_rfl) ?_
            have hv955 := Option.some.inj hv955
            subst hv955
            exact W.fin (by decide) (by kernel_rfl) (Weak.sel [] [0, 1, 2, 8, 9, 31] (by kernel_rfl) (by kernel_rfl) (by kernel_rfl))
          · refine W.is 26 hc956 (by kernel_rfl) ?_
            refine W.run D_ok 5 340 (by kernel_rfl) ?_
            have hv955 := Option.some.inj hv955
            subst hv955
            exact W.fin (by decide) (by kernel_rfl) (Weak.sel [] [0, 1, 2, 8, 9, 31] (by kernel_rfl) (by kernel_rfl) (by kernel_rfl))
          ) ?_
      rcases cond_some h945 with ⟨hc958, h945⟩ | ⟨hc958, h945⟩
      · refine CodeOk.ifT hc958 (by kernel_rfl) ?_
        refine CodeOk.skip ?_
        refine CodeOk.weak (st' := ⟨tl 63 [(0, V.str a0), (1, V.int a1), (2, V.int a2), (8, V.int y477), (9, V.int y328), (31, V.bool y489)], []⟩) (Weak.refl _) ?_
        refine CodeOk.block' ?_
        refine CodeOk.endR (tl 63 [(0, V.str a0), (1, V.int a1), (2, V.int a2), (8, V.int (IntKind.wrap .i64 (y477 + 1))), (9, V.int y328)]) [] mix (by
            refine W.run D_ok 3 340 (by kernel_rfl) ?_
            exact W.fin (by decide) (by kernel_rfl) (Weak.sel [] [0, 1, 2, 8, 9] (by kernel_rfl) (by kernel_rfl) (by kernel_rfl))
            ) (fun st hw => ?_)
        exact ih946 (a0, a1, a2, y328, (IntKind.wrap .i64 (y477 + 1))) h945 _ (hw.trans (Weak.sel [] [0, 1, 2, 8, 9] (by kernel_rfl) (by kernel_rfl) (by kernel_rfl)))
      · refine CodeOk.ifF hc958 (by kernel_rfl) ?_
        refine CodeOk.exit ?_
        refine CodeOk.weak (st' := ⟨tl 63 [(0, V.str a0), (1, V.int a1), (2, V.int a2), (8, V.int y477), (9, V.int y328), (31, V.bool y489)], []⟩) (Weak.refl _) ?_
        refine CodeOk.seq' ?_
        refine CodeOk.cutR (tl 63 [(0, V.str a0), (1, V.int a1), (2, V.int a2), (8, V.int y477), (9, V.int y328), (37, V.bool (y477 == (a0.length : Int)))]) [] mix (by
            refine W.run D_ok 4 340 (by kernel_rfl) ?_
            exact W.fin (by decide) (by kernel_rfl) (Weak.sel [] [0, 1, 2, 8, 9, 37] (by kernel_rfl) (by kernel_rfl) (by kernel_rfl))
            ) ?_
        rcases cond_some h945 with ⟨hc960, h945⟩ | ⟨hc960, h945⟩
        · refine CodeOk.ifT hc960 (by kernel_rfl) ?_
          refine CodeOk.cutR (tl 63 [(6, V.int 0), (7, V.bool false)]) [] mix (by
              refine W.run D_ok 2 340 (by kernel_rfl) ?_
              exact W.fin (by decide) (by kernel_rfl) (Weak.sel [] [6, 7] (by kernel_rfl) (by kernel_rfl) (by kernel_rfl))
              ) ?_
          refine CodeOk.ret ?_
          have h945 := Option.some.inj h945
          subst h945
          exact Ends.gen [] (.inr rfl) (RetV.two rfl (OneR.tmp (t := 6) (r := V.int 0) (by kernel_rfl)) (OneR.tmp (t := 7) (r := V.bool false) (by kernel_rfl))) (by kernel_rfl) (by kernel_rfl) (by kernel_rfl)
        · refine CodeOk.ifF hc960 (by kernel_rfl) ?_
          refine CodeOk.skip ?_
          refine CodeOk.weak (st' := ⟨tl 63 [(0, V.str a0), (1, V.int a1), (2, V.int a2), (8, V.int y477), (9, V.int y328), (37, V.bool (y477 == (a0.length : Int)))], []⟩) (Weak.refl _) ?_
          refine CodeOk.endR (tl 63 [(0, V.str a0), (1, V.int a1), (2, V.int a2), (8, V.int (IntKind.wrap .i64 (y477 + 1))), (9, V.int y328)]) [] mix (by
              refine W.run D_ok 3 340 (by kernel_rfl) ?_
              exact W.fin (by decide) (by kernel_rfl) (Weak.sel [] [0, 1, 2, 8, 9] (by kernel_rfl) (by kernel_rfl) (by kernel_rfl))
              ) (fun st hw => ?_)
          refine CodeOk.weak (st' := ⟨tl 63 [(0, V.str a0), (1, V.int a1), (2, V.int a2), (8, V.int (IntKind.wrap .i64 (y477 + 1))), (9, V.int y328)], []⟩) hw ?_
          refine CodeOk.endR (tl 63 [(0, V.str a0), (1, V.int a1), (2, V.int a2), (8, V.int (IntKind.wrap .i64 (y477 + 1))), (9, V.int (IntKind.wrap .i64 (y328 + 1)))]) [] mix (by
              refine W.run D_ok 3 340 (by kernel_rfl) ?_
              exact W.fin (by decide) (by kernel_rfl) (Weak.sel [] [0, 1, 2, 8, 9] (by kernel_rfl) (by kernel_rfl) (by kernel_rfl))
              ) (fun st hw => ?_)
          exact ih802 (a0, a1, a2, (IntKind.wrap .i64 (y477 + 1)), (IntKind.wrap .i64 (y328 + 1))) h945 _ (hw.trans (Weak.sel [] [0, 1, 2, 8, 9] (by kernel_rfl) (by kernel_rfl) (by kernel_rfl)))
    · refine CodeOk.ifF hc804 (by kernel_rfl) ?_
      refine CodeOk.exit ?_
      refine CodeOk.weak (st' := ⟨tl 63 [(0, V.str a0), (1, V.int a1), (2, V.int a2), (8, V.int y327), (9, V.int y328), (19, V.bool (decide (y328 < a1)))], []⟩) (Weak.refl _) ?_
      refine CodeOk.cutR (tl 63 [(0, V.str a0), (2, V.int a2), (8, V.int y327), (10, V.int y327)]) [] mix (by
          refine W.run D_ok 2 280 (by kernel_rfl) ?_
          exact W.fin (by decide) (by kernel_rfl) (Weak.sel [] [0, 2, 8, 10] (by kernel_rfl) (by kernel_rfl) (by kernel_rfl))
          ) ?_
      refine CodeOk.seq' ?_
      refine CodeOk.block' ?_
      refine CodeOk.loopJ (fun (⟨a0, a2, y327, y517⟩ : ((List UInt8) × Int × Int × Int)) => ⟨tl 63 [(0, V.str a0), (2, V.int a2), (8, V.int y327), (10, V.int y517)], []⟩) (fun n i => m_spec_OffsetOf_l3 N (m_spec_OffsetOf_l1 N n1) n i = some r) (n0 := N) (i0 := (a0, a2, y327, y327)) (Weak.sel [] [0, 2, 8, 10] (by kernel_rfl) (by kernel_rfl) (by kernel_rfl)) h801 (fun i h => by simp [m_spec_OffsetOf_l3] at h) ?_
      rintro n3 ⟨a0, a2, y327, y517⟩ h1023 ih1024
      rw [m_spec_OffsetOf_l3] at h1023
      refine CodeOk.seq' ?_
      obtain ⟨y529, hv1033, h1023⟩ := bind_some h1023
      refine CodeOk.cutR (tl 63 [(0, V.str a0), (2, V.int a2), (8, V.int y327), (10, V.int y517), (50, V.bool y529)]) [] mix (by
          refine W.run D_ok 5 340 (by kernel_rfl) ?_
          rcases cond_some hv1033 with ⟨hc1034, hv1033⟩ | ⟨hc1034, hv1033⟩
          · refine W.is 45 hc1034 (by kernel_rfl) ?_
            refine W.run D_ok 2 340 (by kernel_rfl) ?_
            obtain ⟨b530, hx1035, hv1033⟩ := bind_some hv1033
            refine W.ixS D_ok hx1035 (by kernel_rfl) ?_
            refine W.run D_ok 2 340 (by kernel_rfl) ?_
            have hv1033 := Option.some.inj hv1033
            subst hv1033
            exact W.fin (by decide) (by kernel_rfl) (Weak.sel [] [0, 2, 8, 10, 50] (by kernel_rfl) (by kernel_rfl) (by kernel_rfl))
          · refine W.is 45 hc1034 (by kernel_rfl) ?_
            refine W.run D_ok 5 340 (by kernel_rfl) ?_
            have hv1033 := Option.some.inj hv1033
            subst hv1033
            exact W.fin (by decide) (by kernel_rfl) (Weak.sel [] [0, 2, 8, 10, 50] (by kernel_rfl) (by kernel_rfl) (by kernel_rfl))
          ) ?_
      rcases cond_some h1023 with ⟨hc1036, h1023⟩ | ⟨hc1036, h1023⟩
      · refine CodeOk.ifT hc1036 (by kernel_rfl) ?_
        refine CodeOk.skip ?_
        refine CodeOk.weak (st' := ⟨tl 63 [(0, V.str a0), (2, V.int a2), (8, V.int y327), (10, V.int y517), (50, V.bool y529)], []⟩) (Weak.refl _) ?_
        refine CodeOk.block' ?_
        refine CodeOk.endR (tl 63 [(0, V.str a0), (2, V.int a2), (8, V.int y327), (10, V.int (IntKind.wrap .i64 (y517 + 1)))]) [] mix (by
            refine W.run D_ok 3 340 (by kernel_rfl) ?_
            exact W.fin (by decide) (by kernel_rfl) (Weak.sel [] [0, 2, 8, 10] (by kernel_rfl) (by kernel_rfl) (by kernel_rfl))
            ) (fun st hw => ?_)
        exact ih1024 (a0, a2, y327, (IntKind.wrap .i64 (y517 + 1))) h1023 _ (hw.trans (Weak.sel [] [0, 2, 8, 10] (by kernel_rfl) (by kernel_rfl) (by kernel_rfl)))
      · refine CodeOk.ifF hc1036 (by kernel_rfl) ?_
        refine CodeOk.exit ?_
        refine CodeOk.weak (st' := ⟨tl 63 [(0, V.str a0), (2, V.int a2), (8, V.int y327), (10, V.int y517), (50, V.bool y529)], []⟩) (Weak.refl _) ?_
        refine CodeOk.seq' ?_
        refine CodeOk.cutR (tl 63 [(2, V.int a2), (8, V.int y327), (58, V.bool (decide ((IntKind.wrap .i64 (a2 - 1)) > (IntKind.wrap .i64 (y517 - y327)))))]) [] mix (by
            refine W.run D_ok 6 340 (by kernel_rfl) ?_
            exact W.fin (by decide) (by kernel_rfl) (Weak.sel [] [2, 8, 58] (by kernel_rfl) (by kernel_rfl) (by kernel_rfl))
            ) ?_
        rcases cond_some h1023 with ⟨hc1038, h1023⟩ | ⟨hc1038, h1023⟩
        · refine CodeOk.ifT hc1038 (by kernel_rfl) ?_
          refine CodeOk.cutR (tl 63 [(6, V.int 0), (7, V.bool false)]) [] mix (by
              refine W.run D_ok 2 340 (by kernel_rfl) ?_
              exact W.fin (by decide) (by kernel_rfl) (Weak.sel [] [6, 7] (by kernel_rfl) (by kernel_rfl) (by kernel_rfl))
              ) ?_
          refine CodeOk.ret ?_
          have h1023 := Option.some.inj h1023
          subst h1023
          exact Ends.gen [] (.inr rfl) (RetV.two rfl (OneR.tmp (t := 6) (r := V.int 0) (by kernel_rfl)) (OneR.tmp (t := 7) (r := V.bool false) (by kernel_rfl))) (by kernel_rfl) (by kernel_rfl) (by kernel_rfl)
        · refine CodeOk.ifF hc1038 (by kernel_rfl) ?_
          refine CodeOk.skip ?_
          refine CodeOk.weak (st' := ⟨tl 63 [(2, V.int a2), (8, V.int y327), (58, V.bool (decide ((IntKind.wrap .i64 (a2 - 1)) > (IntKind.wrap .i64 (y517 - y327)))))], []⟩) (Weak.refl _) ?_
          refine CodeOk.cutR (tl 63 [(6, V.int (IntKind.wrap .i64 ((IntKind.wrap .i64 (y327 + a2)) - 1))), (7, V.bool true)]) [] mix (by
              refine W.run D_ok 6 340 (by kernel_rfl) ?_
              exact W.fin (by decide) (by kernel_rfl) (Weak.sel [] [6, 7] (by kernel_rfl) (by kernel_rfl) (by kernel_rfl))
              ) ?_
          refine CodeOk.ret ?_
          have h1023 := Option.some.inj h1023
          subst h1023
          exact Ends.gen [] (.inr rfl) (RetV.two rfl (OneR.tmp (t := 6) (r := V.int (IntKind.wrap .i64 ((IntKind.wrap .i64 (y327 + a2)) - 1))) (by kernel_rfl)) (OneR.tmp (t := 7) (r := V.bool true) (by kernel_rfl))) (by kernel_rfl) (by kernel_rfl) (by kernel_rfl)

theorem m_strings_Count_ok (a0 : List UInt8) {r : Int} (h : m_strings_Count a0 = some r) :
    AC Tryd.prog (GS []) 45 [V.str a0, V.str [10]] [] (V.int r) [] := by
  rw [m_strings_Count] at h
  refine AC.enter Tryd.func45 rfl ?_
  refine CodeOk.cutR (tl 34 [(0, V.str a0), (1, V.str [10])]) [] mix (by
      refine W.run D_ok 1 100 (by kernel_rfl) ?_
      exact W.fin (by decide) (by kernel_rfl) (Weak.sel [] [0, 1] (by kernel_rfl) (by kernel_rfl) (by kernel_rfl))
      ) ?_
  refine CodeOk.seq' ?_
  refine CodeOk.cutR (tl 34 [(0, V.str a0), (1, V.str [10]), (9, V.bool false)]) [] mix (by
      refine W.run D_ok 3 100 (by kernel_rfl) ?_
      exact W.fin (by decide) (by kernel_rfl) (Weak.sel [] [0, 1, 9] (by kernel_rfl) (by kernel_rfl) (by kernel_rfl))
      ) ?_
  refine CodeOk.ifF (c := false) rfl (by kernel_rfl) ?_
  refine CodeOk.skip ?_
  refine CodeOk.weak (st' := ⟨tl 34 [(0, V.str a0), (1, V.str [10]), (9, V.bool false)], []⟩) (Weak.refl _) ?_
  refine CodeOk.seq' ?_
  refine CodeOk.cutR (tl 34 [(0, V.str a0), (1, V.str [10]), (15, V.bool true)]) [] mix (by
      refine W.run D_ok 3 100 (by kernel_rfl) ?_
      exact W.fin (by decide) (by kernel_rfl) (Weak.sel [] [0, 1, 15] (by kernel_rfl) (by kernel_rfl) (by kernel_rfl))
      ) ?_
  refine CodeOk.ifT (c := true) rfl (by kernel_rfl) ?_
  obtain ⟨b4, hx4, h⟩ := bind_some h
  refine CodeOk.cutR (tl 34 [(4, V.int ((Go.Lib.countByte a0 (Int.toNat ((b4).toNat : Int)).toUInt8) : Int))]) [] mix (by
      refine W.run D_ok 2 100 (by kernel_rfl) ?_
      refine W.ixS D_ok hx4 (by kernel_rfl) ?_
      refine W.ext (vs := [.string ⟨⟨a0⟩⟩, .int .u8 ((b4).toNat : Int)]) (ext60 _ _) (by kernel_rfl) ?_
      refine W.run D_ok 1 100 (by kernel_rfl) ?_
      exact W.fin (by decide) (by kernel_rfl) (Weak.sel [] [4] (by kernel_rfl) (by kernel_rfl) (by kernel_rfl))
      ) ?_
  refine CodeOk.ret ?_
  have h := Option.some.inj h
  subst h
  exact Ends.gen [] (.inr rfl) (RetV.one rfl (OneR.tmp (t := 4) (r := V.int ((Go.Lib.countByte a0 (Int.toNat ((b4).toNat : Int)).toUInt8) : Int)) (by kernel_rfl))) (by kernel_rfl) (by kernel_rfl) (by kernel_rfl)

theorem m_stringslite_IndexByte_ok (a0 : List UInt8) (a1 : Int) {r : Int} (h : m_stringslite_IndexByte a0 a1 = some r) :
    AC Tryd.prog (GS []) 95 [V.str a0, .c (.int .u8 a1)] [] (V.int r) [] := by
  rw [m_stringslite_IndexByte] at h
  refine AC.enter Tryd.func95 rfl ?_
  refine CodeOk.cutR (tl 8 [(0, V.str a0), (1, .c (.int .u8 a1))]) [] mix (by
      refine W.run D_ok 1 100 (by kernel_rfl) ?_
      exact W.fin (by decide) (by kernel_rfl) (Weak.sel [] [0, 1] (by kernel_rfl) (by kernel_rfl) (by kernel_rfl))
      ) ?_
  refine CodeOk.cutR (tl 8 [(4, V.int (Go.Lib.indexByte a0 (Int.toNat a1).toUInt8))]) [] mix (by
      refine W.run D_ok 2 100 (by kernel_rfl) ?_
      refine W.ext (vs := [.string ⟨⟨a0⟩⟩, .int .u8 a1]) (ext111 _ _) (by kernel_rfl) ?_
      refine W.run D_ok 1 100 (by kernel_rfl) ?_
      exact W.fin (by decide) (by kernel_rfl) (Weak.sel [] [4] (by kernel_rfl) (by kernel_rfl) (by kernel_rfl))
      ) ?_
  refine CodeOk.ret ?_
  have h := Option.some.inj h
  subst h
  exact Ends.gen [] (.inr rfl) (RetV.one rfl (OneR.tmp (t := 4) (r := V.int (Go.Lib.indexByte a0 (Int.toNat a1).toUInt8)) (by kernel_rfl))) (by kernel_rfl) (by kernel_rfl) (by kernel_rfl)

theorem m_stringslite_Index_ok (a0 : List UInt8) {r : Int} (h : m_stringslite_Index a0 = some r) :
    AC Tryd.prog (GS []) 76 [V.str a0, V.str [10]] [] (V.int r) [] := by
  rw [m_stringslite_Index] at h
  refine AC.enter Tryd.func76 rfl ?_
  refine CodeOk.cutR (tl 143 [(0, V.str a0), (1, V.str [10])]) [] mix (by
      refine W.run D_ok 1 100 (by kernel_rfl) ?_
      exact W.fin (by decide) (by kernel_rfl) (Weak.sel [] [0, 1] (by kernel_rfl) (by kernel_rfl) (by kernel_rfl))
      ) ?_
  refine CodeOk.cutR (tl 143 [(0, V.str a0), (1, V.str [10]), (5, V.int 1)]) [] mix (by
      refine W.run D_ok 3 100 (by kernel_rfl) ?_
      exact W.fin (by decide) (by kernel_rfl) (Weak.sel [] [0, 1, 5] (by kernel_rfl) (by kernel_rfl) (by kernel_rfl))
      ) ?_
  refine CodeOk.seq' ?_
  refine CodeOk.block' ?_
  refine CodeOk.cutR (tl 143 [(0, V.str a0), (1, V.str [10]), (5, V.int 1), (16, V.bool (([10] : List UInt8) == a0))]) [] mix (by
      refine W.run D_ok 8 100 (by kernel_rfl) ?_
      exact W.fin (by decide) (by kernel_rfl) (Weak.sel [] [0, 1, 5, 16] (by kernel_rfl) (by kernel_rfl) (by kernel_rfl))
      ) ?_
  rcases cond_some h with ⟨hc6, h⟩ | ⟨hc6, h⟩
  · refine CodeOk.ifT hc6 (by kernel_rfl) ?_
    refine CodeOk.cutR (tl 143 [(4, V.int 0)]) [] mix (by
        refine W.run D_ok 1 100 (by kernel_rfl) ?_
        exact W.fin (by decide) (by kernel_rfl) (Weak.sel [] [4] (by kernel_rfl) (by kernel_rfl) (by kernel_rfl))
        ) ?_
    refine CodeOk.ret ?_
    have h := Option.some.inj h
    subst h
    exact Ends.gen [] (.inr rfl) (RetV.one rfl (OneR.tmp (t := 4) (r := V.int 0) (by kernel_rfl))) (by kernel_rfl) (by kernel_rfl) (by kernel_rfl)
  · refine CodeOk.ifF hc6 (by kernel_rfl) ?_
    refine CodeOk.cutR (tl 143 [(0, V.str a0), (1, V.str [10]), (5, V.int 1), (24, V.bool true)]) [] mix (by
        refine W.run D_ok 3 100 (by kernel_rfl) ?_
        exact W.fin (by decide) (by kernel_rfl) (Weak.sel [] [0, 1, 5, 24] (by kernel_rfl) (by kernel_rfl) (by kernel_rfl))
        ) ?_
    refine CodeOk.ifT (c := true) rfl (by kernel_rfl) ?_
    obtain ⟨b7, hx9, h⟩ := bind_some h
    obtain ⟨r8, hx10, h⟩ := bind_some h
    refine CodeOk.cutR (tl 143 [(4, V.int r8)]) [] mix (by
        refine W.run D_ok 2 100 (by kernel_rfl) ?_
        refine W.ixS D_ok hx9 (by kernel_rfl) ?_
        refine W.call0 (m_stringslite_IndexByte_ok a0 ((b7).toNat : Int) hx10) cok95 rfl (by kernel_rfl) ?_
        refine W.run D_ok 1 100 (by kernel_rfl) ?_
        exact W.fin (by decide) (by kernel_rfl) (Weak.sel [] [4] (by kernel_rfl) (by kernel_rfl) (by kernel_rfl))
        ) ?_
    refine CodeOk.ret ?_
    have h := Option.some.inj h
    subst h
    exact Ends.gen [] (.inr rfl) (RetV.one rfl (OneR.tmp (t := 4) (r := V.int r8) (by kernel_rfl))) (by kernel_rfl) (by kernel_rfl) (by kernel_rfl)

theorem m_strings_Index_ok (a0 : List UInt8) {r : Int} (h : m_strings_Index a0 = some r) :
    AC Tryd.prog (GS []) 58 [V.str a0, V.str [10]] [] (V.int r) [] := by
  rw [m_strings_Index] at h
  refine AC.enter Tryd.func58 rfl ?_
  refine CodeOk.cutR (tl 8 [(0, V.str a0), (1, V.str [10])]) [] mix (by
      refine W.run D_ok 1 100 (by kernel_rfl) ?_
      exact W.fin (by decide) (by kernel_rfl) (Weak.sel [] [0, 1] (by kernel_rfl) (by kernel_rfl) (by kernel_rfl))
      ) ?_
  obtain ⟨r2, hx2, h⟩ := bind_some h
  refine CodeOk.cutR (tl 8 [(4, V.int r2)]) [] mix (by
      refine W.run D_ok 2 100 (by kernel_rfl) ?_
      refine W.call0 (m_stringslite_Index_ok a0 hx2) cok76 rfl (by kernel_rfl) ?_
      refine W.run D_ok 1 100 (by kernel_rfl) ?_
      exact W.fin (by decide) (by kernel_rfl) (Weak.sel [] [4] (by kernel_rfl) (by kernel_rfl) (by kernel_rfl))
      ) ?_
  refine CodeOk.ret ?_
  have h := Option.some.inj h
  subst h
  exact Ends.gen [] (.inr rfl) (RetV.one rfl (OneR.tmp (t := 4) (r := V.int r2) (by kernel_rfl))) (by kernel_rfl) (by kernel_rfl) (by kernel_rfl)

theorem m_strings_genSplit_ok (N : Nat) (a0 : List UInt8) (a2 : Int) (a3 : Int) {r : (List (List UInt8))} (h : m_strings_genSplit N a0 a2 a3 = some r) :
    AC Tryd.prog (GS []) 43 [V.str a0, V.str [10], V.int a2, V.int a3] [] (.own 100) [(100, .vec false 9 1 (r.map encS))] := by
  rw [m_strings_genSplit] at h
  refine AC.enter Tryd.func43 rfl ?_
  refine CodeOk.cutR (tl 66 [(0, V.str a0), (1, V.str [10]), (2, V.int a2), (3, V.int a3)]) [] mix (by
      refine W.run D_ok 1 100 (by kernel_rfl) ?_
      exact W.fin (by decide) (by kernel_rfl) (Weak.sel [] [0, 1, 2, 3] (by kernel_rfl) (by kernel_rfl) (by kernel_rfl))
      ) ?_
  refine CodeOk.seq' ?_
  refine CodeOk.cutR (tl 66 [(0, V.str a0), (1, V.str [10]), (2, V.int a2), (3, V.int a3), (13, V.bool (a3 == 0))]) [] mix (by
      refine W.run D_ok 2 100 (by kernel_rfl) ?_
      exact W.fin (by decide) (by kernel_rfl) (Weak.sel [] [0, 1, 2, 3, 13] (by kernel_rfl) (by kernel_rfl) (by kernel_rfl))
      ) ?_
  rcases cond_some h with ⟨hc2, h⟩ | ⟨hc2, h⟩
  · refine CodeOk.ifT hc2 (by kernel_rfl) ?_
    refine CodeOk.cutR (tl 66 [(8, .c (.slice none 0 0))]) [] mix (by
        refine W.run D_ok 1 100 (by kernel_rfl) ?_
        exact W.fin (by decide) (by kernel_rfl) (Weak.sel [] [8] (by kernel_rfl) (by kernel_rfl) (by kernel_rfl))
        ) ?_
    refine CodeOk.weak (Weak.nil 8 100 9 1 (by kernel_rfl) (by kernel_rfl)) ?_
    refine CodeOk.ret ?_
    have h := Option.some.inj h
    subst h
    exact Ends.gen [(100, 100)] (.inr rfl) (RetV.one rfl (OneR.tmp (t := 8) (r := .own 100) (by kernel_rfl))) (by kernel_rfl) (by kernel_rfl) (by kernel_rfl)
  · refine CodeOk.ifF hc2 (by kernel_rfl) ?_
    refine CodeOk.skip ?_
    refine CodeOk.weak (st' := ⟨tl 66 [(0, V.str a0), (1, V.str [10]), (2, V.int a2), (3, V.int a3), (13, V.bool (a3 == 0))], []⟩) (Weak.refl _) ?_
    refine CodeOk.seq' ?_
    refine CodeOk.cutR (tl 66 [(0, V.str a0), (1, V.str [10]), (2, V.int a2), (3, V.int a3), (15, V.bool false)]) [] mix (by
        refine W.run D_ok 2 100 (by kernel_rfl) ?_
        exact W.fin (by decide) (by kernel_rfl) (Weak.sel [] [0, 1, 2, 3, 15] (by kernel_rfl) (by kernel_rfl) (by kernel_rfl))
        ) ?_
    refine CodeOk.ifF (c := false) rfl (by kernel_rfl) ?_
    refine CodeOk.skip ?_
    refine CodeOk.weak (st' := ⟨tl 66 [(0, V.str a0), (1, V.str [10]), (2, V.int a2), (3, V.int a3), (15, V.bool false)], []⟩) (Weak.refl _) ?_
    refine CodeOk.join (fun (⟨a0, a2, y3⟩ : ((List UInt8) × Int × Int)) => ⟨tl 66 [(0, V.str a0), (1, V.str [10]), (2, V.int a2), (3, V.int y3)], []⟩) (fun i => m_strings_genSplit_k1 N i = some r) ?_ ?_
    · rintro ⟨a0, a2, y3⟩ h6
      rw [m_strings_genSplit_k1] at h6
      refine CodeOk.cutR (tl 66 [(0, V.str a0), (1, V.str [10]), (2, V.int a2), (3, V.int (if (IntKind.wrap .i64 ((a0.length : Int) + 1)) < y3 then (IntKind.wrap .i64 ((a0.length : Int) + 1)) else y3))]) [] mix (by
          refine W.run D_ok 6 100 (by kernel_rfl) ?_
          exact W.fin (by decide) (by kernel_rfl) (Weak.sel [] [0, 1, 2, 3] (by kernel_rfl) (by kernel_rfl) (by kernel_rfl))
          ) ?_
      obtain ⟨x5, hx8, h6⟩ := bind_some h6
      refine CodeOk.cutR (tl 66 [(0, V.str a0), (1, V.str [10]), (2, V.int a2), (3, V.int (if (IntKind.wrap .i64 ((a0.length : Int) + 1)) < y3 then (IntKind.wrap .i64 ((a0.length : Int) + 1)) else y3)), (9, .own 100)]) [(100, .vec false 9 1 (x5.map encS))] mix (by
          refine W.run D_ok 1 100 (by kernel_rfl) ?_
          refine W.mk D_ok encS 16 hx8 100 9 1 [.string ⟨#[]⟩] (by kernel_rfl) (by kernel_rfl) ?_
          refine W.run D_ok 1 101 (by kernel_rfl) ?_
          exact W.fin (by decide) (by kernel_rfl) (Weak.sel [(100, 100)] [0, 1, 2, 3, 9] (by kernel_rfl) (by kernel_rfl) (by kernel_rfl))
          ) ?_
      refine CodeOk.cutR (tl 66 [(0, V.str a0), (1, V.str [10]), (2, V.int a2), (3, V.int (IntKind.wrap .i64 ((if (IntKind.wrap .i64 ((a0.length : Int) + 1)) < y3 then (IntKind.wrap .i64 ((a0.length : Int) + 1)) else y3) - 1))), (9, .own 100)]) [(100, .vec false 9 1 (x5.map encS))] mix (by
          refine W.run D_ok 3 101 (by kernel_rfl) ?_
          exact W.fin (by decide) (by kernel_rfl) (Weak.sel [(100, 100)] [0, 1, 2, 3, 9] (by kernel_rfl) (by kernel_rfl) (by kernel_rfl))
          ) ?_
      refine CodeOk.cutR (tl 66 [(0, V.str a0), (1, V.str [10]), (2, V.int a2), (3, V.int (IntKind.wrap .i64 ((if (IntKind.wrap .i64 ((a0.length : Int) + 1)) < y3 then (IntKind.wrap .i64 ((a0.length : Int) + 1)) else y3) - 1))), (9, .own 100), (10, V.int 0)]) [(100, .vec false 9 1 (x5.map encS))] mix (by
          refine W.run D_ok 1 101 (by kernel_rfl) ?_
          exact W.fin (by decide) (by kernel_rfl) (Weak.sel [(100, 100)] [0, 1, 2, 3, 9, 10] (by kernel_rfl) (by kernel_rfl) (by kernel_rfl))
          ) ?_
      refine CodeOk.join (fun (⟨y16, y17, y18⟩ : ((List UInt8) × Int × (List (List UInt8)))) => ⟨tl 66 [(0, V.str y16), (9, .own 100), (10, V.int y17)], [(100, .vec false 9 1 (y18.map encS))]⟩) (fun i => m_strings_genSplit_k2 N i = some r) ?_ ?_
      · rintro ⟨y16, y17, y18⟩ h53
        rw [m_strings_genSplit_k2] at h53
        obtain ⟨e44, hx56, h53⟩ := bind_some h53
        obtain ⟨x45, hu57, h53⟩ := bind_some h53
        refine CodeOk.cutR (tl 66 [(9, .own 100), (10, V.int y17)]) [(100, .vec false 9 1 (x45.map encS))] mix (by
            refine W.run D_ok 3 161 (by kernel_rfl) ?_
            refine W.ixO D_ok encS hx56 100 1 (by kernel_rfl) ?_
            refine W.stO D_ok encS (x' := y16) hx56 hu57 (j := 100) (nn := false) (ety := 9) (sz := 1) (b := 0) (ys := [V.str y16]) (C := []) (R := []) (by kernel_rfl) (by kernel_rfl) ?_
            exact W.fin (by decide) (by kernel_rfl) (Weak.sel [(100, 100)] [9, 10] (by kernel_rfl) (by kernel_rfl) (by kernel_rfl))
            ) ?_
        obtain ⟨l47, hx59, h53⟩ := bind_some h53
        refine CodeOk.cutR (tl 66 [(8, .own 161)]) [(161, .vec false 9 1 (l47.map encS))] mix (by
            refine W.run D_ok 3 161 (by kernel_rfl) ?_
            refine W.cutO D_ok encS hx59 161 (j := 100) (el := 9) (sz := 1) (by kernel_rfl) ?_
            refine W.run D_ok 1 162 (by kernel_rfl) ?_
            exact W.fin (by decide) (by kernel_rfl) (Weak.sel [(161, 161)] [8] (by kernel_rfl) (by kernel_rfl) (by kernel_rfl))
            ) ?_
        refine CodeOk.ret ?_
        have h53 := Option.some.inj h53
        subst h53
        exact Ends.gen [(161, 100)] (.inr rfl) (RetV.one rfl (OneR.tmp (t := 8) (r := .own 161) (by kernel_rfl))) (by kernel_rfl) (by kernel_rfl) (by kernel_rfl)
      intro hk60
      refine CodeOk.block' ?_
      refine CodeOk.loopJ (fun (⟨a2, a0, y3, y58, y59, y60⟩ : (Int × (List UInt8) × Int × (List UInt8) × Int × (List (List UInt8)))) => ⟨tl 66 [(0, V.str y58), (1, V.str [10]), (2, V.int a2), (3, V.int (IntKind.wrap .i64 ((if (IntKind.wrap .i64 ((a0.length : Int) + 1)) < y3 then (IntKind.wrap .i64 ((a0.length : Int) + 1)) else y3) - 1))), (9, .own 100), (10, V.int y59)], [(100, .vec false 9 1 (y60.map encS))]⟩) (fun n i => m_strings_genSplit_l3 N n i = some r) (n0 := N) (i0 := (a2, a0, y3, a0, 0, x5)) (Weak.sel [(100, 100)] [0, 1, 2, 3, 9, 10] (by kernel_rfl) (by kernel_rfl) (by kernel_rfl)) h6 (fun i h => by simp [m_strings_genSplit_l3] at h) ?_
      rintro n3 ⟨a2, a0, y3, y58, y59, y60⟩ h89 ih90
      rw [m_strings_genSplit_l3] at h89
      refine CodeOk.seq' ?_
      refine CodeOk.cutR (tl 66 [(0, V.str y58), (1, V.str [10]), (2, V.int a2), (3, V.int (IntKind.wrap .i64 ((if (IntKind.wrap .i64 ((a0.length : Int) + 1)) < y3 then (IntKind.wrap .i64 ((a0.length : Int) + 1)) else y3) - 1))), (9, .own 100), (10, V.int y59), (36, V.bool (decide (y59 < (IntKind.wrap .i64 ((if (IntKind.wrap .i64 ((a0.length : Int) + 1)) < y3 then (IntKind.wrap .i64 ((a0.length : Int) + 1)) else y3) - 1)))))]) [(100, .vec false 9 1 (y60.map encS))] mix (by
          refine W.run D_ok 3 161 (by kernel_rfl) ?_
          exact W.fin (by decide) (by kernel_rfl) (Weak.sel [(100, 100)] [0, 1, 2, 3, 9, 10, 36] (by kernel_rfl) (by kernel_rfl) (by kernel_rfl))
          ) ?_
      rcases cond_some h89 with ⟨hc92, h89⟩ | ⟨hc92, h89⟩
      · refine CodeOk.ifT hc92 (by kernel_rfl) ?_
        refine CodeOk.skip ?_
        refine CodeOk.weak (st' := ⟨tl 66 [(0, V.str y58), (1, V.str [10]), (2, V.int a2), (3, V.int (IntKind.wrap .i64 ((if (IntKind.wrap .i64 ((a0.length : Int) + 1)) < y3 then (IntKind.wrap .i64 ((a0.length : Int) + 1)) else y3) - 1))), (9, .own 100), (10, V.int y59), (36, V.bool (decide (y59 < (IntKind.wrap .i64 ((if (IntKind.wrap .i64 ((a0.length : Int) + 1)) < y3 then (IntKind.wrap .i64 ((a0.length : Int) + 1)) else y3) - 1)))))], [(100, .vec false 9 1 (y60.map encS))]⟩) (Weak.refl _) ?_
        refine CodeOk.block' ?_
        obtain ⟨r75, hx94, h89⟩ := bind_some h89
        refine CodeOk.cutR (tl 66 [(0, V.str y58), (1, V.str [10]), (2, V.int a2), (3, V.int (IntKind.wrap .i64 ((if (IntKind.wrap .i64 ((a0.length : Int) + 1)) < y3 then (IntKind.wrap .i64 ((a0.length : Int) + 1)) else y3) - 1))), (9, .own 100), (10, V.int y59), (11, V.int r75)]) [(100, .vec false 9 1 (y60.map encS))] mix (by
            refine W.run D_ok 2 161 (by kernel_rfl) ?_
            refine W.call0 (m_strings_Index_ok y58 hx94) cok58 rfl (by kernel_rfl) ?_
            refine W.run D_ok 1 161 (by kernel_rfl) ?_
            exact W.fin (by decide) (by kernel_rfl) (Weak.sel [(100, 100)] [0, 1, 2, 3, 9, 10, 11] (by kernel_rfl) (by kernel_rfl) (by kernel_rfl))
            ) ?_
        refine CodeOk.seq' ?_
        refine CodeOk.cutR (tl 66 [(0, V.str y58), (1, V.str [10]), (2, V.int a2), (3, V.int (IntKind.wrap .i64 ((if (IntKind.wrap .i64 ((a0.length : Int) + 1)) < y3 then (IntKind.wrap .i64 ((a0.length : Int) + 1)) else y3) - 1))), (9, .own 100), (10, V.int y59), (11, V.int r75), (41, V.bool (decide (r75 < 0)))]) [(100, .vec false 9 1 (y60.map encS))] mix (by
            refine W.run D_ok 2 161 (by kernel_rfl) ?_
            exact W.fin (by decide) (by kernel_rfl) (Weak.sel [(100, 100)] [0, 1, 2, 3, 9, 10, 11, 41] (by kernel_rfl) (by kernel_rfl) (by kernel_rfl))
            ) ?_
        rcases cond_some h89 with ⟨hc96, h89⟩ | ⟨hc96, h89⟩
        · refine CodeOk.ifT hc96 (by kernel_rfl) ?_
          refine CodeOk.exit ?_
          exact hk60 (y58, y59, y60) h89 _ (Weak.sel [(100, 100)] [0, 9, 10] (by kernel_rfl) (by kernel_rfl) (by kernel_rfl))
        · refine CodeOk.ifF hc96 (by kernel_rfl) ?_
          refine CodeOk.skip ?_
          refine CodeOk.weak (st' := ⟨tl 66 [(0, V.str y58), (1, V.str [10]), (2, V.int a2), (3, V.int (IntKind.wrap .i64 ((if (IntKind.wrap .i64 ((a0.length : Int) + 1)) < y3 then (IntKind.wrap .i64 ((a0.length : Int) + 1)) else y3) - 1))), (9, .own 100), (10, V.int y59), (11, V.int r75), (41, V.bool (decide (r75 < 0)))], [(100, .vec false 9 1 (y60.map encS))]⟩) (Weak.refl _) ?_
          obtain ⟨s79, hx100, h89⟩ := bind_some h89
          obtain ⟨e80, hx101, h89⟩ := bind_some h89
          obtain ⟨x81, hu102, h89⟩ := bind_some h89
          refine CodeOk.cutR (tl 66 [(0, V.str y58), (1, V.str [10]), (2, V.int a2), (3, V.int (IntKind.wrap .i64 ((if (IntKind.wrap .i64 ((a0.length : Int) + 1)) < y3 then (IntKind.wrap .i64 ((a0.length : Int) + 1)) else y3) - 1))), (9, .own 100), (10, V.int y59), (11, V.int r75)]) [(100, .vec false 9 1 (x81.map encS))] mix (by
              refine W.run D_ok 6 161 (by kernel_rfl) ?_
              refine W.cutS D_ok hx100 (by kernel_rfl) ?_
              refine W.ixO D_ok encS hx101 100 1 (by kernel_rfl) ?_
              refine W.stO D_ok encS (x' := s79) hx101 hu102 (j := 100) (nn := false) (ety := 9) (sz := 1) (b := 0) (ys := [V.str s79]) (C := []) (R := []) (by kernel_rfl) (by kernel_rfl) ?_
              exact W.fin (by decide) (by kernel_rfl) (Weak.sel [(100, 100)] [0, 1, 2, 3, 9, 10, 11] (by kernel_rfl) (by kernel_rfl) (by kernel_rfl))
              ) ?_
          obtain ⟨s83, hx104, h89⟩ := bind_some h89
          refine CodeOk.cutR (tl 66 [(0, V.str s83), (1, V.str [10]), (2, V.int a2), (3, V.int (IntKind.wrap .i64 ((if (IntKind.wrap .i64 ((a0.length : Int) + 1)) < y3 then (IntKind.wrap .i64 ((a0.length : Int) + 1)) else y3) - 1))), (9, .own 100), (10, V.int y59)]) [(100, .vec false 9 1 (x81.map encS))] mix (by
              refine W.run D_ok 5 161 (by kernel_rfl) ?_
              refine W.cutS D_ok hx104 (by kernel_rfl) ?_
              refine W.run D_ok 1 161 (by kernel_rfl) ?_
              exact W.fin (by decide) (by kernel_rfl) (Weak.sel [(100, 100)] [0, 1, 2, 3, 9, 10] (by kernel_rfl) (by kernel_rfl) (by kernel_rfl))
              ) ?_
          refine CodeOk.endR (tl 66 [(0, V.str s83), (1, V.str [10]), (2, V.int a2), (3, V.int (IntKind.wrap .i64 ((if (IntKind.wrap .i64 ((a0.length : Int) + 1)) < y3 then (IntKind.wrap .i64 ((a0.length : Int) + 1)) else y3) - 1))), (9, .own 100), (10, V.int (IntKind.wrap .i64 (y59 + 1)))]) [(100, .vec false 9 1 (x81.map encS))] mix (by
              refine W.run D_ok 3 161 (by kernel_rfl) ?_
              exact W.fin (by decide) (by kernel_rfl) (Weak.sel [(100, 100)] [0, 1, 2, 3, 9, 10] (by kernel_rfl) (by kernel_rfl) (by kernel_rfl))
              ) (fun st hw => ?_)
          exact ih90 (a2, a0, y3, s83, (IntKind.wrap .i64 (y59 + 1)), x81) h89 _ (hw.trans (Weak.sel [(100, 100)] [0, 1, 2, 3, 9, 10] (by kernel_rfl) (by kernel_rfl) (by kernel_rfl)))
      · refine CodeOk.ifF hc92 (by kernel_rfl) ?_
        refine CodeOk.exit ?_
        exact hk60 (y58, y59, y60) h89 _ (Weak.sel [(100, 100)] [0, 9, 10] (by kernel_rfl) (by kernel_rfl) (by kernel_rfl))
    intro hk105
    refine CodeOk.cutR (tl 66 [(0, V.str a0), (1, V.str [10]), (2, V.int a2), (3, V.int a3), (20, V.bool (decide (a3 < 0)))]) [] mix (by
        refine W.run D_ok 2 100 (by kernel_rfl) ?_
        exact W.fin (by decide) (by kernel_rfl) (Weak.sel [] [0, 1, 2, 3, 20] (by kernel_rfl) (by kernel_rfl) (by kernel_rfl))
        ) ?_
    rcases cond_some h with ⟨hc106, h⟩ | ⟨hc106, h⟩
    · refine CodeOk.ifT hc106 (by kernel_rfl) ?_
      obtain ⟨r85, hx108, h⟩ := bind_some h
      refine CodeOk.endR (tl 66 [(0, V.str a0), (1, V.str [10]), (2, V.int a2), (3, V.int (IntKind.wrap .i64 (r85 + 1)))]) [] mix (by
          refine W.run D_ok 2 100 (by kernel_rfl) ?_
          refine W.call0 (m_strings_Count_ok a0 hx108) cok45 rfl (by kernel_rfl) ?_
          refine W.run D_ok 2 100 (by kernel_rfl) ?_
          exact W.fin (by decide) (by kernel_rfl) (Weak.sel [] [0, 1, 2, 3] (by kernel_rfl) (by kernel_rfl) (by kernel_rfl))
          ) (fun st hw => ?_)
      exact hk105 (a0, a2, (IntKind.wrap .i64 (r85 + 1))) h _ (hw.trans (Weak.sel [] [0, 1, 2, 3] (by kernel_rfl) (by kernel_rfl) (by kernel_rfl)))
    · refine CodeOk.ifF hc106 (by kernel_rfl) ?_
      refine CodeOk.skip ?_
      exact hk105 (a0, a2, a3) h _ (Weak.sel [] [0, 1, 2, 3] (by kernel_rfl) (by kernel_rfl) (by kernel_rfl))

theorem m_strings_Split_ok (N : Nat) (a0 : List UInt8) {r : (List (List UInt8))} (h : m_strings_Split N a0 = some r) :
    AC Tryd.prog (GS []) 29 [V.str a0, V.str [10]] [] (.own 100) [(100, .vec false 9 1 (r.map encS))] := by
  rw [m_strings_Split] at h
  refine AC.enter Tryd.func29 rfl ?_
  refine CodeOk.cutR (tl 8 [(0, V.str a0), (1, V.str [10])]) [] mix (by
      refine W.run D_ok 1 100 (by kernel_rfl) ?_
      exact W.fin (by decide) (by kernel_rfl) (Weak.sel [] [0, 1] (by kernel_rfl) (by kernel_rfl) (by kernel_rfl))
      ) ?_
  obtain ⟨r2, hx2, h⟩ := bind_some h
  refine CodeOk.cutR (tl 8 [(4, .own 100)]) [(100, .vec false 9 1 (r2.map encS))] mix (by
      refine W.run D_ok 2 100 (by kernel_rfl) ?_
      refine W.call (m_strings_genSplit_ok N a0 0 (-1) hx2) cok43 [] [(100, 100)] [100] (show LayOk _ [] from trivial) (by kernel_rfl) (by kernel_rfl) ?_
      refine W.run D_ok 1 101 (by kernel_rfl) ?_
      exact W.fin (by decide) (by kernel_rfl) (Weak.sel [(100, 100)] [4] (by kernel_rfl) (by kernel_rfl) (by kernel_rfl))
      ) ?_
  refine CodeOk.ret ?_
  have h := Option.some.inj h
  subst h
  exact Ends.gen [(100, 100)] (.inr rfl) (RetV.one rfl (OneR.tmp (t := 4) (r := .own 100) (by kernel_rfl))) (by kernel_rfl) (by kernel_rfl) (by kernel_rfl)

end Go.Proofs.Tryd
