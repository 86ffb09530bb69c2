/-
  The walks that show that the code computes the models, part 1.
-/
import Derived.Test.YtkfpmbinifaakaaDoorM1
namespace Go.Proofs.Tryd
open Go.Av
set_option maxRecDepth 100000

theorem ext136 (s : List UInt8) (c : Int) (w : World) : (callFunc 136 #[.string ⟨⟨s⟩⟩, .int .u8 c]).run Tryd.prog w = .ok (.value (.int .i64 (Go.Lib.indexByte s c.toNat.toUInt8))) w := by
  rw [run_callFunc_extern Tryd.func136 (by kernel_rfl) rfl (by kernel_rfl) (by kernel_rfl)]
  rw [show _ = _ from Go.Lib.run_indexByteString ⟨⟨s⟩⟩ c w]
  rfl

theorem cok3 : callOk Tryd.prog 3 := fun _ _ => Tryd.call3 _ _
theorem cok4 : callOk Tryd.prog 4 := fun _ _ => Tryd.call4 _ _
theorem cok6 : callOk Tryd.prog 6 := fun _ _ => Tryd.call6 _ _
theorem cok7 : callOk Tryd.prog 7 := fun _ _ => Tryd.call7 _ _
theorem cok8 : callOk Tryd.prog 8 := fun _ _ => Tryd.call8 _ _
theorem cok9 : callOk Tryd.prog 9 := fun _ _ => Tryd.call9 _ _
theorem cok10 : callOk Tryd.prog 10 := fun _ _ => Tryd.call10 _ _
theorem cok11 : callOk Tryd.prog 11 := fun _ _ => Tryd.call11 _ _
theorem cok12 : callOk Tryd.prog 12 := fun _ _ => Tryd.call12 _ _
theorem cok13 : callOk Tryd.prog 13 := fun _ _ => Tryd.call13 _ _
theorem cok14 : callOk Tryd.prog 14 := fun _ _ => Tryd.call14 _ _
theorem cok15 : callOk Tryd.prog 15 := fun _ _ => Tryd.call15 _ _
theorem cok21 : callOk Tryd.prog 21 := fun _ _ => Tryd.call21 _ _
theorem cok22 : callOk Tryd.prog 22 := fun _ _ => Tryd.call22 _ _
theorem cok23 : callOk Tryd.prog 23 := fun _ _ => Tryd.call23 _ _
theorem cok24 : callOk Tryd.prog 24 := fun _ _ => Tryd.call24 _ _
theorem cok25 : callOk Tryd.prog 25 := fun _ _ => Tryd.call25 _ _
theorem cok26 : callOk Tryd.prog 26 := fun _ _ => Tryd.call26 _ _
theorem cok27 : callOk Tryd.prog 27 := fun _ _ => Tryd.call27 _ _
theorem cok28 : callOk Tryd.prog 28 := fun _ _ => Tryd.call28 _ _
theorem cok29 : callOk Tryd.prog 29 := fun _ _ => Tryd.call29 _ _
theorem cok30 : callOk Tryd.prog 30 := fun _ _ => Tryd.call30 _ _
theorem cok31 : callOk Tryd.prog 31 := fun _ _ => Tryd.call31 _ _
theorem cok32 : callOk Tryd.prog 32 := fun _ _ => Tryd.call32 _ _
theorem cok33 : callOk Tryd.prog 33 := fun _ _ => Tryd.call33 _ _
theorem cok34 : callOk Tryd.prog 34 := fun _ _ => Tryd.call34 _ _
theorem cok35 : callOk Tryd.prog 35 := fun _ _ => Tryd.call35 _ _
theorem cok44 : callOk Tryd.prog 44 := fun _ _ => Tryd.call44 _ _
theorem cok45 : callOk Tryd.prog 45 := fun _ _ => Tryd.call45 _ _
theorem cok46 : callOk Tryd.prog 46 := fun _ _ => Tryd.call46 _ _
theorem cok47 : callOk Tryd.prog 47 := fun _ _ => Tryd.call47 _ _
theorem cok48 : callOk Tryd.prog 48 := fun _ _ => Tryd.call48 _ _
theorem cok49 : callOk Tryd.prog 49 := fun _ _ => Tryd.call49 _ _
theorem cok50 : callOk Tryd.prog 50 := fun _ _ => Tryd.call50 _ _
theorem cok51 : callOk Tryd.prog 51 := fun _ _ => Tryd.call51 _ _
theorem cok52 : callOk Tryd.prog 52 := fun _ _ => Tryd.call52 _ _
theorem cok53 : callOk Tryd.prog 53 := fun _ _ => Tryd.call53 _ _
theorem cok54 : callOk Tryd.prog 54 := fun _ _ => Tryd.call54 _ _
theorem cok55 : callOk Tryd.prog 55 := fun _ _ => Tryd.call55 _ _
theorem cok68 : callOk Tryd.prog 68 := fun _ _ => Tryd.call68 _ _
theorem cok69 : callOk Tryd.prog 69 := fun _ _ => Tryd.call69 _ _
theorem cok70 : callOk Tryd.prog 70 := fun _ _ => Tryd.call70 _ _
theorem cok71 : callOk Tryd.prog 71 := fun _ _ => Tryd.call71 _ _
theorem cok72 : callOk Tryd.prog 72 := fun _ _ => Tryd.call72 _ _
theorem cok73 : callOk Tryd.prog 73 := fun _ _ => Tryd.call73 _ _
theorem cok74 : callOk Tryd.prog 74 := fun _ _ => Tryd.call74 _ _
theorem cok75 : callOk Tryd.prog 75 := fun _ _ => Tryd.call75 _ _
theorem cok76 : callOk Tryd.prog 76 := fun _ _ => Tryd.call76 _ _
theorem cok77 : callOk Tryd.prog 77 := fun _ _ => Tryd.call77 _ _
theorem cok78 : callOk Tryd.prog 78 := fun _ _ => Tryd.call78 _ _
theorem cok79 : callOk Tryd.prog 79 := fun _ _ => Tryd.call79 _ _
theorem cok80 : callOk Tryd.prog 80 := fun _ _ => Tryd.call80 _ _
theorem cok81 : callOk Tryd.prog 81 := fun _ _ => Tryd.call81 _ _
theorem cok82 : callOk Tryd.prog 82 := fun _ _ => Tryd.call82 _ _
theorem cok83 : callOk Tryd.prog 83 := fun _ _ => Tryd.call83 _ _
theorem cok84 : callOk Tryd.prog 84 := fun _ _ => Tryd.call84 _ _
theorem cok85 : callOk Tryd.prog 85 := fun _ _ => Tryd.call85 _ _
theorem cok86 : callOk Tryd.prog 86 := fun _ _ => Tryd.call86 _ _
theorem cok87 : callOk Tryd.prog 87 := fun _ _ => Tryd.call87 _ _
theorem cok88 : callOk Tryd.prog 88 := fun _ _ => Tryd.call88 _ _
theorem cok89 : callOk Tryd.prog 89 := fun _ _ => Tryd.call89 _ _
theorem cok90 : callOk Tryd.prog 90 := fun _ _ => Tryd.call90 _ _
theorem cok91 : callOk Tryd.prog 91 := fun _ _ => Tryd.call91 _ _
theorem cok92 : callOk Tryd.prog 92 := fun _ _ => Tryd.call92 _ _
theorem cok93 : callOk Tryd.prog 93 := fun _ _ => Tryd.call93 _ _
theorem cok94 : callOk Tryd.prog 94 := fun _ _ => Tryd.call94 _ _
theorem cok111 : callOk Tryd.prog 111 := fun _ _ => Tryd.call111 _ _
theorem cok112 : callOk Tryd.prog 112 := fun _ _ => Tryd.call112 _ _
theorem cok113 : callOk Tryd.prog 113 := fun _ _ => Tryd.call113 _ _
theorem cok114 : callOk Tryd.prog 114 := fun _ _ => Tryd.call114 _ _
theorem cok115 : callOk Tryd.prog 115 := fun _ _ => Tryd.call115 _ _
theorem cok116 : callOk Tryd.prog 116 := fun _ _ => Tryd.call116 _ _
theorem cok117 : callOk Tryd.prog 117 := fun _ _ => Tryd.call117 _ _
theorem cok118 : callOk Tryd.prog 118 := fun _ _ => Tryd.call118 _ _
theorem cok119 : callOk Tryd.prog 119 := fun _ _ => Tryd.call119 _ _
theorem cok120 : callOk Tryd.prog 120 := fun _ _ => Tryd.call120 _ _
theorem cok121 : callOk Tryd.prog 121 := fun _ _ => Tryd.call121 _ _
theorem cok122 : callOk Tryd.prog 122 := fun _ _ => Tryd.call122 _ _
theorem cok123 : callOk Tryd.prog 123 := fun _ _ => Tryd.call123 _ _
theorem cok124 : callOk Tryd.prog 124 := fun _ _ => Tryd.call124 _ _
theorem cok125 : callOk Tryd.prog 125 := fun _ _ => Tryd.call125 _ _
theorem cok126 : callOk Tryd.prog 126 := fun _ _ => Tryd.call126 _ _
theorem cok127 : callOk Tryd.prog 127 := fun _ _ => Tryd.call127 _ _
theorem cok128 : callOk Tryd.prog 128 := fun _ _ => Tryd.call128 _ _
theorem cok134 : callOk Tryd.prog 134 := fun _ _ => Tryd.call134 _ _
theorem cok135 : callOk Tryd.prog 135 := fun _ _ => Tryd.call135 _ _
theorem cok137 : callOk Tryd.prog 137 := fun _ _ => Tryd.call137 _ _

theorem m_laws_szToken_ok (a0 : SToken) (a1 : Int) {r : Int} (h : m_laws_szToken a0 a1 = some r) :
    AC Tryd.prog (GS []) 21 [.agg [V.int a0.Kind, V.str a0.Text, V.int a0.At], V.int a1] [] (V.int r) [] := by
  rw [m_laws_szToken] at h
  refine AC.enter Tryd.func21 rfl ?_
  refine CodeOk.cutR (tl 13 [(1, V.int a1), (2, .loc 100 0)]) [(100, .cells 45 [V.int a0.Kind, V.str a0.Text, V.int a0.At])] mix (by
      refine W.run D_ok 2 100 (by kernel_rfl) ?_
      exact W.fin (by decide) (by kernel_rfl) (Weak.sel [(100, 100)] [1, 2] (by kernel_rfl) (by kernel_rfl) (by kernel_rfl))
      ) ?_
  refine CodeOk.cutR (tl 13 [(1, V.int (IntKind.wrap .i64 (a1 - (a0.Text.length : Int))))]) [] mix (by
      refine W.run D_ok 6 101 (by kernel_rfl) ?_
      exact W.fin (by decide) (by kernel_rfl) (Weak.sel [] [1] (by kernel_rfl) (by kernel_rfl) (by kernel_rfl))
      ) ?_
  refine CodeOk.seq' ?_
  refine CodeOk.cutR (tl 13 [(1, V.int (IntKind.wrap .i64 (a1 - (a0.Text.length : Int)))), (11, V.bool (decide ((IntKind.wrap .i64 (a1 - (a0.Text.length : Int))) < 0)))]) [] mix (by
      refine W.run D_ok 2 101 (by kernel_rfl) ?_
      exact W.fin (by decide) (by kernel_rfl) (Weak.sel [] [1, 11] (by kernel_rfl) (by kernel_rfl) (by kernel_rfl))
      ) ?_
  rcases cond_some h with ⟨hc2, h⟩ | ⟨hc2, h⟩
  · refine CodeOk.ifT hc2 (by kernel_rfl) ?_
    refine CodeOk.cutR (tl 13 [(4, V.int (-1))]) [] mix (by
        refine W.run D_ok 1 101 (by kernel_rfl) ?_
        exact W.fin (by decide) (by kernel_rfl) (Weak.sel [] [4] (by kernel_rfl) (by kernel_rfl) (by kernel_rfl))
        ) ?_
    refine CodeOk.ret ?_
    have h := Option.some.inj h
    subst h
    exact Ends.gen [] (.inr rfl) (RetV.one rfl (OneR.tmp (t := 4) (r := V.int (-1)) (by kernel_rfl))) (by kernel_rfl) (by kernel_rfl) (by kernel_rfl)
  · refine CodeOk.ifF hc2 (by kernel_rfl) ?_
    refine CodeOk.skip ?_
    refine CodeOk.weak (st' := ⟨tl 13 [(1, V.int (IntKind.wrap .i64 (a1 - (a0.Text.length : Int)))), (11, V.bool (decide ((IntKind.wrap .i64 (a1 - (a0.Text.length : Int))) < 0)))], []⟩) (Weak.refl _) ?_
    refine CodeOk.cutR (tl 13 [(4, V.int (IntKind.wrap .i64 (a1 - (a0.Text.length : Int))))]) [] mix (by
        refine W.run D_ok 2 101 (by kernel_rfl) ?_
        exact W.fin (by decide) (by kernel_rfl) (Weak.sel [] [4] (by kernel_rfl) (by kernel_rfl) (by kernel_rfl))
        ) ?_
    refine CodeOk.ret ?_
    have h := Option.some.inj h
    subst h
    exact Ends.gen [] (.inr rfl) (RetV.one rfl (OneR.tmp (t := 4) (r := V.int (IntKind.wrap .i64 (a1 - (a0.Text.length : Int)))) (by kernel_rfl))) (by kernel_rfl) (by kernel_rfl) (by kernel_rfl)

theorem m_laws_szTokenS_ok (N : Nat) (a0 : List SToken) (a1 : Int) {r : Int} (h : m_laws_szTokenS N a0 a1 = some r) :
    AC Tryd.prog (GS []) 6 [.sl false false (a0.map encSToken), V.int a1] [] (V.int r) [] := by
  rw [m_laws_szTokenS] at h
  refine AC.enter Tryd.func6 rfl ?_
  refine CodeOk.cutR (tl 27 [(0, .sl false false (a0.map encSToken)), (1, V.int a1)]) [] mix (by
      refine W.run D_ok 1 100 (by kernel_rfl) ?_
      exact W.fin (by decide) (by kernel_rfl) (Weak.sel [] [0, 1] (by kernel_rfl) (by kernel_rfl) (by kernel_rfl))
      ) ?_
  refine CodeOk.cutR (tl 27 [(0, .sl false false (a0.map encSToken)), (1, V.int (IntKind.wrap .i64 (a1 - (a0.length : Int))))]) [] mix (by
      refine W.run D_ok 2 100 (by kernel_rfl) ?_
      refine W.len D_ok encSToken a0 [] (by kernel_rfl) (by kernel_rfl) ?_
      refine W.run D_ok 2 100 (by kernel_rfl) ?_
      exact W.fin (by decide) (by kernel_rfl) (Weak.sel [] [0, 1] (by kernel_rfl) (by kernel_rfl) (by kernel_rfl))
      ) ?_
  refine CodeOk.seq' ?_
  refine CodeOk.cutR (tl 27 [(0, .sl false false (a0.map encSToken)), (1, V.int (IntKind.wrap .i64 (a1 - (a0.length : Int)))), (11, V.bool (decide ((IntKind.wrap .i64 (a1 - (a0.length : Int))) < 0)))]) [] mix (by
      refine W.run D_ok 2 100 (by kernel_rfl) ?_
      exact W.fin (by decide) (by kernel_rfl) (Weak.sel [] [0, 1, 11] (by kernel_rfl) (by kernel_rfl) (by kernel_rfl))
      ) ?_
  rcases cond_some h with ⟨hc2, h⟩ | ⟨hc2, h⟩
  · refine CodeOk.ifT hc2 (by kernel_rfl) ?_
    refine CodeOk.cutR (tl 27 [(4, V.int (-1))]) [] mix (by
        refine W.run D_ok 1 100 (by kernel_rfl) ?_
        exact W.fin (by decide) (by kernel_rfl) (Weak.sel [] [4] (by kernel_rfl) (by kernel_rfl) (by kernel_rfl))
        ) ?_
    refine CodeOk.ret ?_
    have h := Option.some.inj h
    subst h
    exact Ends.gen [] (.inr rfl) (RetV.one rfl (OneR.tmp (t := 4) (r := V.int (-1)) (by kernel_rfl))) (by kernel_rfl) (by kernel_rfl) (by kernel_rfl)
  · refine CodeOk.ifF hc2 (by kernel_rfl) ?_
    refine CodeOk.skip ?_
    refine CodeOk.weak (st' := ⟨tl 27 [(0, .sl false false (a0.map encSToken)), (1, V.int (IntKind.wrap .i64 (a1 - (a0.length : Int)))), (11, V.bool (decide ((IntKind.wrap .i64 (a1 - (a0.length : Int))) < 0)))], []⟩) (Weak.refl _) ?_
    refine CodeOk.seq' ?_
    refine CodeOk.cutR (tl 27 [(0, .sl false false (a0.map encSToken)), (1, V.int (IntKind.wrap .i64 (a1 - (a0.length : Int)))), (5, V.int 0)]) [] mix (by
        refine W.run D_ok 1 100 (by kernel_rfl) ?_
        exact W.fin (by decide) (by kernel_rfl) (Weak.sel [] [0, 1, 5] (by kernel_rfl) (by kernel_rfl) (by kernel_rfl))
        ) ?_
    refine CodeOk.block' ?_
    refine CodeOk.loopJ (fun (⟨a0, y37, y38⟩ : ((List SToken) × Int × Int)) => ⟨tl 27 [(0, .sl false false (a0.map encSToken)), (1, V.int y37), (5, V.int y38)], []⟩) (fun n i => m_laws_szTokenS_l1 N n i = some r) (n0 := N) (i0 := (a0, (IntKind.wrap .i64 (a1 - (a0.length : Int))), 0)) (Weak.sel [] [0, 1, 5] (by kernel_rfl) (by kernel_rfl) (by kernel_rfl)) h (fun i h => by simp [m_laws_szTokenS_l1] at h) ?_
    rintro n1 ⟨a0, y37, y38⟩ h65 ih66
    rw [m_laws_szTokenS_l1] at h65
    refine CodeOk.seq' ?_
    refine CodeOk.cutR (tl 27 [(0, .sl false false (a0.map encSToken)), (1, V.int y37), (5, V.int y38), (15, V.bool (decide (y38 < (a0.length : Int))))]) [] mix (by
        refine W.run D_ok 2 160 (by kernel_rfl) ?_
        refine W.len D_ok encSToken a0 [] (by kernel_rfl) (by kernel_rfl) ?_
        refine W.run D_ok 1 160 (by kernel_rfl) ?_
        exact W.fin (by decide) (by kernel_rfl) (Weak.sel [] [0, 1, 5, 15] (by kernel_rfl) (by kernel_rfl) (by kernel_rfl))
        ) ?_
    rcases cond_some h65 with ⟨hc68, h65⟩ | ⟨hc68, h65⟩
    · refine CodeOk.ifT hc68 (by kernel_rfl) ?_
      refine CodeOk.skip ?_
      refine CodeOk.weak (st' := ⟨tl 27 [(0, .sl false false (a0.map encSToken)), (1, V.int y37), (5, V.int y38), (15, V.bool (decide (y38 < (a0.length : Int))))], []⟩) (Weak.refl _) ?_
      refine CodeOk.seq' ?_
      refine CodeOk.block' ?_
      obtain ⟨e55, hx76, h65⟩ := bind_some h65
      obtain ⟨r56, hx77, h65⟩ := bind_some h65
      refine CodeOk.cutR (tl 27 [(0, .sl false false (a0.map encSToken)), (1, V.int r56), (5, V.int y38)]) [] mix (by
          refine W.run D_ok 2 160 (by kernel_rfl) ?_
          refine W.ixD D_ok encSToken hx76 3 (by kernel_rfl) (by kernel_rfl) ?_
          refine W.run D_ok 2 160 (by kernel_rfl) ?_
          refine W.call0 (m_laws_szToken_ok e55 y37 hx77) cok21 rfl (by kernel_rfl) ?_
          refine W.run D_ok 1 160 (by kernel_rfl) ?_
          exact W.fin (by decide) (by kernel_rfl) (Weak.sel [] [0, 1, 5] (by kernel_rfl) (by kernel_rfl) (by kernel_rfl))
          ) ?_
      refine CodeOk.cutR (tl 27 [(0, .sl false false (a0.map encSToken)), (1, V.int r56), (5, V.int y38), (25, V.bool (decide (r56 < 0)))]) [] mix (by
          refine W.run D_ok 2 160 (by kernel_rfl) ?_
          exact W.fin (by decide) (by kernel_rfl) (Weak.sel [] [0, 1, 5, 25] (by kernel_rfl) (by kernel_rfl) (by kernel_rfl))
          ) ?_
      rcases cond_some h65 with ⟨hc78, h65⟩ | ⟨hc78, h65⟩
      · refine CodeOk.ifT hc78 (by kernel_rfl) ?_
        refine CodeOk.cutR (tl 27 [(4, V.int (-1))]) [] mix (by
            refine W.run D_ok 1 160 (by kernel_rfl) ?_
            exact W.fin (by decide) (by kernel_rfl) (Weak.sel [] [4] (by kernel_rfl) (by kernel_rfl) (by kernel_rfl))
            ) ?_
        refine CodeOk.ret ?_
        have h65 := Option.some.inj h65
        subst h65
        exact Ends.gen [] (.inr rfl) (RetV.one rfl (OneR.tmp (t := 4) (r := V.int (-1)) (by kernel_rfl))) (by kernel_rfl) (by kernel_rfl) (by kernel_rfl)
      · refine CodeOk.ifF hc78 (by kernel_rfl) ?_
        refine CodeOk.skip ?_
        refine CodeOk.weak (st' := ⟨tl 27 [(0, .sl false false (a0.map encSToken)), (1, V.int r56), (5, V.int y38), (25, V.bool (decide (r56 < 0)))], []⟩) (Weak.refl _) ?_
        refine CodeOk.endR (tl 27 [(0, .sl false false (a0.map encSToken)), (1, V.int r56), (5, V.int (IntKind.wrap .i64 (y38 + 1)))]) [] mix (by
            refine W.run D_ok 3 160 (by kernel_rfl) ?_
            exact W.fin (by decide) (by kernel_rfl) (Weak.sel [] [0, 1, 5] (by kernel_rfl) (by kernel_rfl) (by kernel_rfl))
            ) (fun st hw => ?_)
        exact ih66 (a0, r56, (IntKind.wrap .i64 (y38 + 1))) h65 _ (hw.trans (Weak.sel [] [0, 1, 5] (by kernel_rfl) (by kernel_rfl) (by kernel_rfl)))
    · refine CodeOk.ifF hc68 (by kernel_rfl) ?_
      refine CodeOk.exit ?_
      refine CodeOk.weak (st' := ⟨tl 27 [(0, .sl false false (a0.map encSToken)), (1, V.int y37), (5, V.int y38), (15, V.bool (decide (y38 < (a0.length : Int))))], []⟩) (Weak.refl _) ?_
      refine CodeOk.cutR (tl 27 [(4, V.int y37)]) [] mix (by
          refine W.run D_ok 2 160 (by kernel_rfl) ?_
          exact W.fin (by decide) (by kernel_rfl) (Weak.sel [] [4] (by kernel_rfl) (by kernel_rfl) (by kernel_rfl))
          ) ?_
      refine CodeOk.ret ?_
      have h65 := Option.some.inj h65
      subst h65
      exact Ends.gen [] (.inr rfl) (RetV.one rfl (OneR.tmp (t := 4) (r := V.int y37) (by kernel_rfl))) (by kernel_rfl) (by kernel_rfl) (by kernel_rfl)

theorem m_laws_toToken_ok (a0 : SToken) {r : SToken} (h : m_laws_toToken a0 = some r) :
    AC Tryd.prog (GS []) 24 [.agg [V.int a0.Kind, V.str a0.Text, V.int a0.At]] [] (.agg [V.int r.Kind, V.str r.Text, V.int r.At]) [] := by
  rw [m_laws_toToken] at h
  refine AC.enter Tryd.func24 rfl ?_
  refine CodeOk.cutR (tl 14 [(1, .loc 100 0), (2, .loc 101 0)]) [(101, .cells 46 [V.int 0, V.str [], V.int 0]), (100, .cells 45 [V.int a0.Kind, V.str a0.Text, V.int a0.At])] mix (by
      refine W.run D_ok 2 100 (by kernel_rfl) ?_
      exact W.fin (by decide) (by kernel_rfl) (Weak.sel [(101, 101), (100, 100)] [1, 2] (by kernel_rfl) (by kernel_rfl) (by kernel_rfl))
      ) ?_
  refine CodeOk.cutR (tl 14 [(1, .loc 100 0), (2, .loc 101 0), (3, .loc 102 0)]) [(102, .cells 46 [V.int 0, V.str [], V.int 0]), (101, .cells 46 [V.int 0, V.str [], V.int 0]), (100, .cells 45 [V.int a0.Kind, V.str a0.Text, V.int a0.At])] mix (by
      refine W.run D_ok 1 102 (by kernel_rfl) ?_
      exact W.fin (by decide) (by kernel_rfl) (Weak.sel [(102, 102), (101, 101), (100, 100)] [1, 2, 3] (by kernel_rfl) (by kernel_rfl) (by kernel_rfl))
      ) ?_
  refine CodeOk.cutR (tl 14 [(1, .loc 100 0), (2, .loc 101 0), (3, .loc 102 0)]) [(102, .cells 46 [V.int a0.Kind, V.str [], V.int 0]), (101, .cells 46 [V.int 0, V.str [], V.int 0]), (100, .cells 45 [V.int a0.Kind, V.str a0.Text, V.int a0.At])] mix (by
      refine W.run D_ok 4 103 (by kernel_rfl) ?_
      exact W.fin (by decide) (by kernel_rfl) (Weak.sel [(102, 102), (101, 101), (100, 100)] [1, 2, 3] (by kernel_rfl) (by kernel_rfl) (by kernel_rfl))
      ) ?_
  refine CodeOk.cutR (tl 14 [(1, .loc 100 0), (2, .loc 101 0), (3, .loc 102 0)]) [(102, .cells 46 [V.int a0.Kind, V.str a0.Text, V.int 0]), (101, .cells 46 [V.int 0, V.str [], V.int 0]), (100, .cells 45 [V.int a0.Kind, V.str a0.Text, V.int a0.At])] mix (by
      refine W.run D_ok 4 103 (by kernel_rfl) ?_
      exact W.fin (by decide) (by kernel_rfl) (Weak.sel [(102, 102), (101, 101), (100, 100)] [1, 2, 3] (by kernel_rfl) (by kernel_rfl) (by kernel_rfl))
      ) ?_
  refine CodeOk.cutR (tl 14 [(2, .loc 101 0), (3, .loc 102 0)]) [(102, .cells 46 [V.int a0.Kind, V.str a0.Text, V.int a0.At]), (101, .cells 46 [V.int 0, V.str [], V.int 0])] mix (by
      refine W.run D_ok 4 103 (by kernel_rfl) ?_
      exact W.fin (by decide) (by kernel_rfl) (Weak.sel [(102, 102), (101, 101)] [2, 3] (by kernel_rfl) (by kernel_rfl) (by kernel_rfl))
      ) ?_
  refine CodeOk.cutR (tl 14 [(2, .loc 101 0)]) [(101, .cells 46 [V.int a0.Kind, V.str a0.Text, V.int a0.At])] mix (by
      refine W.run D_ok 2 103 (by kernel_rfl) ?_
      exact W.fin (by decide) (by kernel_rfl) (Weak.sel [(101, 101)] [2] (by kernel_rfl) (by kernel_rfl) (by kernel_rfl))
      ) ?_
  refine CodeOk.ret ?_
  have h := Option.some.inj h
  subst h
  exact Ends.gen [] (.inr rfl) (RetV.one rfl (OneR.cell D_ok (r := .agg [V.int a0.Kind, V.str a0.Text, V.int a0.At]) (i := 101) (ety := 46) (cs := [V.int a0.Kind, V.str a0.Text, V.int a0.At]) (by kernel_rfl) (by kernel_rfl) (by kernel_rfl))) (by kernel_rfl) (by kernel_rfl) (by kernel_rfl)

theorem m_laws_toTokenS_ok (N : Nat) (a0 : List SToken) {r : (List SToken)} (h : m_laws_toTokenS N a0 = some r) :
    AC Tryd.prog (GS []) 8 [.sl false false (a0.map encSToken)] [] (.own 100) [(100, .vec false 46 3 (r.map encSToken))] := by
  rw [m_laws_toTokenS] at h
  refine AC.enter Tryd.func8 rfl ?_
  refine CodeOk.cutR (tl 23 [(0, .sl false false (a0.map encSToken))]) [] mix (by
      refine W.run D_ok 1 100 (by kernel_rfl) ?_
      exact W.fin (by decide) (by kernel_rfl) (Weak.sel [] [0] (by kernel_rfl) (by kernel_rfl) (by kernel_rfl))
      ) ?_
  obtain ⟨x2, hx2, h⟩ := bind_some h
  refine CodeOk.cutR (tl 23 [(0, .sl false false (a0.map encSToken)), (3, .own 100)]) [(100, .vec false 46 3 (x2.map encSToken))] mix (by
      refine W.run D_ok 1 100 (by kernel_rfl) ?_
      refine W.len D_ok encSToken a0 [] (by kernel_rfl) (by kernel_rfl) ?_
      refine W.mk D_ok encSToken 32 hx2 100 46 3 [.int .i64 0, .string ⟨#[]⟩, .int .i64 0] (by kernel_rfl) (by kernel_rfl) ?_
      refine W.run D_ok 1 101 (by kernel_rfl) ?_
      exact W.fin (by decide) (by kernel_rfl) (Weak.sel [(100, 100)] [0, 3] (by kernel_rfl) (by kernel_rfl) (by kernel_rfl))
      ) ?_
  refine CodeOk.seq' ?_
  refine CodeOk.cutR (tl 23 [(0, .sl false false (a0.map encSToken)), (3, .own 100), (4, V.int 0)]) [(100, .vec false 46 3 (x2.map encSToken))] mix (by
      refine W.run D_ok 1 101 (by kernel_rfl) ?_
      exact W.fin (by decide) (by kernel_rfl) (Weak.sel [(100, 100)] [0, 3, 4] (by kernel_rfl) (by kernel_rfl) (by kernel_rfl))
      ) ?_
  refine CodeOk.block' ?_
  refine CodeOk.loopJ (fun (⟨a0, y71, y72⟩ : ((List SToken) × Int × (List SToken))) => ⟨tl 23 [(0, .sl false false (a0.map encSToken)), (3, .own 100), (4, V.int y71)], [(100, .vec false 46 3 (y72.map encSToken))]⟩) (fun n i => m_laws_toTokenS_l1 N n i = some r) (n0 := N) (i0 := (a0, 0, x2)) (Weak.sel [(100, 100)] [0, 3, 4] (by kernel_rfl) (by kernel_rfl) (by kernel_rfl)) h (fun i h => by simp [m_laws_toTokenS_l1] at h) ?_
  rintro n1 ⟨a0, y71, y72⟩ h95 ih96
  rw [m_laws_toTokenS_l1] at h95
  refine CodeOk.seq' ?_
  refine CodeOk.cutR (tl 23 [(0, .sl false false (a0.map encSToken)), (3, .own 100), (4, V.int y71), (11, V.bool (decide (y71 < (a0.length : Int))))]) [(100, .vec false 46 3 (y72.map encSToken))] mix (by
      refine W.run D_ok 2 161 (by kernel_rfl) ?_
      refine W.len D_ok encSToken a0 [] (by kernel_rfl) (by kernel_rfl) ?_
      refine W.run D_ok 1 161 (by kernel_rfl) ?_
      exact W.fin (by decide) (by kernel_rfl) (Weak.sel [(100, 100)] [0, 3, 4, 11] (by kernel_rfl) (by kernel_rfl) (by kernel_rfl))
      ) ?_
  rcases cond_some h95 with ⟨hc98, h95⟩ | ⟨hc98, h95⟩
  · refine CodeOk.ifT hc98 (by kernel_rfl) ?_
    refine CodeOk.skip ?_
    refine CodeOk.weak (st' := ⟨tl 23 [(0, .sl false false (a0.map encSToken)), (3, .own 100), (4, V.int y71), (11, V.bool (decide (y71 < (a0.length : Int))))], [(100, .vec false 46 3 (y72.map encSToken))]⟩) (Weak.refl _) ?_
    refine CodeOk.seq' ?_
    refine CodeOk.block' ?_
    obtain ⟨e103, hx111, h95⟩ := bind_some h95
    obtain ⟨r104, hx112, h95⟩ := bind_some h95
    obtain ⟨e105, hx113, h95⟩ := bind_some h95
    obtain ⟨x106, hu114, h95⟩ := bind_some h95
    refine CodeOk.endR (tl 23 [(0, .sl false false (a0.map encSToken)), (3, .own 100), (4, V.int y71)]) [(100, .vec false 46 3 (x106.map encSToken))] mix (by
        refine W.run D_ok 4 161 (by kernel_rfl) ?_
        refine W.ixD D_ok encSToken hx111 3 (by kernel_rfl) (by kernel_rfl) ?_
        refine W.run D_ok 1 161 (by kernel_rfl) ?_
        refine W.call0 (m_laws_toToken_ok e103 hx112) cok24 rfl (by kernel_rfl) ?_
        refine W.ixO D_ok encSToken hx113 100 3 (by kernel_rfl) ?_
        refine W.stO D_ok encSToken (x' := r104) hx113 hu114 (j := 100) (nn := false) (ety := 46) (sz := 3) (b := 0) (ys := [V.int r104.Kind, V.str r104.Text, V.int r104.At]) (C := []) (R := []) (by kernel_rfl) (by kernel_rfl) ?_
        exact W.fin (by decide) (by kernel_rfl) (Weak.sel [(100, 100)] [0, 3, 4] (by kernel_rfl) (by kernel_rfl) (by kernel_rfl))
        ) (fun st hw => ?_)
    refine CodeOk.weak (st' := ⟨tl 23 [(0, .sl false false (a0.map encSToken)), (3, .own 100), (4, V.int y71)], [(100, .vec false 46 3 (x106.map encSToken))]⟩) hw ?_
    refine CodeOk.endR (tl 23 [(0, .sl false false (a0.map encSToken)), (3, .own 100), (4, V.int (IntKind.wrap .i64 (y71 + 1)))]) [(100, .vec false 46 3 (x106.map encSToken))] mix (by
        refine W.run D_ok 3 161 (by kernel_rfl) ?_
        exact W.fin (by decide) (by kernel_rfl) (Weak.sel [(100, 100)] [0, 3, 4] (by kernel_rfl) (by kernel_rfl) (by kernel_rfl))
        ) (fun st hw => ?_)
    exact ih96 (a0, (IntKind.wrap .i64 (y71 + 1)), x106) h95 _ (hw.trans (Weak.sel [(100, 100)] [0, 3, 4] (by kernel_rfl) (by kernel_rfl) (by kernel_rfl)))
  · refine CodeOk.ifF hc98 (by kernel_rfl) ?_
    refine CodeOk.exit ?_
    refine CodeOk.weak (st' := ⟨tl 23 [(0, .sl false false (a0.map encSToken)), (3, .own 100), (4, V.int y71), (11, V.bool (decide (y71 < (a0.length : Int))))], [(100, .vec false 46 3 (y72.map encSToken))]⟩) (Weak.refl _) ?_
    refine CodeOk.cutR (tl 23 [(2, .own 100)]) [(100, .vec false 46 3 (y72.map encSToken))] mix (by
        refine W.run D_ok 2 161 (by kernel_rfl) ?_
        exact W.fin (by decide) (by kernel_rfl) (Weak.sel [(100, 100)] [2] (by kernel_rfl) (by kernel_rfl) (by kernel_rfl))
        ) ?_
    refine CodeOk.ret ?_
    have h95 := Option.some.inj h95
    subst h95
    exact Ends.gen [(100, 100)] (.inr rfl) (RetV.one rfl (OneR.tmp (t := 2) (r := .own 100) (by kernel_rfl))) (by kernel_rfl) (by kernel_rfl) (by kernel_rfl)

theorem m_spec_OpLevel_ok (a0 : Int) {r : Int} (h : m_spec_OpLevel a0 = some r) :
    AC Tryd.prog (GS []) 22 [V.int a0] [] (V.int r) [] := by
  rw [m_spec_OpLevel] at h
  refine AC.enter Tryd.func22 rfl ?_
  refine CodeOk.cutR (tl 29 [(0, V.int a0)]) [] mix (by
      refine W.run D_ok 1 100 (by kernel_rfl) ?_
      exact W.fin (by decide) (by kernel_rfl) (Weak.sel [] [0] (by kernel_rfl) (by kernel_rfl) (by kernel_rfl))
      ) ?_
  refine CodeOk.seq' ?_
  refine CodeOk.cutR (tl 29 [(3, V.int a0)]) [] mix (by
      refine W.run D_ok 1 100 (by kernel_rfl) ?_
      exact W.fin (by decide) (by kernel_rfl) (Weak.sel [] [3] (by kernel_rfl) (by kernel_rfl) (by kernel_rfl))
      ) ?_
  refine CodeOk.block' ?_
  refine CodeOk.cutR (tl 29 [(3, V.int a0), (4, V.bool (a0 == 44))]) [] mix (by
      refine W.run D_ok 2 100 (by kernel_rfl) ?_
      exact W.fin (by decide) (by kernel_rfl) (Weak.sel [] [3, 4] (by kernel_rfl) (by kernel_rfl) (by kernel_rfl))
      ) ?_
  rcases cond_some h with ⟨hc35, h⟩ | ⟨hc35, h⟩
  · refine CodeOk.ifT hc35 (by kernel_rfl) ?_
    refine CodeOk.cutR (tl 29 [(2, V.int 3)]) [] mix (by
        refine W.run D_ok 1 100 (by kernel_rfl) ?_
        exact W.fin (by decide) (by kernel_rfl) (Weak.sel [] [2] (by kernel_rfl) (by kernel_rfl) (by kernel_rfl))
        ) ?_
    refine CodeOk.ret ?_
    have h := Option.some.inj h
    subst h
    exact Ends.gen [] (.inr rfl) (RetV.one rfl (OneR.tmp (t := 2) (r := V.int 3) (by kernel_rfl))) (by kernel_rfl) (by kernel_rfl) (by kernel_rfl)
  · refine CodeOk.ifF hc35 (by kernel_rfl) ?_
    refine CodeOk.cutR (tl 29 [(3, V.int a0), (6, V.bool (a0 == 45))]) [] mix (by
        refine W.run D_ok 2 100 (by kernel_rfl) ?_
        exact W.fin (by decide) (by kernel_rfl) (Weak.sel [] [3, 6] (by kernel_rfl) (by kernel_rfl) (by kernel_rfl))
        ) ?_
    rcases cond_some h with ⟨hc36, h⟩ | ⟨hc36, h⟩
    · refine CodeOk.ifT hc36 (by kernel_rfl) ?_
      refine CodeOk.cutR (tl 29 [(2, V.int 4)]) [] mix (by
          refine W.run D_ok 1 100 (by kernel_rfl) ?_
          exact W.fin (by decide) (by kernel_rfl) (Weak.sel [] [2] (by kernel_rfl) (by kernel_rfl) (by kernel_rfl))
          ) ?_
      refine CodeOk.ret ?_
      have h := Option.some.inj h
      subst h
      exact Ends.gen [] (.inr rfl) (RetV.one rfl (OneR.tmp (t := 2) (r := V.int 4) (by kernel_rfl))) (by kernel_rfl) (by kernel_rfl) (by kernel_rfl)
    · refine CodeOk.ifF hc36 (by kernel_rfl) ?_
      refine CodeOk.join (fun (⟨a0, y5⟩ : (Int × Bool)) => ⟨tl 29 [(3, V.int a0), (8, V.bool y5)], []⟩) (fun i => m_spec_OpLevel_k1 i = some r) ?_ ?_
      · rintro ⟨a0, y5⟩ h38
        rw [m_spec_OpLevel_k1] at h38
        rcases cond_some h38 with ⟨hc39, h38⟩ | ⟨hc39, h38⟩
        · refine CodeOk.ifT hc39 (by kernel_rfl) ?_
          refine CodeOk.cutR (tl 29 [(2, V.int 6)]) [] mix (by
              refine W.run D_ok 1 100 (by kernel_rfl) ?_
              exact W.fin (by decide) (by kernel_rfl) (Weak.sel [] [2] (by kernel_rfl) (by kernel_rfl) (by kernel_rfl))
              ) ?_
          refine CodeOk.ret ?_
          have h38 := Option.some.inj h38
          subst h38
          exact Ends.gen [] (.inr rfl) (RetV.one rfl (OneR.tmp (t := 2) (r := V.int 6) (by kernel_rfl))) (by kernel_rfl) (by kernel_rfl) (by kernel_rfl)
        · refine CodeOk.ifF hc39 (by kernel_rfl) ?_
          refine CodeOk.join (fun (⟨a0, y6⟩ : (Int × Bool)) => ⟨tl 29 [(3, V.int a0), (11, V.bool y6)], []⟩) (fun i => m_spec_OpLevel_k2 i = some r) ?_ ?_
          · rintro ⟨a0, y6⟩ h45
            rw [m_spec_OpLevel_k2] at h45
            rcases cond_some h45 with ⟨hc46, h45⟩ | ⟨hc46, h45⟩
            · refine CodeOk.ifT hc46 (by kernel_rfl) ?_
              refine CodeOk.cutR (tl 29 [(2, V.int 7)]) [] mix (by
                  refine W.run D_ok 1 100 (by kernel_rfl) ?_
                  exact W.fin (by decide) (by kernel_rfl) (Weak.sel [] [2] (by kernel_rfl) (by kernel_rfl) (by kernel_rfl))
                  ) ?_
              refine CodeOk.ret ?_
              have h45 := Option.some.inj h45
              subst h45
              exact Ends.gen [] (.inr rfl) (RetV.one rfl (OneR.tmp (t := 2) (r := V.int 7) (by kernel_rfl))) (by kernel_rfl) (by kernel_rfl) (by kernel_rfl)
            · refine CodeOk.ifF hc46 (by kernel_rfl) ?_
              refine CodeOk.cutR (tl 29 [(3, V.int a0), (18, V.bool (a0 == 99))]) [] mix (by
                  refine W.run D_ok 2 100 (by kernel_rfl) ?_
                  exact W.fin (by decide) (by kernel_rfl) (Weak.sel [] [3, 18] (by kernel_rfl) (by kernel_rfl) (by kernel_rfl))
                  ) ?_
              rcases cond_some h45 with ⟨hc47, h45⟩ | ⟨hc47, h45⟩
              · refine CodeOk.ifT hc47 (by kernel_rfl) ?_
                refine CodeOk.cutR (tl 29 [(2, V.int 8)]) [] mix (by
                    refine W.run D_ok 1 100 (by kernel_rfl) ?_
                    exact W.fin (by decide) (by kernel_rfl) (Weak.sel [] [2] (by kernel_rfl) (by kernel_rfl) (by kernel_rfl))
                    ) ?_
                refine CodeOk.ret ?_
                have h45 := Option.some.inj h45
                subst h45
                exact Ends.gen [] (.inr rfl) (RetV.one rfl (OneR.tmp (t := 2) (r := V.int 8) (by kernel_rfl))) (by kernel_rfl) (by kernel_rfl) (by kernel_rfl)
              · refine CodeOk.ifF hc47 (by kernel_rfl) ?_
                refine CodeOk.join (fun (⟨a0, y7⟩ : (Int × Bool)) => ⟨tl 29 [(3, V.int a0), (20, V.bool y7)], []⟩) (fun i => m_spec_OpLevel_k3 i = some r) ?_ ?_
                · rintro ⟨a0, y7⟩ h49
                  rw [m_spec_OpLevel_k3] at h49
                  rcases cond_some h49 with ⟨hc50, h49⟩ | ⟨hc50, h49⟩
                  · refine CodeOk.ifT hc50 (by kernel_rfl) ?_
                    refine CodeOk.cutR (tl 29 [(2, V.int 9)]) [] mix (by
                        refine W.run D_ok 1 100 (by kernel_rfl) ?_
                        exact W.fin (by decide) (by kernel_rfl) (Weak.sel [] [2] (by kernel_rfl) (by kernel_rfl) (by kernel_rfl))
                        ) ?_
                    refine CodeOk.ret ?_
                    have h49 := Option.some.inj h49
                    subst h49
                    exact Ends.gen [] (.inr rfl) (RetV.one rfl (OneR.tmp (t := 2) (r := V.int 9) (by kernel_rfl))) (by kernel_rfl) (by kernel_rfl) (by kernel_rfl)
                  · refine CodeOk.ifF hc50 (by kernel_rfl) ?_
                    refine CodeOk.join (fun (⟨a0, y8⟩ : (Int × Bool)) => ⟨tl 29 [(3, V.int a0), (23, V.bool y8)], []⟩) (fun i => m_spec_OpLevel_k4 i = some r) ?_ ?_
                    · rintro ⟨a0, y8⟩ h53
                      rw [m_spec_OpLevel_k4] at h53
                      rcases cond_some h53 with ⟨hc54, h53⟩ | ⟨hc54, h53⟩
                      · refine CodeOk.ifT hc54 (by kernel_rfl) ?_
                        refine CodeOk.cutR (tl 29 [(2, V.int 10)]) [] mix (by
                            refine W.run D_ok 1 100 (by kernel_rfl) ?_
                            exact W.fin (by decide) (by kernel_rfl) (Weak.sel [] [2] (by kernel_rfl) (by kernel_rfl) (by kernel_rfl))
                            ) ?_
                        refine CodeOk.ret ?_
                        have h53 := Option.some.inj h53
                        subst h53
                        exact Ends.gen [] (.inr rfl) (RetV.one rfl (OneR.tmp (t := 2) (r := V.int 10) (by kernel_rfl))) (by kernel_rfl) (by kernel_rfl) (by kernel_rfl)
                      · refine CodeOk.ifF hc54 (by kernel_rfl) ?_
                        refine CodeOk.cutR (tl 29 [(27, V.bool (a0 == 60))]) [] mix (by
                            refine W.run D_ok 2 100 (by kernel_rfl) ?_
                            exact W.fin (by decide) (by kernel_rfl) (Weak.sel [] [27] (by kernel_rfl) (by kernel_rfl) (by kernel_rfl))
                            ) ?_
                        rcases cond_some h53 with ⟨hc55, h53⟩ | ⟨hc55, h53⟩
                        · refine CodeOk.ifT hc55 (by kernel_rfl) ?_
                          refine CodeOk.cutR (tl 29 [(2, V.int 12)]) [] mix (by
                              refine W.run D_ok 1 100 (by kernel_rfl) ?_
                              exact W.fin (by decide) (by kernel_rfl) (Weak.sel [] [2] (by kernel_rfl) (by kernel_rfl) (by kernel_rfl))
                              ) ?_
                          refine CodeOk.ret ?_
                          have h53 := Option.some.inj h53
                          subst h53
                          exact Ends.gen [] (.inr rfl) (RetV.one rfl (OneR.tmp (t := 2) (r := V.int 12) (by kernel_rfl))) (by kernel_rfl) (by kernel_rfl) (by kernel_rfl)
                        · refine CodeOk.ifF hc55 (by kernel_rfl) ?_
                          refine CodeOk.skip ?_
                          refine CodeOk.weak (st' := ⟨tl 29 [(27, V.bool (a0 == 60))], []⟩) (Weak.refl _) ?_
                          refine CodeOk.cutR (tl 29 [(2, V.int 0)]) [] mix (by
                              refine W.run D_ok 1 100 (by kernel_rfl) ?_
                              exact W.fin (by decide) (by kernel_rfl) (Weak.sel [] [2] (by kernel_rfl) (by kernel_rfl) (by kernel_rfl))
                              ) ?_
                          refine CodeOk.ret ?_
                          have h53 := Option.some.inj h53
                          subst h53
                          exact Ends.gen [] (.inr rfl) (RetV.one rfl (OneR.tmp (t := 2) (r := V.int 0) (by kernel_rfl))) (by kernel_rfl) (by kernel_rfl) (by kernel_rfl)
                    intro hk56
                    refine CodeOk.cutR (tl 29 [(3, V.int a0), (23, V.bool (a0 == 57))]) [] mix (by
                        refine W.run D_ok 2 100 (by kernel_rfl) ?_
                        exact W.fin (by decide) (by kernel_rfl) (Weak.sel [] [3, 23] (by kernel_rfl) (by kernel_rfl) (by kernel_rfl))
                        ) ?_
                    rcases cond_some h49 with ⟨hc57, h49⟩ | ⟨hc57, h49⟩
                    · refine CodeOk.ifT hc57 (by kernel_rfl) ?_
                      refine CodeOk.skip ?_
                      exact hk56 (a0, (a0 == 57)) h49 _ (Weak.sel [] [3, 23] (by kernel_rfl) (by kernel_rfl) (by kernel_rfl))
                    · refine CodeOk.ifF hc57 (by kernel_rfl) ?_
                      refine CodeOk.cutR (tl 29 [(3, V.int a0), (23, V.bool (a0 == 58))]) [] mix (by
                          refine W.run D_ok 2 100 (by kernel_rfl) ?_
                          exact W.fin (by decide) (by kernel_rfl) (Weak.sel [] [3, 23] (by kernel_rfl) (by kernel_rfl) (by kernel_rfl))
                          ) ?_
                      rcases cond_some h49 with ⟨hc58, h49⟩ | ⟨hc58, h49⟩
                      · refine CodeOk.ifT hc58 (by kernel_rfl) ?_
                        refine CodeOk.skip ?_
                        exact hk56 (a0, (a0 == 58)) h49 _ (Weak.sel [] [3, 23] (by kernel_rfl) (by kernel_rfl) (by kernel_rfl))
                      · refine CodeOk.ifF hc58 (by kernel_rfl) ?_
                        refine CodeOk.endR (tl 29 [(3, V.int a0), (23, V.bool (a0 == 59))]) [] mix (by
                            refine W.run D_ok 2 100 (by kernel_rfl) ?_
                            exact W.fin (by decide) (by kernel_rfl) (Weak.sel [] [3, 23] (by kernel_rfl) (by kernel_rfl) (by kernel_rfl))
                            ) (fun st hw => ?_)
                        exact hk56 (a0, (a0 == 59)) h49 _ (hw.trans (Weak.sel [] [3, 23] (by kernel_rfl) (by kernel_rfl) (by kernel_rfl)))
                intro hk59
                refine CodeOk.cutR (tl 29 [(3, V.int a0), (20, V.bool (a0 == 55))]) [] mix (by
                    refine W.run D_ok 2 100 (by kernel_rfl) ?_
                    exact W.fin (by decide) (by kernel_rfl) (Weak.sel [] [3, 20] (by kernel_rfl) (by kernel_rfl) (by kernel_rfl))
                    ) ?_
                rcases cond_some h45 with ⟨hc60, h45⟩ | ⟨hc60, h45⟩
                · refine CodeOk.ifT hc60 (by kernel_rfl) ?_
                  refine CodeOk.skip ?_
                  exact hk59 (a0, (a0 == 55)) h45 _ (Weak.sel [] [3, 20] (by kernel_rfl) (by kernel_rfl) (by kernel_rfl))
                · refine CodeOk.ifF hc60 (by kernel_rfl) ?_
                  refine CodeOk.endR (tl 29 [(3, V.int a0), (20, V.bool (a0 == 56))]) [] mix (by
                      refine W.run D_ok 2 100 (by kernel_rfl) ?_
                      exact W.fin (by decide) (by kernel_rfl) (Weak.sel [] [3, 20] (by kernel_rfl) (by kernel_rfl) (by kernel_rfl))
                      ) (fun st hw => ?_)
                  exact hk59 (a0, (a0 == 56)) h45 _ (hw.trans (Weak.sel [] [3, 20] (by kernel_rfl) (by kernel_rfl) (by kernel_rfl)))
          intro hk61
          refine CodeOk.cutR (tl 29 [(3, V.int a0), (11, V.bool (a0 == 63))]) [] mix (by
              refine W.run D_ok 2 100 (by kernel_rfl) ?_
              exact W.fin (by decide) (by kernel_rfl) (Weak.sel [] [3, 11] (by kernel_rfl) (by kernel_rfl) (by kernel_rfl))
              ) ?_
          rcases cond_some h38 with ⟨hc62, h38⟩ | ⟨hc62, h38⟩
          · refine CodeOk.ifT hc62 (by kernel_rfl) ?_
            refine CodeOk.skip ?_
            exact hk61 (a0, (a0 == 63)) h38 _ (Weak.sel [] [3, 11] (by kernel_rfl) (by kernel_rfl) (by kernel_rfl))
          · refine CodeOk.ifF hc62 (by kernel_rfl) ?_
            refine CodeOk.cutR (tl 29 [(3, V.int a0), (11, V.bool (a0 == 48))]) [] mix (by
                refine W.run D_ok 2 100 (by kernel_rfl) ?_
                exact W.fin (by decide) (by kernel_rfl) (Weak.sel [] [3, 11] (by kernel_rfl) (by kernel_rfl) (by kernel_rfl))
                ) ?_
            rcases cond_some h38 with ⟨hc63, h38⟩ | ⟨hc63, h38⟩
            · refine CodeOk.ifT hc63 (by kernel_rfl) ?_
              refine CodeOk.skip ?_
              exact hk61 (a0, (a0 == 48)) h38 _ (Weak.sel [] [3, 11] (by kernel_rfl) (by kernel_rfl) (by kernel_rfl))
            · refine CodeOk.ifF hc63 (by kernel_rfl) ?_
              refine CodeOk.cutR (tl 29 [(3, V.int a0), (11, V.bool (a0 == 47))]) [] mix (by
                  refine W.run D_ok 2 100 (by kernel_rfl) ?_
                  exact W.fin (by decide) (by kernel_rfl) (Weak.sel [] [3, 11] (by kernel_rfl) (by kernel_rfl) (by kernel_rfl))
                  ) ?_
              rcases cond_some h38 with ⟨hc64, h38⟩ | ⟨hc64, h38⟩
              · refine CodeOk.ifT hc64 (by kernel_rfl) ?_
                refine CodeOk.skip ?_
                exact hk61 (a0, (a0 == 47)) h38 _ (Weak.sel [] [3, 11] (by kernel_rfl) (by kernel_rfl) (by kernel_rfl))
              · refine CodeOk.ifF hc64 (by kernel_rfl) ?_
                refine CodeOk.cutR (tl 29 [(3, V.int a0), (11, V.bool (a0 == 50))]) [] mix (by
                    refine W.run D_ok 2 100 (by kernel_rfl) ?_
                    exact W.fin (by decide) (by kernel_rfl) (Weak.sel [] [3, 11] (by kernel_rfl) (by kernel_rfl) (by kernel_rfl))
                    ) ?_
                rcases cond_some h38 with ⟨hc65, h38⟩ | ⟨hc65, h38⟩
                · refine CodeOk.ifT hc65 (by kernel_rfl) ?_
                  refine CodeOk.skip ?_
                  exact hk61 (a0, (a0 == 50)) h38 _ (Weak.sel [] [3, 11] (by kernel_rfl) (by kernel_rfl) (by kernel_rfl))
                · refine CodeOk.ifF hc65 (by kernel_rfl) ?_
                  refine CodeOk.cutR (tl 29 [(3, V.int a0), (11, V.bool (a0 == 62))]) [] mix (by
                      refine W.run D_ok 2 100 (by kernel_rfl) ?_
                      exact W.fin (by decide) (by kernel_rfl) (Weak.sel [] [3, 11] (by kernel_rfl) (by kernel_rfl) (by kernel_rfl))
                      ) ?_
                  rcases cond_some h38 with ⟨hc66, h38⟩ | ⟨hc66, h38⟩
                  · refine CodeOk.ifT hc66 (by kernel_rfl) ?_
                    refine CodeOk.skip ?_
                    exact hk61 (a0, (a0 == 62)) h38 _ (Weak.sel [] [3, 11] (by kernel_rfl) (by kernel_rfl) (by kernel_rfl))
                  · refine CodeOk.ifF hc66 (by kernel_rfl) ?_
                    refine CodeOk.endR (tl 29 [(3, V.int a0), (11, V.bool (a0 == 49))]) [] mix (by
                        refine W.run D_ok 2 100 (by kernel_rfl) ?_
                        exact W.fin (by decide) (by kernel_rfl) (Weak.sel [] [3, 11] (by kernel_rfl) (by kernel_rfl) (by kernel_rfl))
                        ) (fun st hw => ?_)
                    exact hk61 (a0, (a0 == 49)) h38 _ (hw.trans (Weak.sel [] [3, 11] (by kernel_rfl) (by kernel_rfl) (by kernel_rfl)))
      intro hk67
      refine CodeOk.cutR (tl 29 [(3, V.int a0), (8, V.bool (a0 == 67))]) [] mix (by
          refine W.run D_ok 2 100 (by kernel_rfl) ?_
          exact W.fin (by decide) (by kernel_rfl) (Weak.sel [] [3, 8] (by kernel_rfl) (by kernel_rfl) (by kernel_rfl))
          ) ?_
      rcases cond_some h with ⟨hc68, h⟩ | ⟨hc68, h⟩
      · refine CodeOk.ifT hc68 (by kernel_rfl) ?_
        refine CodeOk.skip ?_
        exact hk67 (a0, (a0 == 67)) h _ (Weak.sel [] [3, 8] (by kernel_rfl) (by kernel_rfl) (by kernel_rfl))
      · refine CodeOk.ifF hc68 (by kernel_rfl) ?_
        refine CodeOk.endR (tl 29 [(3, V.int a0), (8, V.bool (a0 == 46))]) [] mix (by
            refine W.run D_ok 2 100 (by kernel_rfl) ?_
            exact W.fin (by decide) (by kernel_rfl) (Weak.sel [] [3, 8] (by kernel_rfl) (by kernel_rfl) (by kernel_rfl))
            ) (fun st hw => ?_)
        exact hk67 (a0, (a0 == 46)) h _ (hw.trans (Weak.sel [] [3, 8] (by kernel_rfl) (by kernel_rfl) (by kernel_rfl)))

theorem m_spec_l4Plain_ok (N : Nat) (a0 : List UInt8) {r : Bool} (h : m_spec_l4Plain N a0 = some r) :
    AC Tryd.prog (GS []) 68 [V.str a0] [] (V.bool r) [] := by
  rw [m_spec_l4Plain] at h
  refine AC.enter Tryd.func68 rfl ?_
  refine CodeOk.cutR (tl 14 [(0, V.str a0)]) [] mix (by
      refine W.run D_ok 1 100 (by kernel_rfl) ?_
      exact W.fin (by decide) (by kernel_rfl) (Weak.sel [] [0] (by kernel_rfl) (by kernel_rfl) (by kernel_rfl))
      ) ?_
  refine CodeOk.seq' ?_
  refine CodeOk.cutR (tl 14 [(0, V.str a0), (3, V.int 0)]) [] mix (by
      refine W.run D_ok 1 100 (by kernel_rfl) ?_
      exact W.fin (by decide) (by kernel_rfl) (Weak.sel [] [0, 3] (by kernel_rfl) (by kernel_rfl) (by kernel_rfl))
      ) ?_
  refine CodeOk.block' ?_
  refine CodeOk.loopJ (fun (⟨a0, y19⟩ : ((List UInt8) × Int)) => ⟨tl 14 [(0, V.str a0), (3, V.int y19)], []⟩) (fun n i => m_spec_l4Plain_l1 N n i = some r) (n0 := N) (i0 := (a0, 0)) (Weak.sel [] [0, 3] (by kernel_rfl) (by kernel_rfl) (by kernel_rfl)) h (fun i h => by simp [m_spec_l4Plain_l1] at h) ?_
  rintro n1 ⟨a0, y19⟩ h43 ih44
  rw [m_spec_l4Plain_l1] at h43
  refine CodeOk.seq' ?_
  refine CodeOk.cutR (tl 14 [(0, V.str a0), (3, V.int y19), (7, V.bool (decide (y19 < (a0.length : Int))))]) [] mix (by
      refine W.run D_ok 4 160 (by kernel_rfl) ?_
      exact W.fin (by decide) (by kernel_rfl) (Weak.sel [] [0, 3, 7] (by kernel_rfl) (by kernel_rfl) (by kernel_rfl))
      ) ?_
  rcases cond_some h43 with ⟨hc46, h43⟩ | ⟨hc46, h43⟩
  · refine CodeOk.ifT hc46 (by kernel_rfl) ?_
    refine CodeOk.skip ?_
    refine CodeOk.weak (st' := ⟨tl 14 [(0, V.str a0), (3, V.int y19), (7, V.bool (decide (y19 < (a0.length : Int))))], []⟩) (Weak.refl _) ?_
    refine CodeOk.seq' ?_
    refine CodeOk.block' ?_
    obtain ⟨b28, hx51, h43⟩ := bind_some h43
    refine CodeOk.cutR (tl 14 [(0, V.str a0), (3, V.int y19), (13, V.bool (((b28).toNat : Int) == 10))]) [] mix (by
        refine W.run D_ok 2 160 (by kernel_rfl) ?_
        refine W.ixS D_ok hx51 (by kernel_rfl) ?_
        refine W.run D_ok 1 160 (by kernel_rfl) ?_
        exact W.fin (by decide) (by kernel_rfl) (Weak.sel [] [0, 3, 13] (by kernel_rfl) (by kernel_rfl) (by kernel_rfl))
        ) ?_
    rcases cond_some h43 with ⟨hc52, h43⟩ | ⟨hc52, h43⟩
    · refine CodeOk.ifT hc52 (by kernel_rfl) ?_
      refine CodeOk.cutR (tl 14 [(2, V.bool false)]) [] mix (by
          refine W.run D_ok 1 160 (by kernel_rfl) ?_
          exact W.fin (by decide) (by kernel_rfl) (Weak.sel [] [2] (by kernel_rfl) (by kernel_rfl) (by kernel_rfl))
          ) ?_
      refine CodeOk.ret ?_
      have h43 := Option.some.inj h43
      subst h43
      exact Ends.gen [] (.inr rfl) (RetV.one rfl (OneR.tmp (t := 2) (r := V.bool false) (by kernel_rfl))) (by kernel_rfl) (by kernel_rfl) (by kernel_rfl)
    · refine CodeOk.ifF hc52 (by kernel_rfl) ?_
      refine CodeOk.skip ?_
      refine CodeOk.weak (st' := ⟨tl 14 [(0, V.str a0), (3, V.int y19), (13, V.bool (((b28).toNat : Int) == 10))], []⟩) (Weak.refl _) ?_
      refine CodeOk.endR (tl 14 [(0, V.str a0), (3, V.int (IntKind.wrap .i64 (y19 + 1)))]) [] mix (by
          refine W.run D_ok 3 160 (by kernel_rfl) ?_
          exact W.fin (by decide) (by kernel_rfl) (Weak.sel [] [0, 3] (by kernel_rfl) (by kernel_rfl) (by kernel_rfl))
          ) (fun st hw => ?_)
      exact ih44 (a0, (IntKind.wrap .i64 (y19 + 1))) h43 _ (hw.trans (Weak.sel [] [0, 3] (by kernel_rfl) (by kernel_rfl) (by kernel_rfl)))
  · refine CodeOk.ifF hc46 (by kernel_rfl) ?_
    refine CodeOk.exit ?_
    refine CodeOk.weak (st' := ⟨tl 14 [(0, V.str a0), (3, V.int y19), (7, V.bool (decide (y19 < (a0.length : Int))))], []⟩) (Weak.refl _) ?_
    refine CodeOk.cutR (tl 14 [(2, V.bool true)]) [] mix (by
        refine W.run D_ok 1 160 (by kernel_rfl) ?_
        exact W.fin (by decide) (by kernel_rfl) (Weak.sel [] [2] (by kernel_rfl) (by kernel_rfl) (by kernel_rfl))
        ) ?_
    refine CodeOk.ret ?_
    have h43 := Option.some.inj h43
    subst h43
    exact Ends.gen [] (.inr rfl) (RetV.one rfl (OneR.tmp (t := 2) (r := V.bool true) (by kernel_rfl))) (by kernel_rfl) (by kernel_rfl) (by kernel_rfl)

theorem m_spec_l4Byte_ok (a0 : List UInt8) (a1 : Int) {r : Int} (h : m_spec_l4Byte a0 a1 = some r) :
    AC Tryd.prog (GS []) 50 [V.str a0, V.int a1] [] (V.int r) [] := by
  rw [m_spec_l4Byte] at h
  refine AC.enter Tryd.func50 rfl ?_
  refine CodeOk.cutR (tl 17 [(0, V.str a0), (1, V.int a1)]) [] mix (by
      refine W.run D_ok 1 100 (by kernel_rfl) ?_
      exact W.fin (by decide) (by kernel_rfl) (Weak.sel [] [0, 1] (by kernel_rfl) (by kernel_rfl) (by kernel_rfl))
      ) ?_
  refine CodeOk.seq' ?_
  obtain ⟨y2, hv6, h⟩ := bind_some h
  refine CodeOk.cutR (tl 17 [(0, V.str a0), (1, V.int a1), (12, V.bool y2)]) [] mix (by
      refine W.run D_ok 3 100 (by kernel_rfl) ?_
      rcases cond_some hv6 with ⟨hc7, hv6⟩ | ⟨hc7, hv6⟩
      · refine W.is 7 hc7 (by kernel_rfl) ?_
        refine W.run D_ok 5 100 (by kernel_rfl) ?_
        have hv6 := Option.some.inj hv6
        subst hv6
        exact W.fin (by decide) (by kernel_rfl) (Weak.sel [] [0, 1, 12] (by kernel_rfl) (by kernel_rfl) (by kernel_rfl))
      · refine W.is 7 hc7 (by kernel_rfl) ?_
        refine W.run D_ok 5 100 (by kernel_rfl) ?_
        have hv6 := Option.some.inj hv6
        subst hv6
        exact W.fin (by decide) (by kernel_rfl) (Weak.sel [] [0, 1, 12] (by kernel_rfl) (by kernel_rfl) (by kernel_rfl))
      ) ?_
  rcases cond_some h with ⟨hc8, h⟩ | ⟨hc8, h⟩
  · refine CodeOk.ifT hc8 (by kernel_rfl) ?_
    refine CodeOk.cutR (tl 17 [(4, V.int (-1))]) [] mix (by
        refine W.run D_ok 1 100 (by kernel_rfl) ?_
        exact W.fin (by decide) (by kernel_rfl) (Weak.sel [] [4] (by kernel_rfl) (by kernel_rfl) (by kernel_rfl))
        ) ?_
    refine CodeOk.ret ?_
    have h := Option.some.inj h
    subst h
    exact Ends.gen [] (.inr rfl) (RetV.one rfl (OneR.tmp (t := 4) (r := V.int (-1)) (by kernel_rfl))) (by kernel_rfl) (by kernel_rfl) (by kernel_rfl)
  · refine CodeOk.ifF hc8 (by kernel_rfl) ?_
    refine CodeOk.skip ?_
    refine CodeOk.weak (st' := ⟨tl 17 [(0, V.str a0), (1, V.int a1), (12, V.bool y2)], []⟩) (Weak.refl _) ?_
    obtain ⟨b4, hx10, h⟩ := bind_some h
    refine CodeOk.cutR (tl 17 [(4, V.int (IntKind.wrap .i64 ((b4).toNat : Int)))]) [] mix (by
        refine W.run D_ok 2 100 (by kernel_rfl) ?_
        refine W.ixS D_ok hx10 (by kernel_rfl) ?_
        refine W.run D_ok 2 100 (by kernel_rfl) ?_
        exact W.fin (by decide) (by kernel_rfl) (Weak.sel [] [4] (by kernel_rfl) (by kernel_rfl) (by kernel_rfl))
        ) ?_
    refine CodeOk.ret ?_
    have h := Option.some.inj h
    subst h
    exact Ends.gen [] (.inr rfl) (RetV.one rfl (OneR.tmp (t := 4) (r := V.int (IntKind.wrap .i64 ((b4).toNat : Int))) (by kernel_rfl))) (by kernel_rfl) (by kernel_rfl) (by kernel_rfl)

theorem m_spec_l1In_ok (a0 : Int) (a1 : Int) (a2 : Int) {r : Bool} (h : m_spec_l1In a0 a1 a2 = some r) :
    AC Tryd.prog (GS []) 48 [V.int a0, V.int a1, V.int a2] [] (V.bool r) [] := by
  rw [m_spec_l1In] at h
  refine AC.enter Tryd.func48 rfl ?_
  refine CodeOk.cutR (tl 15 [(0, V.int a0), (1, V.int a1), (2, V.int a2)]) [] mix (by
      refine W.run D_ok 1 100 (by kernel_rfl) ?_
      exact W.fin (by decide) (by kernel_rfl) (Weak.sel [] [0, 1, 2] (by kernel_rfl) (by kernel_rfl) (by kernel_rfl))
      ) ?_
  obtain ⟨y1, hv2, h⟩ := bind_some h
  refine CodeOk.cutR (tl 15 [(6, V.bool y1)]) [] mix (by
      refine W.run D_ok 4 100 (by kernel_rfl) ?_
      rcases cond_some hv2 with ⟨hc3, hv2⟩ | ⟨hc3, hv2⟩
      · refine W.is 10 hc3 (by kernel_rfl) ?_
        refine W.run D_ok 5 100 (by kernel_rfl) ?_
        have hv2 := Option.some.inj hv2
        subst hv2
        exact W.fin (by decide) (by kernel_rfl) (Weak.sel [] [6] (by kernel_rfl) (by kernel_rfl) (by kernel_rfl))
      · refine W.is 10 hc3 (by kernel_rfl) ?_
        refine W.run D_ok 5 100 (by kernel_rfl) ?_
        have hv2 := Option.some.inj hv2
        subst hv2
        exact W.fin (by decide) (by kernel_rfl) (Weak.sel [] [6] (by kernel_rfl) (by kernel_rfl) (by kernel_rfl))
      ) ?_
  refine CodeOk.ret ?_
  have h := Option.some.inj h
  subst h
  exact Ends.gen [] (.inr rfl) (RetV.one rfl (OneR.tmp (t := 6) (r := V.bool y1) (by kernel_rfl))) (by kernel_rfl) (by kernel_rfl) (by kernel_rfl)

theorem m_spec_IsDigit_ok (a0 : Int) {r : Bool} (h : m_spec_IsDigit a0 = some r) :
    AC Tryd.prog (GS []) 82 [V.int a0] [] (V.bool r) [] := by
  rw [m_spec_IsDigit] at h
  refine AC.enter Tryd.func82 rfl ?_
  refine CodeOk.cutR (tl 5 [(0, V.int a0)]) [] mix (by
      refine W.run D_ok 1 100 (by kernel_rfl) ?_
      exact W.fin (by decide) (by kernel_rfl) (Weak.sel [] [0] (by kernel_rfl) (by kernel_rfl) (by kernel_rfl))
      ) ?_
  obtain ⟨r2, hx2, h⟩ := bind_some h
  refine CodeOk.cutR (tl 5 [(2, V.bool r2)]) [] mix (by
      refine W.run D_ok 1 100 (by kernel_rfl) ?_
      refine W.call0 (m_spec_l1In_ok a0 48 57 hx2) cok48 rfl (by kernel_rfl) ?_
      refine W.run D_ok 1 100 (by kernel_rfl) ?_
      exact W.fin (by decide) (by kernel_rfl) (Weak.sel [] [2] (by kernel_rfl) (by kernel_rfl) (by kernel_rfl))
      ) ?_
  refine CodeOk.ret ?_
  have h := Option.some.inj h
  subst h
  exact Ends.gen [] (.inr rfl) (RetV.one rfl (OneR.tmp (t := 2) (r := V.bool r2) (by kernel_rfl))) (by kernel_rfl) (by kernel_rfl) (by kernel_rfl)

theorem m_spec_l4Digits_ok (N : Nat) (a0 : List UInt8) (a1 : Int) {r : Int} (h : m_spec_l4Digits N a0 a1 = some r) :
    AC Tryd.prog (GS []) 111 [V.str a0, V.int a1] [] (V.int r) [] := by
  rw [m_spec_l4Digits] at h
  refine AC.enter Tryd.func111 rfl ?_
  refine CodeOk.cutR (tl 12 [(0, V.str a0), (1, V.int a1)]) [] mix (by
      refine W.run D_ok 1 100 (by kernel_rfl) ?_
      exact W.fin (by decide) (by kernel_rfl) (Weak.sel [] [0, 1] (by kernel_rfl) (by kernel_rfl) (by kernel_rfl))
      ) ?_
  refine CodeOk.seq' ?_
  refine CodeOk.block' ?_
  refine CodeOk.loopJ (fun (⟨a0, a1⟩ : ((List UInt8) × Int)) => ⟨tl 12 [(0, V.str a0), (1, V.int a1)], []⟩) (fun n i => m_spec_l4Digits_l1 N n i = some r) (n0 := N) (i0 := (a0, a1)) (Weak.sel [] [0, 1] (by kernel_rfl) (by kernel_rfl) (by kernel_rfl)) h (fun i h => by simp [m_spec_l4Digits_l1] at h) ?_
  rintro n1 ⟨a0, a1⟩ h33 ih34
  rw [m_spec_l4Digits_l1] at h33
  refine CodeOk.seq' ?_
  obtain ⟨r33, hx42, h33⟩ := bind_some h33
  obtain ⟨r34, hx43, h33⟩ := bind_some h33
  refine CodeOk.cutR (tl 12 [(0, V.str a0), (1, V.int a1), (8, V.bool r34)]) [] mix (by
      refine W.run D_ok 2 140 (by kernel_rfl) ?_
      refine W.call0 (m_spec_l4Byte_ok a0 a1 hx42) cok50 rfl (by kernel_rfl) ?_
      refine W.call0 (m_spec_IsDigit_ok r33 hx43) cok82 rfl (by kernel_rfl) ?_
      exact W.fin (by decide) (by kernel_rfl) (Weak.sel [] [0, 1, 8] (by kernel_rfl) (by kernel_rfl) (by kernel_rfl))
      ) ?_
  rcases cond_some h33 with ⟨hc44, h33⟩ | ⟨hc44, h33⟩
  · refine CodeOk.ifT hc44 (by kernel_rfl) ?_
    refine CodeOk.skip ?_
    refine CodeOk.weak (st' := ⟨tl 12 [(0, V.str a0), (1, V.int a1), (8, V.bool r34)], []⟩) (Weak.refl _) ?_
    refine CodeOk.block' ?_
    refine CodeOk.endR (tl 12 [(0, V.str a0), (1, V.int (IntKind.wrap .i64 (a1 + 1)))]) [] mix (by
        refine W.run D_ok 3 140 (by kernel_rfl) ?_
        exact W.fin (by decide) (by kernel_rfl) (Weak.sel [] [0, 1] (by kernel_rfl) (by kernel_rfl) (by kernel_rfl))
        ) (fun st hw => ?_)
    exact ih34 (a0, (IntKind.wrap .i64 (a1 + 1))) h33 _ (hw.trans (Weak.sel [] [0, 1] (by kernel_rfl) (by kernel_rfl) (by kernel_rfl)))
  · refine CodeOk.ifF hc44 (by kernel_rfl) ?_
    refine CodeOk.exit ?_
    refine CodeOk.weak (st' := ⟨tl 12 [(0, V.str a0), (1, V.int a1), (8, V.bool r34)], []⟩) (Weak.refl _) ?_
    refine CodeOk.cutR (tl 12 [(4, V.int a1)]) [] mix (by
        refine W.run D_ok 2 140 (by kernel_rfl) ?_
        exact W.fin (by decide) (by kernel_rfl) (Weak.sel [] [4] (by kernel_rfl) (by kernel_rfl) (by kernel_rfl))
        ) ?_
    refine CodeOk.ret ?_
    have h33 := Option.some.inj h33
    subst h33
    exact Ends.gen [] (.inr rfl) (RetV.one rfl (OneR.tmp (t := 4) (r := V.int a1) (by kernel_rfl))) (by kernel_rfl) (by kernel_rfl) (by kernel_rfl)

theorem m_spec_NumEnd_ok (N : Nat) (a0 : List UInt8) (a1 : Int) {r : Int} (h : m_spec_NumEnd N a0 a1 = some r) :
    AC Tryd.prog (GS []) 69 [V.str a0, V.int a1] [] (V.int r) [] := by
  rw [m_spec_NumEnd] at h
  refine AC.enter Tryd.func69 rfl ?_
  refine CodeOk.cutR (tl 67 [(0, V.str a0), (1, V.int a1)]) [] mix (by
      refine W.run D_ok 1 100 (by kernel_rfl) ?_
      exact W.fin (by decide) (by kernel_rfl) (Weak.sel [] [0, 1] (by kernel_rfl) (by kernel_rfl) (by kernel_rfl))
      ) ?_
  refine CodeOk.seq' ?_
  refine CodeOk.cutR (tl 67 [(0, V.str a0), (1, V.int a1), (9, V.bool (decide (a1 < 0)))]) [] mix (by
      refine W.run D_ok 2 100 (by kernel_rfl) ?_
      exact W.fin (by decide) (by kernel_rfl) (Weak.sel [] [0, 1, 9] (by kernel_rfl) (by kernel_rfl) (by kernel_rfl))
      ) ?_
  rcases cond_some h with ⟨hc2, h⟩ | ⟨hc2, h⟩
  · refine CodeOk.ifT hc2 (by kernel_rfl) ?_
    refine CodeOk.cutR (tl 67 [(4, V.int (-1))]) [] mix (by
        refine W.run D_ok 1 100 (by kernel_rfl) ?_
        exact W.fin (by decide) (by kernel_rfl) (Weak.sel [] [4] (by kernel_rfl) (by kernel_rfl) (by kernel_rfl))
        ) ?_
    refine CodeOk.ret ?_
    have h := Option.some.inj h
    subst h
    exact Ends.gen [] (.inr rfl) (RetV.one rfl (OneR.tmp (t := 4) (r := V.int (-1)) (by kernel_rfl))) (by kernel_rfl) (by kernel_rfl) (by kernel_rfl)
  · refine CodeOk.ifF hc2 (by kernel_rfl) ?_
    refine CodeOk.skip ?_
    refine CodeOk.weak (st' := ⟨tl 67 [(0, V.str a0), (1, V.int a1), (9, V.bool (decide (a1 < 0)))], []⟩) (Weak.refl _) ?_
    obtain ⟨r2, hx4, h⟩ := bind_some h
    refine CodeOk.cutR (tl 67 [(0, V.str a0), (1, V.int a1), (5, V.int r2)]) [] mix (by
        refine W.run D_ok 2 100 (by kernel_rfl) ?_
        refine W.call0 (m_spec_l4Digits_ok N a0 a1 hx4) cok111 rfl (by kernel_rfl) ?_
        refine W.run D_ok 1 100 (by kernel_rfl) ?_
        exact W.fin (by decide) (by kernel_rfl) (Weak.sel [] [0, 1, 5] (by kernel_rfl) (by kernel_rfl) (by kernel_rfl))
        ) ?_
    refine CodeOk.join (fun (⟨a0, a1, y9⟩ : ((List UInt8) × Int × Int)) => ⟨tl 67 [(0, V.str a0), (1, V.int a1), (5, V.int y9)], []⟩) (fun i => m_spec_NumEnd_k1 N i = some r) ?_ ?_
    · rintro ⟨a0, a1, y9⟩ h18
      rw [m_spec_NumEnd_k1] at h18
      refine CodeOk.seq' ?_
      refine CodeOk.cutR (tl 67 [(0, V.str a0), (5, V.int y9), (33, V.bool (y9 == a1))]) [] mix (by
          refine W.run D_ok 3 100 (by kernel_rfl) ?_
          exact W.fin (by decide) (by kernel_rfl) (Weak.sel [] [0, 5, 33] (by kernel_rfl) (by kernel_rfl) (by kernel_rfl))
          ) ?_
      rcases cond_some h18 with ⟨hc20, h18⟩ | ⟨hc20, h18⟩
      · refine CodeOk.ifT hc20 (by kernel_rfl) ?_
        refine CodeOk.cutR (tl 67 [(4, V.int (-1))]) [] mix (by
            refine W.run D_ok 1 100 (by kernel_rfl) ?_
            exact W.fin (by decide) (by kernel_rfl) (Weak.sel [] [4] (by kernel_rfl) (by kernel_rfl) (by kernel_rfl))
            ) ?_
        refine CodeOk.ret ?_
        have h18 := Option.some.inj h18
        subst h18
        exact Ends.gen [] (.inr rfl) (RetV.one rfl (OneR.tmp (t := 4) (r := V.int (-1)) (by kernel_rfl))) (by kernel_rfl) (by kernel_rfl) (by kernel_rfl)
      · refine CodeOk.ifF hc20 (by kernel_rfl) ?_
        refine CodeOk.skip ?_
        refine CodeOk.weak (st' := ⟨tl 67 [(0, V.str a0), (5, V.int y9), (33, V.bool (y9 == a1))], []⟩) (Weak.refl _) ?_
        refine CodeOk.join (fun (y9 : Int) => ⟨tl 67 [(5, V.int y9)], []⟩) (fun i => m_spec_NumEnd_k2 N i = some r) ?_ ?_
        · rintro y9 h52
          rw [m_spec_NumEnd_k2] at h52
          refine CodeOk.cutR (tl 67 [(4, V.int y9)]) [] mix (by
              refine W.run D_ok 2 100 (by kernel_rfl) ?_
              exact W.fin (by decide) (by kernel_rfl) (Weak.sel [] [4] (by kernel_rfl) (by kernel_rfl) (by kernel_rfl))
              ) ?_
          refine CodeOk.ret ?_
          have h52 := Option.some.inj h52
          subst h52
          exact Ends.gen [] (.inr rfl) (RetV.one rfl (OneR.tmp (t := 4) (r := V.int y9) (by kernel_rfl))) (by kernel_rfl) (by kernel_rfl) (by kernel_rfl)
        intro hk53
        obtain ⟨y32, hv57, h18⟩ := bind_some h18
        refine CodeOk.cutR (tl 67 [(0, V.str a0), (5, V.int y9), (43, V.bool y32)]) [] mix (by
            refine W.run D_ok 2 100 (by kernel_rfl) ?_
            obtain ⟨r33, hx58, hv57⟩ := bind_some hv57
            refine W.call0 (m_spec_l4Byte_ok a0 y9 hx58) cok50 rfl (by kernel_rfl) ?_
            refine W.run D_ok 2 100 (by kernel_rfl) ?_
            rcases cond_some hv57 with ⟨hc59, hv57⟩ | ⟨hc59, hv57⟩
            · refine W.is 38 hc59 (by kernel_rfl) ?_
              refine W.run D_ok 5 100 (by kernel_rfl) ?_
              have hv57 := Option.some.inj hv57
              subst hv57
              exact W.fin (by decide) (by kernel_rfl) (Weak.sel [] [0, 5, 43] (by kernel_rfl) (by kernel_rfl) (by kernel_rfl))
            · refine W.is 38 hc59 (by kernel_rfl) ?_
              refine W.run D_ok 2 100 (by kernel_rfl) ?_
              obtain ⟨r34, hx60, hv57⟩ := bind_some hv57
              refine W.call0 (m_spec_l4Byte_ok a0 y9 hx60) cok50 rfl (by kernel_rfl) ?_
              refine W.run D_ok 2 100 (by kernel_rfl) ?_
              have hv57 := Option.some.inj hv57
              subst hv57
              exact W.fin (by decide) (by kernel_rfl) (Weak.sel [] [0, 5, 43] (by kernel_rfl) (by kernel_rfl) (by kernel_rfl))
            ) ?_
        rcases cond_some h18 with ⟨hc61, h18⟩ | ⟨hc61, h18⟩
        · refine CodeOk.ifT hc61 (by kernel_rfl) ?_
          refine CodeOk.cutR (tl 67 [(0, V.str a0), (5, V.int y9), (7, V.int (IntKind.wrap .i64 (y9 + 1)))]) [] mix (by
              refine W.run D_ok 3 100 (by kernel_rfl) ?_
              exact W.fin (by decide) (by kernel_rfl) (Weak.sel [] [0, 5, 7] (by kernel_rfl) (by kernel_rfl) (by kernel_rfl))
              ) ?_
          refine CodeOk.join (fun (⟨a0, y9, y40⟩ : ((List UInt8) × Int × Int)) => ⟨tl 67 [(0, V.str a0), (5, V.int y9), (7, V.int y40)], []⟩) (fun i => m_spec_NumEnd_k3 N i = some r) ?_ ?_
          · rintro ⟨a0, y9, y40⟩ h70
            rw [m_spec_NumEnd_k3] at h70
            obtain ⟨r42, hx72, h70⟩ := bind_some h70
            refine CodeOk.cutR (tl 67 [(0, V.str a0), (5, V.int y9), (7, V.int y40), (62, V.bool (decide (r42 > y40)))]) [] mix (by
                refine W.run D_ok 2 100 (by kernel_rfl) ?_
                refine W.call0 (m_spec_l4Digits_ok N a0 y40 hx72) cok111 rfl (by kernel_rfl) ?_
                refine W.run D_ok 2 100 (by kernel_rfl) ?_
                exact W.fin (by decide) (by kernel_rfl) (Weak.sel [] [0, 5, 7, 62] (by kernel_rfl) (by kernel_rfl) (by kernel_rfl))
                ) ?_
            rcases cond_some h70 with ⟨hc73, h70⟩ | ⟨hc73, h70⟩
            · refine CodeOk.ifT hc73 (by kernel_rfl) ?_
              obtain ⟨r44, hx75, h70⟩ := bind_some h70
              refine CodeOk.cutR (tl 67 [(4, V.int r44)]) [] mix (by
                  refine W.run D_ok 2 100 (by kernel_rfl) ?_
                  refine W.call0 (m_spec_l4Digits_ok N a0 y40 hx75) cok111 rfl (by kernel_rfl) ?_
                  refine W.run D_ok 1 100 (by kernel_rfl) ?_
                  exact W.fin (by decide) (by kernel_rfl) (Weak.sel [] [4] (by kernel_rfl) (by kernel_rfl) (by kernel_rfl))
                  ) ?_
              refine CodeOk.ret ?_
              have h70 := Option.some.inj h70
              subst h70
              exact Ends.gen [] (.inr rfl) (RetV.one rfl (OneR.tmp (t := 4) (r := V.int r44) (by kernel_rfl))) (by kernel_rfl) (by kernel_rfl) (by kernel_rfl)
            · refine CodeOk.ifF hc73 (by kernel_rfl) ?_
              refine CodeOk.skip ?_
              exact hk53 y9 h70 _ (Weak.sel [] [5] (by kernel_rfl) (by kernel_rfl) (by kernel_rfl))
          intro hk76
          obtain ⟨y47, hv80, h18⟩ := bind_some h18
          refine CodeOk.cutR (tl 67 [(0, V.str a0), (5, V.int y9), (7, V.int (IntKind.wrap .i64 (y9 + 1))), (55, V.bool y47)]) [] mix (by
              refine W.run D_ok 2 100 (by kernel_rfl) ?_
              obtain ⟨r48, hx81, hv80⟩ := bind_some hv80
              refine W.call0 (m_spec_l4Byte_ok a0 (IntKind.wrap .i64 (y9 + 1)) hx81) cok50 rfl (by kernel_rfl) ?_
              refine W.run D_ok 2 100 (by kernel_rfl) ?_
              rcases cond_some hv80 with ⟨hc82, hv80⟩ | ⟨hc82, hv80⟩
              · refine W.is 50 hc82 (by kernel_rfl) ?_
                refine W.run D_ok 5 100 (by kernel_rfl) ?_
                have hv80 := Option.some.inj hv80
                subst hv80
                exact W.fin (by decide) (by kernel_rfl) (Weak.sel [] [0, 5, 7, 55] (by kernel_rfl) (by kernel_rfl) (by kernel_rfl))
              · refine W.is 50 hc82 (by kernel_rfl) ?_
                refine W.run D_ok 2 100 (by kernel_rfl) ?_
                obtain ⟨r49, hx83, hv80⟩ := bind_some hv80
                refine W.call0 (m_spec_l4Byte_ok a0 (IntKind.wrap .i64 (y9 + 1)) hx83) cok50 rfl (by kernel_rfl) ?_
                refine W.run D_ok 2 100 (by kernel_rfl) ?_
                have hv80 := Option.some.inj hv80
                subst hv80
                exact W.fin (by decide) (by kernel_rfl) (Weak.sel [] [0, 5, 7, 55] (by kernel_rfl) (by kernel_rfl) (by kernel_rfl))
              ) ?_
          rcases cond_some h18 with ⟨hc84, h18⟩ | ⟨hc84, h18⟩
          · refine CodeOk.ifT hc84 (by kernel_rfl) ?_
            refine CodeOk.endR (tl 67 [(0, V.str a0), (5, V.int y9), (7, V.int (IntKind.wrap .i64 ((IntKind.wrap .i64 (y9 + 1)) + 1)))]) [] mix (by
                refine W.run D_ok 3 100 (by kernel_rfl) ?_
                exact W.fin (by decide) (by kernel_rfl) (Weak.sel [] [0, 5, 7] (by kernel_rfl) (by kernel_rfl) (by kernel_rfl))
                ) (fun st hw => ?_)
            exact hk76 (a0, y9, (IntKind.wrap .i64 ((IntKind.wrap .i64 (y9 + 1)) + 1))) h18 _ (hw.trans (Weak.sel [] [0, 5, 7] (by kernel_rfl) (by kernel_rfl) (by kernel_rfl)))
          · refine CodeOk.ifF hc84 (by kernel_rfl) ?_
            refine CodeOk.skip ?_
            exact hk76 (a0, y9, (IntKind.wrap .i64 (y9 + 1))) h18 _ (Weak.sel [] [0, 5, 7] (by kernel_rfl) (by kernel_rfl) (by kernel_rfl))
        · refine CodeOk.ifF hc61 (by kernel_rfl) ?_
          refine CodeOk.skip ?_
          exact hk53 y9 h18 _ (Weak.sel [] [5] (by kernel_rfl) (by kernel_rfl) (by kernel_rfl))
    intro hk85
    obtain ⟨r51, hx87, h⟩ := bind_some h
    refine CodeOk.cutR (tl 67 [(0, V.str a0), (1, V.int a1), (5, V.int r2), (16, V.bool (r51 == 46))]) [] mix (by
        refine W.run D_ok 2 100 (by kernel_rfl) ?_
        refine W.call0 (m_spec_l4Byte_ok a0 r2 hx87) cok50 rfl (by kernel_rfl) ?_
        refine W.run D_ok 1 100 (by kernel_rfl) ?_
        exact W.fin (by decide) (by kernel_rfl) (Weak.sel [] [0, 1, 5, 16] (by kernel_rfl) (by kernel_rfl) (by kernel_rfl))
        ) ?_
    rcases cond_some h with ⟨hc88, h⟩ | ⟨hc88, h⟩
    · refine CodeOk.ifT hc88 (by kernel_rfl) ?_
      obtain ⟨r53, hx90, h⟩ := bind_some h
      refine CodeOk.cutR (tl 67 [(0, V.str a0), (1, V.int a1), (5, V.int r2), (6, V.int r53)]) [] mix (by
          refine W.run D_ok 3 100 (by kernel_rfl) ?_
          refine W.call0 (m_spec_l4Digits_ok N a0 (IntKind.wrap .i64 (r2 + 1)) hx90) cok111 rfl (by kernel_rfl) ?_
          refine W.run D_ok 1 100 (by kernel_rfl) ?_
          exact W.fin (by decide) (by kernel_rfl) (Weak.sel [] [0, 1, 5, 6] (by kernel_rfl) (by kernel_rfl) (by kernel_rfl))
          ) ?_
      refine CodeOk.seq' ?_
      obtain ⟨y55, hv96, h⟩ := bind_some h
      refine CodeOk.cutR (tl 67 [(0, V.str a0), (1, V.int a1), (6, V.int r53), (29, V.bool y55)]) [] mix (by
          refine W.run D_ok 4 100 (by kernel_rfl) ?_
          rcases cond_some hv96 with ⟨hc97, hv96⟩ | ⟨hc97, hv96⟩
          · refine W.is 24 hc97 (by kernel_rfl) ?_
            refine W.run D_ok 5 100 (by kernel_rfl) ?_
            have hv96 := Option.some.inj hv96
            subst hv96
            exact W.fin (by decide) (by kernel_rfl) (Weak.sel [] [0, 1, 6, 29] (by kernel_rfl) (by kernel_rfl) (by kernel_rfl))
          · refine W.is 24 hc97 (by kernel_rfl) ?_
            refine W.run D_ok 5 100 (by kernel_rfl) ?_
            have hv96 := Option.some.inj hv96
            subst hv96
            exact W.fin (by decide) (by kernel_rfl) (Weak.sel [] [0, 1, 6, 29] (by kernel_rfl) (by kernel_rfl) (by kernel_rfl))
          ) ?_
      rcases cond_some h with ⟨hc98, h⟩ | ⟨hc98, h⟩
      · refine CodeOk.ifT hc98 (by kernel_rfl) ?_
        refine CodeOk.cutR (tl 67 [(4, V.int (-1))]) [] mix (by
            refine W.run D_ok 1 100 (by kernel_rfl) ?_
            exact W.fin (by decide) (by kernel_rfl) (Weak.sel [] [4] (by kernel_rfl) (by kernel_rfl) (by kernel_rfl))
            ) ?_
        refine CodeOk.ret ?_
        have h := Option.some.inj h
        subst h
        exact Ends.gen [] (.inr rfl) (RetV.one rfl (OneR.tmp (t := 4) (r := V.int (-1)) (by kernel_rfl))) (by kernel_rfl) (by kernel_rfl) (by kernel_rfl)
      · refine CodeOk.ifF hc98 (by kernel_rfl) ?_
        refine CodeOk.skip ?_
        refine CodeOk.weak (st' := ⟨tl 67 [(0, V.str a0), (1, V.int a1), (6, V.int r53), (29, V.bool y55)], []⟩) (Weak.refl _) ?_
        refine CodeOk.endR (tl 67 [(0, V.str a0), (1, V.int a1), (5, V.int r53)]) [] mix (by
            refine W.run D_ok 2 100 (by kernel_rfl) ?_
            exact W.fin (by decide) (by kernel_rfl) (Weak.sel [] [0, 1, 5] (by kernel_rfl) (by kernel_rfl) (by kernel_rfl))
            ) (fun st hw => ?_)
        exact hk85 (a0, a1, r53) h _ (hw.trans (Weak.sel [] [0, 1, 5] (by kernel_rfl) (by kernel_rfl) (by kernel_rfl)))
    · refine CodeOk.ifF hc88 (by kernel_rfl) ?_
      refine CodeOk.skip ?_
      exact hk85 (a0, a1, r2) h _ (Weak.sel [] [0, 1, 5] (by kernel_rfl) (by kernel_rfl) (by kernel_rfl))

theorem m_spec_l4Quoted_ok (N : Nat) (a0 : List UInt8) (a1 : Int) (a2 : Int) {r : Int} (h : m_spec_l4Quoted N a0 a1 a2 = some r) :
    AC Tryd.prog (GS []) 112 [V.str a0, V.int a1, V.int a2] [] (V.int r) [] := by
  rw [m_spec_l4Quoted] at h
  refine AC.enter Tryd.func112 rfl ?_
  refine CodeOk.cutR (tl 40 [(0, V.str a0), (1, V.int a1), (2, V.int a2)]) [] mix (by
      refine W.run D_ok 1 100 (by kernel_rfl) ?_
      exact W.fin (by decide) (by kernel_rfl) (Weak.sel [] [0, 1, 2] (by kernel_rfl) (by kernel_rfl) (by kernel_rfl))
      ) ?_
  refine CodeOk.seq' ?_
  obtain ⟨r4, hx5, h⟩ := bind_some h
  refine CodeOk.cutR (tl 40 [(0, V.str a0), (1, V.int a1), (2, V.int a2), (12, V.bool (r4 != a2))]) [] mix (by
      refine W.run D_ok 2 100 (by kernel_rfl) ?_
      refine W.call0 (m_spec_l4Byte_ok a0 a1 hx5) cok50 rfl (by kernel_rfl) ?_
      refine W.run D_ok 2 100 (by kernel_rfl) ?_
      exact W.fin (by decide) (by kernel_rfl) (Weak.sel [] [0, 1, 2, 12] (by kernel_rfl) (by kernel_rfl) (by kernel_rfl))
      ) ?_
  rcases cond_some h with ⟨hc6, h⟩ | ⟨hc6, h⟩
  · refine CodeOk.ifT hc6 (by kernel_rfl) ?_
    refine CodeOk.cutR (tl 40 [(6, V.int (-1))]) [] mix (by
        refine W.run D_ok 1 100 (by kernel_rfl) ?_
        exact W.fin (by decide) (by kernel_rfl) (Weak.sel [] [6] (by kernel_rfl) (by kernel_rfl) (by kernel_rfl))
        ) ?_
    refine CodeOk.ret ?_
    have h := Option.some.inj h
    subst h
    exact Ends.gen [] (.inr rfl) (RetV.one rfl (OneR.tmp (t := 6) (r := V.int (-1)) (by kernel_rfl))) (by kernel_rfl) (by kernel_rfl) (by kernel_rfl)
  · refine CodeOk.ifF hc6 (by kernel_rfl) ?_
    refine CodeOk.skip ?_
    refine CodeOk.weak (st' := ⟨tl 40 [(0, V.str a0), (1, V.int a1), (2, V.int a2), (12, V.bool (r4 != a2))], []⟩) (Weak.refl _) ?_
    refine CodeOk.seq' ?_
    refine CodeOk.cutR (tl 40 [(0, V.str a0), (2, V.int a2), (7, V.int (IntKind.wrap .i64 (a1 + 1)))]) [] mix (by
        refine W.run D_ok 3 100 (by kernel_rfl) ?_
        exact W.fin (by decide) (by kernel_rfl) (Weak.sel [] [0, 2, 7] (by kernel_rfl) (by kernel_rfl) (by kernel_rfl))
        ) ?_
    refine CodeOk.block' ?_
    refine CodeOk.loopJ (fun (⟨a0, a2, y43⟩ : ((List UInt8) × Int × Int)) => ⟨tl 40 [(0, V.str a0), (2, V.int a2), (7, V.int y43)], []⟩) (fun n i => m_spec_l4Quoted_l1 N n i = some r) (n0 := N) (i0 := (a0, a2, (IntKind.wrap .i64 (a1 + 1)))) (Weak.sel [] [0, 2, 7] (by kernel_rfl) (by kernel_rfl) (by kernel_rfl)) h (fun i h => by simp [m_spec_l4Quoted_l1] at h) ?_
    rintro n1 ⟨a0, a2, y43⟩ h109 ih110
    rw [m_spec_l4Quoted_l1] at h109
    refine CodeOk.seq' ?_
    refine CodeOk.cutR (tl 40 [(0, V.str a0), (2, V.int a2), (7, V.int y43), (18, V.bool (decide (y43 < (a0.length : Int))))]) [] mix (by
        refine W.run D_ok 4 160 (by kernel_rfl) ?_
        exact W.fin (by decide) (by kernel_rfl) (Weak.sel [] [0, 2, 7, 18] (by kernel_rfl) (by kernel_rfl) (by kernel_rfl))
        ) ?_
    rcases cond_some h109 with ⟨hc112, h109⟩ | ⟨hc112, h109⟩
    · refine CodeOk.ifT hc112 (by kernel_rfl) ?_
      refine CodeOk.skip ?_
      refine CodeOk.weak (st' := ⟨tl 40 [(0, V.str a0), (2, V.int a2), (7, V.int y43), (18, V.bool (decide (y43 < (a0.length : Int))))], []⟩) (Weak.refl _) ?_
      refine CodeOk.join (fun (⟨a0, a2, y58⟩ : ((List UInt8) × Int × Int)) => ⟨tl 40 [(0, V.str a0), (2, V.int a2), (7, V.int y58)], []⟩) (fun i => m_spec_l4Quoted_k2 N (m_spec_l4Quoted_l1 N n1) i = some r) ?_ ?_
      · rintro ⟨a0, a2, y58⟩ h121
        rw [m_spec_l4Quoted_k2] at h121
        refine CodeOk.endR (tl 40 [(0, V.str a0), (2, V.int a2), (7, V.int (IntKind.wrap .i64 (y58 + 1)))]) [] mix (by
            refine W.run D_ok 3 160 (by kernel_rfl) ?_
            exact W.fin (by decide) (by kernel_rfl) (Weak.sel [] [0, 2, 7] (by kernel_rfl) (by kernel_rfl) (by kernel_rfl))
            ) (fun st hw => ?_)
        exact ih110 (a0, a2, (IntKind.wrap .i64 (y58 + 1))) h121 _ (hw.trans (Weak.sel [] [0, 2, 7] (by kernel_rfl) (by kernel_rfl) (by kernel_rfl)))
      intro hk122
      refine CodeOk.block' ?_
      obtain ⟨b60, hx124, h109⟩ := bind_some h109
      refine CodeOk.cutR (tl 40 [(0, V.str a0), (2, V.int a2), (7, V.int y43), (24, V.int (IntKind.wrap .i64 ((b60).toNat : Int)))]) [] mix (by
          refine W.run D_ok 2 160 (by kernel_rfl) ?_
          refine W.ixS D_ok hx124 (by kernel_rfl) ?_
          refine W.run D_ok 1 160 (by kernel_rfl) ?_
          exact W.fin (by decide) (by kernel_rfl) (Weak.sel [] [0, 2, 7, 24] (by kernel_rfl) (by kernel_rfl) (by kernel_rfl))
          ) ?_
      refine CodeOk.block' ?_
      refine CodeOk.cutR (tl 40 [(0, V.str a0), (2, V.int a2), (7, V.int y43), (24, V.int (IntKind.wrap .i64 ((b60).toNat : Int))), (25, V.bool ((IntKind.wrap .i64 ((b60).toNat : Int)) == a2))]) [] mix (by
          refine W.run D_ok 3 160 (by kernel_rfl) ?_
          exact W.fin (by decide) (by kernel_rfl) (Weak.sel [] [0, 2, 7, 24, 25] (by kernel_rfl) (by kernel_rfl) (by kernel_rfl))
          ) ?_
      rcases cond_some h109 with ⟨hc125, h109⟩ | ⟨hc125, h109⟩
      · refine CodeOk.ifT hc125 (by kernel_rfl) ?_
        refine CodeOk.cutR (tl 40 [(6, V.int (IntKind.wrap .i64 (y43 + 1)))]) [] mix (by
            refine W.run D_ok 3 160 (by kernel_rfl) ?_
            exact W.fin (by decide) (by kernel_rfl) (Weak.sel [] [6] (by kernel_rfl) (by kernel_rfl) (by kernel_rfl))
            ) ?_
        refine CodeOk.ret ?_
        have h109 := Option.some.inj h109
        subst h109
        exact Ends.gen [] (.inr rfl) (RetV.one rfl (OneR.tmp (t := 6) (r := V.int (IntKind.wrap .i64 (y43 + 1))) (by kernel_rfl))) (by kernel_rfl) (by kernel_rfl) (by kernel_rfl)
      · refine CodeOk.ifF hc125 (by kernel_rfl) ?_
        refine CodeOk.cutR (tl 40 [(0, V.str a0), (2, V.int a2), (7, V.int y43), (24, V.int (IntKind.wrap .i64 ((b60).toNat : Int))), (30, V.bool ((IntKind.wrap .i64 ((b60).toNat : Int)) == 10))]) [] mix (by
            refine W.run D_ok 2 160 (by kernel_rfl) ?_
            exact W.fin (by decide) (by kernel_rfl) (Weak.sel [] [0, 2, 7, 24, 30] (by kernel_rfl) (by kernel_rfl) (by kernel_rfl))
            ) ?_
        rcases cond_some h109 with ⟨hc126, h109⟩ | ⟨hc126, h109⟩
        · refine CodeOk.ifT hc126 (by kernel_rfl) ?_
          refine CodeOk.cutR (tl 40 [(6, V.int (-1))]) [] mix (by
              refine W.run D_ok 1 160 (by kernel_rfl) ?_
              exact W.fin (by decide) (by kernel_rfl) (Weak.sel [] [6] (by kernel_rfl) (by kernel_rfl) (by kernel_rfl))
              ) ?_
          refine CodeOk.ret ?_
          have h109 := Option.some.inj h109
          subst h109
          exact Ends.gen [] (.inr rfl) (RetV.one rfl (OneR.tmp (t := 6) (r := V.int (-1)) (by kernel_rfl))) (by kernel_rfl) (by kernel_rfl) (by kernel_rfl)
        · refine CodeOk.ifF hc126 (by kernel_rfl) ?_
          refine CodeOk.cutR (tl 40 [(0, V.str a0), (2, V.int a2), (7, V.int y43), (32, V.bool ((IntKind.wrap .i64 ((b60).toNat : Int)) == 92))]) [] mix (by
              refine W.run D_ok 2 160 (by kernel_rfl) ?_
              exact W.fin (by decide) (by kernel_rfl) (Weak.sel [] [0, 2, 7, 32] (by kernel_rfl) (by kernel_rfl) (by kernel_rfl))
              ) ?_
          rcases cond_some h109 with ⟨hc127, h109⟩ | ⟨hc127, h109⟩
          · refine CodeOk.ifT hc127 (by kernel_rfl) ?_
            refine CodeOk.cutR (tl 40 [(0, V.str a0), (2, V.int a2), (7, V.int (IntKind.wrap .i64 (y43 + 1)))]) [] mix (by
                refine W.run D_ok 3 160 (by kernel_rfl) ?_
                exact W.fin (by decide) (by kernel_rfl) (Weak.sel [] [0, 2, 7] (by kernel_rfl) (by kernel_rfl) (by kernel_rfl))
                ) ?_
            obtain ⟨r62, hx129, h109⟩ := bind_some h109
            refine CodeOk.cutR (tl 40 [(0, V.str a0), (2, V.int a2), (7, V.int (IntKind.wrap .i64 (y43 + 1))), (39, V.bool (r62 == 10))]) [] mix (by
                refine W.run D_ok 2 160 (by kernel_rfl) ?_
                refine W.call0 (m_spec_l4Byte_ok a0 (IntKind.wrap .i64 (y43 + 1)) hx129) cok50 rfl (by kernel_rfl) ?_
                refine W.run D_ok 1 160 (by kernel_rfl) ?_
                exact W.fin (by decide) (by kernel_rfl) (Weak.sel [] [0, 2, 7, 39] (by kernel_rfl) (by kernel_rfl) (by kernel_rfl))
                ) ?_
            rcases cond_some h109 with ⟨hc130, h109⟩ | ⟨hc130, h109⟩
            · refine CodeOk.ifT hc130 (by kernel_rfl) ?_
              refine CodeOk.cutR (tl 40 [(6, V.int (-1))]) [] mix (by
                  refine W.run D_ok 1 160 (by kernel_rfl) ?_
                  exact W.fin (by decide) (by kernel_rfl) (Weak.sel [] [6] (by kernel_rfl) (by kernel_rfl) (by kernel_rfl))
                  ) ?_
              refine CodeOk.ret ?_
              have h109 := Option.some.inj h109
              subst h109
              exact Ends.gen [] (.inr rfl) (RetV.one rfl (OneR.tmp (t := 6) (r := V.int (-1)) (by kernel_rfl))) (by kernel_rfl) (by kernel_rfl) (by kernel_rfl)
            · refine CodeOk.ifF hc130 (by kernel_rfl) ?_
              refine CodeOk.skip ?_
              exact hk122 (a0, a2, (IntKind.wrap .i64 (y43 + 1))) h109 _ (Weak.sel [] [0, 2, 7] (by kernel_rfl) (by kernel_rfl) (by kernel_rfl))
          · refine CodeOk.ifF hc127 (by kernel_rfl) ?_
            refine CodeOk.skip ?_
            exact hk122 (a0, a2, y43) h109 _ (Weak.sel [] [0, 2, 7] (by kernel_rfl) (by kernel_rfl) (by kernel_rfl))
    · refine CodeOk.ifF hc112 (by kernel_rfl) ?_
      refine CodeOk.exit ?_
      refine CodeOk.weak (st' := ⟨tl 40 [(0, V.str a0), (2, V.int a2), (7, V.int y43), (18, V.bool (decide (y43 < (a0.length : Int))))], []⟩) (Weak.refl _) ?_
      refine CodeOk.cutR (tl 40 [(6, V.int (-1))]) [] mix (by
          refine W.run D_ok 1 160 (by kernel_rfl) ?_
          exact W.fin (by decide) (by kernel_rfl) (Weak.sel [] [6] (by kernel_rfl) (by kernel_rfl) (by kernel_rfl))
          ) ?_
      refine CodeOk.ret ?_
      have h109 := Option.some.inj h109
      subst h109
      exact Ends.gen [] (.inr rfl) (RetV.one rfl (OneR.tmp (t := 6) (r := V.int (-1)) (by kernel_rfl))) (by kernel_rfl) (by kernel_rfl) (by kernel_rfl)

theorem m_spec_StrEnd_ok (N : Nat) (a0 : List UInt8) (a1 : Int) {r : Int} (h : m_spec_StrEnd N a0 a1 = some r) :
    AC Tryd.prog (GS []) 70 [V.str a0, V.int a1] [] (V.int r) [] := by
  rw [m_spec_StrEnd] at h
  refine AC.enter Tryd.func70 rfl ?_
  refine CodeOk.cutR (tl 8 [(0, V.str a0), (1, V.int a1)]) [] mix (by
      refine W.run D_ok 1 100 (by kernel_rfl) ?_
      exact W.fin (by decide) (by kernel_rfl) (Weak.sel [] [0, 1] (by kernel_rfl) (by kernel_rfl) (by kernel_rfl))
      ) ?_
  obtain ⟨r2, hx2, h⟩ := bind_some h
  refine CodeOk.cutR (tl 8 [(4, V.int r2)]) [] mix (by
      refine W.run D_ok 2 100 (by kernel_rfl) ?_
      refine W.call0 (m_spec_l4Quoted_ok N a0 a1 34 hx2) cok112 rfl (by kernel_rfl) ?_
      refine W.run D_ok 1 100 (by kernel_rfl) ?_
      exact W.fin (by decide) (by kernel_rfl) (Weak.sel [] [4] (by kernel_rfl) (by kernel_rfl) (by kernel_rfl))
      ) ?_
  refine CodeOk.ret ?_
  have h := Option.some.inj h
  subst h
  exact Ends.gen [] (.inr rfl) (RetV.one rfl (OneR.tmp (t := 4) (r := V.int r2) (by kernel_rfl))) (by kernel_rfl) (by kernel_rfl) (by kernel_rfl)

theorem m_spec_EreEnd_ok (N : Nat) (a0 : List UInt8) (a1 : Int) {r : Int} (h : m_spec_EreEnd N a0 a1 = some r) :
    AC Tryd.prog (GS []) 71 [V.str a0, V.int a1] [] (V.int r) [] := by
  rw [m_spec_EreEnd] at h
  refine AC.enter Tryd.func71 rfl ?_
  refine CodeOk.cutR (tl 14 [(0, V.str a0), (1, V.int a1)]) [] mix (by
      refine W.run D_ok 1 100 (by kernel_rfl) ?_
      exact W.fin (by decide) (by kernel_rfl) (Weak.sel [] [0, 1] (by kernel_rfl) (by kernel_rfl) (by kernel_rfl))
      ) ?_
  obtain ⟨r2, hx2, h⟩ := bind_some h
  refine CodeOk.cutR (tl 14 [(1, V.int a1), (5, V.int r2)]) [] mix (by
      refine W.run D_ok 2 100 (by kernel_rfl) ?_
      refine W.call0 (m_spec_l4Quoted_ok N a0 a1 47 hx2) cok112 rfl (by kernel_rfl) ?_
      refine W.run D_ok 1 100 (by kernel_rfl) ?_
      exact W.fin (by decide) (by kernel_rfl) (Weak.sel [] [1, 5] (by kernel_rfl) (by kernel_rfl) (by kernel_rfl))
      ) ?_
  refine CodeOk.seq' ?_
  refine CodeOk.cutR (tl 14 [(5, V.int r2), (12, V.bool (r2 == (IntKind.wrap .i64 (a1 + 2))))]) [] mix (by
      refine W.run D_ok 4 100 (by kernel_rfl) ?_
      exact W.fin (by decide) (by kernel_rfl) (Weak.sel [] [5, 12] (by kernel_rfl) (by kernel_rfl) (by kernel_rfl))
      ) ?_
  rcases cond_some h with ⟨hc4, h⟩ | ⟨hc4, h⟩
  · refine CodeOk.ifT hc4 (by kernel_rfl) ?_
    refine CodeOk.cutR (tl 14 [(4, V.int (-1))]) [] mix (by
        refine W.run D_ok 1 100 (by kernel_rfl) ?_
        exact W.fin (by decide) (by kernel_rfl) (Weak.sel [] [4] (by kernel_rfl) (by kernel_rfl) (by kernel_rfl))
        ) ?_
    refine CodeOk.ret ?_
    have h := Option.some.inj h
    subst h
    exact Ends.gen [] (.inr rfl) (RetV.one rfl (OneR.tmp (t := 4) (r := V.int (-1)) (by kernel_rfl))) (by kernel_rfl) (by kernel_rfl) (by kernel_rfl)
  · refine CodeOk.ifF hc4 (by kernel_rfl) ?_
    refine CodeOk.skip ?_
    refine CodeOk.weak (st' := ⟨tl 14 [(5, V.int r2), (12, V.bool (r2 == (IntKind.wrap .i64 (a1 + 2))))], []⟩) (Weak.refl _) ?_
    refine CodeOk.cutR (tl 14 [(4, V.int r2)]) [] mix (by
        refine W.run D_ok 2 100 (by kernel_rfl) ?_
        exact W.fin (by decide) (by kernel_rfl) (Weak.sel [] [4] (by kernel_rfl) (by kernel_rfl) (by kernel_rfl))
        ) ?_
    refine CodeOk.ret ?_
    have h := Option.some.inj h
    subst h
    exact Ends.gen [] (.inr rfl) (RetV.one rfl (OneR.tmp (t := 4) (r := V.int r2) (by kernel_rfl))) (by kernel_rfl) (by kernel_rfl) (by kernel_rfl)

theorem m_spec_IsLetter_ok (a0 : Int) {r : Bool} (h : m_spec_IsLetter a0 = some r) :
    AC Tryd.prog (GS []) 83 [V.int a0] [] (V.bool r) [] := by
  rw [m_spec_IsLetter] at h
  refine AC.enter Tryd.func83 rfl ?_
  refine CodeOk.cutR (tl 13 [(0, V.int a0)]) [] mix (by
      refine W.run D_ok 1 100 (by kernel_rfl) ?_
      exact W.fin (by decide) (by kernel_rfl) (Weak.sel [] [0] (by kernel_rfl) (by kernel_rfl) (by kernel_rfl))
      ) ?_
  obtain ⟨y3, hv5, h⟩ := bind_some h
  refine CodeOk.cutR (tl 13 [(2, V.bool y3)]) [] mix (by
      refine W.run D_ok 1 100 (by kernel_rfl) ?_
      obtain ⟨r4, hx6, hv5⟩ := bind_some hv5
      refine W.call0 (m_spec_l1In_ok a0 97 122 hx6) cok48 rfl (by kernel_rfl) ?_
      refine W.run D_ok 1 100 (by kernel_rfl) ?_
      rcases cond_some hv5 with ⟨hc7, hv5⟩ | ⟨hc7, hv5⟩
      · refine W.is 5 hc7 (by kernel_rfl) ?_
        refine W.run D_ok 8 100 (by kernel_rfl) ?_
        have hv5 := Option.some.inj hv5
        subst hv5
        exact W.fin (by decide) (by kernel_rfl) (Weak.sel [] [2] (by kernel_rfl) (by kernel_rfl) (by kernel_rfl))
      · refine W.is 5 hc7 (by kernel_rfl) ?_
        refine W.run D_ok 1 100 (by kernel_rfl) ?_
        obtain ⟨r5, hx8, hv5⟩ := bind_some hv5
        refine W.call0 (m_spec_l1In_ok a0 65 90 hx8) cok48 rfl (by kernel_rfl) ?_
        refine W.run D_ok 2 100 (by kernel_rfl) ?_
        rcases cond_some hv5 with ⟨hc9, hv5⟩ | ⟨hc9, hv5⟩
        · refine W.is 9 hc9 (by kernel_rfl) ?_
          refine W.run D_ok 4 100 (by kernel_rfl) ?_
          have hv5 := Option.some.inj hv5
          subst hv5
          exact W.fin (by decide) (by kernel_rfl) (Weak.sel [] [2] (by kernel_rfl) (by kernel_rfl) (by kernel_rfl))
        · refine W.is 9 hc9 (by kernel_rfl) ?_
          refine W.run D_ok 4 100 (by kernel_rfl) ?_
          have hv5 := Option.some.inj hv5
          subst hv5
          exact W.fin (by decide) (by kernel_rfl) (Weak.sel [] [2] (by kernel_rfl) (by kernel_rfl) (by kernel_rfl))
      ) ?_
  refine CodeOk.ret ?_
  have h := Option.some.inj h
  subst h
  exact Ends.gen [] (.inr rfl) (RetV.one rfl (OneR.tmp (t := 2) (r := V.bool y3) (by kernel_rfl))) (by kernel_rfl) (by kernel_rfl) (by kernel_rfl)

theorem m_spec_IsWordByte_ok (a0 : Int) {r : Bool} (h : m_spec_IsWordByte a0 = some r) :
    AC Tryd.prog (GS []) 125 [V.int a0] [] (V.bool r) [] := by
  rw [m_spec_IsWordByte] at h
  refine AC.enter Tryd.func125 rfl ?_
  refine CodeOk.cutR (tl 9 [(0, V.int a0)]) [] mix (by
      refine W.run D_ok 1 100 (by kernel_rfl) ?_
      exact W.fin (by decide) (by kernel_rfl) (Weak.sel [] [0] (by kernel_rfl) (by kernel_rfl) (by kernel_rfl))
      ) ?_
  obtain ⟨y3, hv4, h⟩ := bind_some h
  refine CodeOk.cutR (tl 9 [(2, V.bool y3)]) [] mix (by
      refine W.run D_ok 1 100 (by kernel_rfl) ?_
      obtain ⟨r4, hx5, hv4⟩ := bind_some hv4
      refine W.call0 (m_spec_IsLetter_ok a0 hx5) cok83 rfl (by kernel_rfl) ?_
      refine W.run D_ok 1 100 (by kernel_rfl) ?_
      rcases cond_some hv4 with ⟨hc6, hv4⟩ | ⟨hc6, hv4⟩
      · refine W.is 5 hc6 (by kernel_rfl) ?_
        refine W.run D_ok 4 100 (by kernel_rfl) ?_
        have hv4 := Option.some.inj hv4
        subst hv4
        exact W.fin (by decide) (by kernel_rfl) (Weak.sel [] [2] (by kernel_rfl) (by kernel_rfl) (by kernel_rfl))
      · refine W.is 5 hc6 (by kernel_rfl) ?_
        refine W.run D_ok 1 100 (by kernel_rfl) ?_
        obtain ⟨r5, hx7, hv4⟩ := bind_some hv4
        refine W.call0 (m_spec_IsDigit_ok a0 hx7) cok82 rfl (by kernel_rfl) ?_
        refine W.run D_ok 2 100 (by kernel_rfl) ?_
        have hv4 := Option.some.inj hv4
        subst hv4
        exact W.fin (by decide) (by kernel_rfl) (Weak.sel [] [2] (by kernel_rfl) (by kernel_rfl) (by kernel_rfl))
      ) ?_
  refine CodeOk.ret ?_
  have h := Option.some.inj h
  subst h
  exact Ends.gen [] (.inr rfl) (RetV.one rfl (OneR.tmp (t := 2) (r := V.bool y3) (by kernel_rfl))) (by kernel_rfl) (by kernel_rfl) (by kernel_rfl)

theorem m_spec_NameShape_ok (N : Nat) (a0 : List UInt8) {r : Bool} (h : m_spec_NameShape N a0 = some r) :
    AC Tryd.prog (GS []) 86 [V.str a0] [] (V.bool r) [] := by
  rw [m_spec_NameShape] at h
  refine AC.enter Tryd.func86 rfl ?_
  refine CodeOk.cutR (tl 25 [(0, V.str a0)]) [] mix (by
      refine W.run D_ok 1 100 (by kernel_rfl) ?_
      exact W.fin (by decide) (by kernel_rfl) (Weak.sel [] [0] (by kernel_rfl) (by kernel_rfl) (by kernel_rfl))
      ) ?_
  refine CodeOk.seq' ?_
  refine CodeOk.cutR (tl 25 [(0, V.str a0), (3, V.int 0)]) [] mix (by
      refine W.run D_ok 1 100 (by kernel_rfl) ?_
      exact W.fin (by decide) (by kernel_rfl) (Weak.sel [] [0, 3] (by kernel_rfl) (by kernel_rfl) (by kernel_rfl))
      ) ?_
  refine CodeOk.block' ?_
  refine CodeOk.loopJ (fun (⟨a0, y35⟩ : ((List UInt8) × Int)) => ⟨tl 25 [(0, V.str a0), (3, V.int y35)], []⟩) (fun n i => m_spec_NameShape_l1 N n i = some r) (n0 := N) (i0 := (a0, 0)) (Weak.sel [] [0, 3] (by kernel_rfl) (by kernel_rfl) (by kernel_rfl)) h (fun i h => by simp [m_spec_NameShape_l1] at h) ?_
  rintro n1 ⟨a0, y35⟩ h63 ih64
  rw [m_spec_NameShape_l1] at h63
  refine CodeOk.seq' ?_
  refine CodeOk.cutR (tl 25 [(0, V.str a0), (3, V.int y35), (7, V.bool (decide (y35 < (a0.length : Int))))]) [] mix (by
      refine W.run D_ok 4 160 (by kernel_rfl) ?_
      exact W.fin (by decide) (by kernel_rfl) (Weak.sel [] [0, 3, 7] (by kernel_rfl) (by kernel_rfl) (by kernel_rfl))
      ) ?_
  rcases cond_some h63 with ⟨hc66, h63⟩ | ⟨hc66, h63⟩
  · refine CodeOk.ifT hc66 (by kernel_rfl) ?_
    refine CodeOk.skip ?_
    refine CodeOk.weak (st' := ⟨tl 25 [(0, V.str a0), (3, V.int y35), (7, V.bool (decide (y35 < (a0.length : Int))))], []⟩) (Weak.refl _) ?_
    refine CodeOk.seq' ?_
    refine CodeOk.block' ?_
    obtain ⟨b51, hx74, h63⟩ := bind_some h63
    obtain ⟨r52, hx75, h63⟩ := bind_some h63
    refine CodeOk.cutR (tl 25 [(0, V.str a0), (3, V.int y35), (15, V.bool (!r52))]) [] mix (by
        refine W.run D_ok 2 160 (by kernel_rfl) ?_
        refine W.ixS D_ok hx74 (by kernel_rfl) ?_
        refine W.run D_ok 1 160 (by kernel_rfl) ?_
        refine W.call0 (m_spec_IsWordByte_ok (IntKind.wrap .i64 ((b51).toNat : Int)) hx75) cok125 rfl (by kernel_rfl) ?_
        refine W.run D_ok 1 160 (by kernel_rfl) ?_
        exact W.fin (by decide) (by kernel_rfl) (Weak.sel [] [0, 3, 15] (by kernel_rfl) (by kernel_rfl) (by kernel_rfl))
        ) ?_
    rcases cond_some h63 with ⟨hc76, h63⟩ | ⟨hc76, h63⟩
    · refine CodeOk.ifT hc76 (by kernel_rfl) ?_
      refine CodeOk.cutR (tl 25 [(2, V.bool false)]) [] mix (by
          refine W.run D_ok 1 160 (by kernel_rfl) ?_
          exact W.fin (by decide) (by kernel_rfl) (Weak.sel [] [2] (by kernel_rfl) (by kernel_rfl) (by kernel_rfl))
          ) ?_
      refine CodeOk.ret ?_
      have h63 := Option.some.inj h63
      subst h63
      exact Ends.gen [] (.inr rfl) (RetV.one rfl (OneR.tmp (t := 2) (r := V.bool false) (by kernel_rfl))) (by kernel_rfl) (by kernel_rfl) (by kernel_rfl)
    · refine CodeOk.ifF hc76 (by kernel_rfl) ?_
      refine CodeOk.skip ?_
      refine CodeOk.weak (st' := ⟨tl 25 [(0, V.str a0), (3, V.int y35), (15, V.bool (!r52))], []⟩) (Weak.refl _) ?_
      refine CodeOk.endR (tl 25 [(0, V.str a0), (3, V.int (IntKind.wrap .i64 (y35 + 1)))]) [] mix (by
          refine W.run D_ok 3 160 (by kernel_rfl) ?_
          exact W.fin (by decide) (by kernel_rfl) (Weak.sel [] [0, 3] (by kernel_rfl) (by kernel_rfl) (by kernel_rfl))
          ) (fun st hw => ?_)
      exact ih64 (a0, (IntKind.wrap .i64 (y35 + 1))) h63 _ (hw.trans (Weak.sel [] [0, 3] (by kernel_rfl) (by kernel_rfl) (by kernel_rfl)))
  · refine CodeOk.ifF hc66 (by kernel_rfl) ?_
    refine CodeOk.exit ?_
    refine CodeOk.weak (st' := ⟨tl 25 [(0, V.str a0), (3, V.int y35), (7, V.bool (decide (y35 < (a0.length : Int))))], []⟩) (Weak.refl _) ?_
    obtain ⟨y56, hv81, h63⟩ := bind_some h63
    refine CodeOk.cutR (tl 25 [(2, V.bool y56)]) [] mix (by
        refine W.run D_ok 2 160 (by kernel_rfl) ?_
        obtain ⟨r57, hx82, hv81⟩ := bind_some hv81
        refine W.call0 (m_spec_l1In_ok (a0.length : Int) 1 12 hx82) cok48 rfl (by kernel_rfl) ?_
        refine W.run D_ok 1 160 (by kernel_rfl) ?_
        rcases cond_some hv81 with ⟨hc83, hv81⟩ | ⟨hc83, hv81⟩
        · refine W.is 19 hc83 (by kernel_rfl) ?_
          refine W.run D_ok 1 160 (by kernel_rfl) ?_
          obtain ⟨b58, hx84, hv81⟩ := bind_some hv81
          refine W.ixS D_ok hx84 (by kernel_rfl) ?_
          refine W.run D_ok 1 160 (by kernel_rfl) ?_
          obtain ⟨r59, hx85, hv81⟩ := bind_some hv81
          refine W.call0 (m_spec_IsLetter_ok (IntKind.wrap .i64 ((b58).toNat : Int)) hx85) cok83 rfl (by kernel_rfl) ?_
          refine W.run D_ok 2 160 (by kernel_rfl) ?_
          have hv81 := Option.some.inj hv81
          subst hv81
          exact W.fin (by decide) (by kernel_rfl) (Weak.sel [] [2] (by kernel_rfl) (by kernel_rfl) (by kernel_rfl))
        · refine W.is 19 hc83 (by kernel_rfl) ?_
          refine W.run D_ok 6 160 (by kernel_rfl) ?_
          have hv81 := Option.some.inj hv81
          subst hv81
          exact W.fin (by decide) (by kernel_rfl) (Weak.sel [] [2] (by kernel_rfl) (by kernel_rfl) (by kernel_rfl))
        ) ?_
    refine CodeOk.ret ?_
    have h63 := Option.some.inj h63
    subst h63
    exact Ends.gen [] (.inr rfl) (RetV.one rfl (OneR.tmp (t := 2) (r := V.bool y56) (by kernel_rfl))) (by kernel_rfl) (by kernel_rfl) (by kernel_rfl)

theorem m_spec_l3Words_ok {r : (List (List UInt8))} (h : m_spec_l3Words = some r) :
    AC Tryd.prog (GS []) 116 [] [] (.own 100) [(100, .vec false 9 1 (r.map encS))] := by
  rw [m_spec_l3Words] at h
  refine AC.enter Tryd.func116 rfl ?_
  refine CodeOk.cutR (tl 2 []) [] mix (by
      refine W.run D_ok 1 100 (by kernel_rfl) ?_
      exact W.fin (by decide) (by kernel_rfl) (Weak.sel [] [] (by kernel_rfl) (by kernel_rfl) (by kernel_rfl))
      ) ?_
  refine CodeOk.cutR (tl 2 [(0, .own 100)]) [(100, .vec false 9 1 ([[66, 69, 71, 73, 78], [69, 78, 68], [102, 117, 110, 99, 116, 105, 111, 110], [105, 102], [101, 108, 115, 101], [119, 104, 105, 108, 101], [102, 111, 114], [100, 111], [98, 114, 101, 97, 107], [99, 111, 110, 116, 105, 110, 117, 101], [110, 101, 120, 116], [101, 120, 105, 116], [114, 101, 116, 117, 114, 110], [100, 101, 108, 101, 116, 101], [105, 110], [112, 114, 105, 110, 116], [112, 114, 105, 110, 116, 102]].map encS))] mix (by
      refine W.run D_ok 2 100 (by kernel_rfl) ?_
      exact W.fin (by decide) (by kernel_rfl) (Weak.sel [(100, 100)] [0] (by kernel_rfl) (by kernel_rfl) (by kernel_rfl))
      ) ?_
  refine CodeOk.ret ?_
  have h := Option.some.inj h
  subst h
  exact Ends.gen [(100, 100)] (.inr rfl) (RetV.one rfl (OneR.tmp (t := 0) (r := .own 100) (by kernel_rfl))) (by kernel_rfl) (by kernel_rfl) (by kernel_rfl)

theorem m_spec_l3Find_ok (N : Nat) (a0 : List (List UInt8)) (a1 : List UInt8) {r : Int} (h : m_spec_l3Find N a0 a1 = some r) :
    AC Tryd.prog (GS []) 114 [.sl false false (a0.map encS), V.str a1] [] (V.int r) [] := by
  rw [m_spec_l3Find] at h
  refine AC.enter Tryd.func114 rfl ?_
  refine CodeOk.cutR (tl 19 [(0, .sl false false (a0.map encS)), (1, V.str a1)]) [] mix (by
      refine W.run D_ok 1 100 (by kernel_rfl) ?_
      exact W.fin (by decide) (by kernel_rfl) (Weak.sel [] [0, 1] (by kernel_rfl) (by kernel_rfl) (by kernel_rfl))
      ) ?_
  refine CodeOk.seq' ?_
  refine CodeOk.cutR (tl 19 [(0, .sl false false (a0.map encS)), (1, V.str a1), (5, V.int 0)]) [] mix (by
      refine W.run D_ok 1 100 (by kernel_rfl) ?_
      exact W.fin (by decide) (by kernel_rfl) (Weak.sel [] [0, 1, 5] (by kernel_rfl) (by kernel_rfl) (by kernel_rfl))
      ) ?_
  refine CodeOk.block' ?_
  refine CodeOk.loopJ (fun (⟨a0, a1, y19⟩ : ((List (List UInt8)) × (List UInt8) × Int)) => ⟨tl 19 [(0, .sl false false (a0.map encS)), (1, V.str a1), (5, V.int y19)], []⟩) (fun n i => m_spec_l3Find_l1 N n i = some r) (n0 := N) (i0 := (a0, a1, 0)) (Weak.sel [] [0, 1, 5] (by kernel_rfl) (by kernel_rfl) (by kernel_rfl)) h (fun i h => by simp [m_spec_l3Find_l1] at h) ?_
  rintro n1 ⟨a0, a1, y19⟩ h43 ih44
  rw [m_spec_l3Find_l1] at h43
  refine CodeOk.seq' ?_
  refine CodeOk.cutR (tl 19 [(0, .sl false false (a0.map encS)), (1, V.str a1), (5, V.int y19), (9, V.bool (decide (y19 < (a0.length : Int))))]) [] mix (by
      refine W.run D_ok 2 160 (by kernel_rfl) ?_
      refine W.len D_ok encS a0 [] (by kernel_rfl) (by kernel_rfl) ?_
      refine W.run D_ok 1 160 (by kernel_rfl) ?_
      exact W.fin (by decide) (by kernel_rfl) (Weak.sel [] [0, 1, 5, 9] (by kernel_rfl) (by kernel_rfl) (by kernel_rfl))
      ) ?_
  rcases cond_some h43 with ⟨hc46, h43⟩ | ⟨hc46, h43⟩
  · refine CodeOk.ifT hc46 (by kernel_rfl) ?_
    refine CodeOk.skip ?_
    refine CodeOk.weak (st' := ⟨tl 19 [(0, .sl false false (a0.map encS)), (1, V.str a1), (5, V.int y19), (9, V.bool (decide (y19 < (a0.length : Int))))], []⟩) (Weak.refl _) ?_
    refine CodeOk.seq' ?_
    refine CodeOk.block' ?_
    obtain ⟨e28, hx51, h43⟩ := bind_some h43
    refine CodeOk.cutR (tl 19 [(0, .sl false false (a0.map encS)), (1, V.str a1), (5, V.int y19), (17, V.bool (e28 == a1))]) [] mix (by
        refine W.run D_ok 2 160 (by kernel_rfl) ?_
        refine W.ixD D_ok encS hx51 1 (by kernel_rfl) (by kernel_rfl) ?_
        refine W.run D_ok 3 160 (by kernel_rfl) ?_
        exact W.fin (by decide) (by kernel_rfl) (Weak.sel [] [0, 1, 5, 17] (by kernel_rfl) (by kernel_rfl) (by kernel_rfl))
        ) ?_
    rcases cond_some h43 with ⟨hc52, h43⟩ | ⟨hc52, h43⟩
    · refine CodeOk.ifT hc52 (by kernel_rfl) ?_
      refine CodeOk.cutR (tl 19 [(4, V.int y19)]) [] mix (by
          refine W.run D_ok 2 160 (by kernel_rfl) ?_
          exact W.fin (by decide) (by kernel_rfl) (Weak.sel [] [4] (by kernel_rfl) (by kernel_rfl) (by kernel_rfl))
          ) ?_
      refine CodeOk.ret ?_
      have h43 := Option.some.inj h43
      subst h43
      exact Ends.gen [] (.inr rfl) (RetV.one rfl (OneR.tmp (t := 4) (r := V.int y19) (by kernel_rfl))) (by kernel_rfl) (by kernel_rfl) (by kernel_rfl)
    · refine CodeOk.ifF hc52 (by kernel_rfl) ?_
      refine CodeOk.skip ?_
      refine CodeOk.weak (st' := ⟨tl 19 [(0, .sl false false (a0.map encS)), (1, V.str a1), (5, V.int y19), (17, V.bool (e28 == a1))], []⟩) (Weak.refl _) ?_
      refine CodeOk.endR (tl 19 [(0, .sl false false (a0.map encS)), (1, V.str a1), (5, V.int (IntKind.wrap .i64 (y19 + 1)))]) [] mix (by
          refine W.run D_ok 3 160 (by kernel_rfl) ?_
          exact W.fin (by decide) (by kernel_rfl) (Weak.sel [] [0, 1, 5] (by kernel_rfl) (by kernel_rfl) (by kernel_rfl))
          ) (fun st hw => ?_)
      exact ih44 (a0, a1, (IntKind.wrap .i64 (y19 + 1))) h43 _ (hw.trans (Weak.sel [] [0, 1, 5] (by kernel_rfl) (by kernel_rfl) (by kernel_rfl)))
  · refine CodeOk.ifF hc46 (by kernel_rfl) ?_
    refine CodeOk.exit ?_
    refine CodeOk.weak (st' := ⟨tl 19 [(0, .sl false false (a0.map encS)), (1, V.str a1), (5, V.int y19), (9, V.bool (decide (y19 < (a0.length : Int))))], []⟩) (Weak.refl _) ?_
    refine CodeOk.cutR (tl 19 [(4, V.int (-1))]) [] mix (by
        refine W.run D_ok 1 160 (by kernel_rfl) ?_
        exact W.fin (by decide) (by kernel_rfl) (Weak.sel [] [4] (by kernel_rfl) (by kernel_rfl) (by kernel_rfl))
        ) ?_
    refine CodeOk.ret ?_
    have h43 := Option.some.inj h43
    subst h43
    exact Ends.gen [] (.inr rfl) (RetV.one rfl (OneR.tmp (t := 4) (r := V.int (-1)) (by kernel_rfl))) (by kernel_rfl) (by kernel_rfl) (by kernel_rfl)

theorem m_spec_KeywordOf_ok (N : Nat) (a0 : List UInt8) {r : Int} (h : m_spec_KeywordOf N a0 = some r) :
    AC Tryd.prog (GS []) 113 [V.str a0] [] (V.int r) [] := by
  rw [m_spec_KeywordOf] at h
  refine AC.enter Tryd.func113 rfl ?_
  refine CodeOk.cutR (tl 11 [(0, V.str a0)]) [] mix (by
      refine W.run D_ok 1 100 (by kernel_rfl) ?_
      exact W.fin (by decide) (by kernel_rfl) (Weak.sel [] [0] (by kernel_rfl) (by kernel_rfl) (by kernel_rfl))
      ) ?_
  obtain ⟨r3, hx3, h⟩ := bind_some h
  obtain ⟨r4, hx4, h⟩ := bind_some h
  refine CodeOk.cutR (tl 11 [(3, V.int r4)]) [] mix (by
      refine W.call (m_spec_l3Words_ok  hx3) cok116 [] [(100, 100)] [100] (show LayOk _ [] from trivial) (by kernel_rfl) (by kernel_rfl) ?_
      refine W.run D_ok 1 101 (by kernel_rfl) ?_
      refine W.lend (m_spec_l3Find_ok N r3 a0 hx4) cok114 [] [] (LayOk.cons (j := 100) encS encS r3 (by kernel_rfl) (fun _ => rfl) (show LayOk _ [] from trivial)) (.c _) .nil (by kernel_rfl) (by kernel_rfl) ?_
      refine W.run D_ok 1 101 (by kernel_rfl) ?_
      exact W.fin (by decide) (by kernel_rfl) (Weak.sel [] [3] (by kernel_rfl) (by kernel_rfl) (by kernel_rfl))
      ) ?_
  refine CodeOk.seq' ?_
  refine CodeOk.cutR (tl 11 [(3, V.int r4), (8, V.bool (decide (r4 < 0)))]) [] mix (by
      refine W.run D_ok 2 101 (by kernel_rfl) ?_
      exact W.fin (by decide) (by kernel_rfl) (Weak.sel [] [3, 8] (by kernel_rfl) (by kernel_rfl) (by kernel_rfl))
      ) ?_
  rcases cond_some h with ⟨hc6, h⟩ | ⟨hc6, h⟩
  · refine CodeOk.ifT hc6 (by kernel_rfl) ?_
    refine CodeOk.cutR (tl 11 [(2, V.int 0)]) [] mix (by
        refine W.run D_ok 1 101 (by kernel_rfl) ?_
        exact W.fin (by decide) (by kernel_rfl) (Weak.sel [] [2] (by kernel_rfl) (by kernel_rfl) (by kernel_rfl))
        ) ?_
    refine CodeOk.ret ?_
    have h := Option.some.inj h
    subst h
    exact Ends.gen [] (.inr rfl) (RetV.one rfl (OneR.tmp (t := 2) (r := V.int 0) (by kernel_rfl))) (by kernel_rfl) (by kernel_rfl) (by kernel_rfl)
  · refine CodeOk.ifF hc6 (by kernel_rfl) ?_
    refine CodeOk.skip ?_
    refine CodeOk.weak (st' := ⟨tl 11 [(3, V.int r4), (8, V.bool (decide (r4 < 0)))], []⟩) (Weak.refl _) ?_
    refine CodeOk.cutR (tl 11 [(2, V.int (IntKind.wrap .i64 (10 + r4)))]) [] mix (by
        refine W.run D_ok 3 101 (by kernel_rfl) ?_
        exact W.fin (by decide) (by kernel_rfl) (Weak.sel [] [2] (by kernel_rfl) (by kernel_rfl) (by kernel_rfl))
        ) ?_
    refine CodeOk.ret ?_
    have h := Option.some.inj h
    subst h
    exact Ends.gen [] (.inr rfl) (RetV.one rfl (OneR.tmp (t := 2) (r := V.int (IntKind.wrap .i64 (10 + r4))) (by kernel_rfl))) (by kernel_rfl) (by kernel_rfl) (by kernel_rfl)

theorem m_spec_l3Builtins_ok {r : (List (List UInt8))} (h : m_spec_l3Builtins = some r) :
    AC Tryd.prog (GS []) 115 [] [] (.own 100) [(100, .vec false 9 1 (r.map encS))] := by
  rw [m_spec_l3Builtins] at h
  refine AC.enter Tryd.func115 rfl ?_
  refine CodeOk.cutR (tl 2 []) [] mix (by
      refine W.run D_ok 1 100 (by kernel_rfl) ?_
      exact W.fin (by decide) (by kernel_rfl) (Weak.sel [] [] (by kernel_rfl) (by kernel_rfl) (by kernel_rfl))
      ) ?_
  refine CodeOk.cutR (tl 2 [(0, .own 100)]) [(100, .vec false 9 1 ([[97, 116, 97, 110, 50], [99, 108, 111, 115, 101], [99, 111, 115], [101, 120, 112], [103, 115, 117, 98], [105, 110, 100, 101, 120], [105, 110, 116], [108, 101, 110, 103, 116, 104], [108, 111, 103], [109, 97, 116, 99, 104], [114, 97, 110, 100], [115, 105, 110], [115, 112, 108, 105, 116], [115, 112, 114, 105, 110, 116, 102], [115, 113, 114, 116], [115, 114, 97, 110, 100], [115, 117, 98], [115, 117, 98, 115, 116, 114], [115, 121, 115, 116, 101, 109], [116, 111, 108, 111, 119, 101, 114], [116, 111, 117, 112, 112, 101, 114]].map encS))] mix (by
      refine W.run D_ok 2 100 (by kernel_rfl) ?_
      exact W.fin (by decide) (by kernel_rfl) (Weak.sel [(100, 100)] [0] (by kernel_rfl) (by kernel_rfl) (by kernel_rfl))
      ) ?_
  refine CodeOk.ret ?_
  have h := Option.some.inj h
  subst h
  exact Ends.gen [(100, 100)] (.inr rfl) (RetV.one rfl (OneR.tmp (t := 0) (r := .own 100) (by kernel_rfl))) (by kernel_rfl) (by kernel_rfl) (by kernel_rfl)

theorem m_spec_IsBuiltin_ok (N : Nat) (a0 : List UInt8) {r : Bool} (h : m_spec_IsBuiltin N a0 = some r) :
    AC Tryd.prog (GS []) 73 [V.str a0] [] (V.bool r) [] := by
  rw [m_spec_IsBuiltin] at h
  refine AC.enter Tryd.func73 rfl ?_
  refine CodeOk.cutR (tl 7 [(0, V.str a0)]) [] mix (by
      refine W.run D_ok 1 100 (by kernel_rfl) ?_
      exact W.fin (by decide) (by kernel_rfl) (Weak.sel [] [0] (by kernel_rfl) (by kernel_rfl) (by kernel_rfl))
      ) ?_
  obtain ⟨r3, hx3, h⟩ := bind_some h
  obtain ⟨r4, hx4, h⟩ := bind_some h
  refine CodeOk.cutR (tl 7 [(2, V.bool (decide (r4 ≥ 0)))]) [] mix (by
      refine W.call (m_spec_l3Builtins_ok  hx3) cok115 [] [(100, 100)] [100] (show LayOk _ [] from trivial) (by kernel_rfl) (by kernel_rfl) ?_
      refine W.run D_ok 1 101 (by kernel_rfl) ?_
      refine W.lend (m_spec_l3Find_ok N r3 a0 hx4) cok114 [] [] (LayOk.cons (j := 100) encS encS r3 (by kernel_rfl) (fun _ => rfl) (show LayOk _ [] from trivial)) (.c _) .nil (by kernel_rfl) (by kernel_rfl) ?_
      refine W.run D_ok 2 101 (by kernel_rfl) ?_
      exact W.fin (by decide) (by kernel_rfl) (Weak.sel [] [2] (by kernel_rfl) (by kernel_rfl) (by kernel_rfl))
      ) ?_
  refine CodeOk.ret ?_
  have h := Option.some.inj h
  subst h
  exact Ends.gen [] (.inr rfl) (RetV.one rfl (OneR.tmp (t := 2) (r := V.bool (decide (r4 ≥ 0))) (by kernel_rfl))) (by kernel_rfl) (by kernel_rfl) (by kernel_rfl)

theorem m_spec_NameOk_ok (N : Nat) (a0 : List UInt8) {r : Bool} (h : m_spec_NameOk N a0 = some r) :
    AC Tryd.prog (GS []) 72 [V.str a0] [] (V.bool r) [] := by
  rw [m_spec_NameOk] at h
  refine AC.enter Tryd.func72 rfl ?_
  refine CodeOk.cutR (tl 15 [(0, V.str a0)]) [] mix (by
      refine W.run D_ok 1 100 (by kernel_rfl) ?_
      exact W.fin (by decide) (by kernel_rfl) (Weak.sel [] [0] (by kernel_rfl) (by kernel_rfl) (by kernel_rfl))
      ) ?_
  obtain ⟨y4, hv6, h⟩ := bind_some h
  refine CodeOk.cutR (tl 15 [(2, V.bool y4)]) [] mix (by
      refine W.run D_ok 1 100 (by kernel_rfl) ?_
      obtain ⟨r5, hx7, hv6⟩ := bind_some hv6
      refine W.call0 (m_spec_NameShape_ok N a0 hx7) cok86 rfl (by kernel_rfl) ?_
      refine W.run D_ok 1 100 (by kernel_rfl) ?_
      rcases cond_some hv6 with ⟨hc8, hv6⟩ | ⟨hc8, hv6⟩
      · refine W.is 5 hc8 (by kernel_rfl) ?_
        refine W.run D_ok 1 100 (by kernel_rfl) ?_
        obtain ⟨r6, hx9, hv6⟩ := bind_some hv6
        refine W.call0 (m_spec_KeywordOf_ok N a0 hx9) cok113 rfl (by kernel_rfl) ?_
        refine W.run D_ok 3 100 (by kernel_rfl) ?_
        rcases cond_some hv6 with ⟨hc10, hv6⟩ | ⟨hc10, hv6⟩
        · refine W.is 10 hc10 (by kernel_rfl) ?_
          refine W.run D_ok 1 100 (by kernel_rfl) ?_
          obtain ⟨r7, hx11, hv6⟩ := bind_some hv6
          refine W.call0 (m_spec_IsBuiltin_ok N a0 hx11) cok73 rfl (by kernel_rfl) ?_
          refine W.run D_ok 3 100 (by kernel_rfl) ?_
          have hv6 := Option.some.inj hv6
          subst hv6
          exact W.fin (by decide) (by kernel_rfl) (Weak.sel [] [2] (by kernel_rfl) (by kernel_rfl) (by kernel_rfl))
        · refine W.is 10 hc10 (by kernel_rfl) ?_
          refine W.run D_ok 5 100 (by kernel_rfl) ?_
          have hv6 := Option.some.inj hv6
          subst hv6
          exact W.fin (by decide) (by kernel_rfl) (Weak.sel [] [2] (by kernel_rfl) (by kernel_rfl) (by kernel_rfl))
      · refine W.is 5 hc8 (by kernel_rfl) ?_
        refine W.run D_ok 10 100 (by kernel_rfl) ?_
        have hv6 := Option.some.inj hv6
        subst hv6
        exact W.fin (by decide) (by kernel_rfl) (Weak.sel [] [2] (by kernel_rfl) (by kernel_rfl) (by kernel_rfl))
      ) ?_
  refine CodeOk.ret ?_
  have h := Option.some.inj h
  subst h
  exact Ends.gen [] (.inr rfl) (RetV.one rfl (OneR.tmp (t := 2) (r := V.bool y4) (by kernel_rfl))) (by kernel_rfl) (by kernel_rfl) (by kernel_rfl)

theorem m_spec_l3Signs_ok {r : (List (List UInt8))} (h : m_spec_l3Signs = some r) :
    AC Tryd.prog (GS []) 117 [] [] (.own 100) [(100, .vec false 9 1 (r.map encS))] := by
  rw [m_spec_l3Signs] at h
  refine AC.enter Tryd.func117 rfl ?_
  refine CodeOk.cutR (tl 2 []) [] mix (by
      refine W.run D_ok 1 100 (by kernel_rfl) ?_
      exact W.fin (by decide) (by kernel_rfl) (Weak.sel [] [] (by kernel_rfl) (by kernel_rfl) (by kernel_rfl))
      ) ?_
  refine CodeOk.cutR (tl 2 [(0, .own 100)]) [(100, .vec false 9 1 ([[123], [125], [40], [41], [91], [93], [44], [59], [43, 61], [45, 61], [42, 61], [47, 61], [37, 61], [94, 61], [124, 124], [38, 38], [33, 126], [61, 61], [60, 61], [62, 61], [33, 61], [43, 43], [45, 45], [62, 62], [61], [43], [45], [42], [47], [37], [94], [33], [62], [60], [124], [63], [58], [126], [36]].map encS))] mix (by
      refine W.run D_ok 2 100 (by kernel_rfl) ?_
      exact W.fin (by decide) (by kernel_rfl) (Weak.sel [(100, 100)] [0] (by kernel_rfl) (by kernel_rfl) (by kernel_rfl))
      ) ?_
  refine CodeOk.ret ?_
  have h := Option.some.inj h
  subst h
  exact Ends.gen [(100, 100)] (.inr rfl) (RetV.one rfl (OneR.tmp (t := 0) (r := .own 100) (by kernel_rfl))) (by kernel_rfl) (by kernel_rfl) (by kernel_rfl)

theorem m_spec_SpellOf_ok (a0 : Int) {r : (List UInt8)} (h : m_spec_SpellOf a0 = some r) :
    AC Tryd.prog (GS []) 74 [V.int a0] [] (V.str r) [] := by
  rw [m_spec_SpellOf] at h
  refine AC.enter Tryd.func74 rfl ?_
  refine CodeOk.cutR (tl 22 [(0, V.int a0)]) [] mix (by
      refine W.run D_ok 1 100 (by kernel_rfl) ?_
      exact W.fin (by decide) (by kernel_rfl) (Weak.sel [] [0] (by kernel_rfl) (by kernel_rfl) (by kernel_rfl))
      ) ?_
  refine CodeOk.seq' ?_
  refine CodeOk.block' ?_
  refine CodeOk.cutR (tl 22 [(0, V.int a0), (3, V.bool (a0 == 1))]) [] mix (by
      refine W.run D_ok 3 100 (by kernel_rfl) ?_
      exact W.fin (by decide) (by kernel_rfl) (Weak.sel [] [0, 3] (by kernel_rfl) (by kernel_rfl) (by kernel_rfl))
      ) ?_
  rcases cond_some h with ⟨hc16, h⟩ | ⟨hc16, h⟩
  · refine CodeOk.ifT hc16 (by kernel_rfl) ?_
    refine CodeOk.cutR (tl 22 [(2, V.str [10])]) [] mix (by
        refine W.run D_ok 1 100 (by kernel_rfl) ?_
        exact W.fin (by decide) (by kernel_rfl) (Weak.sel [] [2] (by kernel_rfl) (by kernel_rfl) (by kernel_rfl))
        ) ?_
    refine CodeOk.ret ?_
    have h := Option.some.inj h
    subst h
    exact Ends.gen [] (.inr rfl) (RetV.one rfl (OneR.tmp (t := 2) (r := V.str [10]) (by kernel_rfl))) (by kernel_rfl) (by kernel_rfl) (by kernel_rfl)
  · refine CodeOk.ifF hc16 (by kernel_rfl) ?_
    obtain ⟨r14, hx18, h⟩ := bind_some h
    refine CodeOk.cutR (tl 22 [(0, V.int a0), (6, V.bool r14)]) [] mix (by
        refine W.run D_ok 1 100 (by kernel_rfl) ?_
        refine W.call0 (m_spec_l1In_ok a0 10 26 hx18) cok48 rfl (by kernel_rfl) ?_
        refine W.run D_ok 1 100 (by kernel_rfl) ?_
        exact W.fin (by decide) (by kernel_rfl) (Weak.sel [] [0, 6] (by kernel_rfl) (by kernel_rfl) (by kernel_rfl))
        ) ?_
    rcases cond_some h with ⟨hc19, h⟩ | ⟨hc19, h⟩
    · refine CodeOk.ifT hc19 (by kernel_rfl) ?_
      obtain ⟨r17, hx22, h⟩ := bind_some h
      obtain ⟨e18, hx23, h⟩ := bind_some h
      refine CodeOk.cutR (tl 22 [(2, V.str e18)]) [] mix (by
          refine W.call (m_spec_l3Words_ok  hx22) cok116 [] [(100, 100)] [100] (show LayOk _ [] from trivial) (by kernel_rfl) (by kernel_rfl) ?_
          refine W.run D_ok 2 101 (by kernel_rfl) ?_
          refine W.ixO D_ok encS hx23 100 1 (by kernel_rfl) ?_
          refine W.ldO D_ok encS hx23 9 100 0 (V.str e18) (by kernel_rfl) (by kernel_rfl) ?_
          refine W.run D_ok 1 101 (by kernel_rfl) ?_
          exact W.fin (by decide) (by kernel_rfl) (Weak.sel [] [2] (by kernel_rfl) (by kernel_rfl) (by kernel_rfl))
          ) ?_
      refine CodeOk.ret ?_
      have h := Option.some.inj h
      subst h
      exact Ends.gen [] (.inr rfl) (RetV.one rfl (OneR.tmp (t := 2) (r := V.str e18) (by kernel_rfl))) (by kernel_rfl) (by kernel_rfl) (by kernel_rfl)
    · refine CodeOk.ifF hc19 (by kernel_rfl) ?_
      obtain ⟨r20, hx25, h⟩ := bind_some h
      refine CodeOk.cutR (tl 22 [(0, V.int a0), (14, V.bool r20)]) [] mix (by
          refine W.run D_ok 1 100 (by kernel_rfl) ?_
          refine W.call0 (m_spec_l1In_ok a0 30 68 hx25) cok48 rfl (by kernel_rfl) ?_
          refine W.run D_ok 1 100 (by kernel_rfl) ?_
          exact W.fin (by decide) (by kernel_rfl) (Weak.sel [] [0, 14] (by kernel_rfl) (by kernel_rfl) (by kernel_rfl))
          ) ?_
      rcases cond_some h with ⟨hc26, h⟩ | ⟨hc26, h⟩
      · refine CodeOk.ifT hc26 (by kernel_rfl) ?_
        obtain ⟨r23, hx29, h⟩ := bind_some h
        obtain ⟨e24, hx30, h⟩ := bind_some h
        refine CodeOk.cutR (tl 22 [(2, V.str e24)]) [] mix (by
            refine W.call (m_spec_l3Signs_ok  hx29) cok117 [] [(100, 100)] [100] (show LayOk _ [] from trivial) (by kernel_rfl) (by kernel_rfl) ?_
            refine W.run D_ok 2 101 (by kernel_rfl) ?_
            refine W.ixO D_ok encS hx30 100 1 (by kernel_rfl) ?_
            refine W.ldO D_ok encS hx30 9 100 0 (V.str e24) (by kernel_rfl) (by kernel_rfl) ?_
            refine W.run D_ok 1 101 (by kernel_rfl) ?_
            exact W.fin (by decide) (by kernel_rfl) (Weak.sel [] [2] (by kernel_rfl) (by kernel_rfl) (by kernel_rfl))
            ) ?_
        refine CodeOk.ret ?_
        have h := Option.some.inj h
        subst h
        exact Ends.gen [] (.inr rfl) (RetV.one rfl (OneR.tmp (t := 2) (r := V.str e24) (by kernel_rfl))) (by kernel_rfl) (by kernel_rfl) (by kernel_rfl)
      · refine CodeOk.ifF hc26 (by kernel_rfl) ?_
        refine CodeOk.skip ?_
        refine CodeOk.weak (st' := ⟨tl 22 [(0, V.int a0), (14, V.bool r20)], []⟩) (Weak.refl _) ?_
        refine CodeOk.cutR (tl 22 [(2, V.str [])]) [] mix (by
            refine W.run D_ok 1 100 (by kernel_rfl) ?_
            exact W.fin (by decide) (by kernel_rfl) (Weak.sel [] [2] (by kernel_rfl) (by kernel_rfl) (by kernel_rfl))
            ) ?_
        refine CodeOk.ret ?_
        have h := Option.some.inj h
        subst h
        exact Ends.gen [] (.inr rfl) (RetV.one rfl (OneR.tmp (t := 2) (r := V.str []) (by kernel_rfl))) (by kernel_rfl) (by kernel_rfl) (by kernel_rfl)

theorem m_spec_TokenOk_ok (N : Nat) (a0 : SToken) {r : Bool} (h : m_spec_TokenOk N a0 = some r) :
    AC Tryd.prog (GS []) 44 [.agg [V.int a0.Kind, V.str a0.Text, V.int a0.At]] [] (V.bool r) [] := by
  rw [m_spec_TokenOk] at h
  refine AC.enter Tryd.func44 rfl ?_
  refine CodeOk.cutR (tl 71 [(1, .loc 100 0)]) [(100, .cells 46 [V.int a0.Kind, V.str a0.Text, V.int a0.At])] mix (by
      refine W.run D_ok 2 100 (by kernel_rfl) ?_
      exact W.fin (by decide) (by kernel_rfl) (Weak.sel [(100, 100)] [1] (by kernel_rfl) (by kernel_rfl) (by kernel_rfl))
      ) ?_
  refine CodeOk.cutR (tl 71 [(1, .loc 100 0), (3, V.int (a0.Text.length : Int))]) [(100, .cells 46 [V.int a0.Kind, V.str a0.Text, V.int a0.At])] mix (by
      refine W.run D_ok 4 101 (by kernel_rfl) ?_
      exact W.fin (by decide) (by kernel_rfl) (Weak.sel [(100, 100)] [1, 3] (by kernel_rfl) (by kernel_rfl) (by kernel_rfl))
      ) ?_
  refine CodeOk.seq' ?_
  refine CodeOk.cutR (tl 71 [(1, .loc 100 0), (3, V.int (a0.Text.length : Int)), (8, V.int a0.Kind)]) [(100, .cells 46 [V.int a0.Kind, V.str a0.Text, V.int a0.At])] mix (by
      refine W.run D_ok 2 101 (by kernel_rfl) ?_
      exact W.fin (by decide) (by kernel_rfl) (Weak.sel [(100, 100)] [1, 3, 8] (by kernel_rfl) (by kernel_rfl) (by kernel_rfl))
      ) ?_
  refine CodeOk.block' ?_
  refine CodeOk.cutR (tl 71 [(1, .loc 100 0), (3, V.int (a0.Text.length : Int)), (8, V.int a0.Kind), (9, V.bool (a0.Kind == 2))]) [(100, .cells 46 [V.int a0.Kind, V.str a0.Text, V.int a0.At])] mix (by
      refine W.run D_ok 2 101 (by kernel_rfl) ?_
      exact W.fin (by decide) (by kernel_rfl) (Weak.sel [(100, 100)] [1, 3, 8, 9] (by kernel_rfl) (by kernel_rfl) (by kernel_rfl))
      ) ?_
  rcases cond_some h with ⟨hc33, h⟩ | ⟨hc33, h⟩
  · refine CodeOk.ifT hc33 (by kernel_rfl) ?_
    obtain ⟨y20, hv38, h⟩ := bind_some h
    refine CodeOk.cutR (tl 71 [(2, V.bool y20)]) [] mix (by
        refine W.run D_ok 3 101 (by kernel_rfl) ?_
        rcases cond_some hv38 with ⟨hc39, hv38⟩ | ⟨hc39, hv38⟩
        · refine W.is 13 hc39 (by kernel_rfl) ?_
          refine W.run D_ok 2 101 (by kernel_rfl) ?_
          obtain ⟨b21, hx40, hv38⟩ := bind_some hv38
          refine W.ixS D_ok hx40 (by kernel_rfl) ?_
          refine W.run D_ok 3 101 (by kernel_rfl) ?_
          rcases cond_some hv38 with ⟨hc41, hv38⟩ | ⟨hc41, hv38⟩
          · refine W.is 19 hc41 (by kernel_rfl) ?_
            refine W.run D_ok 2 101 (by kernel_rfl) ?_
            obtain ⟨r22, hx42, hv38⟩ := bind_some hv38
            refine W.call0 (m_spec_l4Plain_ok N a0.Text hx42) cok68 rfl (by kernel_rfl) ?_
            refine W.run D_ok 2 101 (by kernel_rfl) ?_
            have hv38 := Option.some.inj hv38
            subst hv38
            exact W.fin (by decide) (by kernel_rfl) (Weak.sel [] [2] (by kernel_rfl) (by kernel_rfl) (by kernel_rfl))
          · refine W.is 19 hc41 (by kernel_rfl) ?_
            refine W.run D_ok 5 101 (by kernel_rfl) ?_
            have hv38 := Option.some.inj hv38
            subst hv38
            exact W.fin (by decide) (by kernel_rfl) (Weak.sel [] [2] (by kernel_rfl) (by kernel_rfl) (by kernel_rfl))
        · refine W.is 13 hc39 (by kernel_rfl) ?_
          refine W.run D_ok 11 101 (by kernel_rfl) ?_
          have hv38 := Option.some.inj hv38
          subst hv38
          exact W.fin (by decide) (by kernel_rfl) (Weak.sel [] [2] (by kernel_rfl) (by kernel_rfl) (by kernel_rfl))
        ) ?_
    refine CodeOk.ret ?_
    have h := Option.some.inj h
    subst h
    exact Ends.gen [] (.inr rfl) (RetV.one rfl (OneR.tmp (t := 2) (r := V.bool y20) (by kernel_rfl))) (by kernel_rfl) (by kernel_rfl) (by kernel_rfl)
  · refine CodeOk.ifF hc33 (by kernel_rfl) ?_
    refine CodeOk.cutR (tl 71 [(1, .loc 100 0), (3, V.int (a0.Text.length : Int)), (8, V.int a0.Kind), (24, V.bool (a0.Kind == 3))]) [(100, .cells 46 [V.int a0.Kind, V.str a0.Text, V.int a0.At])] mix (by
        refine W.run D_ok 2 101 (by kernel_rfl) ?_
        exact W.fin (by decide) (by kernel_rfl) (Weak.sel [(100, 100)] [1, 3, 8, 24] (by kernel_rfl) (by kernel_rfl) (by kernel_rfl))
        ) ?_
    rcases cond_some h with ⟨hc43, h⟩ | ⟨hc43, h⟩
    · refine CodeOk.ifT hc43 (by kernel_rfl) ?_
      obtain ⟨y24, hv46, h⟩ := bind_some h
      refine CodeOk.cutR (tl 71 [(2, V.bool y24)]) [] mix (by
          refine W.run D_ok 3 101 (by kernel_rfl) ?_
          rcases cond_some hv46 with ⟨hc47, hv46⟩ | ⟨hc47, hv46⟩
          · refine W.is 28 hc47 (by kernel_rfl) ?_
            refine W.run D_ok 2 101 (by kernel_rfl) ?_
            obtain ⟨r25, hx48, hv46⟩ := bind_some hv46
            refine W.call0 (m_spec_NumEnd_ok N a0.Text 0 hx48) cok69 rfl (by kernel_rfl) ?_
            refine W.run D_ok 4 101 (by kernel_rfl) ?_
            have hv46 := Option.some.inj hv46
            subst hv46
            exact W.fin (by decide) (by kernel_rfl) (Weak.sel [] [2] (by kernel_rfl) (by kernel_rfl) (by kernel_rfl))
          · refine W.is 28 hc47 (by kernel_rfl) ?_
            refine W.run D_ok 7 101 (by kernel_rfl) ?_
            have hv46 := Option.some.inj hv46
            subst hv46
            exact W.fin (by decide) (by kernel_rfl) (Weak.sel [] [2] (by kernel_rfl) (by kernel_rfl) (by kernel_rfl))
          ) ?_
      refine CodeOk.ret ?_
      have h := Option.some.inj h
      subst h
      exact Ends.gen [] (.inr rfl) (RetV.one rfl (OneR.tmp (t := 2) (r := V.bool y24) (by kernel_rfl))) (by kernel_rfl) (by kernel_rfl) (by kernel_rfl)
    · refine CodeOk.ifF hc43 (by kernel_rfl) ?_
      refine CodeOk.cutR (tl 71 [(1, .loc 100 0), (3, V.int (a0.Text.length : Int)), (8, V.int a0.Kind), (35, V.bool (a0.Kind == 4))]) [(100, .cells 46 [V.int a0.Kind, V.str a0.Text, V.int a0.At])] mix (by
          refine W.run D_ok 2 101 (by kernel_rfl) ?_
          exact W.fin (by decide) (by kernel_rfl) (Weak.sel [(100, 100)] [1, 3, 8, 35] (by kernel_rfl) (by kernel_rfl) (by kernel_rfl))
          ) ?_
      rcases cond_some h with ⟨hc49, h⟩ | ⟨hc49, h⟩
      · refine CodeOk.ifT hc49 (by kernel_rfl) ?_
        obtain ⟨r27, hx51, h⟩ := bind_some h
        refine CodeOk.cutR (tl 71 [(2, V.bool (r27 == (a0.Text.length : Int)))]) [] mix (by
            refine W.run D_ok 2 101 (by kernel_rfl) ?_
            refine W.call0 (m_spec_StrEnd_ok N a0.Text 0 hx51) cok70 rfl (by kernel_rfl) ?_
            refine W.run D_ok 3 101 (by kernel_rfl) ?_
            exact W.fin (by decide) (by kernel_rfl) (Weak.sel [] [2] (by kernel_rfl) (by kernel_rfl) (by kernel_rfl))
            ) ?_
        refine CodeOk.ret ?_
        have h := Option.some.inj h
        subst h
        exact Ends.gen [] (.inr rfl) (RetV.one rfl (OneR.tmp (t := 2) (r := V.bool (r27 == (a0.Text.length : Int))) (by kernel_rfl))) (by kernel_rfl) (by kernel_rfl) (by kernel_rfl)
      · refine CodeOk.ifF hc49 (by kernel_rfl) ?_
        refine CodeOk.cutR (tl 71 [(1, .loc 100 0), (3, V.int (a0.Text.length : Int)), (8, V.int a0.Kind), (42, V.bool (a0.Kind == 5))]) [(100, .cells 46 [V.int a0.Kind, V.str a0.Text, V.int a0.At])] mix (by
            refine W.run D_ok 2 101 (by kernel_rfl) ?_
            exact W.fin (by decide) (by kernel_rfl) (Weak.sel [(100, 100)] [1, 3, 8, 42] (by kernel_rfl) (by kernel_rfl) (by kernel_rfl))
            ) ?_
        rcases cond_some h with ⟨hc52, h⟩ | ⟨hc52, h⟩
        · refine CodeOk.ifT hc52 (by kernel_rfl) ?_
          obtain ⟨r29, hx54, h⟩ := bind_some h
          refine CodeOk.cutR (tl 71 [(2, V.bool (r29 == (a0.Text.length : Int)))]) [] mix (by
              refine W.run D_ok 2 101 (by kernel_rfl) ?_
              refine W.call0 (m_spec_EreEnd_ok N a0.Text 0 hx54) cok71 rfl (by kernel_rfl) ?_
              refine W.run D_ok 3 101 (by kernel_rfl) ?_
              exact W.fin (by decide) (by kernel_rfl) (Weak.sel [] [2] (by kernel_rfl) (by kernel_rfl) (by kernel_rfl))
              ) ?_
          refine CodeOk.ret ?_
          have h := Option.some.inj h
          subst h
          exact Ends.gen [] (.inr rfl) (RetV.one rfl (OneR.tmp (t := 2) (r := V.bool (r29 == (a0.Text.length : Int))) (by kernel_rfl))) (by kernel_rfl) (by kernel_rfl) (by kernel_rfl)
        · refine CodeOk.ifF hc52 (by kernel_rfl) ?_
          refine CodeOk.join (fun (⟨a0, y30⟩ : (SToken × Bool)) => ⟨tl 71 [(1, .loc 100 0), (8, V.int a0.Kind), (49, V.bool y30)], [(100, .cells 46 [V.int a0.Kind, V.str a0.Text, V.int a0.At])]⟩) (fun i => m_spec_TokenOk_k1 N i = some r) ?_ ?_
          · rintro ⟨a0, y30⟩ h56
            rw [m_spec_TokenOk_k1] at h56
            rcases cond_some h56 with ⟨hc57, h56⟩ | ⟨hc57, h56⟩
            · refine CodeOk.ifT hc57 (by kernel_rfl) ?_
              obtain ⟨r32, hx59, h56⟩ := bind_some h56
              refine CodeOk.cutR (tl 71 [(2, V.bool r32)]) [] mix (by
                  refine W.run D_ok 2 101 (by kernel_rfl) ?_
                  refine W.call0 (m_spec_NameOk_ok N a0.Text hx59) cok72 rfl (by kernel_rfl) ?_
                  refine W.run D_ok 1 101 (by kernel_rfl) ?_
                  exact W.fin (by decide) (by kernel_rfl) (Weak.sel [] [2] (by kernel_rfl) (by kernel_rfl) (by kernel_rfl))
                  ) ?_
              refine CodeOk.ret ?_
              have h56 := Option.some.inj h56
              subst h56
              exact Ends.gen [] (.inr rfl) (RetV.one rfl (OneR.tmp (t := 2) (r := V.bool r32) (by kernel_rfl))) (by kernel_rfl) (by kernel_rfl) (by kernel_rfl)
            · refine CodeOk.ifF hc57 (by kernel_rfl) ?_
              refine CodeOk.cutR (tl 71 [(1, .loc 100 0), (55, V.bool (a0.Kind == 8))]) [(100, .cells 46 [V.int a0.Kind, V.str a0.Text, V.int a0.At])] mix (by
                  refine W.run D_ok 2 101 (by kernel_rfl) ?_
                  exact W.fin (by decide) (by kernel_rfl) (Weak.sel [(100, 100)] [1, 55] (by kernel_rfl) (by kernel_rfl) (by kernel_rfl))
                  ) ?_
              rcases cond_some h56 with ⟨hc60, h56⟩ | ⟨hc60, h56⟩
              · refine CodeOk.ifT hc60 (by kernel_rfl) ?_
                obtain ⟨r34, hx62, h56⟩ := bind_some h56
                refine CodeOk.cutR (tl 71 [(2, V.bool r34)]) [] mix (by
                    refine W.run D_ok 2 101 (by kernel_rfl) ?_
                    refine W.call0 (m_spec_IsBuiltin_ok N a0.Text hx62) cok73 rfl (by kernel_rfl) ?_
                    refine W.run D_ok 1 101 (by kernel_rfl) ?_
                    exact W.fin (by decide) (by kernel_rfl) (Weak.sel [] [2] (by kernel_rfl) (by kernel_rfl) (by kernel_rfl))
                    ) ?_
                refine CodeOk.ret ?_
                have h56 := Option.some.inj h56
                subst h56
                exact Ends.gen [] (.inr rfl) (RetV.one rfl (OneR.tmp (t := 2) (r := V.bool r34) (by kernel_rfl))) (by kernel_rfl) (by kernel_rfl) (by kernel_rfl)
              · refine CodeOk.ifF hc60 (by kernel_rfl) ?_
                refine CodeOk.skip ?_
                refine CodeOk.weak (st' := ⟨tl 71 [(1, .loc 100 0), (55, V.bool (a0.Kind == 8))], [(100, .cells 46 [V.int a0.Kind, V.str a0.Text, V.int a0.At])]⟩) (Weak.refl _) ?_
                obtain ⟨y36, hv65, h56⟩ := bind_some h56
                refine CodeOk.cutR (tl 71 [(2, V.bool y36)]) [] mix (by
                    refine W.run D_ok 4 101 (by kernel_rfl) ?_
                    rcases cond_some hv65 with ⟨hc66, hv65⟩ | ⟨hc66, hv65⟩
                    · refine W.is 63 hc66 (by kernel_rfl) ?_
                      refine W.run D_ok 2 101 (by kernel_rfl) ?_
                      obtain ⟨r37, hx67, hv65⟩ := bind_some hv65
                      refine W.call0 (m_spec_SpellOf_ok a0.Kind hx67) cok74 rfl (by kernel_rfl) ?_
                      refine W.run D_ok 5 101 (by kernel_rfl) ?_
                      have hv65 := Option.some.inj hv65
                      subst hv65
                      exact W.fin (by decide) (by kernel_rfl) (Weak.sel [] [2] (by kernel_rfl) (by kernel_rfl) (by kernel_rfl))
                    · refine W.is 63 hc66 (by kernel_rfl) ?_
                      refine W.run D_ok 8 101 (by kernel_rfl) ?_
                      have hv65 := Option.some.inj hv65
                      subst hv65
                      exact W.fin (by decide) (by kernel_rfl) (Weak.sel [] [2] (by kernel_rfl) (by kernel_rfl) (by kernel_rfl))
                    ) ?_
                refine CodeOk.ret ?_
                have h56 := Option.some.inj h56
                subst h56
                exact Ends.gen [] (.inr rfl) (RetV.one rfl (OneR.tmp (t := 2) (r := V.bool y36) (by kernel_rfl))) (by kernel_rfl) (by kernel_rfl) (by kernel_rfl)
          intro hk68
          refine CodeOk.cutR (tl 71 [(1, .loc 100 0), (8, V.int a0.Kind), (49, V.bool (a0.Kind == 6))]) [(100, .cells 46 [V.int a0.Kind, V.str a0.Text, V.int a0.At])] mix (by
              refine W.run D_ok 2 101 (by kernel_rfl) ?_
              exact W.fin (by decide) (by kernel_rfl) (Weak.sel [(100, 100)] [1, 8, 49] (by kernel_rfl) (by kernel_rfl) (by kernel_rfl))
              ) ?_
          rcases cond_some h with ⟨hc69, h⟩ | ⟨hc69, h⟩
          · refine CodeOk.ifT hc69 (by kernel_rfl) ?_
            refine CodeOk.skip ?_
            exact hk68 (a0, (a0.Kind == 6)) h _ (Weak.sel [(100, 100)] [1, 8, 49] (by kernel_rfl) (by kernel_rfl) (by kernel_rfl))
          · refine CodeOk.ifF hc69 (by kernel_rfl) ?_
            refine CodeOk.endR (tl 71 [(1, .loc 100 0), (8, V.int a0.Kind), (49, V.bool (a0.Kind == 7))]) [(100, .cells 46 [V.int a0.Kind, V.str a0.Text, V.int a0.At])] mix (by
                refine W.run D_ok 2 101 (by kernel_rfl) ?_
                exact W.fin (by decide) (by kernel_rfl) (Weak.sel [(100, 100)] [1, 8, 49] (by kernel_rfl) (by kernel_rfl) (by kernel_rfl))
                ) (fun st hw => ?_)
            exact hk68 (a0, (a0.Kind == 7)) h _ (hw.trans (Weak.sel [(100, 100)] [1, 8, 49] (by kernel_rfl) (by kernel_rfl) (by kernel_rfl)))

theorem m_spec_EndsOperand_ok (a0 : Int) {r : Bool} (h : m_spec_EndsOperand a0 = some r) :
    AC Tryd.prog (GS []) 45 [V.int a0] [] (V.bool r) [] := by
  rw [m_spec_EndsOperand] at h
  refine AC.enter Tryd.func45 rfl ?_
  refine CodeOk.cutR (tl 14 [(0, V.int a0)]) [] mix (by
      refine W.run D_ok 1 100 (by kernel_rfl) ?_
      exact W.fin (by decide) (by kernel_rfl) (Weak.sel [] [0] (by kernel_rfl) (by kernel_rfl) (by kernel_rfl))
      ) ?_
  refine CodeOk.seq' ?_
  refine CodeOk.cutR (tl 14 [(3, V.int a0)]) [] mix (by
      refine W.run D_ok 1 100 (by kernel_rfl) ?_
      exact W.fin (by decide) (by kernel_rfl) (Weak.sel [] [3] (by kernel_rfl) (by kernel_rfl) (by kernel_rfl))
      ) ?_
  refine CodeOk.block' ?_
  refine CodeOk.join (fun (y2 : Bool) => ⟨tl 14 [(4, V.bool y2)], []⟩) (fun i => m_spec_EndsOperand_k1 i = some r) ?_ ?_
  · rintro y2 h28
    rw [m_spec_EndsOperand_k1] at h28
    rcases cond_some h28 with ⟨hc29, h28⟩ | ⟨hc29, h28⟩
    · refine CodeOk.ifT hc29 (by kernel_rfl) ?_
      refine CodeOk.cutR (tl 14 [(2, V.bool true)]) [] mix (by
          refine W.run D_ok 1 100 (by kernel_rfl) ?_
          exact W.fin (by decide) (by kernel_rfl) (Weak.sel [] [2] (by kernel_rfl) (by kernel_rfl) (by kernel_rfl))
          ) ?_
      refine CodeOk.ret ?_
      have h28 := Option.some.inj h28
      subst h28
      exact Ends.gen [] (.inr rfl) (RetV.one rfl (OneR.tmp (t := 2) (r := V.bool true) (by kernel_rfl))) (by kernel_rfl) (by kernel_rfl) (by kernel_rfl)
    · refine CodeOk.ifF hc29 (by kernel_rfl) ?_
      refine CodeOk.skip ?_
      refine CodeOk.weak (st' := ⟨tl 14 [(4, V.bool y2)], []⟩) (Weak.refl _) ?_
      refine CodeOk.cutR (tl 14 [(2, V.bool false)]) [] mix (by
          refine W.run D_ok 1 100 (by kernel_rfl) ?_
          exact W.fin (by decide) (by kernel_rfl) (Weak.sel [] [2] (by kernel_rfl) (by kernel_rfl) (by kernel_rfl))
          ) ?_
      refine CodeOk.ret ?_
      have h28 := Option.some.inj h28
      subst h28
      exact Ends.gen [] (.inr rfl) (RetV.one rfl (OneR.tmp (t := 2) (r := V.bool false) (by kernel_rfl))) (by kernel_rfl) (by kernel_rfl) (by kernel_rfl)
  intro hk30
  refine CodeOk.cutR (tl 14 [(3, V.int a0), (4, V.bool (a0 == 3))]) [] mix (by
      refine W.run D_ok 2 100 (by kernel_rfl) ?_
      exact W.fin (by decide) (by kernel_rfl) (Weak.sel [] [3, 4] (by kernel_rfl) (by kernel_rfl) (by kernel_rfl))
      ) ?_
  rcases cond_some h with ⟨hc31, h⟩ | ⟨hc31, h⟩
  · refine CodeOk.ifT hc31 (by kernel_rfl) ?_
    refine CodeOk.skip ?_
    exact hk30 (a0 == 3) h _ (Weak.sel [] [4] (by kernel_rfl) (by kernel_rfl) (by kernel_rfl))
  · refine CodeOk.ifF hc31 (by kernel_rfl) ?_
    refine CodeOk.cutR (tl 14 [(3, V.int a0), (4, V.bool (a0 == 4))]) [] mix (by
        refine W.run D_ok 2 100 (by kernel_rfl) ?_
        exact W.fin (by decide) (by kernel_rfl) (Weak.sel [] [3, 4] (by kernel_rfl) (by kernel_rfl) (by kernel_rfl))
        ) ?_
    rcases cond_some h with ⟨hc32, h⟩ | ⟨hc32, h⟩
    · refine CodeOk.ifT hc32 (by kernel_rfl) ?_
      refine CodeOk.skip ?_
      exact hk30 (a0 == 4) h _ (Weak.sel [] [4] (by kernel_rfl) (by kernel_rfl) (by kernel_rfl))
    · refine CodeOk.ifF hc32 (by kernel_rfl) ?_
      refine CodeOk.cutR (tl 14 [(3, V.int a0), (4, V.bool (a0 == 5))]) [] mix (by
          refine W.run D_ok 2 100 (by kernel_rfl) ?_
          exact W.fin (by decide) (by kernel_rfl) (Weak.sel [] [3, 4] (by kernel_rfl) (by kernel_rfl) (by kernel_rfl))
          ) ?_
      rcases cond_some h with ⟨hc33, h⟩ | ⟨hc33, h⟩
      · refine CodeOk.ifT hc33 (by kernel_rfl) ?_
        refine CodeOk.skip ?_
        exact hk30 (a0 == 5) h _ (Weak.sel [] [4] (by kernel_rfl) (by kernel_rfl) (by kernel_rfl))
      · refine CodeOk.ifF hc33 (by kernel_rfl) ?_
        refine CodeOk.cutR (tl 14 [(3, V.int a0), (4, V.bool (a0 == 6))]) [] mix (by
            refine W.run D_ok 2 100 (by kernel_rfl) ?_
            exact W.fin (by decide) (by kernel_rfl) (Weak.sel [] [3, 4] (by kernel_rfl) (by kernel_rfl) (by kernel_rfl))
            ) ?_
        rcases cond_some h with ⟨hc34, h⟩ | ⟨hc34, h⟩
        · refine CodeOk.ifT hc34 (by kernel_rfl) ?_
          refine CodeOk.skip ?_
          exact hk30 (a0 == 6) h _ (Weak.sel [] [4] (by kernel_rfl) (by kernel_rfl) (by kernel_rfl))
        · refine CodeOk.ifF hc34 (by kernel_rfl) ?_
          refine CodeOk.cutR (tl 14 [(3, V.int a0), (4, V.bool (a0 == 8))]) [] mix (by
              refine W.run D_ok 2 100 (by kernel_rfl) ?_
              exact W.fin (by decide) (by kernel_rfl) (Weak.sel [] [3, 4] (by kernel_rfl) (by kernel_rfl) (by kernel_rfl))
              ) ?_
          rcases cond_some h with ⟨hc35, h⟩ | ⟨hc35, h⟩
          · refine CodeOk.ifT hc35 (by kernel_rfl) ?_
            refine CodeOk.skip ?_
            exact hk30 (a0 == 8) h _ (Weak.sel [] [4] (by kernel_rfl) (by kernel_rfl) (by kernel_rfl))
          · refine CodeOk.ifF hc35 (by kernel_rfl) ?_
            refine CodeOk.cutR (tl 14 [(3, V.int a0), (4, V.bool (a0 == 33))]) [] mix (by
                refine W.run D_ok 2 100 (by kernel_rfl) ?_
                exact W.fin (by decide) (by kernel_rfl) (Weak.sel [] [3, 4] (by kernel_rfl) (by kernel_rfl) (by kernel_rfl))
                ) ?_
            rcases cond_some h with ⟨hc36, h⟩ | ⟨hc36, h⟩
            · refine CodeOk.ifT hc36 (by kernel_rfl) ?_
              refine CodeOk.skip ?_
              exact hk30 (a0 == 33) h _ (Weak.sel [] [4] (by kernel_rfl) (by kernel_rfl) (by kernel_rfl))
            · refine CodeOk.ifF hc36 (by kernel_rfl) ?_
              refine CodeOk.cutR (tl 14 [(3, V.int a0), (4, V.bool (a0 == 35))]) [] mix (by
                  refine W.run D_ok 2 100 (by kernel_rfl) ?_
                  exact W.fin (by decide) (by kernel_rfl) (Weak.sel [] [3, 4] (by kernel_rfl) (by kernel_rfl) (by kernel_rfl))
                  ) ?_
              rcases cond_some h with ⟨hc37, h⟩ | ⟨hc37, h⟩
              · refine CodeOk.ifT hc37 (by kernel_rfl) ?_
                refine CodeOk.skip ?_
                exact hk30 (a0 == 35) h _ (Weak.sel [] [4] (by kernel_rfl) (by kernel_rfl) (by kernel_rfl))
              · refine CodeOk.ifF hc37 (by kernel_rfl) ?_
                refine CodeOk.cutR (tl 14 [(3, V.int a0), (4, V.bool (a0 == 51))]) [] mix (by
                    refine W.run D_ok 2 100 (by kernel_rfl) ?_
                    exact W.fin (by decide) (by kernel_rfl) (Weak.sel [] [3, 4] (by kernel_rfl) (by kernel_rfl) (by kernel_rfl))
                    ) ?_
                rcases cond_some h with ⟨hc38, h⟩ | ⟨hc38, h⟩
                · refine CodeOk.ifT hc38 (by kernel_rfl) ?_
                  refine CodeOk.skip ?_
                  exact hk30 (a0 == 51) h _ (Weak.sel [] [4] (by kernel_rfl) (by kernel_rfl) (by kernel_rfl))
                · refine CodeOk.ifF hc38 (by kernel_rfl) ?_
                  refine CodeOk.endR (tl 14 [(4, V.bool (a0 == 52))]) [] mix (by
                      refine W.run D_ok 2 100 (by kernel_rfl) ?_
                      exact W.fin (by decide) (by kernel_rfl) (Weak.sel [] [4] (by kernel_rfl) (by kernel_rfl) (by kernel_rfl))
                      ) (fun st hw => ?_)
                  exact hk30 (a0 == 52) h _ (hw.trans (Weak.sel [] [4] (by kernel_rfl) (by kernel_rfl) (by kernel_rfl)))

theorem m_spec_TokensOk_ok (N : Nat) (a0 : List SToken) {r : Bool} (h : m_spec_TokensOk N a0 = some r) :
    AC Tryd.prog (GS []) 23 [.sl false false (a0.map encSToken)] [] (V.bool r) [] := by
  rw [m_spec_TokensOk] at h
  refine AC.enter Tryd.func23 rfl ?_
  refine CodeOk.cutR (tl 81 [(0, .sl false false (a0.map encSToken))]) [] mix (by
      refine W.run D_ok 1 100 (by kernel_rfl) ?_
      exact W.fin (by decide) (by kernel_rfl) (Weak.sel [] [0] (by kernel_rfl) (by kernel_rfl) (by kernel_rfl))
      ) ?_
  refine CodeOk.seq' ?_
  refine CodeOk.cutR (tl 81 [(0, .sl false false (a0.map encSToken)), (9, V.bool (decide ((a0.length : Int) > 3000)))]) [] mix (by
      refine W.run D_ok 1 100 (by kernel_rfl) ?_
      refine W.len D_ok encSToken a0 [] (by kernel_rfl) (by kernel_rfl) ?_
      refine W.run D_ok 1 100 (by kernel_rfl) ?_
      exact W.fin (by decide) (by kernel_rfl) (Weak.sel [] [0, 9] (by kernel_rfl) (by kernel_rfl) (by kernel_rfl))
      ) ?_
  rcases cond_some h with ⟨hc2, h⟩ | ⟨hc2, h⟩
  · refine CodeOk.ifT hc2 (by kernel_rfl) ?_
    refine CodeOk.cutR (tl 81 [(2, V.bool false)]) [] mix (by
        refine W.run D_ok 1 100 (by kernel_rfl) ?_
        exact W.fin (by decide) (by kernel_rfl) (Weak.sel [] [2] (by kernel_rfl) (by kernel_rfl) (by kernel_rfl))
        ) ?_
    refine CodeOk.ret ?_
    have h := Option.some.inj h
    subst h
    exact Ends.gen [] (.inr rfl) (RetV.one rfl (OneR.tmp (t := 2) (r := V.bool false) (by kernel_rfl))) (by kernel_rfl) (by kernel_rfl) (by kernel_rfl)
  · refine CodeOk.ifF hc2 (by kernel_rfl) ?_
    refine CodeOk.skip ?_
    refine CodeOk.weak (st' := ⟨tl 81 [(0, .sl false false (a0.map encSToken)), (9, V.bool (decide ((a0.length : Int) > 3000)))], []⟩) (Weak.refl _) ?_
    refine CodeOk.cutR (tl 81 [(0, .sl false false (a0.map encSToken)), (3, V.int 0)]) [] mix (by
        refine W.run D_ok 1 100 (by kernel_rfl) ?_
        exact W.fin (by decide) (by kernel_rfl) (Weak.sel [] [0, 3] (by kernel_rfl) (by kernel_rfl) (by kernel_rfl))
        ) ?_
    refine CodeOk.seq' ?_
    refine CodeOk.cutR (tl 81 [(0, .sl false false (a0.map encSToken)), (3, V.int 0), (4, V.int 0)]) [] mix (by
        refine W.run D_ok 1 100 (by kernel_rfl) ?_
        exact W.fin (by decide) (by kernel_rfl) (Weak.sel [] [0, 3, 4] (by kernel_rfl) (by kernel_rfl) (by kernel_rfl))
        ) ?_
    refine CodeOk.block' ?_
    refine CodeOk.loopJ (fun (⟨a0, y317, y318⟩ : ((List SToken) × Int × Int)) => ⟨tl 81 [(0, .sl false false (a0.map encSToken)), (3, V.int y317), (4, V.int y318)], []⟩) (fun n i => m_spec_TokensOk_l1 N n i = some r) (n0 := N) (i0 := (a0, 0, 0)) (Weak.sel [] [0, 3, 4] (by kernel_rfl) (by kernel_rfl) (by kernel_rfl)) h (fun i h => by simp [m_spec_TokensOk_l1] at h) ?_
    rintro n1 ⟨a0, y317, y318⟩ h995 ih996
    rw [m_spec_TokensOk_l1] at h995
    refine CodeOk.seq' ?_
    refine CodeOk.cutR (tl 81 [(0, .sl false false (a0.map encSToken)), (3, V.int y317), (4, V.int y318), (13, V.bool (decide (y318 < (a0.length : Int))))]) [] mix (by
        refine W.run D_ok 2 160 (by kernel_rfl) ?_
        refine W.len D_ok encSToken a0 [] (by kernel_rfl) (by kernel_rfl) ?_
        refine W.run D_ok 1 160 (by kernel_rfl) ?_
        exact W.fin (by decide) (by kernel_rfl) (Weak.sel [] [0, 3, 4, 13] (by kernel_rfl) (by kernel_rfl) (by kernel_rfl))
        ) ?_
    rcases cond_some h995 with ⟨hc998, h995⟩ | ⟨hc998, h995⟩
    · refine CodeOk.ifT hc998 (by kernel_rfl) ?_
      refine CodeOk.skip ?_
      refine CodeOk.weak (st' := ⟨tl 81 [(0, .sl false false (a0.map encSToken)), (3, V.int y317), (4, V.int y318), (13, V.bool (decide (y318 < (a0.length : Int))))], []⟩) (Weak.refl _) ?_
      refine CodeOk.seq' ?_
      refine CodeOk.block' ?_
      refine CodeOk.cutR (tl 81 [(0, .sl false false (a0.map encSToken)), (3, V.int y317), (4, V.int y318), (5, V.int 0)]) [] mix (by
          refine W.run D_ok 1 160 (by kernel_rfl) ?_
          exact W.fin (by decide) (by kernel_rfl) (Weak.sel [] [0, 3, 4, 5] (by kernel_rfl) (by kernel_rfl) (by kernel_rfl))
          ) ?_
      refine CodeOk.join (fun (⟨a0, y317, y318, y440⟩ : ((List SToken) × Int × Int × Int)) => ⟨tl 81 [(0, .sl false false (a0.map encSToken)), (3, V.int y317), (4, V.int y318), (5, V.int y440)], []⟩) (fun i => m_spec_TokensOk_k2 N (m_spec_TokensOk_l1 N n1) i = some r) ?_ ?_
      · rintro ⟨a0, y317, y318, y440⟩ h1100
        rw [m_spec_TokensOk_k2] at h1100
        obtain ⟨e442, hx1102, h1100⟩ := bind_some h1100
        refine CodeOk.cutR (tl 81 [(0, .sl false false (a0.map encSToken)), (3, V.int y317), (4, V.int y318), (5, V.int y440), (6, V.int e442.Kind)]) [] mix (by
            refine W.run D_ok 2 160 (by kernel_rfl) ?_
            refine W.ixD D_ok encSToken hx1102 3 (by kernel_rfl) (by kernel_rfl) ?_
            refine W.run D_ok 3 160 (by kernel_rfl) ?_
            exact W.fin (by decide) (by kernel_rfl) (Weak.sel [] [0, 3, 4, 5, 6] (by kernel_rfl) (by kernel_rfl) (by kernel_rfl))
            ) ?_
        refine CodeOk.seq' ?_
        obtain ⟨y450, hv1132, h1100⟩ := bind_some h1100
        refine CodeOk.cutR (tl 81 [(0, .sl false false (a0.map encSToken)), (3, V.int y317), (4, V.int y318), (6, V.int e442.Kind), (60, V.bool y450)]) [] mix (by
            refine W.run D_ok 2 160 (by kernel_rfl) ?_
            obtain ⟨e451, hx1133, hv1132⟩ := bind_some hv1132
            refine W.ixD D_ok encSToken hx1133 3 (by kernel_rfl) (by kernel_rfl) ?_
            refine W.run D_ok 1 160 (by kernel_rfl) ?_
            obtain ⟨r452, hx1134, hv1132⟩ := bind_some hv1132
            refine W.call0 (m_spec_TokenOk_ok N e451 hx1134) cok44 rfl (by kernel_rfl) ?_
            refine W.run D_ok 2 160 (by kernel_rfl) ?_
            rcases cond_some hv1132 with ⟨hc1135, hv1132⟩ | ⟨hc1135, hv1132⟩
            · refine W.is 38 hc1135 (by kernel_rfl) ?_
              refine W.run D_ok 22 160 (by kernel_rfl) ?_
              have hv1132 := Option.some.inj hv1132
              subst hv1132
              exact W.fin (by decide) (by kernel_rfl) (Weak.sel [] [0, 3, 4, 6, 60] (by kernel_rfl) (by kernel_rfl) (by kernel_rfl))
            · refine W.is 38 hc1135 (by kernel_rfl) ?_
              refine W.run D_ok 3 160 (by kernel_rfl) ?_
              rcases cond_some hv1132 with ⟨hc1136, hv1132⟩ | ⟨hc1136, hv1132⟩
              · refine W.is 41 hc1136 (by kernel_rfl) ?_
                refine W.run D_ok 5 160 (by kernel_rfl) ?_
                rcases cond_some hv1132 with ⟨hc1137, hv1132⟩ | ⟨hc1137, hv1132⟩
                · refine W.is 46 hc1137 (by kernel_rfl) ?_
                  refine W.run D_ok 14 160 (by kernel_rfl) ?_
                  have hv1132 := Option.some.inj hv1132
                  subst hv1132
                  exact W.fin (by decide) (by kernel_rfl) (Weak.sel [] [0, 3, 4, 6, 60] (by kernel_rfl) (by kernel_rfl) (by kernel_rfl))
                · refine W.is 46 hc1137 (by kernel_rfl) ?_
                  refine W.run D_ok 3 160 (by kernel_rfl) ?_
                  rcases cond_some hv1132 with ⟨hc1138, hv1132⟩ | ⟨hc1138, hv1132⟩
                  · refine W.is 49 hc1138 (by kernel_rfl) ?_
                    refine W.run D_ok 4 160 (by kernel_rfl) ?_
                    rcases cond_some hv1132 with ⟨hc1139, hv1132⟩ | ⟨hc1139, hv1132⟩
                    · refine W.is 53 hc1139 (by kernel_rfl) ?_
                      refine W.run D_ok 3 160 (by kernel_rfl) ?_
                      refine W.len D_ok encSToken a0 [] (by kernel_rfl) (by kernel_rfl) ?_
                      refine W.run D_ok 3 160 (by kernel_rfl) ?_
                      have hv1132 := Option.some.inj hv1132
                      subst hv1132
                      exact W.fin (by decide) (by kernel_rfl) (Weak.sel [] [0, 3, 4, 6, 60] (by kernel_rfl) (by kernel_rfl) (by kernel_rfl))
                    · refine W.is 53 hc1139 (by kernel_rfl) ?_
                      refine W.run D_ok 7 160 (by kernel_rfl) ?_
                      have hv1132 := Option.some.inj hv1132
                      subst hv1132
                      exact W.fin (by decide) (by kernel_rfl) (Weak.sel [] [0, 3, 4, 6, 60] (by kernel_rfl) (by kernel_rfl) (by kernel_rfl))
                  · refine W.is 49 hc1138 (by kernel_rfl) ?_
                    refine W.run D_ok 11 160 (by kernel_rfl) ?_
                    have hv1132 := Option.some.inj hv1132
                    subst hv1132
                    exact W.fin (by decide) (by kernel_rfl) (Weak.sel [] [0, 3, 4, 6, 60] (by kernel_rfl) (by kernel_rfl) (by kernel_rfl))
              · refine W.is 41 hc1136 (by kernel_rfl) ?_
                refine W.run D_ok 8 160 (by kernel_rfl) ?_
                rcases cond_some hv1132 with ⟨hc1140, hv1132⟩ | ⟨hc1140, hv1132⟩
                · refine W.is 49 hc1140 (by kernel_rfl) ?_
                  refine W.run D_ok 4 160 (by kernel_rfl) ?_
                  rcases cond_some hv1132 with ⟨hc1141, hv1132⟩ | ⟨hc1141, hv1132⟩
                  · refine W.is 53 hc1141 (by kernel_rfl) ?_
                    refine W.run D_ok 3 160 (by kernel_rfl) ?_
                    refine W.len D_ok encSToken a0 [] (by kernel_rfl) (by kernel_rfl) ?_
                    refine W.run D_ok 3 160 (by kernel_rfl) ?_
                    have hv1132 := Option.some.inj hv1132
                    subst hv1132
                    exact W.fin (by decide) (by kernel_rfl) (Weak.sel [] [0, 3, 4, 6, 60] (by kernel_rfl) (by kernel_rfl) (by kernel_rfl))
                  · refine W.is 53 hc1141 (by kernel_rfl) ?_
                    refine W.run D_ok 7 160 (by kernel_rfl) ?_
                    have hv1132 := Option.some.inj hv1132
                    subst hv1132
                    exact W.fin (by decide) (by kernel_rfl) (Weak.sel [] [0, 3, 4, 6, 60] (by kernel_rfl) (by kernel_rfl) (by kernel_rfl))
                · refine W.is 49 hc1140 (by kernel_rfl) ?_
                  refine W.run D_ok 11 160 (by kernel_rfl) ?_
                  have hv1132 := Option.some.inj hv1132
                  subst hv1132
                  exact W.fin (by decide) (by kernel_rfl) (Weak.sel [] [0, 3, 4, 6, 60] (by kernel_rfl) (by kernel_rfl) (by kernel_rfl))
            ) ?_
        rcases cond_some h1100 with ⟨hc1142, h1100⟩ | ⟨hc1142, h1100⟩
        · refine CodeOk.ifT hc1142 (by kernel_rfl) ?_
          refine CodeOk.cutR (tl 81 [(2, V.bool false)]) [] mix (by
              refine W.run D_ok 1 160 (by kernel_rfl) ?_
              exact W.fin (by decide) (by kernel_rfl) (Weak.sel [] [2] (by kernel_rfl) (by kernel_rfl) (by kernel_rfl))
              ) ?_
          refine CodeOk.ret ?_
          have h1100 := Option.some.inj h1100
          subst h1100
          exact Ends.gen [] (.inr rfl) (RetV.one rfl (OneR.tmp (t := 2) (r := V.bool false) (by kernel_rfl))) (by kernel_rfl) (by kernel_rfl) (by kernel_rfl)
        · refine CodeOk.ifF hc1142 (by kernel_rfl) ?_
          refine CodeOk.skip ?_
          refine CodeOk.weak (st' := ⟨tl 81 [(0, .sl false false (a0.map encSToken)), (3, V.int y317), (4, V.int y318), (6, V.int e442.Kind), (60, V.bool y450)], []⟩) (Weak.refl _) ?_
          refine CodeOk.seq' ?_
          obtain ⟨y469, hv1178, h1100⟩ := bind_some h1100
          refine CodeOk.cutR (tl 81 [(0, .sl false false (a0.map encSToken)), (4, V.int y318), (6, V.int e442.Kind), (79, V.bool y469)]) [] mix (by
              refine W.run D_ok 3 160 (by kernel_rfl) ?_
              rcases cond_some hv1178 with ⟨hc1179, hv1178⟩ | ⟨hc1179, hv1178⟩
              · refine W.is 63 hc1179 (by kernel_rfl) ?_
                refine W.run D_ok 1 160 (by kernel_rfl) ?_
                obtain ⟨r470, hx1180, hv1178⟩ := bind_some hv1178
                refine W.call0 (m_spec_EndsOperand_ok y317 hx1180) cok45 rfl (by kernel_rfl) ?_
                refine W.run D_ok 2 160 (by kernel_rfl) ?_
                rcases cond_some hv1178 with ⟨hc1181, hv1178⟩ | ⟨hc1181, hv1178⟩
                · refine W.is 67 hc1181 (by kernel_rfl) ?_
                  refine W.run D_ok 12 160 (by kernel_rfl) ?_
                  have hv1178 := Option.some.inj hv1178
                  subst hv1178
                  exact W.fin (by decide) (by kernel_rfl) (Weak.sel [] [0, 4, 6, 79] (by kernel_rfl) (by kernel_rfl) (by kernel_rfl))
                · refine W.is 67 hc1181 (by kernel_rfl) ?_
                  refine W.run D_ok 3 160 (by kernel_rfl) ?_
                  rcases cond_some hv1178 with ⟨hc1182, hv1178⟩ | ⟨hc1182, hv1178⟩
                  · refine W.is 70 hc1182 (by kernel_rfl) ?_
                    refine W.run D_ok 5 160 (by kernel_rfl) ?_
                    obtain ⟨r471, hx1183, hv1178⟩ := bind_some hv1178
                    refine W.call0 (m_spec_EndsOperand_ok y317 hx1183) cok45 rfl (by kernel_rfl) ?_
                    refine W.run D_ok 3 160 (by kernel_rfl) ?_
                    have hv1178 := Option.some.inj hv1178
                    subst hv1178
                    exact W.fin (by decide) (by kernel_rfl) (Weak.sel [] [0, 4, 6, 79] (by kernel_rfl) (by kernel_rfl) (by kernel_rfl))
                  · refine W.is 70 hc1182 (by kernel_rfl) ?_
                    refine W.run D_ok 4 160 (by kernel_rfl) ?_
                    rcases cond_some hv1178 with ⟨hc1184, hv1178⟩ | ⟨hc1184, hv1178⟩
                    · refine W.is 74 hc1184 (by kernel_rfl) ?_
                      refine W.run D_ok 1 160 (by kernel_rfl) ?_
                      obtain ⟨r472, hx1185, hv1178⟩ := bind_some hv1178
                      refine W.call0 (m_spec_EndsOperand_ok y317 hx1185) cok45 rfl (by kernel_rfl) ?_
                      refine W.run D_ok 3 160 (by kernel_rfl) ?_
                      have hv1178 := Option.some.inj hv1178
                      subst hv1178
                      exact W.fin (by decide) (by kernel_rfl) (Weak.sel [] [0, 4, 6, 79] (by kernel_rfl) (by kernel_rfl) (by kernel_rfl))
                    · refine W.is 74 hc1184 (by kernel_rfl) ?_
                      refine W.run D_ok 5 160 (by kernel_rfl) ?_
                      have hv1178 := Option.some.inj hv1178
                      subst hv1178
                      exact W.fin (by decide) (by kernel_rfl) (Weak.sel [] [0, 4, 6, 79] (by kernel_rfl) (by kernel_rfl) (by kernel_rfl))
              · refine W.is 63 hc1179 (by kernel_rfl) ?_
                refine W.run D_ok 7 160 (by kernel_rfl) ?_
                rcases cond_some hv1178 with ⟨hc1186, hv1178⟩ | ⟨hc1186, hv1178⟩
                · refine W.is 70 hc1186 (by kernel_rfl) ?_
                  refine W.run D_ok 5 160 (by kernel_rfl) ?_
                  obtain ⟨r473, hx1187, hv1178⟩ := bind_some hv1178
                  refine W.call0 (m_spec_EndsOperand_ok y317 hx1187) cok45 rfl (by kernel_rfl) ?_
                  refine W.run D_ok 3 160 (by kernel_rfl) ?_
                  have hv1178 := Option.some.inj hv1178
                  subst hv1178
                  exact W.fin (by decide) (by kernel_rfl) (Weak.sel [] [0, 4, 6, 79] (by kernel_rfl) (by kernel_rfl) (by kernel_rfl))
                · refine W.is 70 hc1186 (by kernel_rfl) ?_
                  refine W.run D_ok 4 160 (by kernel_rfl) ?_
                  rcases cond_some hv1178 with ⟨hc1188, hv1178⟩ | ⟨hc1188, hv1178⟩
                  · refine W.is 74 hc1188 (by kernel_rfl) ?_
                    refine W.run D_ok 1 160 (by kernel_rfl) ?_
                    obtain ⟨r474, hx1189, hv1178⟩ := bind_some hv1178
                    refine W.call0 (m_spec_EndsOperand_ok y317 hx1189) cok45 rfl (by kernel_rfl) ?_
                    refine W.run D_ok 3 160 (by kernel_rfl) ?_
                    have hv1178 := Option.some.inj hv1178
                    subst hv1178
                    exact W.fin (by decide) (by kernel_rfl) (Weak.sel [] [0, 4, 6, 79] (by kernel_rfl) (by kernel_rfl) (by kernel_rfl))
                  · refine W.is 74 hc1188 (by kernel_rfl) ?_
                    refine W.run D_ok 5 160 (by kernel_rfl) ?_
                    have hv1178 := Option.some.inj hv1178
                    subst hv1178
                    exact W.fin (by decide) (by kernel_rfl) (Weak.sel [] [0, 4, 6, 79] (by kernel_rfl) (by kernel_rfl) (by kernel_rfl))
              ) ?_
          rcases cond_some h1100 with ⟨hc1190, h1100⟩ | ⟨hc1190, h1100⟩
          · refine CodeOk.ifT hc1190 (by kernel_rfl) ?_
            refine CodeOk.cutR (tl 81 [(2, V.bool false)]) [] mix (by
                refine W.run D_ok 1 160 (by kernel_rfl) ?_
                exact W.fin (by decide) (by kernel_rfl) (Weak.sel [] [2] (by kernel_rfl) (by kernel_rfl) (by kernel_rfl))
                ) ?_
            refine CodeOk.ret ?_
            have h1100 := Option.some.inj h1100
            subst h1100
            exact Ends.gen [] (.inr rfl) (RetV.one rfl (OneR.tmp (t := 2) (r := V.bool false) (by kernel_rfl))) (by kernel_rfl) (by kernel_rfl) (by kernel_rfl)
          · refine CodeOk.ifF hc1190 (by kernel_rfl) ?_
            refine CodeOk.skip ?_
            refine CodeOk.weak (st' := ⟨tl 81 [(0, .sl false false (a0.map encSToken)), (4, V.int y318), (6, V.int e442.Kind), (79, V.bool y469)], []⟩) (Weak.refl _) ?_
            refine CodeOk.endR (tl 81 [(0, .sl false false (a0.map encSToken)), (3, V.int e442.Kind), (4, V.int y318)]) [] mix (by
                refine W.run D_ok 2 160 (by kernel_rfl) ?_
                exact W.fin (by decide) (by kernel_rfl) (Weak.sel [] [0, 3, 4] (by kernel_rfl) (by kernel_rfl) (by kernel_rfl))
                ) (fun st hw => ?_)
            refine CodeOk.weak (st' := ⟨tl 81 [(0, .sl false false (a0.map encSToken)), (3, V.int e442.Kind), (4, V.int y318)], []⟩) hw ?_
            refine CodeOk.endR (tl 81 [(0, .sl false false (a0.map encSToken)), (3, V.int e442.Kind), (4, V.int (IntKind.wrap .i64 (y318 + 1)))]) [] mix (by
                refine W.run D_ok 3 160 (by kernel_rfl) ?_
                exact W.fin (by decide) (by kernel_rfl) (Weak.sel [] [0, 3, 4] (by kernel_rfl) (by kernel_rfl) (by kernel_rfl))
                ) (fun st hw => ?_)
            exact ih996 (a0, e442.Kind, (IntKind.wrap .i64 (y318 + 1))) h1100 _ (hw.trans (Weak.sel [] [0, 3, 4] (by kernel_rfl) (by kernel_rfl) (by kernel_rfl)))
      intro hk1191
      refine CodeOk.cutR (tl 81 [(0, .sl false false (a0.map encSToken)), (3, V.int y317), (4, V.int y318), (5, V.int 0), (20, V.bool (decide ((IntKind.wrap .i64 (y318 + 1)) < (a0.length : Int))))]) [] mix (by
          refine W.run D_ok 3 160 (by kernel_rfl) ?_
          refine W.len D_ok encSToken a0 [] (by kernel_rfl) (by kernel_rfl) ?_
          refine W.run D_ok 1 160 (by kernel_rfl) ?_
          exact W.fin (by decide) (by kernel_rfl) (Weak.sel [] [0, 3, 4, 5, 20] (by kernel_rfl) (by kernel_rfl) (by kernel_rfl))
          ) ?_
      rcases cond_some h995 with ⟨hc1192, h995⟩ | ⟨hc1192, h995⟩
      · refine CodeOk.ifT hc1192 (by kernel_rfl) ?_
        obtain ⟨e476, hx1194, h995⟩ := bind_some h995
        refine CodeOk.endR (tl 81 [(0, .sl false false (a0.map encSToken)), (3, V.int y317), (4, V.int y318), (5, V.int e476.Kind)]) [] mix (by
            refine W.run D_ok 3 160 (by kernel_rfl) ?_
            refine W.ixD D_ok encSToken hx1194 3 (by kernel_rfl) (by kernel_rfl) ?_
            refine W.run D_ok 3 160 (by kernel_rfl) ?_
            exact W.fin (by decide) (by kernel_rfl) (Weak.sel [] [0, 3, 4, 5] (by kernel_rfl) (by kernel_rfl) (by kernel_rfl))
            ) (fun st hw => ?_)
        exact hk1191 (a0, y317, y318, e476.Kind) h995 _ (hw.trans (Weak.sel [] [0, 3, 4, 5] (by kernel_rfl) (by kernel_rfl) (by kernel_rfl)))
      · refine CodeOk.ifF hc1192 (by kernel_rfl) ?_
        refine CodeOk.skip ?_
        exact hk1191 (a0, y317, y318, 0) h995 _ (Weak.sel [] [0, 3, 4, 5] (by kernel_rfl) (by kernel_rfl) (by kernel_rfl))
    · refine CodeOk.ifF hc998 (by kernel_rfl) ?_
      refine CodeOk.exit ?_
      refine CodeOk.weak (st' := ⟨tl 81 [(0, .sl false false (a0.map encSToken)), (3, V.int y317), (4, V.int y318), (13, V.bool (decide (y318 < (a0.length : Int))))], []⟩) (Weak.refl _) ?_
      refine CodeOk.cutR (tl 81 [(2, V.bool true)]) [] mix (by
          refine W.run D_ok 1 160 (by kernel_rfl) ?_
          exact W.fin (by decide) (by kernel_rfl) (Weak.sel [] [2] (by kernel_rfl) (by kernel_rfl) (by kernel_rfl))
          ) ?_
      refine CodeOk.ret ?_
      have h995 := Option.some.inj h995
      subst h995
      exact Ends.gen [] (.inr rfl) (RetV.one rfl (OneR.tmp (t := 2) (r := V.bool true) (by kernel_rfl))) (by kernel_rfl) (by kernel_rfl) (by kernel_rfl)

theorem m_spec_Shunts_ok (N : Nat) (a0 : List SToken) {r : Bool} (h : m_spec_Shunts N a0 = some r) :
    AC Tryd.prog (GS []) 7 [.sl false false (a0.map encSToken)] [] (V.bool r) [] := by
  rw [m_spec_Shunts] at h
  refine AC.enter Tryd.func7 rfl ?_
  refine CodeOk.cutR (tl 69 [(0, .sl false false (a0.map encSToken))]) [] mix (by
      refine W.run D_ok 1 100 (by kernel_rfl) ?_
      exact W.fin (by decide) (by kernel_rfl) (Weak.sel [] [0] (by kernel_rfl) (by kernel_rfl) (by kernel_rfl))
      ) ?_
  refine CodeOk.cutR (tl 69 [(0, .sl false false (a0.map encSToken)), (3, V.bool true)]) [] mix (by
      refine W.run D_ok 1 100 (by kernel_rfl) ?_
      exact W.fin (by decide) (by kernel_rfl) (Weak.sel [] [0, 3] (by kernel_rfl) (by kernel_rfl) (by kernel_rfl))
      ) ?_
  refine CodeOk.cutR (tl 69 [(0, .sl false false (a0.map encSToken)), (3, V.bool true), (4, V.int 0)]) [] mix (by
      refine W.run D_ok 1 100 (by kernel_rfl) ?_
      exact W.fin (by decide) (by kernel_rfl) (Weak.sel [] [0, 3, 4] (by kernel_rfl) (by kernel_rfl) (by kernel_rfl))
      ) ?_
  refine CodeOk.seq' ?_
  refine CodeOk.cutR (tl 69 [(0, .sl false false (a0.map encSToken)), (3, V.bool true), (4, V.int 0), (5, V.int 0)]) [] mix (by
      refine W.run D_ok 1 100 (by kernel_rfl) ?_
      exact W.fin (by decide) (by kernel_rfl) (Weak.sel [] [0, 3, 4, 5] (by kernel_rfl) (by kernel_rfl) (by kernel_rfl))
      ) ?_
  refine CodeOk.block' ?_
  refine CodeOk.loopJ (fun (⟨a0, y111, y112, y113⟩ : ((List SToken) × Bool × Int × Int)) => ⟨tl 69 [(0, .sl false false (a0.map encSToken)), (3, V.bool y111), (4, V.int y112), (5, V.int y113)], []⟩) (fun n i => m_spec_Shunts_l1 N n i = some r) (n0 := N) (i0 := (a0, true, 0, 0)) (Weak.sel [] [0, 3, 4, 5] (by kernel_rfl) (by kernel_rfl) (by kernel_rfl)) h (fun i h => by simp [m_spec_Shunts_l1] at h) ?_
  rintro n1 ⟨a0, y111, y112, y113⟩ h367 ih368
  rw [m_spec_Shunts_l1] at h367
  refine CodeOk.seq' ?_
  refine CodeOk.cutR (tl 69 [(0, .sl false false (a0.map encSToken)), (3, V.bool y111), (4, V.int y112), (5, V.int y113), (10, V.bool (decide (y113 < (a0.length : Int))))]) [] mix (by
      refine W.run D_ok 2 160 (by kernel_rfl) ?_
      refine W.len D_ok encSToken a0 [] (by kernel_rfl) (by kernel_rfl) ?_
      refine W.run D_ok 1 160 (by kernel_rfl) ?_
      exact W.fin (by decide) (by kernel_rfl) (Weak.sel [] [0, 3, 4, 5, 10] (by kernel_rfl) (by kernel_rfl) (by kernel_rfl))
      ) ?_
  rcases cond_some h367 with ⟨hc370, h367⟩ | ⟨hc370, h367⟩
  · refine CodeOk.ifT hc370 (by kernel_rfl) ?_
    refine CodeOk.skip ?_
    refine CodeOk.weak (st' := ⟨tl 69 [(0, .sl false false (a0.map encSToken)), (3, V.bool y111), (4, V.int y112), (5, V.int y113), (10, V.bool (decide (y113 < (a0.length : Int))))], []⟩) (Weak.refl _) ?_
    refine CodeOk.seq' ?_
    refine CodeOk.block' ?_
    obtain ⟨e166, hx421, h367⟩ := bind_some h367
    refine CodeOk.cutR (tl 69 [(0, .sl false false (a0.map encSToken)), (3, V.bool y111), (4, V.int y112), (5, V.int y113), (6, V.int e166.Kind)]) [] mix (by
        refine W.run D_ok 2 160 (by kernel_rfl) ?_
        refine W.ixD D_ok encSToken hx421 3 (by kernel_rfl) (by kernel_rfl) ?_
        refine W.run D_ok 3 160 (by kernel_rfl) ?_
        exact W.fin (by decide) (by kernel_rfl) (Weak.sel [] [0, 3, 4, 5, 6] (by kernel_rfl) (by kernel_rfl) (by kernel_rfl))
        ) ?_
    refine CodeOk.join (fun (⟨a0, y113, y173, y174⟩ : ((List SToken) × Int × Bool × Int)) => ⟨tl 69 [(0, .sl false false (a0.map encSToken)), (3, V.bool y173), (4, V.int y174), (5, V.int y113)], []⟩) (fun i => m_spec_Shunts_k2 N (m_spec_Shunts_l1 N n1) i = some r) ?_ ?_
    · rintro ⟨a0, y113, y173, y174⟩ h444
      rw [m_spec_Shunts_k2] at h444
      refine CodeOk.cutR (tl 69 [(0, .sl false false (a0.map encSToken)), (3, V.bool y173), (4, V.int y174), (5, V.int y113), (58, V.bool (decide (y174 < 0)))]) [] mix (by
          refine W.run D_ok 2 160 (by kernel_rfl) ?_
          exact W.fin (by decide) (by kernel_rfl) (Weak.sel [] [0, 3, 4, 5, 58] (by kernel_rfl) (by kernel_rfl) (by kernel_rfl))
          ) ?_
      rcases cond_some h444 with ⟨hc445, h444⟩ | ⟨hc445, h444⟩
      · refine CodeOk.ifT hc445 (by kernel_rfl) ?_
        refine CodeOk.cutR (tl 69 [(2, V.bool false)]) [] mix (by
            refine W.run D_ok 1 160 (by kernel_rfl) ?_
            exact W.fin (by decide) (by kernel_rfl) (Weak.sel [] [2] (by kernel_rfl) (by kernel_rfl) (by kernel_rfl))
            ) ?_
        refine CodeOk.ret ?_
        have h444 := Option.some.inj h444
        subst h444
        exact Ends.gen [] (.inr rfl) (RetV.one rfl (OneR.tmp (t := 2) (r := V.bool false) (by kernel_rfl))) (by kernel_rfl) (by kernel_rfl) (by kernel_rfl)
      · refine CodeOk.ifF hc445 (by kernel_rfl) ?_
        refine CodeOk.skip ?_
        refine CodeOk.weak (st' := ⟨tl 69 [(0, .sl false false (a0.map encSToken)), (3, V.bool y173), (4, V.int y174), (5, V.int y113), (58, V.bool (decide (y174 < 0)))], []⟩) (Weak.refl _) ?_
        refine CodeOk.endR (tl 69 [(0, .sl false false (a0.map encSToken)), (3, V.bool y173), (4, V.int y174), (5, V.int (IntKind.wrap .i64 (y113 + 1)))]) [] mix (by
            refine W.run D_ok 3 160 (by kernel_rfl) ?_
            exact W.fin (by decide) (by kernel_rfl) (Weak.sel [] [0, 3, 4, 5] (by kernel_rfl) (by kernel_rfl) (by kernel_rfl))
            ) (fun st hw => ?_)
        exact ih368 (a0, y173, y174, (IntKind.wrap .i64 (y113 + 1))) h444 _ (hw.trans (Weak.sel [] [0, 3, 4, 5] (by kernel_rfl) (by kernel_rfl) (by kernel_rfl)))
    intro hk446
    refine CodeOk.block' ?_
    obtain ⟨y175, hv448, h367⟩ := bind_some h367
    refine CodeOk.cutR (tl 69 [(0, .sl false false (a0.map encSToken)), (3, V.bool y111), (4, V.int y112), (5, V.int y113), (6, V.int e166.Kind), (18, V.bool y175)]) [] mix (by
        refine W.run D_ok 2 160 (by kernel_rfl) ?_
        rcases cond_some hv448 with ⟨hc449, hv448⟩ | ⟨hc449, hv448⟩
        · refine W.is 20 hc449 (by kernel_rfl) ?_
          refine W.run D_ok 4 160 (by kernel_rfl) ?_
          have hv448 := Option.some.inj hv448
          subst hv448
          exact W.fin (by decide) (by kernel_rfl) (Weak.sel [] [0, 3, 4, 5, 6, 18] (by kernel_rfl) (by kernel_rfl) (by kernel_rfl))
        · refine W.is 20 hc449 (by kernel_rfl) ?_
          refine W.run D_ok 4 160 (by kernel_rfl) ?_
          have hv448 := Option.some.inj hv448
          subst hv448
          exact W.fin (by decide) (by kernel_rfl) (Weak.sel [] [0, 3, 4, 5, 6, 18] (by kernel_rfl) (by kernel_rfl) (by kernel_rfl))
        ) ?_
    rcases cond_some h367 with ⟨hc450, h367⟩ | ⟨hc450, h367⟩
    · refine CodeOk.ifT hc450 (by kernel_rfl) ?_
      refine CodeOk.endR (tl 69 [(0, .sl false false (a0.map encSToken)), (3, V.bool y111), (4, V.int (IntKind.wrap .i64 (y112 + 1))), (5, V.int y113)]) [] mix (by
          refine W.run D_ok 3 160 (by kernel_rfl) ?_
          exact W.fin (by decide) (by kernel_rfl) (Weak.sel [] [0, 3, 4, 5] (by kernel_rfl) (by kernel_rfl) (by kernel_rfl))
          ) (fun st hw => ?_)
      exact hk446 (a0, y113, y111, (IntKind.wrap .i64 (y112 + 1))) h367 _ (hw.trans (Weak.sel [] [0, 3, 4, 5] (by kernel_rfl) (by kernel_rfl) (by kernel_rfl)))
    · refine CodeOk.ifF hc450 (by kernel_rfl) ?_
      obtain ⟨y176, hv453, h367⟩ := bind_some h367
      refine CodeOk.cutR (tl 69 [(0, .sl false false (a0.map encSToken)), (3, V.bool y111), (4, V.int y112), (5, V.int y113), (6, V.int e166.Kind), (26, V.bool y176)]) [] mix (by
          refine W.run D_ok 2 160 (by kernel_rfl) ?_
          rcases cond_some hv453 with ⟨hc454, hv453⟩ | ⟨hc454, hv453⟩
          · refine W.is 28 hc454 (by kernel_rfl) ?_
            refine W.run D_ok 3 160 (by kernel_rfl) ?_
            rcases cond_some hv453 with ⟨hc455, hv453⟩ | ⟨hc455, hv453⟩
            · refine W.is 31 hc455 (by kernel_rfl) ?_
              refine W.run D_ok 5 160 (by kernel_rfl) ?_
              have hv453 := Option.some.inj hv453
              subst hv453
              exact W.fin (by decide) (by kernel_rfl) (Weak.sel [] [0, 3, 4, 5, 6, 26] (by kernel_rfl) (by kernel_rfl) (by kernel_rfl))
            · refine W.is 31 hc455 (by kernel_rfl) ?_
              refine W.run D_ok 5 160 (by kernel_rfl) ?_
              have hv453 := Option.some.inj hv453
              subst hv453
              exact W.fin (by decide) (by kernel_rfl) (Weak.sel [] [0, 3, 4, 5, 6, 26] (by kernel_rfl) (by kernel_rfl) (by kernel_rfl))
          · refine W.is 28 hc454 (by kernel_rfl) ?_
            refine W.run D_ok 8 160 (by kernel_rfl) ?_
            have hv453 := Option.some.inj hv453
            subst hv453
            exact W.fin (by decide) (by kernel_rfl) (Weak.sel [] [0, 3, 4, 5, 6, 26] (by kernel_rfl) (by kernel_rfl) (by kernel_rfl))
          ) ?_
      rcases cond_some h367 with ⟨hc456, h367⟩ | ⟨hc456, h367⟩
      · refine CodeOk.ifT hc456 (by kernel_rfl) ?_
        refine CodeOk.endR (tl 69 [(0, .sl false false (a0.map encSToken)), (3, V.bool false), (4, V.int y112), (5, V.int y113)]) [] mix (by
            refine W.run D_ok 1 160 (by kernel_rfl) ?_
            exact W.fin (by decide) (by kernel_rfl) (Weak.sel [] [0, 3, 4, 5] (by kernel_rfl) (by kernel_rfl) (by kernel_rfl))
            ) (fun st hw => ?_)
        exact hk446 (a0, y113, false, y112) h367 _ (hw.trans (Weak.sel [] [0, 3, 4, 5] (by kernel_rfl) (by kernel_rfl) (by kernel_rfl)))
      · refine CodeOk.ifF hc456 (by kernel_rfl) ?_
        obtain ⟨y177, hv458, h367⟩ := bind_some h367
        refine CodeOk.cutR (tl 69 [(0, .sl false false (a0.map encSToken)), (3, V.bool y111), (4, V.int y112), (5, V.int y113), (6, V.int e166.Kind), (36, V.bool y177)]) [] mix (by
            refine W.run D_ok 3 160 (by kernel_rfl) ?_
            rcases cond_some hv458 with ⟨hc459, hv458⟩ | ⟨hc459, hv458⟩
            · refine W.is 39 hc459 (by kernel_rfl) ?_
              refine W.run D_ok 4 160 (by kernel_rfl) ?_
              have hv458 := Option.some.inj hv458
              subst hv458
              exact W.fin (by decide) (by kernel_rfl) (Weak.sel [] [0, 3, 4, 5, 6, 36] (by kernel_rfl) (by kernel_rfl) (by kernel_rfl))
            · refine W.is 39 hc459 (by kernel_rfl) ?_
              refine W.run D_ok 4 160 (by kernel_rfl) ?_
              have hv458 := Option.some.inj hv458
              subst hv458
              exact W.fin (by decide) (by kernel_rfl) (Weak.sel [] [0, 3, 4, 5, 6, 36] (by kernel_rfl) (by kernel_rfl) (by kernel_rfl))
            ) ?_
        rcases cond_some h367 with ⟨hc460, h367⟩ | ⟨hc460, h367⟩
        · refine CodeOk.ifT hc460 (by kernel_rfl) ?_
          refine CodeOk.endR (tl 69 [(0, .sl false false (a0.map encSToken)), (3, V.bool y111), (4, V.int (IntKind.wrap .i64 (y112 - 1))), (5, V.int y113)]) [] mix (by
              refine W.run D_ok 3 160 (by kernel_rfl) ?_
              exact W.fin (by decide) (by kernel_rfl) (Weak.sel [] [0, 3, 4, 5] (by kernel_rfl) (by kernel_rfl) (by kernel_rfl))
              ) (fun st hw => ?_)
          exact hk446 (a0, y113, y111, (IntKind.wrap .i64 (y112 - 1))) h367 _ (hw.trans (Weak.sel [] [0, 3, 4, 5] (by kernel_rfl) (by kernel_rfl) (by kernel_rfl)))
        · refine CodeOk.ifF hc460 (by kernel_rfl) ?_
          obtain ⟨y179, hv464, h367⟩ := bind_some h367
          refine CodeOk.cutR (tl 69 [(0, .sl false false (a0.map encSToken)), (4, V.int y112), (5, V.int y113), (45, V.bool y179)]) [] mix (by
              refine W.run D_ok 3 160 (by kernel_rfl) ?_
              rcases cond_some hv464 with ⟨hc465, hv464⟩ | ⟨hc465, hv464⟩
              · refine W.is 48 hc465 (by kernel_rfl) ?_
                refine W.run D_ok 4 160 (by kernel_rfl) ?_
                rcases cond_some hv464 with ⟨hc466, hv464⟩ | ⟨hc466, hv464⟩
                · refine W.is 52 hc466 (by kernel_rfl) ?_
                  refine W.run D_ok 1 160 (by kernel_rfl) ?_
                  obtain ⟨r180, hx467, hv464⟩ := bind_some hv464
                  refine W.call0 (m_spec_OpLevel_ok e166.Kind hx467) cok22 rfl (by kernel_rfl) ?_
                  refine W.run D_ok 3 160 (by kernel_rfl) ?_
                  have hv464 := Option.some.inj hv464
                  subst hv464
                  exact W.fin (by decide) (by kernel_rfl) (Weak.sel [] [0, 4, 5, 45] (by kernel_rfl) (by kernel_rfl) (by kernel_rfl))
                · refine W.is 52 hc466 (by kernel_rfl) ?_
                  refine W.run D_ok 5 160 (by kernel_rfl) ?_
                  have hv464 := Option.some.inj hv464
                  subst hv464
                  exact W.fin (by decide) (by kernel_rfl) (Weak.sel [] [0, 4, 5, 45] (by kernel_rfl) (by kernel_rfl) (by kernel_rfl))
              · refine W.is 48 hc465 (by kernel_rfl) ?_
                refine W.run D_ok 9 160 (by kernel_rfl) ?_
                have hv464 := Option.some.inj hv464
                subst hv464
                exact W.fin (by decide) (by kernel_rfl) (Weak.sel [] [0, 4, 5, 45] (by kernel_rfl) (by kernel_rfl) (by kernel_rfl))
              ) ?_
          rcases cond_some h367 with ⟨hc468, h367⟩ | ⟨hc468, h367⟩
          · refine CodeOk.ifT hc468 (by kernel_rfl) ?_
            refine CodeOk.endR (tl 69 [(0, .sl false false (a0.map encSToken)), (3, V.bool true), (4, V.int y112), (5, V.int y113)]) [] mix (by
                refine W.run D_ok 1 160 (by kernel_rfl) ?_
                exact W.fin (by decide) (by kernel_rfl) (Weak.sel [] [0, 3, 4, 5] (by kernel_rfl) (by kernel_rfl) (by kernel_rfl))
                ) (fun st hw => ?_)
            exact hk446 (a0, y113, true, y112) h367 _ (hw.trans (Weak.sel [] [0, 3, 4, 5] (by kernel_rfl) (by kernel_rfl) (by kernel_rfl)))
          · refine CodeOk.ifF hc468 (by kernel_rfl) ?_
            refine CodeOk.cutR (tl 69 [(2, V.bool false)]) [] mix (by
                refine W.run D_ok 1 160 (by kernel_rfl) ?_
                exact W.fin (by decide) (by kernel_rfl) (Weak.sel [] [2] (by kernel_rfl) (by kernel_rfl) (by kernel_rfl))
                ) ?_
            refine CodeOk.ret ?_
            have h367 := Option.some.inj h367
            subst h367
            exact Ends.gen [] (.inr rfl) (RetV.one rfl (OneR.tmp (t := 2) (r := V.bool false) (by kernel_rfl))) (by kernel_rfl) (by kernel_rfl) (by kernel_rfl)
  · refine CodeOk.ifF hc370 (by kernel_rfl) ?_
    refine CodeOk.exit ?_
    refine CodeOk.weak (st' := ⟨tl 69 [(0, .sl false false (a0.map encSToken)), (3, V.bool y111), (4, V.int y112), (5, V.int y113), (10, V.bool (decide (y113 < (a0.length : Int))))], []⟩) (Weak.refl _) ?_
    obtain ⟨y182, hv472, h367⟩ := bind_some h367
    refine CodeOk.cutR (tl 69 [(2, V.bool y182)]) [] mix (by
        refine W.run D_ok 3 160 (by kernel_rfl) ?_
        rcases cond_some hv472 with ⟨hc473, hv472⟩ | ⟨hc473, hv472⟩
        · refine W.is 61 hc473 (by kernel_rfl) ?_
          refine W.run D_ok 4 160 (by kernel_rfl) ?_
          rcases cond_some hv472 with ⟨hc474, hv472⟩ | ⟨hc474, hv472⟩
          · refine W.is 65 hc474 (by kernel_rfl) ?_
            refine W.run D_ok 1 160 (by kernel_rfl) ?_
            obtain ⟨r183, hx475, hv472⟩ := bind_some hv472
            refine W.call0 (m_spec_TokensOk_ok N a0 hx475) cok23 rfl (by kernel_rfl) ?_
            refine W.run D_ok 2 160 (by kernel_rfl) ?_
            have hv472 := Option.some.inj hv472
            subst hv472
            exact W.fin (by decide) (by kernel_rfl) (Weak.sel [] [2] (by kernel_rfl) (by kernel_rfl) (by kernel_rfl))
          · refine W.is 65 hc474 (by kernel_rfl) ?_
            refine W.run D_ok 4 160 (by kernel_rfl) ?_
            have hv472 := Option.some.inj hv472
            subst hv472
            exact W.fin (by decide) (by kernel_rfl) (Weak.sel [] [2] (by kernel_rfl) (by kernel_rfl) (by kernel_rfl))
        · refine W.is 61 hc473 (by kernel_rfl) ?_
          refine W.run D_ok 8 160 (by kernel_rfl) ?_
          have hv472 := Option.some.inj hv472
          subst hv472
          exact W.fin (by decide) (by kernel_rfl) (Weak.sel [] [2] (by kernel_rfl) (by kernel_rfl) (by kernel_rfl))
        ) ?_
    refine CodeOk.ret ?_
    have h367 := Option.some.inj h367
    subst h367
    exact Ends.gen [] (.inr rfl) (RetV.one rfl (OneR.tmp (t := 2) (r := V.bool y182) (by kernel_rfl))) (by kernel_rfl) (by kernel_rfl) (by kernel_rfl)

theorem m_stringslite_IndexByte_ok (a0 : List UInt8) (a1 : Int) {r : Int} (h : m_stringslite_IndexByte a0 a1 = some r) :
    AC Tryd.prog (GS []) 126 [V.str a0, .c (.int .u8 a1)] [] (V.int r) [] := by
  rw [m_stringslite_IndexByte] at h
  refine AC.enter Tryd.func126 rfl ?_
  refine CodeOk.cutR (tl 8 [(0, V.str a0), (1, .c (.int .u8 a1))]) [] mix (by
      refine W.run D_ok 1 100 (by kernel_rfl) ?_
      exact W.fin (by decide) (by kernel_rfl) (Weak.sel [] [0, 1] (by kernel_rfl) (by kernel_rfl) (by kernel_rfl))
      ) ?_
  refine CodeOk.cutR (tl 8 [(4, V.int (Go.Lib.indexByte a0 (Int.toNat a1).toUInt8))]) [] mix (by
      refine W.run D_ok 2 100 (by kernel_rfl) ?_
      refine W.ext (vs := [.string ⟨⟨a0⟩⟩, .int .u8 a1]) (ext136 _ _) (by kernel_rfl) ?_
      refine W.run D_ok 1 100 (by kernel_rfl) ?_
      exact W.fin (by decide) (by kernel_rfl) (Weak.sel [] [4] (by kernel_rfl) (by kernel_rfl) (by kernel_rfl))
      ) ?_
  refine CodeOk.ret ?_
  have h := Option.some.inj h
  subst h
  exact Ends.gen [] (.inr rfl) (RetV.one rfl (OneR.tmp (t := 4) (r := V.int (Go.Lib.indexByte a0 (Int.toNat a1).toUInt8)) (by kernel_rfl))) (by kernel_rfl) (by kernel_rfl) (by kernel_rfl)

theorem m_stringslite_Index_ok (a0 : List UInt8) {r : Int} (h : m_stringslite_Index a0 = some r) :
    AC Tryd.prog (GS []) 134 [V.str a0, V.str [10]] [] (V.int r) [] := by
  rw [m_stringslite_Index] at h
  refine AC.enter Tryd.func134 rfl ?_
  refine CodeOk.cutR (tl 143 [(0, V.str a0), (1, V.str [10])]) [] mix (by
      refine W.run D_ok 1 100 (by kernel_rfl) ?_
      exact W.fin (by decide) (by kernel_rfl) (Weak.sel [] [0, 1] (by kernel_rfl) (by kernel_rfl) (by kernel_rfl))
      ) ?_
  refine CodeOk.cutR (tl 143 [(0, V.str a0), (1, V.str [10]), (5, V.int 1)]) [] mix (by
      refine W.run D_ok 3 100 (by kernel_rfl) ?_
      exact W.fin (by decide) (by kernel_rfl) (Weak.sel [] [0, 1, 5] (by kernel_rfl) (by kernel_rfl) (by kernel_rfl))
      ) ?_
  refine CodeOk.seq' ?_
  refine CodeOk.block' ?_
  refine CodeOk.cutR (tl 143 [(0, V.str a0), (1, V.str [10]), (5, V.int 1), (16, V.bool (([10] : List UInt8) == a0))]) [] mix (by
      refine W.run D_ok 8 100 (by kernel_rfl) ?_
      exact W.fin (by decide) (by kernel_rfl) (Weak.sel [] [0, 1, 5, 16] (by kernel_rfl) (by kernel_rfl) (by kernel_rfl))
      ) ?_
  rcases cond_some h with ⟨hc6, h⟩ | ⟨hc6, h⟩
  · refine CodeOk.ifT hc6 (by kernel_rfl) ?_
    refine CodeOk.cutR (tl 143 [(4, V.int 0)]) [] mix (by
        refine W.run D_ok 1 100 (by kernel_rfl) ?_
        exact W.fin (by decide) (by kernel_rfl) (Weak.sel [] [4] (by kernel_rfl) (by kernel_rfl) (by kernel_rfl))
        ) ?_
    refine CodeOk.ret ?_
    have h := Option.some.inj h
    subst h
    exact Ends.gen [] (.inr rfl) (RetV.one rfl (OneR.tmp (t := 4) (r := V.int 0) (by kernel_rfl))) (by kernel_rfl) (by kernel_rfl) (by kernel_rfl)
  · refine CodeOk.ifF hc6 (by kernel_rfl) ?_
    refine CodeOk.cutR (tl 143 [(0, V.str a0), (1, V.str [10]), (5, V.int 1), (24, V.bool true)]) [] mix (by
        refine W.run D_ok 3 100 (by kernel_rfl) ?_
        exact W.fin (by decide) (by kernel_rfl) (Weak.sel [] [0, 1, 5, 24] (by kernel_rfl) (by kernel_rfl) (by kernel_rfl))
        ) ?_
    refine CodeOk.ifT (c := true) rfl (by kernel_rfl) ?_
    obtain ⟨b7, hx9, h⟩ := bind_some h
    obtain ⟨r8, hx10, h⟩ := bind_some h
    refine CodeOk.cutR (tl 143 [(4, V.int r8)]) [] mix (by
        refine W.run D_ok 2 100 (by kernel_rfl) ?_
        refine W.ixS D_ok hx9 (by kernel_rfl) ?_
        refine W.call0 (m_stringslite_IndexByte_ok a0 ((b7).toNat : Int) hx10) cok126 rfl (by kernel_rfl) ?_
        refine W.run D_ok 1 100 (by kernel_rfl) ?_
        exact W.fin (by decide) (by kernel_rfl) (Weak.sel [] [4] (by kernel_rfl) (by kernel_rfl) (by kernel_rfl))
        ) ?_
    refine CodeOk.ret ?_
    have h := Option.some.inj h
    subst h
    exact Ends.gen [] (.inr rfl) (RetV.one rfl (OneR.tmp (t := 4) (r := V.int r8) (by kernel_rfl))) (by kernel_rfl) (by kernel_rfl) (by kernel_rfl)

theorem m_strings_Index_ok (a0 : List UInt8) {r : Int} (h : m_strings_Index a0 = some r) :
    AC Tryd.prog (GS []) 118 [V.str a0, V.str [10]] [] (V.int r) [] := by
  rw [m_strings_Index] at h
  refine AC.enter Tryd.func118 rfl ?_
  refine CodeOk.cutR (tl 8 [(0, V.str a0), (1, V.str [10])]) [] mix (by
      refine W.run D_ok 1 100 (by kernel_rfl) ?_
      exact W.fin (by decide) (by kernel_rfl) (Weak.sel [] [0, 1] (by kernel_rfl) (by kernel_rfl) (by kernel_rfl))
      ) ?_
  obtain ⟨r2, hx2, h⟩ := bind_some h
  refine CodeOk.cutR (tl 8 [(4, V.int r2)]) [] mix (by
      refine W.run D_ok 2 100 (by kernel_rfl) ?_
      refine W.call0 (m_stringslite_Index_ok a0 hx2) cok134 rfl (by kernel_rfl) ?_
      refine W.run D_ok 1 100 (by kernel_rfl) ?_
      exact W.fin (by decide) (by kernel_rfl) (Weak.sel [] [4] (by kernel_rfl) (by kernel_rfl) (by kernel_rfl))
      ) ?_
  refine CodeOk.ret ?_
  have h := Option.some.inj h
  subst h
  exact Ends.gen [] (.inr rfl) (RetV.one rfl (OneR.tmp (t := 4) (r := V.int r2) (by kernel_rfl))) (by kernel_rfl) (by kernel_rfl) (by kernel_rfl)

theorem m_strings_Contains_ok (a0 : List UInt8) {r : Bool} (h : m_strings_Contains a0 = some r) :
    AC Tryd.prog (GS []) 75 [V.str a0, V.str [10]] [] (V.bool r) [] := by
  rw [m_strings_Contains] at h
  refine AC.enter Tryd.func75 rfl ?_
  refine CodeOk.cutR (tl 9 [(0, V.str a0), (1, V.str [10])]) [] mix (by
      refine W.run D_ok 1 100 (by kernel_rfl) ?_
      exact W.fin (by decide) (by kernel_rfl) (Weak.sel [] [0, 1] (by kernel_rfl) (by kernel_rfl) (by kernel_rfl))
      ) ?_
  obtain ⟨r2, hx2, h⟩ := bind_some h
  refine CodeOk.cutR (tl 9 [(4, V.bool (decide (r2 ≥ 0)))]) [] mix (by
      refine W.run D_ok 2 100 (by kernel_rfl) ?_
      refine W.call0 (m_strings_Index_ok a0 hx2) cok118 rfl (by kernel_rfl) ?_
      refine W.run D_ok 2 100 (by kernel_rfl) ?_
      exact W.fin (by decide) (by kernel_rfl) (Weak.sel [] [4] (by kernel_rfl) (by kernel_rfl) (by kernel_rfl))
      ) ?_
  refine CodeOk.ret ?_
  have h := Option.some.inj h
  subst h
  exact Ends.gen [] (.inr rfl) (RetV.one rfl (OneR.tmp (t := 4) (r := V.bool (decide (r2 ≥ 0))) (by kernel_rfl))) (by kernel_rfl) (by kernel_rfl) (by kernel_rfl)

theorem m_impl_within_ok (a0 : Int) (a1 : Int) (a2 : Int) {r : Bool} (h : m_impl_within a0 a1 a2 = some r) :
    AC Tryd.prog (GS []) 52 [V.int a0, V.int a1, V.int a2] [] (V.bool r) [] := by
  rw [m_impl_within] at h
  refine AC.enter Tryd.func52 rfl ?_
  refine CodeOk.cutR (tl 15 [(0, V.int a0), (1, V.int a1), (2, V.int a2)]) [] mix (by
      refine W.run D_ok 1 100 (by kernel_rfl) ?_
      exact W.fin (by decide) (by kernel_rfl) (Weak.sel [] [0, 1, 2] (by kernel_rfl) (by kernel_rfl) (by kernel_rfl))
      ) ?_
  obtain ⟨y1, hv2, h⟩ := bind_some h
  refine CodeOk.cutR (tl 15 [(6, V.bool y1)]) [] mix (by
      refine W.run D_ok 4 100 (by kernel_rfl) ?_
      rcases cond_some hv2 with ⟨hc3, hv2⟩ | ⟨hc3, hv2⟩
      · refine W.is 10 hc3 (by kernel_rfl) ?_
        refine W.run D_ok 5 100 (by kernel_rfl) ?_
        have hv2 := Option.some.inj hv2
        subst hv2
        exact W.fin (by decide) (by kernel_rfl) (Weak.sel [] [6] (by kernel_rfl) (by kernel_rfl) (by kernel_rfl))
      · refine W.is 10 hc3 (by kernel_rfl) ?_
        refine W.run D_ok 5 100 (by kernel_rfl) ?_
        have hv2 := Option.some.inj hv2
        subst hv2
        exact W.fin (by decide) (by kernel_rfl) (Weak.sel [] [6] (by kernel_rfl) (by kernel_rfl) (by kernel_rfl))
      ) ?_
  refine CodeOk.ret ?_
  have h := Option.some.inj h
  subst h
  exact Ends.gen [] (.inr rfl) (RetV.one rfl (OneR.tmp (t := 6) (r := V.bool y1) (by kernel_rfl))) (by kernel_rfl) (by kernel_rfl) (by kernel_rfl)

theorem m_impl_byteAt_ok (a0 : List UInt8) (a1 : Int) {r : Int} (h : m_impl_byteAt a0 a1 = some r) :
    AC Tryd.prog (GS []) 54 [V.str a0, V.int a1] [] (V.int r) [] := by
  rw [m_impl_byteAt] at h
  refine AC.enter Tryd.func54 rfl ?_
  refine CodeOk.cutR (tl 15 [(0, V.str a0), (1, V.int a1)]) [] mix (by
      refine W.run D_ok 1 100 (by kernel_rfl) ?_
      exact W.fin (by decide) (by kernel_rfl) (Weak.sel [] [0, 1] (by kernel_rfl) (by kernel_rfl) (by kernel_rfl))
      ) ?_
  refine CodeOk.seq' ?_
  obtain ⟨r4, hx5, h⟩ := bind_some h
  refine CodeOk.cutR (tl 15 [(0, V.str a0), (1, V.int a1), (10, V.bool (!r4))]) [] mix (by
      refine W.run D_ok 4 100 (by kernel_rfl) ?_
      refine W.call0 (m_impl_within_ok a1 0 (IntKind.wrap .i64 ((a0.length : Int) - 1)) hx5) cok52 rfl (by kernel_rfl) ?_
      refine W.run D_ok 1 100 (by kernel_rfl) ?_
      exact W.fin (by decide) (by kernel_rfl) (Weak.sel [] [0, 1, 10] (by kernel_rfl) (by kernel_rfl) (by kernel_rfl))
      ) ?_
  rcases cond_some h with ⟨hc6, h⟩ | ⟨hc6, h⟩
  · refine CodeOk.ifT hc6 (by kernel_rfl) ?_
    refine CodeOk.cutR (tl 15 [(4, V.int (-1))]) [] mix (by
        refine W.run D_ok 1 100 (by kernel_rfl) ?_
        exact W.fin (by decide) (by kernel_rfl) (Weak.sel [] [4] (by kernel_rfl) (by kernel_rfl) (by kernel_rfl))
        ) ?_
    refine CodeOk.ret ?_
    have h := Option.some.inj h
    subst h
    exact Ends.gen [] (.inr rfl) (RetV.one rfl (OneR.tmp (t := 4) (r := V.int (-1)) (by kernel_rfl))) (by kernel_rfl) (by kernel_rfl) (by kernel_rfl)
  · refine CodeOk.ifF hc6 (by kernel_rfl) ?_
    refine CodeOk.skip ?_
    refine CodeOk.weak (st' := ⟨tl 15 [(0, V.str a0), (1, V.int a1), (10, V.bool (!r4))], []⟩) (Weak.refl _) ?_
    obtain ⟨b6, hx8, h⟩ := bind_some h
    refine CodeOk.cutR (tl 15 [(4, V.int (IntKind.wrap .i64 ((b6).toNat : Int)))]) [] mix (by
        refine W.run D_ok 2 100 (by kernel_rfl) ?_
        refine W.ixS D_ok hx8 (by kernel_rfl) ?_
        refine W.run D_ok 2 100 (by kernel_rfl) ?_
        exact W.fin (by decide) (by kernel_rfl) (Weak.sel [] [4] (by kernel_rfl) (by kernel_rfl) (by kernel_rfl))
        ) ?_
    refine CodeOk.ret ?_
    have h := Option.some.inj h
    subst h
    exact Ends.gen [] (.inr rfl) (RetV.one rfl (OneR.tmp (t := 4) (r := V.int (IntKind.wrap .i64 ((b6).toNat : Int))) (by kernel_rfl))) (by kernel_rfl) (by kernel_rfl) (by kernel_rfl)

theorem m_impl_IsDigit_ok (a0 : Int) {r : Bool} (h : m_impl_IsDigit a0 = some r) :
    AC Tryd.prog (GS []) 89 [V.int a0] [] (V.bool r) [] := by
  rw [m_impl_IsDigit] at h
  refine AC.enter Tryd.func89 rfl ?_
  refine CodeOk.cutR (tl 9 [(0, V.int a0)]) [] mix (by
      refine W.run D_ok 1 100 (by kernel_rfl) ?_
      exact W.fin (by decide) (by kernel_rfl) (Weak.sel [] [0] (by kernel_rfl) (by kernel_rfl) (by kernel_rfl))
      ) ?_
  obtain ⟨y1, hv2, h⟩ := bind_some h
  refine CodeOk.cutR (tl 9 [(2, V.bool y1)]) [] mix (by
      refine W.run D_ok 3 100 (by kernel_rfl) ?_
      rcases cond_some hv2 with ⟨hc3, hv2⟩ | ⟨hc3, hv2⟩
      · refine W.is 5 hc3 (by kernel_rfl) ?_
        refine W.run D_ok 4 100 (by kernel_rfl) ?_
        have hv2 := Option.some.inj hv2
        subst hv2
        exact W.fin (by decide) (by kernel_rfl) (Weak.sel [] [2] (by kernel_rfl) (by kernel_rfl) (by kernel_rfl))
      · refine W.is 5 hc3 (by kernel_rfl) ?_
        refine W.run D_ok 4 100 (by kernel_rfl) ?_
        have hv2 := Option.some.inj hv2
        subst hv2
        exact W.fin (by decide) (by kernel_rfl) (Weak.sel [] [2] (by kernel_rfl) (by kernel_rfl) (by kernel_rfl))
      ) ?_
  refine CodeOk.ret ?_
  have h := Option.some.inj h
  subst h
  exact Ends.gen [] (.inr rfl) (RetV.one rfl (OneR.tmp (t := 2) (r := V.bool y1) (by kernel_rfl))) (by kernel_rfl) (by kernel_rfl) (by kernel_rfl)

theorem m_impl_digitsEnd_ok (N : Nat) (a0 : List UInt8) (a1 : Int) {r : Int} (h : m_impl_digitsEnd N a0 a1 = some r) :
    AC Tryd.prog (GS []) 119 [V.str a0, V.int a1] [] (V.int r) [] := by
  rw [m_impl_digitsEnd] at h
  refine AC.enter Tryd.func119 rfl ?_
  refine CodeOk.cutR (tl 12 [(0, V.str a0), (1, V.int a1)]) [] mix (by
      refine W.run D_ok 1 100 (by kernel_rfl) ?_
      exact W.fin (by decide) (by kernel_rfl) (Weak.sel [] [0, 1] (by kernel_rfl) (by kernel_rfl) (by kernel_rfl))
      ) ?_
  refine CodeOk.seq' ?_
  refine CodeOk.block' ?_
  refine CodeOk.loopJ (fun (⟨a0, a1⟩ : ((List UInt8) × Int)) => ⟨tl 12 [(0, V.str a0), (1, V.int a1)], []⟩) (fun n i => m_impl_digitsEnd_l1 N n i = some r) (n0 := N) (i0 := (a0, a1)) (Weak.sel [] [0, 1] (by kernel_rfl) (by kernel_rfl) (by kernel_rfl)) h (fun i h => by simp [m_impl_digitsEnd_l1] at h) ?_
  rintro n1 ⟨a0, a1⟩ h33 ih34
  rw [m_impl_digitsEnd_l1] at h33
  refine CodeOk.seq' ?_
  obtain ⟨r33, hx42, h33⟩ := bind_some h33
  obtain ⟨r34, hx43, h33⟩ := bind_some h33
  refine CodeOk.cutR (tl 12 [(0, V.str a0), (1, V.int a1), (8, V.bool r34)]) [] mix (by
      refine W.run D_ok 2 140 (by kernel_rfl) ?_
      refine W.call0 (m_impl_byteAt_ok a0 a1 hx42) cok54 rfl (by kernel_rfl) ?_
      refine W.call0 (m_impl_IsDigit_ok r33 hx43) cok89 rfl (by kernel_rfl) ?_
      exact W.fin (by decide) (by kernel_rfl) (Weak.sel [] [0, 1, 8] (by kernel_rfl) (by kernel_rfl) (by kernel_rfl))
      ) ?_
  rcases cond_some h33 with ⟨hc44, h33⟩ | ⟨hc44, h33⟩
  · refine CodeOk.ifT hc44 (by kernel_rfl) ?_
    refine CodeOk.skip ?_
    refine CodeOk.weak (st' := ⟨tl 12 [(0, V.str a0), (1, V.int a1), (8, V.bool r34)], []⟩) (Weak.refl _) ?_
    refine CodeOk.block' ?_
    refine CodeOk.endR (tl 12 [(0, V.str a0), (1, V.int (IntKind.wrap .i64 (a1 + 1)))]) [] mix (by
        refine W.run D_ok 3 140 (by kernel_rfl) ?_
        exact W.fin (by decide) (by kernel_rfl) (Weak.sel [] [0, 1] (by kernel_rfl) (by kernel_rfl) (by kernel_rfl))
        ) (fun st hw => ?_)
    exact ih34 (a0, (IntKind.wrap .i64 (a1 + 1))) h33 _ (hw.trans (Weak.sel [] [0, 1] (by kernel_rfl) (by kernel_rfl) (by kernel_rfl)))
  · refine CodeOk.ifF hc44 (by kernel_rfl) ?_
    refine CodeOk.exit ?_
    refine CodeOk.weak (st' := ⟨tl 12 [(0, V.str a0), (1, V.int a1), (8, V.bool r34)], []⟩) (Weak.refl _) ?_
    refine CodeOk.cutR (tl 12 [(4, V.int a1)]) [] mix (by
        refine W.run D_ok 2 140 (by kernel_rfl) ?_
        exact W.fin (by decide) (by kernel_rfl) (Weak.sel [] [4] (by kernel_rfl) (by kernel_rfl) (by kernel_rfl))
        ) ?_
    refine CodeOk.ret ?_
    have h33 := Option.some.inj h33
    subst h33
    exact Ends.gen [] (.inr rfl) (RetV.one rfl (OneR.tmp (t := 4) (r := V.int a1) (by kernel_rfl))) (by kernel_rfl) (by kernel_rfl) (by kernel_rfl)

theorem m_impl_NumEnd_ok (N : Nat) (a0 : List UInt8) (a1 : Int) {r : Int} (h : m_impl_NumEnd N a0 a1 = some r) :
    AC Tryd.prog (GS []) 76 [V.str a0, V.int a1] [] (V.int r) [] := by
  rw [m_impl_NumEnd] at h
  refine AC.enter Tryd.func76 rfl ?_
  refine CodeOk.cutR (tl 71 [(0, V.str a0), (1, V.int a1)]) [] mix (by
      refine W.run D_ok 1 100 (by kernel_rfl) ?_
      exact W.fin (by decide) (by kernel_rfl) (Weak.sel [] [0, 1] (by kernel_rfl) (by kernel_rfl) (by kernel_rfl))
      ) ?_
  refine CodeOk.seq' ?_
  obtain ⟨r4, hx5, h⟩ := bind_some h
  refine CodeOk.cutR (tl 71 [(0, V.str a0), (1, V.int a1), (17, V.bool (!r4))]) [] mix (by
      refine W.run D_ok 4 100 (by kernel_rfl) ?_
      refine W.call0 (m_impl_within_ok a1 0 (IntKind.wrap .i64 ((a0.length : Int) - 1)) hx5) cok52 rfl (by kernel_rfl) ?_
      refine W.run D_ok 1 100 (by kernel_rfl) ?_
      exact W.fin (by decide) (by kernel_rfl) (Weak.sel [] [0, 1, 17] (by kernel_rfl) (by kernel_rfl) (by kernel_rfl))
      ) ?_
  rcases cond_some h with ⟨hc6, h⟩ | ⟨hc6, h⟩
  · refine CodeOk.ifT hc6 (by kernel_rfl) ?_
    refine CodeOk.cutR (tl 71 [(4, V.int (-1))]) [] mix (by
        refine W.run D_ok 1 100 (by kernel_rfl) ?_
        exact W.fin (by decide) (by kernel_rfl) (Weak.sel [] [4] (by kernel_rfl) (by kernel_rfl) (by kernel_rfl))
        ) ?_
    refine CodeOk.ret ?_
    have h := Option.some.inj h
    subst h
    exact Ends.gen [] (.inr rfl) (RetV.one rfl (OneR.tmp (t := 4) (r := V.int (-1)) (by kernel_rfl))) (by kernel_rfl) (by kernel_rfl) (by kernel_rfl)
  · refine CodeOk.ifF hc6 (by kernel_rfl) ?_
    refine CodeOk.skip ?_
    refine CodeOk.weak (st' := ⟨tl 71 [(0, V.str a0), (1, V.int a1), (17, V.bool (!r4))], []⟩) (Weak.refl _) ?_
    obtain ⟨r6, hx8, h⟩ := bind_some h
    refine CodeOk.cutR (tl 71 [(0, V.str a0), (1, V.int a1), (5, V.int r6)]) [] mix (by
        refine W.run D_ok 2 100 (by kernel_rfl) ?_
        refine W.call0 (m_impl_digitsEnd_ok N a0 a1 hx8) cok119 rfl (by kernel_rfl) ?_
        refine W.run D_ok 1 100 (by kernel_rfl) ?_
        exact W.fin (by decide) (by kernel_rfl) (Weak.sel [] [0, 1, 5] (by kernel_rfl) (by kernel_rfl) (by kernel_rfl))
        ) ?_
    refine CodeOk.cutR (tl 71 [(0, V.str a0), (5, V.int r6), (6, V.int (IntKind.wrap .i64 (r6 - a1)))]) [] mix (by
        refine W.run D_ok 4 100 (by kernel_rfl) ?_
        exact W.fin (by decide) (by kernel_rfl) (Weak.sel [] [0, 5, 6] (by kernel_rfl) (by kernel_rfl) (by kernel_rfl))
        ) ?_
    refine CodeOk.join (fun (⟨a0, y11, y12⟩ : ((List UInt8) × Int × Int)) => ⟨tl 71 [(0, V.str a0), (5, V.int y11), (6, V.int y12)], []⟩) (fun i => m_impl_NumEnd_k1 N i = some r) ?_ ?_
    · rintro ⟨a0, y11, y12⟩ h14
      rw [m_impl_NumEnd_k1] at h14
      refine CodeOk.seq' ?_
      refine CodeOk.cutR (tl 71 [(0, V.str a0), (5, V.int y11), (40, V.bool (y12 == 0))]) [] mix (by
          refine W.run D_ok 2 100 (by kernel_rfl) ?_
          exact W.fin (by decide) (by kernel_rfl) (Weak.sel [] [0, 5, 40] (by kernel_rfl) (by kernel_rfl) (by kernel_rfl))
          ) ?_
      rcases cond_some h14 with ⟨hc16, h14⟩ | ⟨hc16, h14⟩
      · refine CodeOk.ifT hc16 (by kernel_rfl) ?_
        refine CodeOk.cutR (tl 71 [(4, V.int (-1))]) [] mix (by
            refine W.run D_ok 1 100 (by kernel_rfl) ?_
            exact W.fin (by decide) (by kernel_rfl) (Weak.sel [] [4] (by kernel_rfl) (by kernel_rfl) (by kernel_rfl))
            ) ?_
        refine CodeOk.ret ?_
        have h14 := Option.some.inj h14
        subst h14
        exact Ends.gen [] (.inr rfl) (RetV.one rfl (OneR.tmp (t := 4) (r := V.int (-1)) (by kernel_rfl))) (by kernel_rfl) (by kernel_rfl) (by kernel_rfl)
      · refine CodeOk.ifF hc16 (by kernel_rfl) ?_
        refine CodeOk.skip ?_
        refine CodeOk.weak (st' := ⟨tl 71 [(0, V.str a0), (5, V.int y11), (40, V.bool (y12 == 0))], []⟩) (Weak.refl _) ?_
        refine CodeOk.join (fun (y11 : Int) => ⟨tl 71 [(5, V.int y11)], []⟩) (fun i => m_impl_NumEnd_k2 N i = some r) ?_ ?_
        · rintro y11 h40
          rw [m_impl_NumEnd_k2] at h40
          refine CodeOk.cutR (tl 71 [(4, V.int y11)]) [] mix (by
              refine W.run D_ok 2 100 (by kernel_rfl) ?_
              exact W.fin (by decide) (by kernel_rfl) (Weak.sel [] [4] (by kernel_rfl) (by kernel_rfl) (by kernel_rfl))
              ) ?_
          refine CodeOk.ret ?_
          have h40 := Option.some.inj h40
          subst h40
          exact Ends.gen [] (.inr rfl) (RetV.one rfl (OneR.tmp (t := 4) (r := V.int y11) (by kernel_rfl))) (by kernel_rfl) (by kernel_rfl) (by kernel_rfl)
        intro hk41
        obtain ⟨r26, hx43, h14⟩ := bind_some h14
        refine CodeOk.cutR (tl 71 [(0, V.str a0), (5, V.int y11), (8, V.int r26)]) [] mix (by
            refine W.run D_ok 2 100 (by kernel_rfl) ?_
            refine W.call0 (m_impl_byteAt_ok a0 y11 hx43) cok54 rfl (by kernel_rfl) ?_
            refine W.run D_ok 1 100 (by kernel_rfl) ?_
            exact W.fin (by decide) (by kernel_rfl) (Weak.sel [] [0, 5, 8] (by kernel_rfl) (by kernel_rfl) (by kernel_rfl))
            ) ?_
        obtain ⟨y27, hv45, h14⟩ := bind_some h14
        refine CodeOk.cutR (tl 71 [(0, V.str a0), (5, V.int y11), (49, V.bool y27)]) [] mix (by
            refine W.run D_ok 3 100 (by kernel_rfl) ?_
            rcases cond_some hv45 with ⟨hc46, hv45⟩ | ⟨hc46, hv45⟩
            · refine W.is 46 hc46 (by kernel_rfl) ?_
              refine W.run D_ok 3 100 (by kernel_rfl) ?_
              have hv45 := Option.some.inj hv45
              subst hv45
              exact W.fin (by decide) (by kernel_rfl) (Weak.sel [] [0, 5, 49] (by kernel_rfl) (by kernel_rfl) (by kernel_rfl))
            · refine W.is 46 hc46 (by kernel_rfl) ?_
              refine W.run D_ok 3 100 (by kernel_rfl) ?_
              have hv45 := Option.some.inj hv45
              subst hv45
              exact W.fin (by decide) (by kernel_rfl) (Weak.sel [] [0, 5, 49] (by kernel_rfl) (by kernel_rfl) (by kernel_rfl))
            ) ?_
        rcases cond_some h14 with ⟨hc47, h14⟩ | ⟨hc47, h14⟩
        · refine CodeOk.ifT hc47 (by kernel_rfl) ?_
          refine CodeOk.cutR (tl 71 [(0, V.str a0), (5, V.int y11), (9, V.int (IntKind.wrap .i64 (y11 + 1)))]) [] mix (by
              refine W.run D_ok 3 100 (by kernel_rfl) ?_
              exact W.fin (by decide) (by kernel_rfl) (Weak.sel [] [0, 5, 9] (by kernel_rfl) (by kernel_rfl) (by kernel_rfl))
              ) ?_
          refine CodeOk.join (fun (⟨a0, y11, y31⟩ : ((List UInt8) × Int × Int)) => ⟨tl 71 [(0, V.str a0), (5, V.int y11), (9, V.int y31)], []⟩) (fun i => m_impl_NumEnd_k3 N i = some r) ?_ ?_
          · rintro ⟨a0, y11, y31⟩ h54
            rw [m_impl_NumEnd_k3] at h54
            obtain ⟨r33, hx56, h54⟩ := bind_some h54
            refine CodeOk.cutR (tl 71 [(5, V.int y11), (9, V.int y31), (11, V.int r33)]) [] mix (by
                refine W.run D_ok 2 100 (by kernel_rfl) ?_
                refine W.call0 (m_impl_digitsEnd_ok N a0 y31 hx56) cok119 rfl (by kernel_rfl) ?_
                refine W.run D_ok 1 100 (by kernel_rfl) ?_
                exact W.fin (by decide) (by kernel_rfl) (Weak.sel [] [5, 9, 11] (by kernel_rfl) (by kernel_rfl) (by kernel_rfl))
                ) ?_
            refine CodeOk.cutR (tl 71 [(5, V.int y11), (11, V.int r33), (68, V.bool (decide (r33 > y31)))]) [] mix (by
                refine W.run D_ok 3 100 (by kernel_rfl) ?_
                exact W.fin (by decide) (by kernel_rfl) (Weak.sel [] [5, 11, 68] (by kernel_rfl) (by kernel_rfl) (by kernel_rfl))
                ) ?_
            rcases cond_some h54 with ⟨hc57, h54⟩ | ⟨hc57, h54⟩
            · refine CodeOk.ifT hc57 (by kernel_rfl) ?_
              refine CodeOk.cutR (tl 71 [(4, V.int r33)]) [] mix (by
                  refine W.run D_ok 2 100 (by kernel_rfl) ?_
                  exact W.fin (by decide) (by kernel_rfl) (Weak.sel [] [4] (by kernel_rfl) (by kernel_rfl) (by kernel_rfl))
                  ) ?_
              refine CodeOk.ret ?_
              have h54 := Option.some.inj h54
              subst h54
              exact Ends.gen [] (.inr rfl) (RetV.one rfl (OneR.tmp (t := 4) (r := V.int r33) (by kernel_rfl))) (by kernel_rfl) (by kernel_rfl) (by kernel_rfl)
            · refine CodeOk.ifF hc57 (by kernel_rfl) ?_
              refine CodeOk.skip ?_
              exact hk41 y11 h54 _ (Weak.sel [] [5] (by kernel_rfl) (by kernel_rfl) (by kernel_rfl))
          intro hk58
          obtain ⟨r35, hx60, h14⟩ := bind_some h14
          refine CodeOk.cutR (tl 71 [(0, V.str a0), (5, V.int y11), (9, V.int (IntKind.wrap .i64 (y11 + 1))), (10, V.int r35)]) [] mix (by
              refine W.run D_ok 2 100 (by kernel_rfl) ?_
              refine W.call0 (m_impl_byteAt_ok a0 (IntKind.wrap .i64 (y11 + 1)) hx60) cok54 rfl (by kernel_rfl) ?_
              refine W.run D_ok 1 100 (by kernel_rfl) ?_
              exact W.fin (by decide) (by kernel_rfl) (Weak.sel [] [0, 5, 9, 10] (by kernel_rfl) (by kernel_rfl) (by kernel_rfl))
              ) ?_
          obtain ⟨y36, hv62, h14⟩ := bind_some h14
          refine CodeOk.cutR (tl 71 [(0, V.str a0), (5, V.int y11), (9, V.int (IntKind.wrap .i64 (y11 + 1))), (60, V.bool y36)]) [] mix (by
              refine W.run D_ok 3 100 (by kernel_rfl) ?_
              rcases cond_some hv62 with ⟨hc63, hv62⟩ | ⟨hc63, hv62⟩
              · refine W.is 57 hc63 (by kernel_rfl) ?_
                refine W.run D_ok 3 100 (by kernel_rfl) ?_
                have hv62 := Option.some.inj hv62
                subst hv62
                exact W.fin (by decide) (by kernel_rfl) (Weak.sel [] [0, 5, 9, 60] (by kernel_rfl) (by kernel_rfl) (by kernel_rfl))
              · refine W.is 57 hc63 (by kernel_rfl) ?_
                refine W.run D_ok 3 100 (by kernel_rfl) ?_
                have hv62 := Option.some.inj hv62
                subst hv62
                exact W.fin (by decide) (by kernel_rfl) (Weak.sel [] [0, 5, 9, 60] (by kernel_rfl) (by kernel_rfl) (by kernel_rfl))
              ) ?_
          rcases cond_some h14 with ⟨hc64, h14⟩ | ⟨hc64, h14⟩
          · refine CodeOk.ifT hc64 (by kernel_rfl) ?_
            refine CodeOk.endR (tl 71 [(0, V.str a0), (5, V.int y11), (9, V.int (IntKind.wrap .i64 ((IntKind.wrap .i64 (y11 + 1)) + 1)))]) [] mix (by
                refine W.run D_ok 3 100 (by kernel_rfl) ?_
                exact W.fin (by decide) (by kernel_rfl) (Weak.sel [] [0, 5, 9] (by kernel_rfl) (by kernel_rfl) (by kernel_rfl))
                ) (fun st hw => ?_)
            exact hk58 (a0, y11, (IntKind.wrap .i64 ((IntKind.wrap .i64 (y11 + 1)) + 1))) h14 _ (hw.trans (Weak.sel [] [0, 5, 9] (by kernel_rfl) (by kernel_rfl) (by kernel_rfl)))
          · refine CodeOk.ifF hc64 (by kernel_rfl) ?_
            refine CodeOk.skip ?_
            exact hk58 (a0, y11, (IntKind.wrap .i64 (y11 + 1))) h14 _ (Weak.sel [] [0, 5, 9] (by kernel_rfl) (by kernel_rfl) (by kernel_rfl))
        · refine CodeOk.ifF hc47 (by kernel_rfl) ?_
          refine CodeOk.skip ?_
          exact hk41 y11 h14 _ (Weak.sel [] [5] (by kernel_rfl) (by kernel_rfl) (by kernel_rfl))
    intro hk65
    obtain ⟨r38, hx67, h⟩ := bind_some h
    refine CodeOk.cutR (tl 71 [(0, V.str a0), (5, V.int r6), (6, V.int (IntKind.wrap .i64 (r6 - a1))), (27, V.bool (r38 == 46))]) [] mix (by
        refine W.run D_ok 2 100 (by kernel_rfl) ?_
        refine W.call0 (m_impl_byteAt_ok a0 r6 hx67) cok54 rfl (by kernel_rfl) ?_
        refine W.run D_ok 1 100 (by kernel_rfl) ?_
        exact W.fin (by decide) (by kernel_rfl) (Weak.sel [] [0, 5, 6, 27] (by kernel_rfl) (by kernel_rfl) (by kernel_rfl))
        ) ?_
    rcases cond_some h with ⟨hc68, h⟩ | ⟨hc68, h⟩
    · refine CodeOk.ifT hc68 (by kernel_rfl) ?_
      obtain ⟨r40, hx70, h⟩ := bind_some h
      refine CodeOk.cutR (tl 71 [(0, V.str a0), (5, V.int r6), (6, V.int (IntKind.wrap .i64 (r6 - a1))), (7, V.int r40)]) [] mix (by
          refine W.run D_ok 3 100 (by kernel_rfl) ?_
          refine W.call0 (m_impl_digitsEnd_ok N a0 (IntKind.wrap .i64 (r6 + 1)) hx70) cok119 rfl (by kernel_rfl) ?_
          refine W.run D_ok 1 100 (by kernel_rfl) ?_
          exact W.fin (by decide) (by kernel_rfl) (Weak.sel [] [0, 5, 6, 7] (by kernel_rfl) (by kernel_rfl) (by kernel_rfl))
          ) ?_
      refine CodeOk.cutR (tl 71 [(0, V.str a0), (6, V.int (IntKind.wrap .i64 ((IntKind.wrap .i64 (r6 - a1)) + (IntKind.wrap .i64 ((IntKind.wrap .i64 (r40 - r6)) - 1))))), (7, V.int r40)]) [] mix (by
          refine W.run D_ok 7 100 (by kernel_rfl) ?_
          exact W.fin (by decide) (by kernel_rfl) (Weak.sel [] [0, 6, 7] (by kernel_rfl) (by kernel_rfl) (by kernel_rfl))
          ) ?_
      refine CodeOk.endR (tl 71 [(0, V.str a0), (5, V.int r40), (6, V.int (IntKind.wrap .i64 ((IntKind.wrap .i64 (r6 - a1)) + (IntKind.wrap .i64 ((IntKind.wrap .i64 (r40 - r6)) - 1)))))]) [] mix (by
          refine W.run D_ok 2 100 (by kernel_rfl) ?_
          exact W.fin (by decide) (by kernel_rfl) (Weak.sel [] [0, 5, 6] (by kernel_rfl) (by kernel_rfl) (by kernel_rfl))
          ) (fun st hw => ?_)
      exact hk65 (a0, r40, (IntKind.wrap .i64 ((IntKind.wrap .i64 (r6 - a1)) + (IntKind.wrap .i64 ((IntKind.wrap .i64 (r40 - r6)) - 1))))) h _ (hw.trans (Weak.sel [] [0, 5, 6] (by kernel_rfl) (by kernel_rfl) (by kernel_rfl)))
    · refine CodeOk.ifF hc68 (by kernel_rfl) ?_
      refine CodeOk.skip ?_
      exact hk65 (a0, r6, (IntKind.wrap .i64 (r6 - a1))) h _ (Weak.sel [] [0, 5, 6] (by kernel_rfl) (by kernel_rfl) (by kernel_rfl))

end Go.Proofs.Tryd
