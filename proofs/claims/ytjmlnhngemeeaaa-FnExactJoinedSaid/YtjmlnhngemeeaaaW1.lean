/-
  The walks that show that the code computes the models, part 1.
-/
import Derived.Test.YtjmlnhngemeeaaaM1
namespace Go.Proofs.Try
open Go.Av
set_option maxRecDepth 100000

theorem ext74 (s : List UInt8) (c : Int) (w : World) : (callFunc 74 #[.string ⟨⟨s⟩⟩, .int .u8 c]).run Try.prog w = .ok (.value (.int .i64 (Go.Lib.countByte s c.toNat.toUInt8))) w := by
  rw [run_callFunc_extern Try.func74 (by kernel_rfl) rfl (by kernel_rfl) (by kernel_rfl)]
  rw [show _ = _ from Go.Lib.run_countString ⟨⟨s⟩⟩ c w]
  rfl

theorem ext95 (s : List UInt8) (c : Int) (w : World) : (callFunc 95 #[.string ⟨⟨s⟩⟩, .int .u8 c]).run Try.prog w = .ok (.value (.int .i64 (Go.Lib.indexByte s c.toNat.toUInt8))) w := by
  rw [run_callFunc_extern Try.func95 (by kernel_rfl) rfl (by kernel_rfl) (by kernel_rfl)]
  rw [show _ = _ from Go.Lib.run_indexByteString ⟨⟨s⟩⟩ c w]
  rfl

theorem cok3 : callOk Try.prog 3 := fun _ _ => Try.call3 _ _
theorem cok4 : callOk Try.prog 4 := fun _ _ => Try.call4 _ _
theorem cok5 : callOk Try.prog 5 := fun _ _ => Try.call5 _ _
theorem cok7 : callOk Try.prog 7 := fun _ _ => Try.call7 _ _
theorem cok8 : callOk Try.prog 8 := fun _ _ => Try.call8 _ _
theorem cok9 : callOk Try.prog 9 := fun _ _ => Try.call9 _ _
theorem cok10 : callOk Try.prog 10 := fun _ _ => Try.call10 _ _
theorem cok11 : callOk Try.prog 11 := fun _ _ => Try.call11 _ _
theorem cok12 : callOk Try.prog 12 := fun _ _ => Try.call12 _ _
theorem cok13 : callOk Try.prog 13 := fun _ _ => Try.call13 _ _
theorem cok14 : callOk Try.prog 14 := fun _ _ => Try.call14 _ _
theorem cok15 : callOk Try.prog 15 := fun _ _ => Try.call15 _ _
theorem cok16 : callOk Try.prog 16 := fun _ _ => Try.call16 _ _
theorem cok17 : callOk Try.prog 17 := fun _ _ => Try.call17 _ _
theorem cok18 : callOk Try.prog 18 := fun _ _ => Try.call18 _ _
theorem cok19 : callOk Try.prog 19 := fun _ _ => Try.call19 _ _
theorem cok20 : callOk Try.prog 20 := fun _ _ => Try.call20 _ _
theorem cok21 : callOk Try.prog 21 := fun _ _ => Try.call21 _ _
theorem cok22 : callOk Try.prog 22 := fun _ _ => Try.call22 _ _
theorem cok30 : callOk Try.prog 30 := fun _ _ => Try.call30 _ _
theorem cok31 : callOk Try.prog 31 := fun _ _ => Try.call31 _ _
theorem cok32 : callOk Try.prog 32 := fun _ _ => Try.call32 _ _
theorem cok33 : callOk Try.prog 33 := fun _ _ => Try.call33 _ _
theorem cok34 : callOk Try.prog 34 := fun _ _ => Try.call34 _ _
theorem cok35 : callOk Try.prog 35 := fun _ _ => Try.call35 _ _
theorem cok36 : callOk Try.prog 36 := fun _ _ => Try.call36 _ _
theorem cok37 : callOk Try.prog 37 := fun _ _ => Try.call37 _ _
theorem cok38 : callOk Try.prog 38 := fun _ _ => Try.call38 _ _
theorem cok39 : callOk Try.prog 39 := fun _ _ => Try.call39 _ _
theorem cok40 : callOk Try.prog 40 := fun _ _ => Try.call40 _ _
theorem cok41 : callOk Try.prog 41 := fun _ _ => Try.call41 _ _
theorem cok42 : callOk Try.prog 42 := fun _ _ => Try.call42 _ _
theorem cok43 : callOk Try.prog 43 := fun _ _ => Try.call43 _ _
theorem cok44 : callOk Try.prog 44 := fun _ _ => Try.call44 _ _
theorem cok45 : callOk Try.prog 45 := fun _ _ => Try.call45 _ _
theorem cok46 : callOk Try.prog 46 := fun _ _ => Try.call46 _ _
theorem cok47 : callOk Try.prog 47 := fun _ _ => Try.call47 _ _
theorem cok48 : callOk Try.prog 48 := fun _ _ => Try.call48 _ _
theorem cok49 : callOk Try.prog 49 := fun _ _ => Try.call49 _ _
theorem cok59 : callOk Try.prog 59 := fun _ _ => Try.call59 _ _
theorem cok60 : callOk Try.prog 60 := fun _ _ => Try.call60 _ _
theorem cok61 : callOk Try.prog 61 := fun _ _ => Try.call61 _ _
theorem cok62 : callOk Try.prog 62 := fun _ _ => Try.call62 _ _
theorem cok63 : callOk Try.prog 63 := fun _ _ => Try.call63 _ _
theorem cok64 : callOk Try.prog 64 := fun _ _ => Try.call64 _ _
theorem cok65 : callOk Try.prog 65 := fun _ _ => Try.call65 _ _
theorem cok66 : callOk Try.prog 66 := fun _ _ => Try.call66 _ _
theorem cok67 : callOk Try.prog 67 := fun _ _ => Try.call67 _ _
theorem cok68 : callOk Try.prog 68 := fun _ _ => Try.call68 _ _
theorem cok69 : callOk Try.prog 69 := fun _ _ => Try.call69 _ _
theorem cok70 : callOk Try.prog 70 := fun _ _ => Try.call70 _ _
theorem cok71 : callOk Try.prog 71 := fun _ _ => Try.call71 _ _
theorem cok72 : callOk Try.prog 72 := fun _ _ => Try.call72 _ _
theorem cok75 : callOk Try.prog 75 := fun _ _ => Try.call75 _ _
theorem cok76 : callOk Try.prog 76 := fun _ _ => Try.call76 _ _
theorem cok79 : callOk Try.prog 79 := fun _ _ => Try.call79 _ _
theorem cok80 : callOk Try.prog 80 := fun _ _ => Try.call80 _ _
theorem cok81 : callOk Try.prog 81 := fun _ _ => Try.call81 _ _
theorem cok82 : callOk Try.prog 82 := fun _ _ => Try.call82 _ _
theorem cok83 : callOk Try.prog 83 := fun _ _ => Try.call83 _ _
theorem cok84 : callOk Try.prog 84 := fun _ _ => Try.call84 _ _
theorem cok85 : callOk Try.prog 85 := fun _ _ => Try.call85 _ _
theorem cok87 : callOk Try.prog 87 := fun _ _ => Try.call87 _ _
theorem cok88 : callOk Try.prog 88 := fun _ _ => Try.call88 _ _
theorem cok89 : callOk Try.prog 89 := fun _ _ => Try.call89 _ _
theorem cok90 : callOk Try.prog 90 := fun _ _ => Try.call90 _ _

theorem m_laws_szIntS_ok (a0 : List Int) (a1 : Int) {r : Int} (h : m_laws_szIntS a0 a1 = some r) :
    AC Try.prog GG 43 [.sl false false (a0.map encI), V.int a1] [] (V.int r) [] := by
  rw [m_laws_szIntS] at h
  refine AC.enter Try.func43 rfl ?_
  refine CodeOk.cutR (tl 12 [(0, .sl false false (a0.map encI)), (1, V.int a1)]) [] mix (by
      refine W.run D_ok 1 100 (by kernel_rfl) ?_
      exact W.fin (by decide) (by kernel_rfl) (Weak.sel [] [0, 1] (by kernel_rfl) (by kernel_rfl) (by kernel_rfl))
      ) ?_
  refine CodeOk.cutR (tl 12 [(1, V.int (IntKind.wrap .i64 (a1 - (a0.length : Int))))]) [] mix (by
      refine W.run D_ok 2 100 (by kernel_rfl) ?_
      refine W.len D_ok encI a0 [] (by kernel_rfl) (by kernel_rfl) ?_
      refine W.run D_ok 2 100 (by kernel_rfl) ?_
      exact W.fin (by decide) (by kernel_rfl) (Weak.sel [] [1] (by kernel_rfl) (by kernel_rfl) (by kernel_rfl))
      ) ?_
  refine CodeOk.seq' ?_
  refine CodeOk.cutR (tl 12 [(1, V.int (IntKind.wrap .i64 (a1 - (a0.length : Int)))), (10, V.bool (decide ((IntKind.wrap .i64 (a1 - (a0.length : Int))) < 0)))]) [] mix (by
      refine W.run D_ok 2 100 (by kernel_rfl) ?_
      exact W.fin (by decide) (by kernel_rfl) (Weak.sel [] [1, 10] (by kernel_rfl) (by kernel_rfl) (by kernel_rfl))
      ) ?_
  rcases cond_some h with ⟨hc2, h⟩ | ⟨hc2, h⟩
  · refine CodeOk.ifT hc2 (by kernel_rfl) ?_
    refine CodeOk.cutR (tl 12 [(4, V.int (-1))]) [] mix (by
        refine W.run D_ok 1 100 (by kernel_rfl) ?_
        exact W.fin (by decide) (by kernel_rfl) (Weak.sel [] [4] (by kernel_rfl) (by kernel_rfl) (by kernel_rfl))
        ) ?_
    refine CodeOk.ret ?_
    have h := Option.some.inj h
    subst h
    exact Ends.gen [] (.inr rfl) (RetV.one rfl (OneR.tmp (t := 4) (r := V.int (-1)) (by kernel_rfl))) (by kernel_rfl) (by kernel_rfl) (by kernel_rfl)
  · refine CodeOk.ifF hc2 (by kernel_rfl) ?_
    refine CodeOk.skip ?_
    refine CodeOk.weak (st' := ⟨tl 12 [(1, V.int (IntKind.wrap .i64 (a1 - (a0.length : Int)))), (10, V.bool (decide ((IntKind.wrap .i64 (a1 - (a0.length : Int))) < 0)))], []⟩) (Weak.refl _) ?_
    refine CodeOk.cutR (tl 12 [(4, V.int (IntKind.wrap .i64 (a1 - (a0.length : Int))))]) [] mix (by
        refine W.run D_ok 2 100 (by kernel_rfl) ?_
        exact W.fin (by decide) (by kernel_rfl) (Weak.sel [] [4] (by kernel_rfl) (by kernel_rfl) (by kernel_rfl))
        ) ?_
    refine CodeOk.ret ?_
    have h := Option.some.inj h
    subst h
    exact Ends.gen [] (.inr rfl) (RetV.one rfl (OneR.tmp (t := 4) (r := V.int (IntKind.wrap .i64 (a1 - (a0.length : Int)))) (by kernel_rfl))) (by kernel_rfl) (by kernel_rfl) (by kernel_rfl)

theorem m_laws_szNode_ok (a0 : SNode) (a1 : Int) {r : Int} (h : m_laws_szNode a0 a1 = some r) :
    AC Try.prog GG 11 [.agg [V.int a0.Kind, V.int a0.Op, V.str a0.Text, V.str a0.Other, .sl false false (a0.Kids.map encI)], V.int a1] [] (V.int r) [] := by
  rw [m_laws_szNode] at h
  refine AC.enter Try.func11 rfl ?_
  refine CodeOk.cutR (tl 26 [(1, V.int a1), (2, .loc 100 0)]) [(100, .cells 24 [V.int a0.Kind, V.int a0.Op, V.str a0.Text, V.str a0.Other, .sl false false (a0.Kids.map encI)])] mix (by
      refine W.run D_ok 2 100 (by kernel_rfl) ?_
      exact W.fin (by decide) (by kernel_rfl) (Weak.sel [(100, 100)] [1, 2] (by kernel_rfl) (by kernel_rfl) (by kernel_rfl))
      ) ?_
  refine CodeOk.cutR (tl 26 [(1, V.int (IntKind.wrap .i64 (a1 - (a0.Text.length : Int)))), (2, .loc 100 0)]) [(100, .cells 24 [V.int a0.Kind, V.int a0.Op, V.str a0.Text, V.str a0.Other, .sl false false (a0.Kids.map encI)])] mix (by
      refine W.run D_ok 6 101 (by kernel_rfl) ?_
      exact W.fin (by decide) (by kernel_rfl) (Weak.sel [(100, 100)] [1, 2] (by kernel_rfl) (by kernel_rfl) (by kernel_rfl))
      ) ?_
  refine CodeOk.seq' ?_
  refine CodeOk.cutR (tl 26 [(1, V.int (IntKind.wrap .i64 (a1 - (a0.Text.length : Int)))), (2, .loc 100 0), (11, V.bool (decide ((IntKind.wrap .i64 (a1 - (a0.Text.length : Int))) < 0)))]) [(100, .cells 24 [V.int a0.Kind, V.int a0.Op, V.str a0.Text, V.str a0.Other, .sl false false (a0.Kids.map encI)])] mix (by
      refine W.run D_ok 2 101 (by kernel_rfl) ?_
      exact W.fin (by decide) (by kernel_rfl) (Weak.sel [(100, 100)] [1, 2, 11] (by kernel_rfl) (by kernel_rfl) (by kernel_rfl))
      ) ?_
  rcases cond_some h with ⟨hc2, h⟩ | ⟨hc2, h⟩
  · refine CodeOk.ifT hc2 (by kernel_rfl) ?_
    refine CodeOk.cutR (tl 26 [(4, V.int (-1))]) [] mix (by
        refine W.run D_ok 1 101 (by kernel_rfl) ?_
        exact W.fin (by decide) (by kernel_rfl) (Weak.sel [] [4] (by kernel_rfl) (by kernel_rfl) (by kernel_rfl))
        ) ?_
    refine CodeOk.ret ?_
    have h := Option.some.inj h
    subst h
    exact Ends.gen [] (.inr rfl) (RetV.one rfl (OneR.tmp (t := 4) (r := V.int (-1)) (by kernel_rfl))) (by kernel_rfl) (by kernel_rfl) (by kernel_rfl)
  · refine CodeOk.ifF hc2 (by kernel_rfl) ?_
    refine CodeOk.skip ?_
    refine CodeOk.weak (st' := ⟨tl 26 [(1, V.int (IntKind.wrap .i64 (a1 - (a0.Text.length : Int)))), (2, .loc 100 0), (11, V.bool (decide ((IntKind.wrap .i64 (a1 - (a0.Text.length : Int))) < 0)))], [(100, .cells 24 [V.int a0.Kind, V.int a0.Op, V.str a0.Text, V.str a0.Other, .sl false false (a0.Kids.map encI)])]⟩) (Weak.refl _) ?_
    refine CodeOk.cutR (tl 26 [(1, V.int (IntKind.wrap .i64 ((IntKind.wrap .i64 (a1 - (a0.Text.length : Int))) - (a0.Other.length : Int)))), (2, .loc 100 0)]) [(100, .cells 24 [V.int a0.Kind, V.int a0.Op, V.str a0.Text, V.str a0.Other, .sl false false (a0.Kids.map encI)])] mix (by
        refine W.run D_ok 6 101 (by kernel_rfl) ?_
        exact W.fin (by decide) (by kernel_rfl) (Weak.sel [(100, 100)] [1, 2] (by kernel_rfl) (by kernel_rfl) (by kernel_rfl))
        ) ?_
    refine CodeOk.seq' ?_
    refine CodeOk.cutR (tl 26 [(1, V.int (IntKind.wrap .i64 ((IntKind.wrap .i64 (a1 - (a0.Text.length : Int))) - (a0.Other.length : Int)))), (2, .loc 100 0), (18, V.bool (decide ((IntKind.wrap .i64 ((IntKind.wrap .i64 (a1 - (a0.Text.length : Int))) - (a0.Other.length : Int))) < 0)))]) [(100, .cells 24 [V.int a0.Kind, V.int a0.Op, V.str a0.Text, V.str a0.Other, .sl false false (a0.Kids.map encI)])] mix (by
        refine W.run D_ok 2 101 (by kernel_rfl) ?_
        exact W.fin (by decide) (by kernel_rfl) (Weak.sel [(100, 100)] [1, 2, 18] (by kernel_rfl) (by kernel_rfl) (by kernel_rfl))
        ) ?_
    rcases cond_some h with ⟨hc4, h⟩ | ⟨hc4, h⟩
    · refine CodeOk.ifT hc4 (by kernel_rfl) ?_
      refine CodeOk.cutR (tl 26 [(4, V.int (-1))]) [] mix (by
          refine W.run D_ok 1 101 (by kernel_rfl) ?_
          exact W.fin (by decide) (by kernel_rfl) (Weak.sel [] [4] (by kernel_rfl) (by kernel_rfl) (by kernel_rfl))
          ) ?_
      refine CodeOk.ret ?_
      have h := Option.some.inj h
      subst h
      exact Ends.gen [] (.inr rfl) (RetV.one rfl (OneR.tmp (t := 4) (r := V.int (-1)) (by kernel_rfl))) (by kernel_rfl) (by kernel_rfl) (by kernel_rfl)
    · refine CodeOk.ifF hc4 (by kernel_rfl) ?_
      refine CodeOk.skip ?_
      refine CodeOk.weak (st' := ⟨tl 26 [(1, V.int (IntKind.wrap .i64 ((IntKind.wrap .i64 (a1 - (a0.Text.length : Int))) - (a0.Other.length : Int)))), (2, .loc 100 0), (18, V.bool (decide ((IntKind.wrap .i64 ((IntKind.wrap .i64 (a1 - (a0.Text.length : Int))) - (a0.Other.length : Int))) < 0)))], [(100, .cells 24 [V.int a0.Kind, V.int a0.Op, V.str a0.Text, V.str a0.Other, .sl false false (a0.Kids.map encI)])]⟩) (Weak.refl _) ?_
      obtain ⟨r2, hx6, h⟩ := bind_some h
      refine CodeOk.cutR (tl 26 [(1, V.int r2)]) [] mix (by
          refine W.run D_ok 3 101 (by kernel_rfl) ?_
          refine W.call0 (m_laws_szIntS_ok a0.Kids (IntKind.wrap .i64 ((IntKind.wrap .i64 (a1 - (a0.Text.length : Int))) - (a0.Other.length : Int))) hx6) cok43 rfl (by kernel_rfl) ?_
          refine W.run D_ok 1 101 (by kernel_rfl) ?_
          exact W.fin (by decide) (by kernel_rfl) (Weak.sel [] [1] (by kernel_rfl) (by kernel_rfl) (by kernel_rfl))
          ) ?_
      refine CodeOk.seq' ?_
      refine CodeOk.cutR (tl 26 [(1, V.int r2), (24, V.bool (decide (r2 < 0)))]) [] mix (by
          refine W.run D_ok 2 101 (by kernel_rfl) ?_
          exact W.fin (by decide) (by kernel_rfl) (Weak.sel [] [1, 24] (by kernel_rfl) (by kernel_rfl) (by kernel_rfl))
          ) ?_
      rcases cond_some h with ⟨hc8, h⟩ | ⟨hc8, h⟩
      · refine CodeOk.ifT hc8 (by kernel_rfl) ?_
        refine CodeOk.cutR (tl 26 [(4, V.int (-1))]) [] mix (by
            refine W.run D_ok 1 101 (by kernel_rfl) ?_
            exact W.fin (by decide) (by kernel_rfl) (Weak.sel [] [4] (by kernel_rfl) (by kernel_rfl) (by kernel_rfl))
            ) ?_
        refine CodeOk.ret ?_
        have h := Option.some.inj h
        subst h
        exact Ends.gen [] (.inr rfl) (RetV.one rfl (OneR.tmp (t := 4) (r := V.int (-1)) (by kernel_rfl))) (by kernel_rfl) (by kernel_rfl) (by kernel_rfl)
      · refine CodeOk.ifF hc8 (by kernel_rfl) ?_
        refine CodeOk.skip ?_
        refine CodeOk.weak (st' := ⟨tl 26 [(1, V.int r2), (24, V.bool (decide (r2 < 0)))], []⟩) (Weak.refl _) ?_
        refine CodeOk.cutR (tl 26 [(4, V.int r2)]) [] mix (by
            refine W.run D_ok 2 101 (by kernel_rfl) ?_
            exact W.fin (by decide) (by kernel_rfl) (Weak.sel [] [4] (by kernel_rfl) (by kernel_rfl) (by kernel_rfl))
            ) ?_
        refine CodeOk.ret ?_
        have h := Option.some.inj h
        subst h
        exact Ends.gen [] (.inr rfl) (RetV.one rfl (OneR.tmp (t := 4) (r := V.int r2) (by kernel_rfl))) (by kernel_rfl) (by kernel_rfl) (by kernel_rfl)

theorem m_laws_toIntS_ok (N : Nat) (a0 : List Int) {r : (List Int)} (h : m_laws_toIntS N a0 = some r) :
    AC Try.prog GG 44 [.sl false false (a0.map encI)] [] (.own 100) [(100, .vec false 3 1 (r.map encI))] := by
  rw [m_laws_toIntS] at h
  refine AC.enter Try.func44 rfl ?_
  refine CodeOk.cutR (tl 22 [(0, .sl false false (a0.map encI))]) [] mix (by
      refine W.run D_ok 1 100 (by kernel_rfl) ?_
      exact W.fin (by decide) (by kernel_rfl) (Weak.sel [] [0] (by kernel_rfl) (by kernel_rfl) (by kernel_rfl))
      ) ?_
  obtain ⟨x2, hx2, h⟩ := bind_some h
  refine CodeOk.cutR (tl 22 [(0, .sl false false (a0.map encI)), (3, .own 100)]) [(100, .vec false 3 1 (x2.map encI))] mix (by
      refine W.run D_ok 1 100 (by kernel_rfl) ?_
      refine W.len D_ok encI a0 [] (by kernel_rfl) (by kernel_rfl) ?_
      refine W.mk D_ok encI 8 hx2 100 3 1 [.int .i64 0] (by kernel_rfl) (by kernel_rfl) ?_
      refine W.run D_ok 1 101 (by kernel_rfl) ?_
      exact W.fin (by decide) (by kernel_rfl) (Weak.sel [(100, 100)] [0, 3] (by kernel_rfl) (by kernel_rfl) (by kernel_rfl))
      ) ?_
  refine CodeOk.seq' ?_
  refine CodeOk.cutR (tl 22 [(0, .sl false false (a0.map encI)), (3, .own 100), (4, V.int 0)]) [(100, .vec false 3 1 (x2.map encI))] mix (by
      refine W.run D_ok 1 101 (by kernel_rfl) ?_
      exact W.fin (by decide) (by kernel_rfl) (Weak.sel [(100, 100)] [0, 3, 4] (by kernel_rfl) (by kernel_rfl) (by kernel_rfl))
      ) ?_
  refine CodeOk.block' ?_
  refine CodeOk.loopJ (fun (⟨a0, y55, y56⟩ : ((List Int) × Int × (List Int))) => ⟨tl 22 [(0, .sl false false (a0.map encI)), (3, .own 100), (4, V.int y55)], [(100, .vec false 3 1 (y56.map encI))]⟩) (fun n i => m_laws_toIntS_l1 N n i = some r) (n0 := N) (i0 := (a0, 0, x2)) (Weak.sel [(100, 100)] [0, 3, 4] (by kernel_rfl) (by kernel_rfl) (by kernel_rfl)) h (fun i h => by simp [m_laws_toIntS_l1] at h) ?_
  rintro n1 ⟨a0, y55, y56⟩ h75 ih76
  rw [m_laws_toIntS_l1] at h75
  refine CodeOk.seq' ?_
  refine CodeOk.cutR (tl 22 [(0, .sl false false (a0.map encI)), (3, .own 100), (4, V.int y55), (11, V.bool (decide (y55 < (a0.length : Int))))]) [(100, .vec false 3 1 (y56.map encI))] mix (by
      refine W.run D_ok 2 161 (by kernel_rfl) ?_
      refine W.len D_ok encI a0 [] (by kernel_rfl) (by kernel_rfl) ?_
      refine W.run D_ok 1 161 (by kernel_rfl) ?_
      exact W.fin (by decide) (by kernel_rfl) (Weak.sel [(100, 100)] [0, 3, 4, 11] (by kernel_rfl) (by kernel_rfl) (by kernel_rfl))
      ) ?_
  rcases cond_some h75 with ⟨hc78, h75⟩ | ⟨hc78, h75⟩
  · refine CodeOk.ifT hc78 (by kernel_rfl) ?_
    refine CodeOk.skip ?_
    refine CodeOk.weak (st' := ⟨tl 22 [(0, .sl false false (a0.map encI)), (3, .own 100), (4, V.int y55), (11, V.bool (decide (y55 < (a0.length : Int))))], [(100, .vec false 3 1 (y56.map encI))]⟩) (Weak.refl _) ?_
    refine CodeOk.seq' ?_
    refine CodeOk.block' ?_
    obtain ⟨e80, hx88, h75⟩ := bind_some h75
    obtain ⟨e81, hx89, h75⟩ := bind_some h75
    obtain ⟨x82, hu90, h75⟩ := bind_some h75
    refine CodeOk.endR (tl 22 [(0, .sl false false (a0.map encI)), (3, .own 100), (4, V.int y55)]) [(100, .vec false 3 1 (x82.map encI))] mix (by
        refine W.run D_ok 4 161 (by kernel_rfl) ?_
        refine W.ixD D_ok encI hx88 1 (by kernel_rfl) (by kernel_rfl) ?_
        refine W.run D_ok 1 161 (by kernel_rfl) ?_
        refine W.ixO D_ok encI hx89 100 1 (by kernel_rfl) ?_
        refine W.stO D_ok encI (x' := e80) hx89 hu90 (j := 100) (nn := false) (ety := 3) (sz := 1) (b := 0) (ys := [V.int e80]) (C := []) (R := []) (by kernel_rfl) (by kernel_rfl) ?_
        exact W.fin (by decide) (by kernel_rfl) (Weak.sel [(100, 100)] [0, 3, 4] (by kernel_rfl) (by kernel_rfl) (by kernel_rfl))
        ) (fun st hw => ?_)
    refine CodeOk.weak (st' := ⟨tl 22 [(0, .sl false false (a0.map encI)), (3, .own 100), (4, V.int y55)], [(100, .vec false 3 1 (x82.map encI))]⟩) hw ?_
    refine CodeOk.endR (tl 22 [(0, .sl false false (a0.map encI)), (3, .own 100), (4, V.int (IntKind.wrap .i64 (y55 + 1)))]) [(100, .vec false 3 1 (x82.map encI))] mix (by
        refine W.run D_ok 3 161 (by kernel_rfl) ?_
        exact W.fin (by decide) (by kernel_rfl) (Weak.sel [(100, 100)] [0, 3, 4] (by kernel_rfl) (by kernel_rfl) (by kernel_rfl))
        ) (fun st hw => ?_)
    exact ih76 (a0, (IntKind.wrap .i64 (y55 + 1)), x82) h75 _ (hw.trans (Weak.sel [(100, 100)] [0, 3, 4] (by kernel_rfl) (by kernel_rfl) (by kernel_rfl)))
  · refine CodeOk.ifF hc78 (by kernel_rfl) ?_
    refine CodeOk.exit ?_
    refine CodeOk.weak (st' := ⟨tl 22 [(0, .sl false false (a0.map encI)), (3, .own 100), (4, V.int y55), (11, V.bool (decide (y55 < (a0.length : Int))))], [(100, .vec false 3 1 (y56.map encI))]⟩) (Weak.refl _) ?_
    refine CodeOk.cutR (tl 22 [(2, .own 100)]) [(100, .vec false 3 1 (y56.map encI))] mix (by
        refine W.run D_ok 2 161 (by kernel_rfl) ?_
        exact W.fin (by decide) (by kernel_rfl) (Weak.sel [(100, 100)] [2] (by kernel_rfl) (by kernel_rfl) (by kernel_rfl))
        ) ?_
    refine CodeOk.ret ?_
    have h75 := Option.some.inj h75
    subst h75
    exact Ends.gen [(100, 100)] (.inr rfl) (RetV.one rfl (OneR.tmp (t := 2) (r := .own 100) (by kernel_rfl))) (by kernel_rfl) (by kernel_rfl) (by kernel_rfl)

theorem m_laws_toNode_ok (N : Nat) (a0 : SNode) {r : SNode} (h : m_laws_toNode N a0 = some r) :
    AC Try.prog GG 13 [.agg [V.int a0.Kind, V.int a0.Op, V.str a0.Text, V.str a0.Other, .sl false false (a0.Kids.map encI)]] [] (.agg [V.int r.Kind, V.int r.Op, V.str r.Text, V.str r.Other, .own 100]) [(100, .vec false 3 1 (r.Kids.map encI))] := by
  rw [m_laws_toNode] at h
  refine AC.enter Try.func13 rfl ?_
  refine CodeOk.cutR (tl 21 [(1, .loc 100 0), (2, .loc 101 0)]) [(101, .cells 27 [V.int 0, V.int 0, V.str [], V.str [], .c (.slice none 0 0)]), (100, .cells 24 [V.int a0.Kind, V.int a0.Op, V.str a0.Text, V.str a0.Other, .sl false false (a0.Kids.map encI)])] mix (by
      refine W.run D_ok 2 100 (by kernel_rfl) ?_
      exact W.fin (by decide) (by kernel_rfl) (Weak.sel [(101, 101), (100, 100)] [1, 2] (by kernel_rfl) (by kernel_rfl) (by kernel_rfl))
      ) ?_
  refine CodeOk.cutR (tl 21 [(1, .loc 100 0), (2, .loc 101 0), (3, .loc 102 0)]) [(102, .cells 27 [V.int 0, V.int 0, V.str [], V.str [], .c (.slice none 0 0)]), (101, .cells 27 [V.int 0, V.int 0, V.str [], V.str [], .c (.slice none 0 0)]), (100, .cells 24 [V.int a0.Kind, V.int a0.Op, V.str a0.Text, V.str a0.Other, .sl false false (a0.Kids.map encI)])] mix (by
      refine W.run D_ok 1 102 (by kernel_rfl) ?_
      exact W.fin (by decide) (by kernel_rfl) (Weak.sel [(102, 102), (101, 101), (100, 100)] [1, 2, 3] (by kernel_rfl) (by kernel_rfl) (by kernel_rfl))
      ) ?_
  refine CodeOk.cutR (tl 21 [(1, .loc 100 0), (2, .loc 101 0), (3, .loc 102 0)]) [(102, .cells 27 [V.int a0.Kind, V.int 0, V.str [], V.str [], .c (.slice none 0 0)]), (101, .cells 27 [V.int 0, V.int 0, V.str [], V.str [], .c (.slice none 0 0)]), (100, .cells 24 [V.int a0.Kind, V.int a0.Op, V.str a0.Text, V.str a0.Other, .sl false false (a0.Kids.map encI)])] mix (by
      refine W.run D_ok 4 103 (by kernel_rfl) ?_
      exact W.fin (by decide) (by kernel_rfl) (Weak.sel [(102, 102), (101, 101), (100, 100)] [1, 2, 3] (by kernel_rfl) (by kernel_rfl) (by kernel_rfl))
      ) ?_
  refine CodeOk.cutR (tl 21 [(1, .loc 100 0), (2, .loc 101 0), (3, .loc 102 0)]) [(102, .cells 27 [V.int a0.Kind, V.int a0.Op, V.str [], V.str [], .c (.slice none 0 0)]), (101, .cells 27 [V.int 0, V.int 0, V.str [], V.str [], .c (.slice none 0 0)]), (100, .cells 24 [V.int a0.Kind, V.int a0.Op, V.str a0.Text, V.str a0.Other, .sl false false (a0.Kids.map encI)])] mix (by
      refine W.run D_ok 4 103 (by kernel_rfl) ?_
      exact W.fin (by decide) (by kernel_rfl) (Weak.sel [(102, 102), (101, 101), (100, 100)] [1, 2, 3] (by kernel_rfl) (by kernel_rfl) (by kernel_rfl))
      ) ?_
  refine CodeOk.cutR (tl 21 [(1, .loc 100 0), (2, .loc 101 0), (3, .loc 102 0)]) [(102, .cells 27 [V.int a0.Kind, V.int a0.Op, V.str a0.Text, V.str [], .c (.slice none 0 0)]), (101, .cells 27 [V.int 0, V.int 0, V.str [], V.str [], .c (.slice none 0 0)]), (100, .cells 24 [V.int a0.Kind, V.int a0.Op, V.str a0.Text, V.str a0.Other, .sl false false (a0.Kids.map encI)])] mix (by
      refine W.run D_ok 4 103 (by kernel_rfl) ?_
      exact W.fin (by decide) (by kernel_rfl) (Weak.sel [(102, 102), (101, 101), (100, 100)] [1, 2, 3] (by kernel_rfl) (by kernel_rfl) (by kernel_rfl))
      ) ?_
  refine CodeOk.cutR (tl 21 [(1, .loc 100 0), (2, .loc 101 0), (3, .loc 102 0)]) [(102, .cells 27 [V.int a0.Kind, V.int a0.Op, V.str a0.Text, V.str a0.Other, .c (.slice none 0 0)]), (101, .cells 27 [V.int 0, V.int 0, V.str [], V.str [], .c (.slice none 0 0)]), (100, .cells 24 [V.int a0.Kind, V.int a0.Op, V.str a0.Text, V.str a0.Other, .sl false false (a0.Kids.map encI)])] mix (by
      refine W.run D_ok 4 103 (by kernel_rfl) ?_
      exact W.fin (by decide) (by kernel_rfl) (Weak.sel [(102, 102), (101, 101), (100, 100)] [1, 2, 3] (by kernel_rfl) (by kernel_rfl) (by kernel_rfl))
      ) ?_
  obtain ⟨r2, hx2, h⟩ := bind_some h
  refine CodeOk.cutR (tl 21 [(2, .loc 101 0), (3, .loc 102 0)]) [(102, .cells 27 [V.int a0.Kind, V.int a0.Op, V.str a0.Text, V.str a0.Other, .own 103]), (103, .vec false 3 1 (r2.map encI)), (101, .cells 27 [V.int 0, V.int 0, V.str [], V.str [], .c (.slice none 0 0)])] mix (by
      refine W.run D_ok 2 103 (by kernel_rfl) ?_
      refine W.call (m_laws_toIntS_ok N a0.Kids hx2) cok44 [] [(100, 103)] [103] (show LayOk _ [] from trivial) (by kernel_rfl) (by kernel_rfl) ?_
      refine W.run D_ok 2 104 (by kernel_rfl) ?_
      exact W.fin (by decide) (by kernel_rfl) (Weak.sel [(102, 102), (103, 103), (101, 101)] [2, 3] (by kernel_rfl) (by kernel_rfl) (by kernel_rfl))
      ) ?_
  refine CodeOk.cutR (tl 21 [(2, .loc 101 0)]) [(101, .cells 27 [V.int a0.Kind, V.int a0.Op, V.str a0.Text, V.str a0.Other, .own 103]), (103, .vec false 3 1 (r2.map encI))] mix (by
      refine W.run D_ok 2 104 (by kernel_rfl) ?_
      exact W.fin (by decide) (by kernel_rfl) (Weak.sel [(101, 101), (103, 103)] [2] (by kernel_rfl) (by kernel_rfl) (by kernel_rfl))
      ) ?_
  refine CodeOk.ret ?_
  have h := Option.some.inj h
  subst h
  exact Ends.gen [(103, 100)] (.inr rfl) (RetV.one rfl (OneR.cell D_ok (r := .agg [V.int a0.Kind, V.int a0.Op, V.str a0.Text, V.str a0.Other, .own 103]) (i := 101) (ety := 27) (cs := [V.int a0.Kind, V.int a0.Op, V.str a0.Text, V.str a0.Other, .own 103]) (by kernel_rfl) (by kernel_rfl) (by kernel_rfl))) (by kernel_rfl) (by kernel_rfl) (by kernel_rfl)

theorem m_spec_Leaves_ok (a0 : SNode) {r : Bool} (h : m_spec_Leaves a0 = some r) :
    AC Try.prog GG 12 [.agg [V.int a0.Kind, V.int a0.Op, V.str a0.Text, V.str a0.Other, .sl false false (a0.Kids.map encI)]] [] (V.bool r) [] := by
  rw [m_spec_Leaves] at h
  refine AC.enter Try.func12 rfl ?_
  refine CodeOk.cutR (tl 11 [(1, .loc 100 0)]) [(100, .cells 27 [V.int a0.Kind, V.int a0.Op, V.str a0.Text, V.str a0.Other, .sl false false (a0.Kids.map encI)])] mix (by
      refine W.run D_ok 2 100 (by kernel_rfl) ?_
      exact W.fin (by decide) (by kernel_rfl) (Weak.sel [(100, 100)] [1] (by kernel_rfl) (by kernel_rfl) (by kernel_rfl))
      ) ?_
  refine CodeOk.seq' ?_
  refine CodeOk.cutR (tl 11 [(4, V.int a0.Kind)]) [] mix (by
      refine W.run D_ok 2 101 (by kernel_rfl) ?_
      exact W.fin (by decide) (by kernel_rfl) (Weak.sel [] [4] (by kernel_rfl) (by kernel_rfl) (by kernel_rfl))
      ) ?_
  refine CodeOk.block' ?_
  refine CodeOk.join (fun (y2 : Bool) => ⟨tl 11 [(5, V.bool y2)], []⟩) (fun i => m_spec_Leaves_k1 i = some r) ?_ ?_
  · rintro y2 h16
    rw [m_spec_Leaves_k1] at h16
    rcases cond_some h16 with ⟨hc17, h16⟩ | ⟨hc17, h16⟩
    · refine CodeOk.ifT hc17 (by kernel_rfl) ?_
      refine CodeOk.cutR (tl 11 [(2, V.bool true)]) [] mix (by
          refine W.run D_ok 1 101 (by kernel_rfl) ?_
          exact W.fin (by decide) (by kernel_rfl) (Weak.sel [] [2] (by kernel_rfl) (by kernel_rfl) (by kernel_rfl))
          ) ?_
      refine CodeOk.ret ?_
      have h16 := Option.some.inj h16
      subst h16
      exact Ends.gen [] (.inr rfl) (RetV.one rfl (OneR.tmp (t := 2) (r := V.bool true) (by kernel_rfl))) (by kernel_rfl) (by kernel_rfl) (by kernel_rfl)
    · refine CodeOk.ifF hc17 (by kernel_rfl) ?_
      refine CodeOk.skip ?_
      refine CodeOk.weak (st' := ⟨tl 11 [(5, V.bool y2)], []⟩) (Weak.refl _) ?_
      refine CodeOk.cutR (tl 11 [(2, V.bool false)]) [] mix (by
          refine W.run D_ok 1 101 (by kernel_rfl) ?_
          exact W.fin (by decide) (by kernel_rfl) (Weak.sel [] [2] (by kernel_rfl) (by kernel_rfl) (by kernel_rfl))
          ) ?_
      refine CodeOk.ret ?_
      have h16 := Option.some.inj h16
      subst h16
      exact Ends.gen [] (.inr rfl) (RetV.one rfl (OneR.tmp (t := 2) (r := V.bool false) (by kernel_rfl))) (by kernel_rfl) (by kernel_rfl) (by kernel_rfl)
  intro hk18
  refine CodeOk.cutR (tl 11 [(4, V.int a0.Kind), (5, V.bool (a0.Kind == 22))]) [] mix (by
      refine W.run D_ok 2 101 (by kernel_rfl) ?_
      exact W.fin (by decide) (by kernel_rfl) (Weak.sel [] [4, 5] (by kernel_rfl) (by kernel_rfl) (by kernel_rfl))
      ) ?_
  rcases cond_some h with ⟨hc19, h⟩ | ⟨hc19, h⟩
  · refine CodeOk.ifT hc19 (by kernel_rfl) ?_
    refine CodeOk.skip ?_
    exact hk18 (a0.Kind == 22) h _ (Weak.sel [] [5] (by kernel_rfl) (by kernel_rfl) (by kernel_rfl))
  · refine CodeOk.ifF hc19 (by kernel_rfl) ?_
    refine CodeOk.cutR (tl 11 [(4, V.int a0.Kind), (5, V.bool (a0.Kind == 23))]) [] mix (by
        refine W.run D_ok 2 101 (by kernel_rfl) ?_
        exact W.fin (by decide) (by kernel_rfl) (Weak.sel [] [4, 5] (by kernel_rfl) (by kernel_rfl) (by kernel_rfl))
        ) ?_
    rcases cond_some h with ⟨hc20, h⟩ | ⟨hc20, h⟩
    · refine CodeOk.ifT hc20 (by kernel_rfl) ?_
      refine CodeOk.skip ?_
      exact hk18 (a0.Kind == 23) h _ (Weak.sel [] [5] (by kernel_rfl) (by kernel_rfl) (by kernel_rfl))
    · refine CodeOk.ifF hc20 (by kernel_rfl) ?_
      refine CodeOk.cutR (tl 11 [(4, V.int a0.Kind), (5, V.bool (a0.Kind == 24))]) [] mix (by
          refine W.run D_ok 2 101 (by kernel_rfl) ?_
          exact W.fin (by decide) (by kernel_rfl) (Weak.sel [] [4, 5] (by kernel_rfl) (by kernel_rfl) (by kernel_rfl))
          ) ?_
      rcases cond_some h with ⟨hc21, h⟩ | ⟨hc21, h⟩
      · refine CodeOk.ifT hc21 (by kernel_rfl) ?_
        refine CodeOk.skip ?_
        exact hk18 (a0.Kind == 24) h _ (Weak.sel [] [5] (by kernel_rfl) (by kernel_rfl) (by kernel_rfl))
      · refine CodeOk.ifF hc21 (by kernel_rfl) ?_
        refine CodeOk.cutR (tl 11 [(4, V.int a0.Kind), (5, V.bool (a0.Kind == 25))]) [] mix (by
            refine W.run D_ok 2 101 (by kernel_rfl) ?_
            exact W.fin (by decide) (by kernel_rfl) (Weak.sel [] [4, 5] (by kernel_rfl) (by kernel_rfl) (by kernel_rfl))
            ) ?_
        rcases cond_some h with ⟨hc22, h⟩ | ⟨hc22, h⟩
        · refine CodeOk.ifT hc22 (by kernel_rfl) ?_
          refine CodeOk.skip ?_
          exact hk18 (a0.Kind == 25) h _ (Weak.sel [] [5] (by kernel_rfl) (by kernel_rfl) (by kernel_rfl))
        · refine CodeOk.ifF hc22 (by kernel_rfl) ?_
          refine CodeOk.endR (tl 11 [(5, V.bool (a0.Kind == 26))]) [] mix (by
              refine W.run D_ok 2 101 (by kernel_rfl) ?_
              exact W.fin (by decide) (by kernel_rfl) (Weak.sel [] [5] (by kernel_rfl) (by kernel_rfl) (by kernel_rfl))
              ) (fun st hw => ?_)
          exact hk18 (a0.Kind == 26) h _ (hw.trans (Weak.sel [] [5] (by kernel_rfl) (by kernel_rfl) (by kernel_rfl)))

theorem m_impl_Leaves_ok (a0 : SNode) {r : Bool} (h : m_impl_Leaves a0 = some r) :
    AC Try.prog GG 14 [.agg [V.int a0.Kind, V.int a0.Op, V.str a0.Text, V.str a0.Other, .sl false false (a0.Kids.map encI)]] [] (V.bool r) [] := by
  rw [m_impl_Leaves] at h
  refine AC.enter Try.func14 rfl ?_
  refine CodeOk.cutR (tl 11 [(1, .loc 100 0)]) [(100, .cells 27 [V.int a0.Kind, V.int a0.Op, V.str a0.Text, V.str a0.Other, .sl false false (a0.Kids.map encI)])] mix (by
      refine W.run D_ok 2 100 (by kernel_rfl) ?_
      exact W.fin (by decide) (by kernel_rfl) (Weak.sel [(100, 100)] [1] (by kernel_rfl) (by kernel_rfl) (by kernel_rfl))
      ) ?_
  refine CodeOk.seq' ?_
  refine CodeOk.cutR (tl 11 [(4, V.int a0.Kind)]) [] mix (by
      refine W.run D_ok 2 101 (by kernel_rfl) ?_
      exact W.fin (by decide) (by kernel_rfl) (Weak.sel [] [4] (by kernel_rfl) (by kernel_rfl) (by kernel_rfl))
      ) ?_
  refine CodeOk.block' ?_
  refine CodeOk.join (fun (y2 : Bool) => ⟨tl 11 [(5, V.bool y2)], []⟩) (fun i => m_impl_Leaves_k1 i = some r) ?_ ?_
  · rintro y2 h16
    rw [m_impl_Leaves_k1] at h16
    rcases cond_some h16 with ⟨hc17, h16⟩ | ⟨hc17, h16⟩
    · refine CodeOk.ifT hc17 (by kernel_rfl) ?_
      refine CodeOk.cutR (tl 11 [(2, V.bool true)]) [] mix (by
          refine W.run D_ok 1 101 (by kernel_rfl) ?_
          exact W.fin (by decide) (by kernel_rfl) (Weak.sel [] [2] (by kernel_rfl) (by kernel_rfl) (by kernel_rfl))
          ) ?_
      refine CodeOk.ret ?_
      have h16 := Option.some.inj h16
      subst h16
      exact Ends.gen [] (.inr rfl) (RetV.one rfl (OneR.tmp (t := 2) (r := V.bool true) (by kernel_rfl))) (by kernel_rfl) (by kernel_rfl) (by kernel_rfl)
    · refine CodeOk.ifF hc17 (by kernel_rfl) ?_
      refine CodeOk.skip ?_
      refine CodeOk.weak (st' := ⟨tl 11 [(5, V.bool y2)], []⟩) (Weak.refl _) ?_
      refine CodeOk.cutR (tl 11 [(2, V.bool false)]) [] mix (by
          refine W.run D_ok 1 101 (by kernel_rfl) ?_
          exact W.fin (by decide) (by kernel_rfl) (Weak.sel [] [2] (by kernel_rfl) (by kernel_rfl) (by kernel_rfl))
          ) ?_
      refine CodeOk.ret ?_
      have h16 := Option.some.inj h16
      subst h16
      exact Ends.gen [] (.inr rfl) (RetV.one rfl (OneR.tmp (t := 2) (r := V.bool false) (by kernel_rfl))) (by kernel_rfl) (by kernel_rfl) (by kernel_rfl)
  intro hk18
  refine CodeOk.cutR (tl 11 [(4, V.int a0.Kind), (5, V.bool (a0.Kind == 22))]) [] mix (by
      refine W.run D_ok 2 101 (by kernel_rfl) ?_
      exact W.fin (by decide) (by kernel_rfl) (Weak.sel [] [4, 5] (by kernel_rfl) (by kernel_rfl) (by kernel_rfl))
      ) ?_
  rcases cond_some h with ⟨hc19, h⟩ | ⟨hc19, h⟩
  · refine CodeOk.ifT hc19 (by kernel_rfl) ?_
    refine CodeOk.skip ?_
    exact hk18 (a0.Kind == 22) h _ (Weak.sel [] [5] (by kernel_rfl) (by kernel_rfl) (by kernel_rfl))
  · refine CodeOk.ifF hc19 (by kernel_rfl) ?_
    refine CodeOk.cutR (tl 11 [(4, V.int a0.Kind), (5, V.bool (a0.Kind == 23))]) [] mix (by
        refine W.run D_ok 2 101 (by kernel_rfl) ?_
        exact W.fin (by decide) (by kernel_rfl) (Weak.sel [] [4, 5] (by kernel_rfl) (by kernel_rfl) (by kernel_rfl))
        ) ?_
    rcases cond_some h with ⟨hc20, h⟩ | ⟨hc20, h⟩
    · refine CodeOk.ifT hc20 (by kernel_rfl) ?_
      refine CodeOk.skip ?_
      exact hk18 (a0.Kind == 23) h _ (Weak.sel [] [5] (by kernel_rfl) (by kernel_rfl) (by kernel_rfl))
    · refine CodeOk.ifF hc20 (by kernel_rfl) ?_
      refine CodeOk.cutR (tl 11 [(4, V.int a0.Kind), (5, V.bool (a0.Kind == 24))]) [] mix (by
          refine W.run D_ok 2 101 (by kernel_rfl) ?_
          exact W.fin (by decide) (by kernel_rfl) (Weak.sel [] [4, 5] (by kernel_rfl) (by kernel_rfl) (by kernel_rfl))
          ) ?_
      rcases cond_some h with ⟨hc21, h⟩ | ⟨hc21, h⟩
      · refine CodeOk.ifT hc21 (by kernel_rfl) ?_
        refine CodeOk.skip ?_
        exact hk18 (a0.Kind == 24) h _ (Weak.sel [] [5] (by kernel_rfl) (by kernel_rfl) (by kernel_rfl))
      · refine CodeOk.ifF hc21 (by kernel_rfl) ?_
        refine CodeOk.cutR (tl 11 [(4, V.int a0.Kind), (5, V.bool (a0.Kind == 25))]) [] mix (by
            refine W.run D_ok 2 101 (by kernel_rfl) ?_
            exact W.fin (by decide) (by kernel_rfl) (Weak.sel [] [4, 5] (by kernel_rfl) (by kernel_rfl) (by kernel_rfl))
            ) ?_
        rcases cond_some h with ⟨hc22, h⟩ | ⟨hc22, h⟩
        · refine CodeOk.ifT hc22 (by kernel_rfl) ?_
          refine CodeOk.skip ?_
          exact hk18 (a0.Kind == 25) h _ (Weak.sel [] [5] (by kernel_rfl) (by kernel_rfl) (by kernel_rfl))
        · refine CodeOk.ifF hc22 (by kernel_rfl) ?_
          refine CodeOk.endR (tl 11 [(5, V.bool (a0.Kind == 26))]) [] mix (by
              refine W.run D_ok 2 101 (by kernel_rfl) ?_
              exact W.fin (by decide) (by kernel_rfl) (Weak.sel [] [5] (by kernel_rfl) (by kernel_rfl) (by kernel_rfl))
              ) (fun st hw => ?_)
          exact hk18 (a0.Kind == 26) h _ (hw.trans (Weak.sel [] [5] (by kernel_rfl) (by kernel_rfl) (by kernel_rfl)))

theorem m_laws_eqIntS_ok (N : Nat) (a0 : List Int) (a1 : List Int) {r : Bool} (h : m_laws_eqIntS N a0 a1 = some r) :
    AC Try.prog GG 45 [.sl false false (a0.map encI), .sl false false (a1.map encI)] [] (V.bool r) [] := by
  rw [m_laws_eqIntS] at h
  refine AC.enter Try.func45 rfl ?_
  refine CodeOk.cutR (tl 26 [(0, .sl false false (a0.map encI)), (1, .sl false false (a1.map encI))]) [] mix (by
      refine W.run D_ok 1 100 (by kernel_rfl) ?_
      exact W.fin (by decide) (by kernel_rfl) (Weak.sel [] [0, 1] (by kernel_rfl) (by kernel_rfl) (by kernel_rfl))
      ) ?_
  refine CodeOk.seq' ?_
  refine CodeOk.cutR (tl 26 [(0, .sl false false (a0.map encI)), (1, .sl false false (a1.map encI)), (10, V.bool ((a0.length : Int) != (a1.length : Int)))]) [] mix (by
      refine W.run D_ok 1 100 (by kernel_rfl) ?_
      refine W.len D_ok encI a0 [] (by kernel_rfl) (by kernel_rfl) ?_
      refine W.run D_ok 1 100 (by kernel_rfl) ?_
      refine W.len D_ok encI a1 [] (by kernel_rfl) (by kernel_rfl) ?_
      refine W.run D_ok 1 100 (by kernel_rfl) ?_
      exact W.fin (by decide) (by kernel_rfl) (Weak.sel [] [0, 1, 10] (by kernel_rfl) (by kernel_rfl) (by kernel_rfl))
      ) ?_
  rcases cond_some h with ⟨hc2, h⟩ | ⟨hc2, h⟩
  · refine CodeOk.ifT hc2 (by kernel_rfl) ?_
    refine CodeOk.cutR (tl 26 [(4, V.bool false)]) [] mix (by
        refine W.run D_ok 1 100 (by kernel_rfl) ?_
        exact W.fin (by decide) (by kernel_rfl) (Weak.sel [] [4] (by kernel_rfl) (by kernel_rfl) (by kernel_rfl))
        ) ?_
    refine CodeOk.ret ?_
    have h := Option.some.inj h
    subst h
    exact Ends.gen [] (.inr rfl) (RetV.one rfl (OneR.tmp (t := 4) (r := V.bool false) (by kernel_rfl))) (by kernel_rfl) (by kernel_rfl) (by kernel_rfl)
  · refine CodeOk.ifF hc2 (by kernel_rfl) ?_
    refine CodeOk.skip ?_
    refine CodeOk.weak (st' := ⟨tl 26 [(0, .sl false false (a0.map encI)), (1, .sl false false (a1.map encI)), (10, V.bool ((a0.length : Int) != (a1.length : Int)))], []⟩) (Weak.refl _) ?_
    refine CodeOk.seq' ?_
    refine CodeOk.cutR (tl 26 [(0, .sl false false (a0.map encI)), (1, .sl false false (a1.map encI)), (5, V.int 0)]) [] mix (by
        refine W.run D_ok 1 100 (by kernel_rfl) ?_
        exact W.fin (by decide) (by kernel_rfl) (Weak.sel [] [0, 1, 5] (by kernel_rfl) (by kernel_rfl) (by kernel_rfl))
        ) ?_
    refine CodeOk.block' ?_
    refine CodeOk.loopJ (fun (⟨a0, a1, y35⟩ : ((List Int) × (List Int) × Int)) => ⟨tl 26 [(0, .sl false false (a0.map encI)), (1, .sl false false (a1.map encI)), (5, V.int y35)], []⟩) (fun n i => m_laws_eqIntS_l1 N n i = some r) (n0 := N) (i0 := (a0, a1, 0)) (Weak.sel [] [0, 1, 5] (by kernel_rfl) (by kernel_rfl) (by kernel_rfl)) h (fun i h => by simp [m_laws_eqIntS_l1] at h) ?_
    rintro n1 ⟨a0, a1, y35⟩ h65 ih66
    rw [m_laws_eqIntS_l1] at h65
    refine CodeOk.seq' ?_
    refine CodeOk.cutR (tl 26 [(0, .sl false false (a0.map encI)), (1, .sl false false (a1.map encI)), (5, V.int y35), (14, V.bool (decide (y35 < (a0.length : Int))))]) [] mix (by
        refine W.run D_ok 2 160 (by kernel_rfl) ?_
        refine W.len D_ok encI a0 [] (by kernel_rfl) (by kernel_rfl) ?_
        refine W.run D_ok 1 160 (by kernel_rfl) ?_
        exact W.fin (by decide) (by kernel_rfl) (Weak.sel [] [0, 1, 5, 14] (by kernel_rfl) (by kernel_rfl) (by kernel_rfl))
        ) ?_
    rcases cond_some h65 with ⟨hc68, h65⟩ | ⟨hc68, h65⟩
    · refine CodeOk.ifT hc68 (by kernel_rfl) ?_
      refine CodeOk.skip ?_
      refine CodeOk.weak (st' := ⟨tl 26 [(0, .sl false false (a0.map encI)), (1, .sl false false (a1.map encI)), (5, V.int y35), (14, V.bool (decide (y35 < (a0.length : Int))))], []⟩) (Weak.refl _) ?_
      refine CodeOk.seq' ?_
      refine CodeOk.block' ?_
      obtain ⟨e51, hx76, h65⟩ := bind_some h65
      obtain ⟨e52, hx77, h65⟩ := bind_some h65
      refine CodeOk.cutR (tl 26 [(0, .sl false false (a0.map encI)), (1, .sl false false (a1.map encI)), (5, V.int y35), (25, V.bool (e51 != e52))]) [] mix (by
          refine W.run D_ok 2 160 (by kernel_rfl) ?_
          refine W.ixD D_ok encI hx76 1 (by kernel_rfl) (by kernel_rfl) ?_
          refine W.run D_ok 3 160 (by kernel_rfl) ?_
          refine W.ixD D_ok encI hx77 1 (by kernel_rfl) (by kernel_rfl) ?_
          refine W.run D_ok 2 160 (by kernel_rfl) ?_
          exact W.fin (by decide) (by kernel_rfl) (Weak.sel [] [0, 1, 5, 25] (by kernel_rfl) (by kernel_rfl) (by kernel_rfl))
          ) ?_
      rcases cond_some h65 with ⟨hc78, h65⟩ | ⟨hc78, h65⟩
      · refine CodeOk.ifT hc78 (by kernel_rfl) ?_
        refine CodeOk.cutR (tl 26 [(4, V.bool false)]) [] mix (by
            refine W.run D_ok 1 160 (by kernel_rfl) ?_
            exact W.fin (by decide) (by kernel_rfl) (Weak.sel [] [4] (by kernel_rfl) (by kernel_rfl) (by kernel_rfl))
            ) ?_
        refine CodeOk.ret ?_
        have h65 := Option.some.inj h65
        subst h65
        exact Ends.gen [] (.inr rfl) (RetV.one rfl (OneR.tmp (t := 4) (r := V.bool false) (by kernel_rfl))) (by kernel_rfl) (by kernel_rfl) (by kernel_rfl)
      · refine CodeOk.ifF hc78 (by kernel_rfl) ?_
        refine CodeOk.skip ?_
        refine CodeOk.weak (st' := ⟨tl 26 [(0, .sl false false (a0.map encI)), (1, .sl false false (a1.map encI)), (5, V.int y35), (25, V.bool (e51 != e52))], []⟩) (Weak.refl _) ?_
        refine CodeOk.endR (tl 26 [(0, .sl false false (a0.map encI)), (1, .sl false false (a1.map encI)), (5, V.int (IntKind.wrap .i64 (y35 + 1)))]) [] mix (by
            refine W.run D_ok 3 160 (by kernel_rfl) ?_
            exact W.fin (by decide) (by kernel_rfl) (Weak.sel [] [0, 1, 5] (by kernel_rfl) (by kernel_rfl) (by kernel_rfl))
            ) (fun st hw => ?_)
        exact ih66 (a0, a1, (IntKind.wrap .i64 (y35 + 1))) h65 _ (hw.trans (Weak.sel [] [0, 1, 5] (by kernel_rfl) (by kernel_rfl) (by kernel_rfl)))
    · refine CodeOk.ifF hc68 (by kernel_rfl) ?_
      refine CodeOk.exit ?_
      refine CodeOk.weak (st' := ⟨tl 26 [(0, .sl false false (a0.map encI)), (1, .sl false false (a1.map encI)), (5, V.int y35), (14, V.bool (decide (y35 < (a0.length : Int))))], []⟩) (Weak.refl _) ?_
      refine CodeOk.cutR (tl 26 [(4, V.bool true)]) [] mix (by
          refine W.run D_ok 1 160 (by kernel_rfl) ?_
          exact W.fin (by decide) (by kernel_rfl) (Weak.sel [] [4] (by kernel_rfl) (by kernel_rfl) (by kernel_rfl))
          ) ?_
      refine CodeOk.ret ?_
      have h65 := Option.some.inj h65
      subst h65
      exact Ends.gen [] (.inr rfl) (RetV.one rfl (OneR.tmp (t := 4) (r := V.bool true) (by kernel_rfl))) (by kernel_rfl) (by kernel_rfl) (by kernel_rfl)

theorem m_laws_eqNode_ok (N : Nat) (a0 : SNode) (a1 : SNode) {r : Bool} (h : m_laws_eqNode N a0 a1 = some r) :
    AC Try.prog GG 15 [.agg [V.int a0.Kind, V.int a0.Op, V.str a0.Text, V.str a0.Other, .sl false false (a0.Kids.map encI)], .agg [V.int a1.Kind, V.int a1.Op, V.str a1.Text, V.str a1.Other, .sl false false (a1.Kids.map encI)]] [] (V.bool r) [] := by
  rw [m_laws_eqNode] at h
  refine AC.enter Try.func15 rfl ?_
  refine CodeOk.cutR (tl 31 [(2, .loc 100 0), (3, .loc 101 0)]) [(101, .cells 27 [V.int a1.Kind, V.int a1.Op, V.str a1.Text, V.str a1.Other, .sl false false (a1.Kids.map encI)]), (100, .cells 27 [V.int a0.Kind, V.int a0.Op, V.str a0.Text, V.str a0.Other, .sl false false (a0.Kids.map encI)])] mix (by
      refine W.run D_ok 3 100 (by kernel_rfl) ?_
      exact W.fin (by decide) (by kernel_rfl) (Weak.sel [(101, 101), (100, 100)] [2, 3] (by kernel_rfl) (by kernel_rfl) (by kernel_rfl))
      ) ?_
  refine CodeOk.seq' ?_
  refine CodeOk.cutR (tl 31 [(2, .loc 100 0), (3, .loc 101 0), (9, V.bool (a0.Kind != a1.Kind))]) [(101, .cells 27 [V.int a1.Kind, V.int a1.Op, V.str a1.Text, V.str a1.Other, .sl false false (a1.Kids.map encI)]), (100, .cells 27 [V.int a0.Kind, V.int a0.Op, V.str a0.Text, V.str a0.Other, .sl false false (a0.Kids.map encI)])] mix (by
      refine W.run D_ok 5 102 (by kernel_rfl) ?_
      exact W.fin (by decide) (by kernel_rfl) (Weak.sel [(101, 101), (100, 100)] [2, 3, 9] (by kernel_rfl) (by kernel_rfl) (by kernel_rfl))
      ) ?_
  rcases cond_some h with ⟨hc2, h⟩ | ⟨hc2, h⟩
  · refine CodeOk.ifT hc2 (by kernel_rfl) ?_
    refine CodeOk.cutR (tl 31 [(4, V.bool false)]) [] mix (by
        refine W.run D_ok 1 102 (by kernel_rfl) ?_
        exact W.fin (by decide) (by kernel_rfl) (Weak.sel [] [4] (by kernel_rfl) (by kernel_rfl) (by kernel_rfl))
        ) ?_
    refine CodeOk.ret ?_
    have h := Option.some.inj h
    subst h
    exact Ends.gen [] (.inr rfl) (RetV.one rfl (OneR.tmp (t := 4) (r := V.bool false) (by kernel_rfl))) (by kernel_rfl) (by kernel_rfl) (by kernel_rfl)
  · refine CodeOk.ifF hc2 (by kernel_rfl) ?_
    refine CodeOk.skip ?_
    refine CodeOk.weak (st' := ⟨tl 31 [(2, .loc 100 0), (3, .loc 101 0), (9, V.bool (a0.Kind != a1.Kind))], [(101, .cells 27 [V.int a1.Kind, V.int a1.Op, V.str a1.Text, V.str a1.Other, .sl false false (a1.Kids.map encI)]), (100, .cells 27 [V.int a0.Kind, V.int a0.Op, V.str a0.Text, V.str a0.Other, .sl false false (a0.Kids.map encI)])]⟩) (Weak.refl _) ?_
    refine CodeOk.seq' ?_
    refine CodeOk.cutR (tl 31 [(2, .loc 100 0), (3, .loc 101 0), (14, V.bool (a0.Op != a1.Op))]) [(101, .cells 27 [V.int a1.Kind, V.int a1.Op, V.str a1.Text, V.str a1.Other, .sl false false (a1.Kids.map encI)]), (100, .cells 27 [V.int a0.Kind, V.int a0.Op, V.str a0.Text, V.str a0.Other, .sl false false (a0.Kids.map encI)])] mix (by
        refine W.run D_ok 5 102 (by kernel_rfl) ?_
        exact W.fin (by decide) (by kernel_rfl) (Weak.sel [(101, 101), (100, 100)] [2, 3, 14] (by kernel_rfl) (by kernel_rfl) (by kernel_rfl))
        ) ?_
    rcases cond_some h with ⟨hc4, h⟩ | ⟨hc4, h⟩
    · refine CodeOk.ifT hc4 (by kernel_rfl) ?_
      refine CodeOk.cutR (tl 31 [(4, V.bool false)]) [] mix (by
          refine W.run D_ok 1 102 (by kernel_rfl) ?_
          exact W.fin (by decide) (by kernel_rfl) (Weak.sel [] [4] (by kernel_rfl) (by kernel_rfl) (by kernel_rfl))
          ) ?_
      refine CodeOk.ret ?_
      have h := Option.some.inj h
      subst h
      exact Ends.gen [] (.inr rfl) (RetV.one rfl (OneR.tmp (t := 4) (r := V.bool false) (by kernel_rfl))) (by kernel_rfl) (by kernel_rfl) (by kernel_rfl)
    · refine CodeOk.ifF hc4 (by kernel_rfl) ?_
      refine CodeOk.skip ?_
      refine CodeOk.weak (st' := ⟨tl 31 [(2, .loc 100 0), (3, .loc 101 0), (14, V.bool (a0.Op != a1.Op))], [(101, .cells 27 [V.int a1.Kind, V.int a1.Op, V.str a1.Text, V.str a1.Other, .sl false false (a1.Kids.map encI)]), (100, .cells 27 [V.int a0.Kind, V.int a0.Op, V.str a0.Text, V.str a0.Other, .sl false false (a0.Kids.map encI)])]⟩) (Weak.refl _) ?_
      refine CodeOk.seq' ?_
      refine CodeOk.cutR (tl 31 [(2, .loc 100 0), (3, .loc 101 0), (19, V.bool (!(a0.Text == a1.Text)))]) [(101, .cells 27 [V.int a1.Kind, V.int a1.Op, V.str a1.Text, V.str a1.Other, .sl false false (a1.Kids.map encI)]), (100, .cells 27 [V.int a0.Kind, V.int a0.Op, V.str a0.Text, V.str a0.Other, .sl false false (a0.Kids.map encI)])] mix (by
          refine W.run D_ok 5 102 (by kernel_rfl) ?_
          exact W.fin (by decide) (by kernel_rfl) (Weak.sel [(101, 101), (100, 100)] [2, 3, 19] (by kernel_rfl) (by kernel_rfl) (by kernel_rfl))
          ) ?_
      rcases cond_some h with ⟨hc6, h⟩ | ⟨hc6, h⟩
      · refine CodeOk.ifT hc6 (by kernel_rfl) ?_
        refine CodeOk.cutR (tl 31 [(4, V.bool false)]) [] mix (by
            refine W.run D_ok 1 102 (by kernel_rfl) ?_
            exact W.fin (by decide) (by kernel_rfl) (Weak.sel [] [4] (by kernel_rfl) (by kernel_rfl) (by kernel_rfl))
            ) ?_
        refine CodeOk.ret ?_
        have h := Option.some.inj h
        subst h
        exact Ends.gen [] (.inr rfl) (RetV.one rfl (OneR.tmp (t := 4) (r := V.bool false) (by kernel_rfl))) (by kernel_rfl) (by kernel_rfl) (by kernel_rfl)
      · refine CodeOk.ifF hc6 (by kernel_rfl) ?_
        refine CodeOk.skip ?_
        refine CodeOk.weak (st' := ⟨tl 31 [(2, .loc 100 0), (3, .loc 101 0), (19, V.bool (!(a0.Text == a1.Text)))], [(101, .cells 27 [V.int a1.Kind, V.int a1.Op, V.str a1.Text, V.str a1.Other, .sl false false (a1.Kids.map encI)]), (100, .cells 27 [V.int a0.Kind, V.int a0.Op, V.str a0.Text, V.str a0.Other, .sl false false (a0.Kids.map encI)])]⟩) (Weak.refl _) ?_
        refine CodeOk.seq' ?_
        refine CodeOk.cutR (tl 31 [(2, .loc 100 0), (3, .loc 101 0), (24, V.bool (!(a0.Other == a1.Other)))]) [(101, .cells 27 [V.int a1.Kind, V.int a1.Op, V.str a1.Text, V.str a1.Other, .sl false false (a1.Kids.map encI)]), (100, .cells 27 [V.int a0.Kind, V.int a0.Op, V.str a0.Text, V.str a0.Other, .sl false false (a0.Kids.map encI)])] mix (by
            refine W.run D_ok 5 102 (by kernel_rfl) ?_
            exact W.fin (by decide) (by kernel_rfl) (Weak.sel [(101, 101), (100, 100)] [2, 3, 24] (by kernel_rfl) (by kernel_rfl) (by kernel_rfl))
            ) ?_
        rcases cond_some h with ⟨hc8, h⟩ | ⟨hc8, h⟩
        · refine CodeOk.ifT hc8 (by kernel_rfl) ?_
          refine CodeOk.cutR (tl 31 [(4, V.bool false)]) [] mix (by
              refine W.run D_ok 1 102 (by kernel_rfl) ?_
              exact W.fin (by decide) (by kernel_rfl) (Weak.sel [] [4] (by kernel_rfl) (by kernel_rfl) (by kernel_rfl))
              ) ?_
          refine CodeOk.ret ?_
          have h := Option.some.inj h
          subst h
          exact Ends.gen [] (.inr rfl) (RetV.one rfl (OneR.tmp (t := 4) (r := V.bool false) (by kernel_rfl))) (by kernel_rfl) (by kernel_rfl) (by kernel_rfl)
        · refine CodeOk.ifF hc8 (by kernel_rfl) ?_
          refine CodeOk.skip ?_
          refine CodeOk.weak (st' := ⟨tl 31 [(2, .loc 100 0), (3, .loc 101 0), (24, V.bool (!(a0.Other == a1.Other)))], [(101, .cells 27 [V.int a1.Kind, V.int a1.Op, V.str a1.Text, V.str a1.Other, .sl false false (a1.Kids.map encI)]), (100, .cells 27 [V.int a0.Kind, V.int a0.Op, V.str a0.Text, V.str a0.Other, .sl false false (a0.Kids.map encI)])]⟩) (Weak.refl _) ?_
          refine CodeOk.seq' ?_
          obtain ⟨r4, hx13, h⟩ := bind_some h
          refine CodeOk.cutR (tl 31 [(30, V.bool (!r4))]) [] mix (by
              refine W.run D_ok 4 102 (by kernel_rfl) ?_
              refine W.call0 (m_laws_eqIntS_ok N a0.Kids a1.Kids hx13) cok45 rfl (by kernel_rfl) ?_
              refine W.run D_ok 1 102 (by kernel_rfl) ?_
              exact W.fin (by decide) (by kernel_rfl) (Weak.sel [] [30] (by kernel_rfl) (by kernel_rfl) (by kernel_rfl))
              ) ?_
          rcases cond_some h with ⟨hc14, h⟩ | ⟨hc14, h⟩
          · refine CodeOk.ifT hc14 (by kernel_rfl) ?_
            refine CodeOk.cutR (tl 31 [(4, V.bool false)]) [] mix (by
                refine W.run D_ok 1 102 (by kernel_rfl) ?_
                exact W.fin (by decide) (by kernel_rfl) (Weak.sel [] [4] (by kernel_rfl) (by kernel_rfl) (by kernel_rfl))
                ) ?_
            refine CodeOk.ret ?_
            have h := Option.some.inj h
            subst h
            exact Ends.gen [] (.inr rfl) (RetV.one rfl (OneR.tmp (t := 4) (r := V.bool false) (by kernel_rfl))) (by kernel_rfl) (by kernel_rfl) (by kernel_rfl)
          · refine CodeOk.ifF hc14 (by kernel_rfl) ?_
            refine CodeOk.skip ?_
            refine CodeOk.weak (st' := ⟨tl 31 [(30, V.bool (!r4))], []⟩) (Weak.refl _) ?_
            refine CodeOk.cutR (tl 31 [(4, V.bool true)]) [] mix (by
                refine W.run D_ok 1 102 (by kernel_rfl) ?_
                exact W.fin (by decide) (by kernel_rfl) (Weak.sel [] [4] (by kernel_rfl) (by kernel_rfl) (by kernel_rfl))
                ) ?_
            refine CodeOk.ret ?_
            have h := Option.some.inj h
            subst h
            exact Ends.gen [] (.inr rfl) (RetV.one rfl (OneR.tmp (t := 4) (r := V.bool true) (by kernel_rfl))) (by kernel_rfl) (by kernel_rfl) (by kernel_rfl)

theorem m_laws_FnExactLeaves_ok (N : Nat) (a0 : SNode) {r : Bool} (h : m_laws_FnExactLeaves N a0 = some r) :
    AC Try.prog GG 3 [.agg [V.int a0.Kind, V.int a0.Op, V.str a0.Text, V.str a0.Other, .sl false false (a0.Kids.map encI)]] [] (V.bool r) [] := by
  rw [m_laws_FnExactLeaves] at h
  refine AC.enter Try.func3 rfl ?_
  refine CodeOk.cutR (tl 27 [(1, .loc 100 0)]) [(100, .cells 24 [V.int a0.Kind, V.int a0.Op, V.str a0.Text, V.str a0.Other, .sl false false (a0.Kids.map encI)])] mix (by
      refine W.run D_ok 2 100 (by kernel_rfl) ?_
      exact W.fin (by decide) (by kernel_rfl) (Weak.sel [(100, 100)] [1] (by kernel_rfl) (by kernel_rfl) (by kernel_rfl))
      ) ?_
  refine CodeOk.cutR (tl 27 [(1, .loc 100 0), (3, V.int 1048576)]) [(100, .cells 24 [V.int a0.Kind, V.int a0.Op, V.str a0.Text, V.str a0.Other, .sl false false (a0.Kids.map encI)])] mix (by
      refine W.run D_ok 1 101 (by kernel_rfl) ?_
      exact W.fin (by decide) (by kernel_rfl) (Weak.sel [(100, 100)] [1, 3] (by kernel_rfl) (by kernel_rfl) (by kernel_rfl))
      ) ?_
  obtain ⟨r2, hx2, h⟩ := bind_some h
  refine CodeOk.cutR (tl 27 [(1, .loc 100 0), (3, V.int r2)]) [(100, .cells 24 [V.int a0.Kind, V.int a0.Op, V.str a0.Text, V.str a0.Other, .sl false false (a0.Kids.map encI)])] mix (by
      refine W.run D_ok 2 101 (by kernel_rfl) ?_
      refine W.call0 (m_laws_szNode_ok a0 1048576 hx2) cok11 rfl (by kernel_rfl) ?_
      refine W.run D_ok 1 101 (by kernel_rfl) ?_
      exact W.fin (by decide) (by kernel_rfl) (Weak.sel [(100, 100)] [1, 3] (by kernel_rfl) (by kernel_rfl) (by kernel_rfl))
      ) ?_
  refine CodeOk.seq' ?_
  refine CodeOk.cutR (tl 27 [(1, .loc 100 0), (11, V.bool (decide (r2 < 0)))]) [(100, .cells 24 [V.int a0.Kind, V.int a0.Op, V.str a0.Text, V.str a0.Other, .sl false false (a0.Kids.map encI)])] mix (by
      refine W.run D_ok 2 101 (by kernel_rfl) ?_
      exact W.fin (by decide) (by kernel_rfl) (Weak.sel [(100, 100)] [1, 11] (by kernel_rfl) (by kernel_rfl) (by kernel_rfl))
      ) ?_
  rcases cond_some h with ⟨hc4, h⟩ | ⟨hc4, h⟩
  · refine CodeOk.ifT hc4 (by kernel_rfl) ?_
    refine CodeOk.cutR (tl 27 [(2, V.bool true)]) [] mix (by
        refine W.run D_ok 1 101 (by kernel_rfl) ?_
        exact W.fin (by decide) (by kernel_rfl) (Weak.sel [] [2] (by kernel_rfl) (by kernel_rfl) (by kernel_rfl))
        ) ?_
    refine CodeOk.ret ?_
    have h := Option.some.inj h
    subst h
    exact Ends.gen [] (.inr rfl) (RetV.one rfl (OneR.tmp (t := 2) (r := V.bool true) (by kernel_rfl))) (by kernel_rfl) (by kernel_rfl) (by kernel_rfl)
  · refine CodeOk.ifF hc4 (by kernel_rfl) ?_
    refine CodeOk.skip ?_
    refine CodeOk.weak (st' := ⟨tl 27 [(1, .loc 100 0), (11, V.bool (decide (r2 < 0)))], [(100, .cells 24 [V.int a0.Kind, V.int a0.Op, V.str a0.Text, V.str a0.Other, .sl false false (a0.Kids.map encI)])]⟩) (Weak.refl _) ?_
    obtain ⟨r5, hx7, h⟩ := bind_some h
    obtain ⟨r6, hx8, h⟩ := bind_some h
    refine CodeOk.cutR (tl 27 [(1, .loc 100 0), (4, V.bool r6)]) [(100, .cells 24 [V.int a0.Kind, V.int a0.Op, V.str a0.Text, V.str a0.Other, .sl false false (a0.Kids.map encI)])] mix (by
        refine W.run D_ok 1 101 (by kernel_rfl) ?_
        refine W.call (m_laws_toNode_ok N a0 hx7) cok13 [] [(100, 101)] [101] (show LayOk _ [] from trivial) (by kernel_rfl) (by kernel_rfl) ?_
        refine W.lend (m_spec_Leaves_ok r5 hx8) cok12 [] [] (LayOk.cons (j := 101) encI encI r5.Kids (by kernel_rfl) (fun _ => rfl) (show LayOk _ [] from trivial)) (.c _) .nil (by kernel_rfl) (by kernel_rfl) ?_
        refine W.run D_ok 1 102 (by kernel_rfl) ?_
        exact W.fin (by decide) (by kernel_rfl) (Weak.sel [(100, 100)] [1, 4] (by kernel_rfl) (by kernel_rfl) (by kernel_rfl))
        ) ?_
    obtain ⟨r8, hx10, h⟩ := bind_some h
    refine CodeOk.cutR (tl 27 [(1, .loc 100 0), (4, V.bool r6), (5, .loc 103 0)]) [(103, .cells 27 [V.int r8.Kind, V.int r8.Op, V.str r8.Text, V.str r8.Other, .own 102]), (102, .vec false 3 1 (r8.Kids.map encI)), (100, .cells 24 [V.int a0.Kind, V.int a0.Op, V.str a0.Text, V.str a0.Other, .sl false false (a0.Kids.map encI)])] mix (by
        refine W.run D_ok 1 102 (by kernel_rfl) ?_
        refine W.call (m_laws_toNode_ok N a0 hx10) cok13 [] [(100, 102)] [102] (show LayOk _ [] from trivial) (by kernel_rfl) (by kernel_rfl) ?_
        refine W.run D_ok 2 103 (by kernel_rfl) ?_
        exact W.fin (by decide) (by kernel_rfl) (Weak.sel [(103, 103), (102, 102), (100, 100)] [1, 4, 5] (by kernel_rfl) (by kernel_rfl) (by kernel_rfl))
        ) ?_
    obtain ⟨r10, hx12, h⟩ := bind_some h
    refine CodeOk.cutR (tl 27 [(1, .loc 100 0), (4, V.bool r6), (5, .loc 103 0), (6, V.bool r10)]) [(103, .cells 27 [V.int r8.Kind, V.int r8.Op, V.str r8.Text, V.str r8.Other, .own 102]), (102, .vec false 3 1 (r8.Kids.map encI)), (100, .cells 24 [V.int a0.Kind, V.int a0.Op, V.str a0.Text, V.str a0.Other, .sl false false (a0.Kids.map encI)])] mix (by
        refine W.run D_ok 1 104 (by kernel_rfl) ?_
        refine W.lend (m_impl_Leaves_ok r8 hx12) cok14 [] [] (LayOk.cons (j := 102) encI encI r8.Kids (by kernel_rfl) (fun _ => rfl) (show LayOk _ [] from trivial)) (.c _) .nil (by kernel_rfl) (by kernel_rfl) ?_
        refine W.run D_ok 1 104 (by kernel_rfl) ?_
        exact W.fin (by decide) (by kernel_rfl) (Weak.sel [(103, 103), (102, 102), (100, 100)] [1, 4, 5, 6] (by kernel_rfl) (by kernel_rfl) (by kernel_rfl))
        ) ?_
    refine CodeOk.seq' ?_
    refine CodeOk.cutR (tl 27 [(1, .loc 100 0), (5, .loc 103 0), (21, V.bool (!(r10 == r6)))]) [(103, .cells 27 [V.int r8.Kind, V.int r8.Op, V.str r8.Text, V.str r8.Other, .own 102]), (102, .vec false 3 1 (r8.Kids.map encI)), (100, .cells 24 [V.int a0.Kind, V.int a0.Op, V.str a0.Text, V.str a0.Other, .sl false false (a0.Kids.map encI)])] mix (by
        refine W.run D_ok 3 104 (by kernel_rfl) ?_
        exact W.fin (by decide) (by kernel_rfl) (Weak.sel [(103, 103), (102, 102), (100, 100)] [1, 5, 21] (by kernel_rfl) (by kernel_rfl) (by kernel_rfl))
        ) ?_
    rcases cond_some h with ⟨hc14, h⟩ | ⟨hc14, h⟩
    · refine CodeOk.ifT hc14 (by kernel_rfl) ?_
      refine CodeOk.cutR (tl 27 [(2, V.bool false)]) [] mix (by
          refine W.run D_ok 1 104 (by kernel_rfl) ?_
          exact W.fin (by decide) (by kernel_rfl) (Weak.sel [] [2] (by kernel_rfl) (by kernel_rfl) (by kernel_rfl))
          ) ?_
      refine CodeOk.ret ?_
      have h := Option.some.inj h
      subst h
      exact Ends.gen [] (.inr rfl) (RetV.one rfl (OneR.tmp (t := 2) (r := V.bool false) (by kernel_rfl))) (by kernel_rfl) (by kernel_rfl) (by kernel_rfl)
    · refine CodeOk.ifF hc14 (by kernel_rfl) ?_
      refine CodeOk.skip ?_
      refine CodeOk.weak (st' := ⟨tl 27 [(1, .loc 100 0), (5, .loc 103 0), (21, V.bool (!(r10 == r6)))], [(103, .cells 27 [V.int r8.Kind, V.int r8.Op, V.str r8.Text, V.str r8.Other, .own 102]), (102, .vec false 3 1 (r8.Kids.map encI)), (100, .cells 24 [V.int a0.Kind, V.int a0.Op, V.str a0.Text, V.str a0.Other, .sl false false (a0.Kids.map encI)])]⟩) (Weak.refl _) ?_
      refine CodeOk.seq' ?_
      obtain ⟨r17, hx22, h⟩ := bind_some h
      obtain ⟨r18, hx23, h⟩ := bind_some h
      refine CodeOk.cutR (tl 27 [(26, V.bool (!r18))]) [] mix (by
          refine W.run D_ok 2 104 (by kernel_rfl) ?_
          refine W.call (m_laws_toNode_ok N a0 hx22) cok13 [] [(100, 104)] [104] (show LayOk _ [] from trivial) (by kernel_rfl) (by kernel_rfl) ?_
          refine W.lend (m_laws_eqNode_ok N r8 r17 hx23) cok15 [] [] (LayOk.cons (j := 102) encI encI r8.Kids (by kernel_rfl) (fun _ => rfl) (LayOk.cons (j := 104) encI encI r17.Kids (by kernel_rfl) (fun _ => rfl) (show LayOk _ [] from trivial))) (.c _) .nil (by kernel_rfl) (by kernel_rfl) ?_
          refine W.run D_ok 1 105 (by kernel_rfl) ?_
          exact W.fin (by decide) (by kernel_rfl) (Weak.sel [] [26] (by kernel_rfl) (by kernel_rfl) (by kernel_rfl))
          ) ?_
      rcases cond_some h with ⟨hc24, h⟩ | ⟨hc24, h⟩
      · refine CodeOk.ifT hc24 (by kernel_rfl) ?_
        refine CodeOk.cutR (tl 27 [(2, V.bool false)]) [] mix (by
            refine W.run D_ok 1 105 (by kernel_rfl) ?_
            exact W.fin (by decide) (by kernel_rfl) (Weak.sel [] [2] (by kernel_rfl) (by kernel_rfl) (by kernel_rfl))
            ) ?_
        refine CodeOk.ret ?_
        have h := Option.some.inj h
        subst h
        exact Ends.gen [] (.inr rfl) (RetV.one rfl (OneR.tmp (t := 2) (r := V.bool false) (by kernel_rfl))) (by kernel_rfl) (by kernel_rfl) (by kernel_rfl)
      · refine CodeOk.ifF hc24 (by kernel_rfl) ?_
        refine CodeOk.skip ?_
        refine CodeOk.weak (st' := ⟨tl 27 [(26, V.bool (!r18))], []⟩) (Weak.refl _) ?_
        refine CodeOk.cutR (tl 27 [(2, V.bool true)]) [] mix (by
            refine W.run D_ok 1 105 (by kernel_rfl) ?_
            exact W.fin (by decide) (by kernel_rfl) (Weak.sel [] [2] (by kernel_rfl) (by kernel_rfl) (by kernel_rfl))
            ) ?_
        refine CodeOk.ret ?_
        have h := Option.some.inj h
        subst h
        exact Ends.gen [] (.inr rfl) (RetV.one rfl (OneR.tmp (t := 2) (r := V.bool true) (by kernel_rfl))) (by kernel_rfl) (by kernel_rfl) (by kernel_rfl)

theorem m_laws_szNodeS_ok (N : Nat) (a0 : List SNode) (a1 : Int) {r : Int} (h : m_laws_szNodeS N a0 a1 = some r) :
    AC Try.prog GG 16 [.sl false false (a0.map (encSNode false)), V.int a1] [] (V.int r) [] := by
  rw [m_laws_szNodeS] at h
  refine AC.enter Try.func16 rfl ?_
  refine CodeOk.cutR (tl 27 [(0, .sl false false (a0.map (encSNode false))), (1, V.int a1)]) [] mix (by
      refine W.run D_ok 1 100 (by kernel_rfl) ?_
      exact W.fin (by decide) (by kernel_rfl) (Weak.sel [] [0, 1] (by kernel_rfl) (by kernel_rfl) (by kernel_rfl))
      ) ?_
  refine CodeOk.cutR (tl 27 [(0, .sl false false (a0.map (encSNode false))), (1, V.int (IntKind.wrap .i64 (a1 - (a0.length : Int))))]) [] mix (by
      refine W.run D_ok 2 100 (by kernel_rfl) ?_
      refine W.len D_ok (encSNode false) a0 [] (by kernel_rfl) (by kernel_rfl) ?_
      refine W.run D_ok 2 100 (by kernel_rfl) ?_
      exact W.fin (by decide) (by kernel_rfl) (Weak.sel [] [0, 1] (by kernel_rfl) (by kernel_rfl) (by kernel_rfl))
      ) ?_
  refine CodeOk.seq' ?_
  refine CodeOk.cutR (tl 27 [(0, .sl false false (a0.map (encSNode false))), (1, V.int (IntKind.wrap .i64 (a1 - (a0.length : Int)))), (11, V.bool (decide ((IntKind.wrap .i64 (a1 - (a0.length : Int))) < 0)))]) [] mix (by
      refine W.run D_ok 2 100 (by kernel_rfl) ?_
      exact W.fin (by decide) (by kernel_rfl) (Weak.sel [] [0, 1, 11] (by kernel_rfl) (by kernel_rfl) (by kernel_rfl))
      ) ?_
  rcases cond_some h with ⟨hc2, h⟩ | ⟨hc2, h⟩
  · refine CodeOk.ifT hc2 (by kernel_rfl) ?_
    refine CodeOk.cutR (tl 27 [(4, V.int (-1))]) [] mix (by
        refine W.run D_ok 1 100 (by kernel_rfl) ?_
        exact W.fin (by decide) (by kernel_rfl) (Weak.sel [] [4] (by kernel_rfl) (by kernel_rfl) (by kernel_rfl))
        ) ?_
    refine CodeOk.ret ?_
    have h := Option.some.inj h
    subst h
    exact Ends.gen [] (.inr rfl) (RetV.one rfl (OneR.tmp (t := 4) (r := V.int (-1)) (by kernel_rfl))) (by kernel_rfl) (by kernel_rfl) (by kernel_rfl)
  · refine CodeOk.ifF hc2 (by kernel_rfl) ?_
    refine CodeOk.skip ?_
    refine CodeOk.weak (st' := ⟨tl 27 [(0, .sl false false (a0.map (encSNode false))), (1, V.int (IntKind.wrap .i64 (a1 - (a0.length : Int)))), (11, V.bool (decide ((IntKind.wrap .i64 (a1 - (a0.length : Int))) < 0)))], []⟩) (Weak.refl _) ?_
    refine CodeOk.seq' ?_
    refine CodeOk.cutR (tl 27 [(0, .sl false false (a0.map (encSNode false))), (1, V.int (IntKind.wrap .i64 (a1 - (a0.length : Int)))), (5, V.int 0)]) [] mix (by
        refine W.run D_ok 1 100 (by kernel_rfl) ?_
        exact W.fin (by decide) (by kernel_rfl) (Weak.sel [] [0, 1, 5] (by kernel_rfl) (by kernel_rfl) (by kernel_rfl))
        ) ?_
    refine CodeOk.block' ?_
    refine CodeOk.loopJ (fun (⟨a0, y37, y38⟩ : ((List SNode) × Int × Int)) => ⟨tl 27 [(0, .sl false false (a0.map (encSNode false))), (1, V.int y37), (5, V.int y38)], []⟩) (fun n i => m_laws_szNodeS_l1 N n i = some r) (n0 := N) (i0 := (a0, (IntKind.wrap .i64 (a1 - (a0.length : Int))), 0)) (Weak.sel [] [0, 1, 5] (by kernel_rfl) (by kernel_rfl) (by kernel_rfl)) h (fun i h => by simp [m_laws_szNodeS_l1] at h) ?_
    rintro n1 ⟨a0, y37, y38⟩ h65 ih66
    rw [m_laws_szNodeS_l1] at h65
    refine CodeOk.seq' ?_
    refine CodeOk.cutR (tl 27 [(0, .sl false false (a0.map (encSNode false))), (1, V.int y37), (5, V.int y38), (15, V.bool (decide (y38 < (a0.length : Int))))]) [] mix (by
        refine W.run D_ok 2 160 (by kernel_rfl) ?_
        refine W.len D_ok (encSNode false) a0 [] (by kernel_rfl) (by kernel_rfl) ?_
        refine W.run D_ok 1 160 (by kernel_rfl) ?_
        exact W.fin (by decide) (by kernel_rfl) (Weak.sel [] [0, 1, 5, 15] (by kernel_rfl) (by kernel_rfl) (by kernel_rfl))
        ) ?_
    rcases cond_some h65 with ⟨hc68, h65⟩ | ⟨hc68, h65⟩
    · refine CodeOk.ifT hc68 (by kernel_rfl) ?_
      refine CodeOk.skip ?_
      refine CodeOk.weak (st' := ⟨tl 27 [(0, .sl false false (a0.map (encSNode false))), (1, V.int y37), (5, V.int y38), (15, V.bool (decide (y38 < (a0.length : Int))))], []⟩) (Weak.refl _) ?_
      refine CodeOk.seq' ?_
      refine CodeOk.block' ?_
      obtain ⟨e55, hx76, h65⟩ := bind_some h65
      obtain ⟨r56, hx77, h65⟩ := bind_some h65
      refine CodeOk.cutR (tl 27 [(0, .sl false false (a0.map (encSNode false))), (1, V.int r56), (5, V.int y38)]) [] mix (by
          refine W.run D_ok 2 160 (by kernel_rfl) ?_
          refine W.ixD D_ok (encSNode false) hx76 5 (by kernel_rfl) (by kernel_rfl) ?_
          refine W.run D_ok 2 160 (by kernel_rfl) ?_
          refine W.call0 (m_laws_szNode_ok e55 y37 hx77) cok11 rfl (by kernel_rfl) ?_
          refine W.run D_ok 1 160 (by kernel_rfl) ?_
          exact W.fin (by decide) (by kernel_rfl) (Weak.sel [] [0, 1, 5] (by kernel_rfl) (by kernel_rfl) (by kernel_rfl))
          ) ?_
      refine CodeOk.cutR (tl 27 [(0, .sl false false (a0.map (encSNode false))), (1, V.int r56), (5, V.int y38), (25, V.bool (decide (r56 < 0)))]) [] mix (by
          refine W.run D_ok 2 160 (by kernel_rfl) ?_
          exact W.fin (by decide) (by kernel_rfl) (Weak.sel [] [0, 1, 5, 25] (by kernel_rfl) (by kernel_rfl) (by kernel_rfl))
          ) ?_
      rcases cond_some h65 with ⟨hc78, h65⟩ | ⟨hc78, h65⟩
      · refine CodeOk.ifT hc78 (by kernel_rfl) ?_
        refine CodeOk.cutR (tl 27 [(4, V.int (-1))]) [] mix (by
            refine W.run D_ok 1 160 (by kernel_rfl) ?_
            exact W.fin (by decide) (by kernel_rfl) (Weak.sel [] [4] (by kernel_rfl) (by kernel_rfl) (by kernel_rfl))
            ) ?_
        refine CodeOk.ret ?_
        have h65 := Option.some.inj h65
        subst h65
        exact Ends.gen [] (.inr rfl) (RetV.one rfl (OneR.tmp (t := 4) (r := V.int (-1)) (by kernel_rfl))) (by kernel_rfl) (by kernel_rfl) (by kernel_rfl)
      · refine CodeOk.ifF hc78 (by kernel_rfl) ?_
        refine CodeOk.skip ?_
        refine CodeOk.weak (st' := ⟨tl 27 [(0, .sl false false (a0.map (encSNode false))), (1, V.int r56), (5, V.int y38), (25, V.bool (decide (r56 < 0)))], []⟩) (Weak.refl _) ?_
        refine CodeOk.endR (tl 27 [(0, .sl false false (a0.map (encSNode false))), (1, V.int r56), (5, V.int (IntKind.wrap .i64 (y38 + 1)))]) [] mix (by
            refine W.run D_ok 3 160 (by kernel_rfl) ?_
            exact W.fin (by decide) (by kernel_rfl) (Weak.sel [] [0, 1, 5] (by kernel_rfl) (by kernel_rfl) (by kernel_rfl))
            ) (fun st hw => ?_)
        exact ih66 (a0, r56, (IntKind.wrap .i64 (y38 + 1))) h65 _ (hw.trans (Weak.sel [] [0, 1, 5] (by kernel_rfl) (by kernel_rfl) (by kernel_rfl)))
    · refine CodeOk.ifF hc68 (by kernel_rfl) ?_
      refine CodeOk.exit ?_
      refine CodeOk.weak (st' := ⟨tl 27 [(0, .sl false false (a0.map (encSNode false))), (1, V.int y37), (5, V.int y38), (15, V.bool (decide (y38 < (a0.length : Int))))], []⟩) (Weak.refl _) ?_
      refine CodeOk.cutR (tl 27 [(4, V.int y37)]) [] mix (by
          refine W.run D_ok 2 160 (by kernel_rfl) ?_
          exact W.fin (by decide) (by kernel_rfl) (Weak.sel [] [4] (by kernel_rfl) (by kernel_rfl) (by kernel_rfl))
          ) ?_
      refine CodeOk.ret ?_
      have h65 := Option.some.inj h65
      subst h65
      exact Ends.gen [] (.inr rfl) (RetV.one rfl (OneR.tmp (t := 4) (r := V.int y37) (by kernel_rfl))) (by kernel_rfl) (by kernel_rfl) (by kernel_rfl)

theorem m_laws_toNodeS_ok (N : Nat) (a0 : List SNode) {r : (List SNode)} (h : m_laws_toNodeS N a0 = some r) :
    AC Try.prog GG 18 [.sl false false (a0.map (encSNode false))] [] (.own 100) [(100, .vec false 27 5 (r.map (encSNode true)))] := by
  rw [m_laws_toNodeS] at h
  refine AC.enter Try.func18 rfl ?_
  refine CodeOk.cutR (tl 23 [(0, .sl false false (a0.map (encSNode false)))]) [] mix (by
      refine W.run D_ok 1 100 (by kernel_rfl) ?_
      exact W.fin (by decide) (by kernel_rfl) (Weak.sel [] [0] (by kernel_rfl) (by kernel_rfl) (by kernel_rfl))
      ) ?_
  obtain ⟨x2, hx2, h⟩ := bind_some h
  refine CodeOk.cutR (tl 23 [(0, .sl false false (a0.map (encSNode false))), (3, .own 100)]) [(100, .vec false 27 5 (x2.map (encSNode true)))] mix (by
      refine W.run D_ok 1 100 (by kernel_rfl) ?_
      refine W.len D_ok (encSNode false) a0 [] (by kernel_rfl) (by kernel_rfl) ?_
      refine W.mkN D_ok (encSNode true) 72 hx2 100 27 5 [.int .i64 0, .int .i64 0, .string ⟨#[]⟩, .string ⟨#[]⟩, .slice none 0 0] (by kernel_rfl) (by kernel_rfl) ?_
      refine W.run D_ok 1 101 (by kernel_rfl) ?_
      exact W.fin (by decide) (by kernel_rfl) (Weak.sel [(100, 100)] [0, 3] (by kernel_rfl) (by kernel_rfl) (by kernel_rfl))
      ) ?_
  refine CodeOk.seq' ?_
  refine CodeOk.cutR (tl 23 [(0, .sl false false (a0.map (encSNode false))), (3, .own 100), (4, V.int 0)]) [(100, .vec false 27 5 (x2.map (encSNode true)))] mix (by
      refine W.run D_ok 1 101 (by kernel_rfl) ?_
      exact W.fin (by decide) (by kernel_rfl) (Weak.sel [(100, 100)] [0, 3, 4] (by kernel_rfl) (by kernel_rfl) (by kernel_rfl))
      ) ?_
  refine CodeOk.block' ?_
  refine CodeOk.loopJ (fun (⟨a0, y71, y72⟩ : ((List SNode) × Int × (List SNode))) => ⟨tl 23 [(0, .sl false false (a0.map (encSNode false))), (3, .own 100), (4, V.int y71)], [(100, .vec false 27 5 (y72.map (encSNode true)))]⟩) (fun n i => m_laws_toNodeS_l1 N n i = some r) (n0 := N) (i0 := (a0, 0, x2)) (Weak.sel [(100, 100)] [0, 3, 4] (by kernel_rfl) (by kernel_rfl) (by kernel_rfl)) h (fun i h => by simp [m_laws_toNodeS_l1] at h) ?_
  rintro n1 ⟨a0, y71, y72⟩ h95 ih96
  rw [m_laws_toNodeS_l1] at h95
  refine CodeOk.seq' ?_
  refine CodeOk.cutR (tl 23 [(0, .sl false false (a0.map (encSNode false))), (3, .own 100), (4, V.int y71), (11, V.bool (decide (y71 < (a0.length : Int))))]) [(100, .vec false 27 5 (y72.map (encSNode true)))] mix (by
      refine W.run D_ok 2 163 (by kernel_rfl) ?_
      refine W.len D_ok (encSNode false) a0 [] (by kernel_rfl) (by kernel_rfl) ?_
      refine W.run D_ok 1 163 (by kernel_rfl) ?_
      exact W.fin (by decide) (by kernel_rfl) (Weak.sel [(100, 100)] [0, 3, 4, 11] (by kernel_rfl) (by kernel_rfl) (by kernel_rfl))
      ) ?_
  rcases cond_some h95 with ⟨hc98, h95⟩ | ⟨hc98, h95⟩
  · refine CodeOk.ifT hc98 (by kernel_rfl) ?_
    refine CodeOk.skip ?_
    refine CodeOk.weak (st' := ⟨tl 23 [(0, .sl false false (a0.map (encSNode false))), (3, .own 100), (4, V.int y71), (11, V.bool (decide (y71 < (a0.length : Int))))], [(100, .vec false 27 5 (y72.map (encSNode true)))]⟩) (Weak.refl _) ?_
    refine CodeOk.seq' ?_
    refine CodeOk.block' ?_
    obtain ⟨e103, hx111, h95⟩ := bind_some h95
    obtain ⟨r104, hx112, h95⟩ := bind_some h95
    obtain ⟨e105, hx113, h95⟩ := bind_some h95
    obtain ⟨x106, hu114, h95⟩ := bind_some h95
    refine CodeOk.endR (tl 23 [(0, .sl false false (a0.map (encSNode false))), (3, .own 100), (4, V.int y71)]) [(100, .vec false 27 5 (x106.map (encSNode true)))] mix (by
        refine W.run D_ok 4 163 (by kernel_rfl) ?_
        refine W.ixD D_ok (encSNode false) hx111 5 (by kernel_rfl) (by kernel_rfl) ?_
        refine W.run D_ok 1 163 (by kernel_rfl) ?_
        refine W.call (m_laws_toNode_ok N e103 hx112) cok13 [] [(100, 163)] [163] (show LayOk _ [] from trivial) (by kernel_rfl) (by kernel_rfl) ?_
        refine W.ixO D_ok (encSNode true) hx113 100 5 (by kernel_rfl) ?_
        refine W.stO D_ok (encSNode true) (x' := r104) hx113 hu114 (j := 100) (nn := false) (ety := 27) (sz := 5) (b := 0) (ys := [V.int r104.Kind, V.int r104.Op, V.str r104.Text, V.str r104.Other, .sl false true (r104.Kids.map encI)]) (C := [163]) (R := []) (by kernel_rfl) (by kernel_rfl) ?_
        exact W.fin (by decide) (by kernel_rfl) (Weak.sel [(100, 100)] [0, 3, 4] (by kernel_rfl) (by kernel_rfl) (by kernel_rfl))
        ) (fun st hw => ?_)
    refine CodeOk.weak (st' := ⟨tl 23 [(0, .sl false false (a0.map (encSNode false))), (3, .own 100), (4, V.int y71)], [(100, .vec false 27 5 (x106.map (encSNode true)))]⟩) hw ?_
    refine CodeOk.endR (tl 23 [(0, .sl false false (a0.map (encSNode false))), (3, .own 100), (4, V.int (IntKind.wrap .i64 (y71 + 1)))]) [(100, .vec false 27 5 (x106.map (encSNode true)))] mix (by
        refine W.run D_ok 3 164 (by kernel_rfl) ?_
        exact W.fin (by decide) (by kernel_rfl) (Weak.sel [(100, 100)] [0, 3, 4] (by kernel_rfl) (by kernel_rfl) (by kernel_rfl))
        ) (fun st hw => ?_)
    exact ih96 (a0, (IntKind.wrap .i64 (y71 + 1)), x106) h95 _ (hw.trans (Weak.sel [(100, 100)] [0, 3, 4] (by kernel_rfl) (by kernel_rfl) (by kernel_rfl)))
  · refine CodeOk.ifF hc98 (by kernel_rfl) ?_
    refine CodeOk.exit ?_
    refine CodeOk.weak (st' := ⟨tl 23 [(0, .sl false false (a0.map (encSNode false))), (3, .own 100), (4, V.int y71), (11, V.bool (decide (y71 < (a0.length : Int))))], [(100, .vec false 27 5 (y72.map (encSNode true)))]⟩) (Weak.refl _) ?_
    refine CodeOk.cutR (tl 23 [(2, .own 100)]) [(100, .vec false 27 5 (y72.map (encSNode true)))] mix (by
        refine W.run D_ok 2 163 (by kernel_rfl) ?_
        exact W.fin (by decide) (by kernel_rfl) (Weak.sel [(100, 100)] [2] (by kernel_rfl) (by kernel_rfl) (by kernel_rfl))
        ) ?_
    refine CodeOk.ret ?_
    have h95 := Option.some.inj h95
    subst h95
    exact Ends.gen [(100, 100)] (.inr rfl) (RetV.one rfl (OneR.tmp (t := 2) (r := .own 100) (by kernel_rfl))) (by kernel_rfl) (by kernel_rfl) (by kernel_rfl)

theorem m_spec_Nots_ok (N : Nat) (a0 : List SNode) {r : Int} (h : m_spec_Nots N a0 = some r) :
    AC Try.prog GG 17 [.sl false false (a0.map (encSNode false))] [] (V.int r) [] := by
  rw [m_spec_Nots] at h
  refine AC.enter Try.func17 rfl ?_
  refine CodeOk.cutR (tl 28 [(0, .sl false false (a0.map (encSNode false)))]) [] mix (by
      refine W.run D_ok 1 100 (by kernel_rfl) ?_
      exact W.fin (by decide) (by kernel_rfl) (Weak.sel [] [0] (by kernel_rfl) (by kernel_rfl) (by kernel_rfl))
      ) ?_
  refine CodeOk.cutR (tl 28 [(0, .sl false false (a0.map (encSNode false))), (3, V.int 0)]) [] mix (by
      refine W.run D_ok 1 100 (by kernel_rfl) ?_
      exact W.fin (by decide) (by kernel_rfl) (Weak.sel [] [0, 3] (by kernel_rfl) (by kernel_rfl) (by kernel_rfl))
      ) ?_
  refine CodeOk.seq' ?_
  refine CodeOk.cutR (tl 28 [(0, .sl false false (a0.map (encSNode false))), (3, V.int 0), (4, V.int 0)]) [] mix (by
      refine W.run D_ok 1 100 (by kernel_rfl) ?_
      exact W.fin (by decide) (by kernel_rfl) (Weak.sel [] [0, 3, 4] (by kernel_rfl) (by kernel_rfl) (by kernel_rfl))
      ) ?_
  refine CodeOk.block' ?_
  refine CodeOk.loopJ (fun (⟨a0, y49, y50⟩ : ((List SNode) × Int × Int)) => ⟨tl 28 [(0, .sl false false (a0.map (encSNode false))), (3, V.int y49), (4, V.int y50)], []⟩) (fun n i => m_spec_Nots_l1 N n i = some r) (n0 := N) (i0 := (a0, 0, 0)) (Weak.sel [] [0, 3, 4] (by kernel_rfl) (by kernel_rfl) (by kernel_rfl)) h (fun i h => by simp [m_spec_Nots_l1] at h) ?_
  rintro n1 ⟨a0, y49, y50⟩ h103 ih104
  rw [m_spec_Nots_l1] at h103
  refine CodeOk.seq' ?_
  refine CodeOk.cutR (tl 28 [(0, .sl false false (a0.map (encSNode false))), (3, V.int y49), (4, V.int y50), (8, V.bool (decide (y50 < (a0.length : Int))))]) [] mix (by
      refine W.run D_ok 2 160 (by kernel_rfl) ?_
      refine W.len D_ok (encSNode false) a0 [] (by kernel_rfl) (by kernel_rfl) ?_
      refine W.run D_ok 1 160 (by kernel_rfl) ?_
      exact W.fin (by decide) (by kernel_rfl) (Weak.sel [] [0, 3, 4, 8] (by kernel_rfl) (by kernel_rfl) (by kernel_rfl))
      ) ?_
  rcases cond_some h103 with ⟨hc106, h103⟩ | ⟨hc106, h103⟩
  · refine CodeOk.ifT hc106 (by kernel_rfl) ?_
    refine CodeOk.skip ?_
    refine CodeOk.weak (st' := ⟨tl 28 [(0, .sl false false (a0.map (encSNode false))), (3, V.int y49), (4, V.int y50), (8, V.bool (decide (y50 < (a0.length : Int))))], []⟩) (Weak.refl _) ?_
    refine CodeOk.join (fun (⟨a0, y50, y69⟩ : ((List SNode) × Int × Int)) => ⟨tl 28 [(0, .sl false false (a0.map (encSNode false))), (3, V.int y69), (4, V.int y50)], []⟩) (fun i => m_spec_Nots_k2 N (m_spec_Nots_l1 N n1) i = some r) ?_ ?_
    · rintro ⟨a0, y50, y69⟩ h115
      rw [m_spec_Nots_k2] at h115
      refine CodeOk.endR (tl 28 [(0, .sl false false (a0.map (encSNode false))), (3, V.int y69), (4, V.int (IntKind.wrap .i64 (y50 + 1)))]) [] mix (by
          refine W.run D_ok 3 160 (by kernel_rfl) ?_
          exact W.fin (by decide) (by kernel_rfl) (Weak.sel [] [0, 3, 4] (by kernel_rfl) (by kernel_rfl) (by kernel_rfl))
          ) (fun st hw => ?_)
      exact ih104 (a0, y69, (IntKind.wrap .i64 (y50 + 1))) h115 _ (hw.trans (Weak.sel [] [0, 3, 4] (by kernel_rfl) (by kernel_rfl) (by kernel_rfl)))
    intro hk116
    refine CodeOk.block' ?_
    obtain ⟨y72, hv120, h103⟩ := bind_some h103
    refine CodeOk.cutR (tl 28 [(0, .sl false false (a0.map (encSNode false))), (3, V.int y49), (4, V.int y50), (24, V.bool y72)]) [] mix (by
        refine W.run D_ok 2 160 (by kernel_rfl) ?_
        obtain ⟨e73, hx121, hv120⟩ := bind_some hv120
        refine W.ixD D_ok (encSNode false) hx121 5 (by kernel_rfl) (by kernel_rfl) ?_
        refine W.run D_ok 4 160 (by kernel_rfl) ?_
        rcases cond_some hv120 with ⟨hc122, hv120⟩ | ⟨hc122, hv120⟩
        · refine W.is 17 hc122 (by kernel_rfl) ?_
          refine W.run D_ok 2 160 (by kernel_rfl) ?_
          obtain ⟨e74, hx123, hv120⟩ := bind_some hv120
          refine W.ixD D_ok (encSNode false) hx123 5 (by kernel_rfl) (by kernel_rfl) ?_
          refine W.run D_ok 4 160 (by kernel_rfl) ?_
          have hv120 := Option.some.inj hv120
          subst hv120
          exact W.fin (by decide) (by kernel_rfl) (Weak.sel [] [0, 3, 4, 24] (by kernel_rfl) (by kernel_rfl) (by kernel_rfl))
        · refine W.is 17 hc122 (by kernel_rfl) ?_
          refine W.run D_ok 7 160 (by kernel_rfl) ?_
          have hv120 := Option.some.inj hv120
          subst hv120
          exact W.fin (by decide) (by kernel_rfl) (Weak.sel [] [0, 3, 4, 24] (by kernel_rfl) (by kernel_rfl) (by kernel_rfl))
        ) ?_
    rcases cond_some h103 with ⟨hc124, h103⟩ | ⟨hc124, h103⟩
    · refine CodeOk.ifT hc124 (by kernel_rfl) ?_
      refine CodeOk.endR (tl 28 [(0, .sl false false (a0.map (encSNode false))), (3, V.int (IntKind.wrap .i64 (y49 + 1))), (4, V.int y50)]) [] mix (by
          refine W.run D_ok 3 160 (by kernel_rfl) ?_
          exact W.fin (by decide) (by kernel_rfl) (Weak.sel [] [0, 3, 4] (by kernel_rfl) (by kernel_rfl) (by kernel_rfl))
          ) (fun st hw => ?_)
      exact hk116 (a0, y50, (IntKind.wrap .i64 (y49 + 1))) h103 _ (hw.trans (Weak.sel [] [0, 3, 4] (by kernel_rfl) (by kernel_rfl) (by kernel_rfl)))
    · refine CodeOk.ifF hc124 (by kernel_rfl) ?_
      refine CodeOk.skip ?_
      exact hk116 (a0, y50, y49) h103 _ (Weak.sel [] [0, 3, 4] (by kernel_rfl) (by kernel_rfl) (by kernel_rfl))
  · refine CodeOk.ifF hc106 (by kernel_rfl) ?_
    refine CodeOk.exit ?_
    refine CodeOk.weak (st' := ⟨tl 28 [(0, .sl false false (a0.map (encSNode false))), (3, V.int y49), (4, V.int y50), (8, V.bool (decide (y50 < (a0.length : Int))))], []⟩) (Weak.refl _) ?_
    refine CodeOk.cutR (tl 28 [(2, V.int y49)]) [] mix (by
        refine W.run D_ok 2 160 (by kernel_rfl) ?_
        exact W.fin (by decide) (by kernel_rfl) (Weak.sel [] [2] (by kernel_rfl) (by kernel_rfl) (by kernel_rfl))
        ) ?_
    refine CodeOk.ret ?_
    have h103 := Option.some.inj h103
    subst h103
    exact Ends.gen [] (.inr rfl) (RetV.one rfl (OneR.tmp (t := 2) (r := V.int y49) (by kernel_rfl))) (by kernel_rfl) (by kernel_rfl) (by kernel_rfl)

theorem m_impl_Nots_ok (N : Nat) (a0 : List SNode) {r : Int} (h : m_impl_Nots N a0 = some r) :
    AC Try.prog GG 19 [.sl false false (a0.map (encSNode false))] [] (V.int r) [] := by
  rw [m_impl_Nots] at h
  refine AC.enter Try.func19 rfl ?_
  refine CodeOk.cutR (tl 24 [(0, .sl false false (a0.map (encSNode false)))]) [] mix (by
      refine W.run D_ok 1 100 (by kernel_rfl) ?_
      exact W.fin (by decide) (by kernel_rfl) (Weak.sel [] [0] (by kernel_rfl) (by kernel_rfl) (by kernel_rfl))
      ) ?_
  refine CodeOk.cutR (tl 24 [(0, .sl false false (a0.map (encSNode false))), (3, V.int 0)]) [] mix (by
      refine W.run D_ok 1 100 (by kernel_rfl) ?_
      exact W.fin (by decide) (by kernel_rfl) (Weak.sel [] [0, 3] (by kernel_rfl) (by kernel_rfl) (by kernel_rfl))
      ) ?_
  refine CodeOk.seq' ?_
  refine CodeOk.cutR (tl 24 [(3, V.int 0), (6, .sl false false (a0.map (encSNode false))), (7, V.int (a0.length : Int)), (8, V.int 0)]) [] mix (by
      refine W.run D_ok 1 100 (by kernel_rfl) ?_
      refine W.len D_ok (encSNode false) a0 [] (by kernel_rfl) (by kernel_rfl) ?_
      refine W.run D_ok 1 100 (by kernel_rfl) ?_
      exact W.fin (by decide) (by kernel_rfl) (Weak.sel [] [3, 6, 7, 8] (by kernel_rfl) (by kernel_rfl) (by kernel_rfl))
      ) ?_
  refine CodeOk.block' ?_
  refine CodeOk.loopJ (fun (⟨a0, y33, y34⟩ : ((List SNode) × Int × Int)) => ⟨tl 24 [(3, V.int y33), (6, .sl false false (a0.map (encSNode false))), (7, V.int (a0.length : Int)), (8, V.int y34)], []⟩) (fun n i => m_impl_Nots_l1 N n i = some r) (n0 := N) (i0 := (a0, 0, 0)) (Weak.sel [] [3, 6, 7, 8] (by kernel_rfl) (by kernel_rfl) (by kernel_rfl)) h (fun i h => by simp [m_impl_Nots_l1] at h) ?_
  rintro n1 ⟨a0, y33, y34⟩ h83 ih84
  rw [m_impl_Nots_l1] at h83
  refine CodeOk.cutR (tl 24 [(3, V.int y33), (6, .sl false false (a0.map (encSNode false))), (7, V.int (a0.length : Int)), (8, V.int y34), (9, V.bool (decide (y34 < (a0.length : Int))))]) [] mix (by
      refine W.run D_ok 1 162 (by kernel_rfl) ?_
      exact W.fin (by decide) (by kernel_rfl) (Weak.sel [] [3, 6, 7, 8, 9] (by kernel_rfl) (by kernel_rfl) (by kernel_rfl))
      ) ?_
  refine CodeOk.seq' ?_
  rcases cond_some h83 with ⟨hc86, h83⟩ | ⟨hc86, h83⟩
  · refine CodeOk.ifT hc86 (by kernel_rfl) ?_
    refine CodeOk.skip ?_
    refine CodeOk.weak (st' := ⟨tl 24 [(3, V.int y33), (6, .sl false false (a0.map (encSNode false))), (7, V.int (a0.length : Int)), (8, V.int y34), (9, V.bool (decide (y34 < (a0.length : Int))))], []⟩) (Weak.refl _) ?_
    refine CodeOk.join (fun (⟨a0, y34, y47⟩ : ((List SNode) × Int × Int)) => ⟨tl 24 [(3, V.int y47), (6, .sl false false (a0.map (encSNode false))), (7, V.int (a0.length : Int)), (8, V.int y34)], []⟩) (fun i => m_impl_Nots_k2 N (m_impl_Nots_l1 N n1) i = some r) ?_ ?_
    · rintro ⟨a0, y34, y47⟩ h93
      rw [m_impl_Nots_k2] at h93
      refine CodeOk.endR (tl 24 [(3, V.int y47), (6, .sl false false (a0.map (encSNode false))), (7, V.int (a0.length : Int)), (8, V.int (IntKind.wrap .i64 (y34 + 1)))]) [] mix (by
          refine W.run D_ok 2 163 (by kernel_rfl) ?_
          exact W.fin (by decide) (by kernel_rfl) (Weak.sel [] [3, 6, 7, 8] (by kernel_rfl) (by kernel_rfl) (by kernel_rfl))
          ) (fun st hw => ?_)
      exact ih84 (a0, y47, (IntKind.wrap .i64 (y34 + 1))) h93 _ (hw.trans (Weak.sel [] [3, 6, 7, 8] (by kernel_rfl) (by kernel_rfl) (by kernel_rfl)))
    intro hk94
    refine CodeOk.block' ?_
    obtain ⟨e49, hx96, h83⟩ := bind_some h83
    refine CodeOk.cutR (tl 24 [(3, V.int y33), (5, .loc 162 0), (6, .sl false false (a0.map (encSNode false))), (7, V.int (a0.length : Int)), (8, V.int y34)]) [(162, .cells 27 [V.int e49.Kind, V.int e49.Op, V.str e49.Text, V.str e49.Other, .sl false false (e49.Kids.map encI)])] mix (by
        refine W.ixD D_ok (encSNode false) hx96 5 (by kernel_rfl) (by kernel_rfl) ?_
        refine W.run D_ok 3 162 (by kernel_rfl) ?_
        exact W.fin (by decide) (by kernel_rfl) (Weak.sel [(162, 162)] [3, 5, 6, 7, 8] (by kernel_rfl) (by kernel_rfl) (by kernel_rfl))
        ) ?_
    obtain ⟨y50, hv98, h83⟩ := bind_some h83
    refine CodeOk.cutR (tl 24 [(3, V.int y33), (6, .sl false false (a0.map (encSNode false))), (7, V.int (a0.length : Int)), (8, V.int y34), (19, V.bool y50)]) [] mix (by
        refine W.run D_ok 4 163 (by kernel_rfl) ?_
        rcases cond_some hv98 with ⟨hc99, hv98⟩ | ⟨hc99, hv98⟩
        · refine W.is 15 hc99 (by kernel_rfl) ?_
          refine W.run D_ok 4 163 (by kernel_rfl) ?_
          have hv98 := Option.some.inj hv98
          subst hv98
          exact W.fin (by decide) (by kernel_rfl) (Weak.sel [] [3, 6, 7, 8, 19] (by kernel_rfl) (by kernel_rfl) (by kernel_rfl))
        · refine W.is 15 hc99 (by kernel_rfl) ?_
          refine W.run D_ok 4 163 (by kernel_rfl) ?_
          have hv98 := Option.some.inj hv98
          subst hv98
          exact W.fin (by decide) (by kernel_rfl) (Weak.sel [] [3, 6, 7, 8, 19] (by kernel_rfl) (by kernel_rfl) (by kernel_rfl))
        ) ?_
    rcases cond_some h83 with ⟨hc100, h83⟩ | ⟨hc100, h83⟩
    · refine CodeOk.ifT hc100 (by kernel_rfl) ?_
      refine CodeOk.endR (tl 24 [(3, V.int (IntKind.wrap .i64 (y33 + 1))), (6, .sl false false (a0.map (encSNode false))), (7, V.int (a0.length : Int)), (8, V.int y34)]) [] mix (by
          refine W.run D_ok 3 163 (by kernel_rfl) ?_
          exact W.fin (by decide) (by kernel_rfl) (Weak.sel [] [3, 6, 7, 8] (by kernel_rfl) (by kernel_rfl) (by kernel_rfl))
          ) (fun st hw => ?_)
      exact hk94 (a0, y34, (IntKind.wrap .i64 (y33 + 1))) h83 _ (hw.trans (Weak.sel [] [3, 6, 7, 8] (by kernel_rfl) (by kernel_rfl) (by kernel_rfl)))
    · refine CodeOk.ifF hc100 (by kernel_rfl) ?_
      refine CodeOk.skip ?_
      exact hk94 (a0, y34, y33) h83 _ (Weak.sel [] [3, 6, 7, 8] (by kernel_rfl) (by kernel_rfl) (by kernel_rfl))
  · refine CodeOk.ifF hc86 (by kernel_rfl) ?_
    refine CodeOk.exit ?_
    refine CodeOk.weak (st' := ⟨tl 24 [(3, V.int y33), (6, .sl false false (a0.map (encSNode false))), (7, V.int (a0.length : Int)), (8, V.int y34), (9, V.bool (decide (y34 < (a0.length : Int))))], []⟩) (Weak.refl _) ?_
    refine CodeOk.cutR (tl 24 [(2, V.int y33)]) [] mix (by
        refine W.run D_ok 2 162 (by kernel_rfl) ?_
        exact W.fin (by decide) (by kernel_rfl) (Weak.sel [] [2] (by kernel_rfl) (by kernel_rfl) (by kernel_rfl))
        ) ?_
    refine CodeOk.ret ?_
    have h83 := Option.some.inj h83
    subst h83
    exact Ends.gen [] (.inr rfl) (RetV.one rfl (OneR.tmp (t := 2) (r := V.int y33) (by kernel_rfl))) (by kernel_rfl) (by kernel_rfl) (by kernel_rfl)

theorem m_laws_eqNodeS_ok (N : Nat) (a0 : List SNode) (a1 : List SNode) {r : Bool} (h : m_laws_eqNodeS N a0 a1 = some r) :
    AC Try.prog GG 20 [.sl false false (a0.map (encSNode false)), .sl false false (a1.map (encSNode false))] [] (V.bool r) [] := by
  rw [m_laws_eqNodeS] at h
  refine AC.enter Try.func20 rfl ?_
  refine CodeOk.cutR (tl 27 [(0, .sl false false (a0.map (encSNode false))), (1, .sl false false (a1.map (encSNode false)))]) [] mix (by
      refine W.run D_ok 1 100 (by kernel_rfl) ?_
      exact W.fin (by decide) (by kernel_rfl) (Weak.sel [] [0, 1] (by kernel_rfl) (by kernel_rfl) (by kernel_rfl))
      ) ?_
  refine CodeOk.seq' ?_
  refine CodeOk.cutR (tl 27 [(0, .sl false false (a0.map (encSNode false))), (1, .sl false false (a1.map (encSNode false))), (10, V.bool ((a0.length : Int) != (a1.length : Int)))]) [] mix (by
      refine W.run D_ok 1 100 (by kernel_rfl) ?_
      refine W.len D_ok (encSNode false) a0 [] (by kernel_rfl) (by kernel_rfl) ?_
      refine W.run D_ok 1 100 (by kernel_rfl) ?_
      refine W.len D_ok (encSNode false) a1 [] (by kernel_rfl) (by kernel_rfl) ?_
      refine W.run D_ok 1 100 (by kernel_rfl) ?_
      exact W.fin (by decide) (by kernel_rfl) (Weak.sel [] [0, 1, 10] (by kernel_rfl) (by kernel_rfl) (by kernel_rfl))
      ) ?_
  rcases cond_some h with ⟨hc2, h⟩ | ⟨hc2, h⟩
  · refine CodeOk.ifT hc2 (by kernel_rfl) ?_
    refine CodeOk.cutR (tl 27 [(4, V.bool false)]) [] mix (by
        refine W.run D_ok 1 100 (by kernel_rfl) ?_
        exact W.fin (by decide) (by kernel_rfl) (Weak.sel [] [4] (by kernel_rfl) (by kernel_rfl) (by kernel_rfl))
        ) ?_
    refine CodeOk.ret ?_
    have h := Option.some.inj h
    subst h
    exact Ends.gen [] (.inr rfl) (RetV.one rfl (OneR.tmp (t := 4) (r := V.bool false) (by kernel_rfl))) (by kernel_rfl) (by kernel_rfl) (by kernel_rfl)
  · refine CodeOk.ifF hc2 (by kernel_rfl) ?_
    refine CodeOk.skip ?_
    refine CodeOk.weak (st' := ⟨tl 27 [(0, .sl false false (a0.map (encSNode false))), (1, .sl false false (a1.map (encSNode false))), (10, V.bool ((a0.length : Int) != (a1.length : Int)))], []⟩) (Weak.refl _) ?_
    refine CodeOk.seq' ?_
    refine CodeOk.cutR (tl 27 [(0, .sl false false (a0.map (encSNode false))), (1, .sl false false (a1.map (encSNode false))), (5, V.int 0)]) [] mix (by
        refine W.run D_ok 1 100 (by kernel_rfl) ?_
        exact W.fin (by decide) (by kernel_rfl) (Weak.sel [] [0, 1, 5] (by kernel_rfl) (by kernel_rfl) (by kernel_rfl))
        ) ?_
    refine CodeOk.block' ?_
    refine CodeOk.loopJ (fun (⟨a0, a1, y51⟩ : ((List SNode) × (List SNode) × Int)) => ⟨tl 27 [(0, .sl false false (a0.map (encSNode false))), (1, .sl false false (a1.map (encSNode false))), (5, V.int y51)], []⟩) (fun n i => m_laws_eqNodeS_l1 N n i = some r) (n0 := N) (i0 := (a0, a1, 0)) (Weak.sel [] [0, 1, 5] (by kernel_rfl) (by kernel_rfl) (by kernel_rfl)) h (fun i h => by simp [m_laws_eqNodeS_l1] at h) ?_
    rintro n1 ⟨a0, a1, y51⟩ h85 ih86
    rw [m_laws_eqNodeS_l1] at h85
    refine CodeOk.seq' ?_
    refine CodeOk.cutR (tl 27 [(0, .sl false false (a0.map (encSNode false))), (1, .sl false false (a1.map (encSNode false))), (5, V.int y51), (14, V.bool (decide (y51 < (a0.length : Int))))]) [] mix (by
        refine W.run D_ok 2 160 (by kernel_rfl) ?_
        refine W.len D_ok (encSNode false) a0 [] (by kernel_rfl) (by kernel_rfl) ?_
        refine W.run D_ok 1 160 (by kernel_rfl) ?_
        exact W.fin (by decide) (by kernel_rfl) (Weak.sel [] [0, 1, 5, 14] (by kernel_rfl) (by kernel_rfl) (by kernel_rfl))
        ) ?_
    rcases cond_some h85 with ⟨hc88, h85⟩ | ⟨hc88, h85⟩
    · refine CodeOk.ifT hc88 (by kernel_rfl) ?_
      refine CodeOk.skip ?_
      refine CodeOk.weak (st' := ⟨tl 27 [(0, .sl false false (a0.map (encSNode false))), (1, .sl false false (a1.map (encSNode false))), (5, V.int y51), (14, V.bool (decide (y51 < (a0.length : Int))))], []⟩) (Weak.refl _) ?_
      refine CodeOk.seq' ?_
      refine CodeOk.block' ?_
      obtain ⟨e74, hx99, h85⟩ := bind_some h85
      obtain ⟨e75, hx100, h85⟩ := bind_some h85
      obtain ⟨r76, hx101, h85⟩ := bind_some h85
      refine CodeOk.cutR (tl 27 [(0, .sl false false (a0.map (encSNode false))), (1, .sl false false (a1.map (encSNode false))), (5, V.int y51), (26, V.bool (!r76))]) [] mix (by
          refine W.run D_ok 2 160 (by kernel_rfl) ?_
          refine W.ixD D_ok (encSNode false) hx99 5 (by kernel_rfl) (by kernel_rfl) ?_
          refine W.run D_ok 3 160 (by kernel_rfl) ?_
          refine W.ixD D_ok (encSNode false) hx100 5 (by kernel_rfl) (by kernel_rfl) ?_
          refine W.run D_ok 1 160 (by kernel_rfl) ?_
          refine W.call0 (m_laws_eqNode_ok N e74 e75 hx101) cok15 rfl (by kernel_rfl) ?_
          refine W.run D_ok 1 160 (by kernel_rfl) ?_
          exact W.fin (by decide) (by kernel_rfl) (Weak.sel [] [0, 1, 5, 26] (by kernel_rfl) (by kernel_rfl) (by kernel_rfl))
          ) ?_
      rcases cond_some h85 with ⟨hc102, h85⟩ | ⟨hc102, h85⟩
      · refine CodeOk.ifT hc102 (by kernel_rfl) ?_
        refine CodeOk.cutR (tl 27 [(4, V.bool false)]) [] mix (by
            refine W.run D_ok 1 160 (by kernel_rfl) ?_
            exact W.fin (by decide) (by kernel_rfl) (Weak.sel [] [4] (by kernel_rfl) (by kernel_rfl) (by kernel_rfl))
            ) ?_
        refine CodeOk.ret ?_
        have h85 := Option.some.inj h85
        subst h85
        exact Ends.gen [] (.inr rfl) (RetV.one rfl (OneR.tmp (t := 4) (r := V.bool false) (by kernel_rfl))) (by kernel_rfl) (by kernel_rfl) (by kernel_rfl)
      · refine CodeOk.ifF hc102 (by kernel_rfl) ?_
        refine CodeOk.skip ?_
        refine CodeOk.weak (st' := ⟨tl 27 [(0, .sl false false (a0.map (encSNode false))), (1, .sl false false (a1.map (encSNode false))), (5, V.int y51), (26, V.bool (!r76))], []⟩) (Weak.refl _) ?_
        refine CodeOk.endR (tl 27 [(0, .sl false false (a0.map (encSNode false))), (1, .sl false false (a1.map (encSNode false))), (5, V.int (IntKind.wrap .i64 (y51 + 1)))]) [] mix (by
            refine W.run D_ok 3 160 (by kernel_rfl) ?_
            exact W.fin (by decide) (by kernel_rfl) (Weak.sel [] [0, 1, 5] (by kernel_rfl) (by kernel_rfl) (by kernel_rfl))
            ) (fun st hw => ?_)
        exact ih86 (a0, a1, (IntKind.wrap .i64 (y51 + 1))) h85 _ (hw.trans (Weak.sel [] [0, 1, 5] (by kernel_rfl) (by kernel_rfl) (by kernel_rfl)))
    · refine CodeOk.ifF hc88 (by kernel_rfl) ?_
      refine CodeOk.exit ?_
      refine CodeOk.weak (st' := ⟨tl 27 [(0, .sl false false (a0.map (encSNode false))), (1, .sl false false (a1.map (encSNode false))), (5, V.int y51), (14, V.bool (decide (y51 < (a0.length : Int))))], []⟩) (Weak.refl _) ?_
      refine CodeOk.cutR (tl 27 [(4, V.bool true)]) [] mix (by
          refine W.run D_ok 1 160 (by kernel_rfl) ?_
          exact W.fin (by decide) (by kernel_rfl) (Weak.sel [] [4] (by kernel_rfl) (by kernel_rfl) (by kernel_rfl))
          ) ?_
      refine CodeOk.ret ?_
      have h85 := Option.some.inj h85
      subst h85
      exact Ends.gen [] (.inr rfl) (RetV.one rfl (OneR.tmp (t := 4) (r := V.bool true) (by kernel_rfl))) (by kernel_rfl) (by kernel_rfl) (by kernel_rfl)

theorem m_laws_FnExactNots_ok (N : Nat) (a0 : List SNode) {r : Bool} (h : m_laws_FnExactNots N a0 = some r) :
    AC Try.prog GG 4 [.sl false false (a0.map (encSNode false))] [] (V.bool r) [] := by
  rw [m_laws_FnExactNots] at h
  refine AC.enter Try.func4 rfl ?_
  refine CodeOk.cutR (tl 27 [(0, .sl false false (a0.map (encSNode false)))]) [] mix (by
      refine W.run D_ok 1 100 (by kernel_rfl) ?_
      exact W.fin (by decide) (by kernel_rfl) (Weak.sel [] [0] (by kernel_rfl) (by kernel_rfl) (by kernel_rfl))
      ) ?_
  refine CodeOk.cutR (tl 27 [(0, .sl false false (a0.map (encSNode false))), (3, V.int 1048576)]) [] mix (by
      refine W.run D_ok 1 100 (by kernel_rfl) ?_
      exact W.fin (by decide) (by kernel_rfl) (Weak.sel [] [0, 3] (by kernel_rfl) (by kernel_rfl) (by kernel_rfl))
      ) ?_
  obtain ⟨r2, hx2, h⟩ := bind_some h
  refine CodeOk.cutR (tl 27 [(0, .sl false false (a0.map (encSNode false))), (3, V.int r2)]) [] mix (by
      refine W.run D_ok 2 100 (by kernel_rfl) ?_
      refine W.call0 (m_laws_szNodeS_ok N a0 1048576 hx2) cok16 rfl (by kernel_rfl) ?_
      refine W.run D_ok 1 100 (by kernel_rfl) ?_
      exact W.fin (by decide) (by kernel_rfl) (Weak.sel [] [0, 3] (by kernel_rfl) (by kernel_rfl) (by kernel_rfl))
      ) ?_
  refine CodeOk.seq' ?_
  refine CodeOk.cutR (tl 27 [(0, .sl false false (a0.map (encSNode false))), (11, V.bool (decide (r2 < 0)))]) [] mix (by
      refine W.run D_ok 2 100 (by kernel_rfl) ?_
      exact W.fin (by decide) (by kernel_rfl) (Weak.sel [] [0, 11] (by kernel_rfl) (by kernel_rfl) (by kernel_rfl))
      ) ?_
  rcases cond_some h with ⟨hc4, h⟩ | ⟨hc4, h⟩
  · refine CodeOk.ifT hc4 (by kernel_rfl) ?_
    refine CodeOk.cutR (tl 27 [(2, V.bool true)]) [] mix (by
        refine W.run D_ok 1 100 (by kernel_rfl) ?_
        exact W.fin (by decide) (by kernel_rfl) (Weak.sel [] [2] (by kernel_rfl) (by kernel_rfl) (by kernel_rfl))
        ) ?_
    refine CodeOk.ret ?_
    have h := Option.some.inj h
    subst h
    exact Ends.gen [] (.inr rfl) (RetV.one rfl (OneR.tmp (t := 2) (r := V.bool true) (by kernel_rfl))) (by kernel_rfl) (by kernel_rfl) (by kernel_rfl)
  · refine CodeOk.ifF hc4 (by kernel_rfl) ?_
    refine CodeOk.skip ?_
    refine CodeOk.weak (st' := ⟨tl 27 [(0, .sl false false (a0.map (encSNode false))), (11, V.bool (decide (r2 < 0)))], []⟩) (Weak.refl _) ?_
    obtain ⟨r5, hx7, h⟩ := bind_some h
    obtain ⟨r6, hx8, h⟩ := bind_some h
    refine CodeOk.cutR (tl 27 [(0, .sl false false (a0.map (encSNode false))), (4, V.int r6)]) [] mix (by
        refine W.run D_ok 1 100 (by kernel_rfl) ?_
        refine W.call (m_laws_toNodeS_ok N a0 hx7) cok18 [] [(100, 100)] [100] (show LayOk _ [] from trivial) (by kernel_rfl) (by kernel_rfl) ?_
        refine W.lend (m_spec_Nots_ok N r5 hx8) cok17 [] [] (LayOk.cons (j := 100) (encSNode true) (encSNode false) r5 (by kernel_rfl) (share_encSNode _) (show LayOk _ [] from trivial)) (.c _) .nil (by kernel_rfl) (by kernel_rfl) ?_
        refine W.run D_ok 1 101 (by kernel_rfl) ?_
        exact W.fin (by decide) (by kernel_rfl) (Weak.sel [] [0, 4] (by kernel_rfl) (by kernel_rfl) (by kernel_rfl))
        ) ?_
    obtain ⟨r8, hx10, h⟩ := bind_some h
    refine CodeOk.cutR (tl 27 [(0, .sl false false (a0.map (encSNode false))), (4, V.int r6), (5, .own 101)]) [(101, .vec false 27 5 (r8.map (encSNode true)))] mix (by
        refine W.run D_ok 1 101 (by kernel_rfl) ?_
        refine W.call (m_laws_toNodeS_ok N a0 hx10) cok18 [] [(100, 101)] [101] (show LayOk _ [] from trivial) (by kernel_rfl) (by kernel_rfl) ?_
        refine W.run D_ok 1 102 (by kernel_rfl) ?_
        exact W.fin (by decide) (by kernel_rfl) (Weak.sel [(101, 101)] [0, 4, 5] (by kernel_rfl) (by kernel_rfl) (by kernel_rfl))
        ) ?_
    obtain ⟨r10, hx12, h⟩ := bind_some h
    refine CodeOk.cutR (tl 27 [(0, .sl false false (a0.map (encSNode false))), (4, V.int r6), (5, .own 101), (6, V.int r10)]) [(101, .vec false 27 5 (r8.map (encSNode true)))] mix (by
        refine W.run D_ok 1 102 (by kernel_rfl) ?_
        refine W.lend (m_impl_Nots_ok N r8 hx12) cok19 [] [] (LayOk.cons (j := 101) (encSNode true) (encSNode false) r8 (by kernel_rfl) (share_encSNode _) (show LayOk _ [] from trivial)) (.c _) .nil (by kernel_rfl) (by kernel_rfl) ?_
        refine W.run D_ok 1 102 (by kernel_rfl) ?_
        exact W.fin (by decide) (by kernel_rfl) (Weak.sel [(101, 101)] [0, 4, 5, 6] (by kernel_rfl) (by kernel_rfl) (by kernel_rfl))
        ) ?_
    refine CodeOk.seq' ?_
    refine CodeOk.cutR (tl 27 [(0, .sl false false (a0.map (encSNode false))), (5, .own 101), (21, V.bool (r10 != r6))]) [(101, .vec false 27 5 (r8.map (encSNode true)))] mix (by
        refine W.run D_ok 3 102 (by kernel_rfl) ?_
        exact W.fin (by decide) (by kernel_rfl) (Weak.sel [(101, 101)] [0, 5, 21] (by kernel_rfl) (by kernel_rfl) (by kernel_rfl))
        ) ?_
    rcases cond_some h with ⟨hc14, h⟩ | ⟨hc14, h⟩
    · refine CodeOk.ifT hc14 (by kernel_rfl) ?_
      refine CodeOk.cutR (tl 27 [(2, V.bool false)]) [] mix (by
          refine W.run D_ok 1 102 (by kernel_rfl) ?_
          exact W.fin (by decide) (by kernel_rfl) (Weak.sel [] [2] (by kernel_rfl) (by kernel_rfl) (by kernel_rfl))
          ) ?_
      refine CodeOk.ret ?_
      have h := Option.some.inj h
      subst h
      exact Ends.gen [] (.inr rfl) (RetV.one rfl (OneR.tmp (t := 2) (r := V.bool false) (by kernel_rfl))) (by kernel_rfl) (by kernel_rfl) (by kernel_rfl)
    · refine CodeOk.ifF hc14 (by kernel_rfl) ?_
      refine CodeOk.skip ?_
      refine CodeOk.weak (st' := ⟨tl 27 [(0, .sl false false (a0.map (encSNode false))), (5, .own 101), (21, V.bool (r10 != r6))], [(101, .vec false 27 5 (r8.map (encSNode true)))]⟩) (Weak.refl _) ?_
      refine CodeOk.seq' ?_
      obtain ⟨r17, hx22, h⟩ := bind_some h
      obtain ⟨r18, hx23, h⟩ := bind_some h
      refine CodeOk.cutR (tl 27 [(26, V.bool (!r18))]) [] mix (by
          refine W.run D_ok 2 102 (by kernel_rfl) ?_
          refine W.call (m_laws_toNodeS_ok N a0 hx22) cok18 [] [(100, 102)] [102] (show LayOk _ [] from trivial) (by kernel_rfl) (by kernel_rfl) ?_
          refine W.lend (m_laws_eqNodeS_ok N r8 r17 hx23) cok20 [] [] (LayOk.cons (j := 101) (encSNode true) (encSNode false) r8 (by kernel_rfl) (share_encSNode _) (LayOk.cons (j := 102) (encSNode true) (encSNode false) r17 (by kernel_rfl) (share_encSNode _) (show LayOk _ [] from trivial))) (.c _) .nil (by kernel_rfl) (by kernel_rfl) ?_
          refine W.run D_ok 1 103 (by kernel_rfl) ?_
          exact W.fin (by decide) (by kernel_rfl) (Weak.sel [] [26] (by kernel_rfl) (by kernel_rfl) (by kernel_rfl))
          ) ?_
      rcases cond_some h with ⟨hc24, h⟩ | ⟨hc24, h⟩
      · refine CodeOk.ifT hc24 (by kernel_rfl) ?_
        refine CodeOk.cutR (tl 27 [(2, V.bool false)]) [] mix (by
            refine W.run D_ok 1 103 (by kernel_rfl) ?_
            exact W.fin (by decide) (by kernel_rfl) (Weak.sel [] [2] (by kernel_rfl) (by kernel_rfl) (by kernel_rfl))
            ) ?_
        refine CodeOk.ret ?_
        have h := Option.some.inj h
        subst h
        exact Ends.gen [] (.inr rfl) (RetV.one rfl (OneR.tmp (t := 2) (r := V.bool false) (by kernel_rfl))) (by kernel_rfl) (by kernel_rfl) (by kernel_rfl)
      · refine CodeOk.ifF hc24 (by kernel_rfl) ?_
        refine CodeOk.skip ?_
        refine CodeOk.weak (st' := ⟨tl 27 [(26, V.bool (!r18))], []⟩) (Weak.refl _) ?_
        refine CodeOk.cutR (tl 27 [(2, V.bool true)]) [] mix (by
            refine W.run D_ok 1 103 (by kernel_rfl) ?_
            exact W.fin (by decide) (by kernel_rfl) (Weak.sel [] [2] (by kernel_rfl) (by kernel_rfl) (by kernel_rfl))
            ) ?_
        refine CodeOk.ret ?_
        have h := Option.some.inj h
        subst h
        exact Ends.gen [] (.inr rfl) (RetV.one rfl (OneR.tmp (t := 2) (r := V.bool true) (by kernel_rfl))) (by kernel_rfl) (by kernel_rfl) (by kernel_rfl)

theorem m_spec_l1In_ok (a0 : Int) (a1 : Int) (a2 : Int) {r : Bool} (h : m_spec_l1In a0 a1 a2 = some r) :
    AC Try.prog GG 46 [V.int a0, V.int a1, V.int a2] [] (V.bool r) [] := by
  rw [m_spec_l1In] at h
  refine AC.enter Try.func46 rfl ?_
  refine CodeOk.cutR (tl 15 [(0, V.int a0), (1, V.int a1), (2, V.int a2)]) [] mix (by
      refine W.run D_ok 1 100 (by kernel_rfl) ?_
      exact W.fin (by decide) (by kernel_rfl) (Weak.sel [] [0, 1, 2] (by kernel_rfl) (by kernel_rfl) (by kernel_rfl))
      ) ?_
  obtain ⟨y1, hv2, h⟩ := bind_some h
  refine CodeOk.cutR (tl 15 [(6, V.bool y1)]) [] mix (by
      refine W.run D_ok 4 100 (by kernel_rfl) ?_
      rcases cond_some hv2 with ⟨hc3, hv2⟩ | ⟨hc3, hv2⟩
      · refine W.is 10 hc3 (by kernel_rfl) ?_
        refine W.run D_ok 5 100 (by kernel_rfl) ?_
        have hv2 := Option.some.inj hv2
        subst hv2
        exact W.fin (by decide) (by kernel_rfl) (Weak.sel [] [6] (by kernel_rfl) (by kernel_rfl) (by kernel_rfl))
      · refine W.is 10 hc3 (by kernel_rfl) ?_
        refine W.run D_ok 5 100 (by kernel_rfl) ?_
        have hv2 := Option.some.inj hv2
        subst hv2
        exact W.fin (by decide) (by kernel_rfl) (Weak.sel [] [6] (by kernel_rfl) (by kernel_rfl) (by kernel_rfl))
      ) ?_
  refine CodeOk.ret ?_
  have h := Option.some.inj h
  subst h
  exact Ends.gen [] (.inr rfl) (RetV.one rfl (OneR.tmp (t := 6) (r := V.bool y1) (by kernel_rfl))) (by kernel_rfl) (by kernel_rfl) (by kernel_rfl)

theorem m_spec_LineCol_ok (N : Nat) (a0 : List UInt8) (a1 : Int) {r : (Int × Int)} (h : m_spec_LineCol N a0 a1 = some r) :
    AC Try.prog GG 21 [V.str a0, V.int a1] [] (.tup [V.int r.1, V.int r.2]) [] := by
  rw [m_spec_LineCol] at h
  refine AC.enter Try.func21 rfl ?_
  refine CodeOk.cutR (tl 32 [(0, V.str a0), (1, V.int a1)]) [] mix (by
      refine W.run D_ok 2 100 (by kernel_rfl) ?_
      exact W.fin (by decide) (by kernel_rfl) (Weak.sel [] [0, 1] (by kernel_rfl) (by kernel_rfl) (by kernel_rfl))
      ) ?_
  refine CodeOk.seq' ?_
  obtain ⟨r4, hx5, h⟩ := bind_some h
  refine CodeOk.cutR (tl 32 [(0, V.str a0), (1, V.int a1), (13, V.bool (!r4))]) [] mix (by
      refine W.run D_ok 3 100 (by kernel_rfl) ?_
      refine W.call0 (m_spec_l1In_ok a1 0 (a0.length : Int) hx5) cok46 rfl (by kernel_rfl) ?_
      refine W.run D_ok 1 100 (by kernel_rfl) ?_
      exact W.fin (by decide) (by kernel_rfl) (Weak.sel [] [0, 1, 13] (by kernel_rfl) (by kernel_rfl) (by kernel_rfl))
      ) ?_
  rcases cond_some h with ⟨hc6, h⟩ | ⟨hc6, h⟩
  · refine CodeOk.ifT hc6 (by kernel_rfl) ?_
    refine CodeOk.cutR (tl 32 [(4, V.int 0), (5, V.int 0)]) [] mix (by
        refine W.run D_ok 2 100 (by kernel_rfl) ?_
        exact W.fin (by decide) (by kernel_rfl) (Weak.sel [] [4, 5] (by kernel_rfl) (by kernel_rfl) (by kernel_rfl))
        ) ?_
    refine CodeOk.ret ?_
    have h := Option.some.inj h
    subst h
    exact Ends.gen [] (.inr rfl) (RetV.two rfl (OneR.tmp (t := 4) (r := V.int 0) (by kernel_rfl)) (OneR.tmp (t := 5) (r := V.int 0) (by kernel_rfl))) (by kernel_rfl) (by kernel_rfl) (by kernel_rfl)
  · refine CodeOk.ifF hc6 (by kernel_rfl) ?_
    refine CodeOk.skip ?_
    refine CodeOk.weak (st' := ⟨tl 32 [(0, V.str a0), (1, V.int a1), (13, V.bool (!r4))], []⟩) (Weak.refl _) ?_
    refine CodeOk.cutR (tl 32 [(0, V.str a0), (1, V.int a1), (6, V.int 1)]) [] mix (by
        refine W.run D_ok 1 100 (by kernel_rfl) ?_
        exact W.fin (by decide) (by kernel_rfl) (Weak.sel [] [0, 1, 6] (by kernel_rfl) (by kernel_rfl) (by kernel_rfl))
        ) ?_
    refine CodeOk.cutR (tl 32 [(0, V.str a0), (1, V.int a1), (6, V.int 1), (7, V.int 0)]) [] mix (by
        refine W.run D_ok 1 100 (by kernel_rfl) ?_
        exact W.fin (by decide) (by kernel_rfl) (Weak.sel [] [0, 1, 6, 7] (by kernel_rfl) (by kernel_rfl) (by kernel_rfl))
        ) ?_
    refine CodeOk.seq' ?_
    refine CodeOk.cutR (tl 32 [(0, V.str a0), (1, V.int a1), (6, V.int 1), (7, V.int 0), (8, V.int 0)]) [] mix (by
        refine W.run D_ok 1 100 (by kernel_rfl) ?_
        exact W.fin (by decide) (by kernel_rfl) (Weak.sel [] [0, 1, 6, 7, 8] (by kernel_rfl) (by kernel_rfl) (by kernel_rfl))
        ) ?_
    refine CodeOk.block' ?_
    refine CodeOk.loopJ (fun (⟨a0, a1, y35, y36, y37⟩ : ((List UInt8) × Int × Int × Int × Int)) => ⟨tl 32 [(0, V.str a0), (1, V.int a1), (6, V.int y35), (7, V.int y36), (8, V.int y37)], []⟩) (fun n i => m_spec_LineCol_l1 N n i = some r) (n0 := N) (i0 := (a0, a1, 1, 0, 0)) (Weak.sel [] [0, 1, 6, 7, 8] (by kernel_rfl) (by kernel_rfl) (by kernel_rfl)) h (fun i h => by simp [m_spec_LineCol_l1] at h) ?_
    rintro n1 ⟨a0, a1, y35, y36, y37⟩ h59 ih60
    rw [m_spec_LineCol_l1] at h59
    refine CodeOk.seq' ?_
    refine CodeOk.cutR (tl 32 [(0, V.str a0), (1, V.int a1), (6, V.int y35), (7, V.int y36), (8, V.int y37), (16, V.bool (decide (y37 < a1)))]) [] mix (by
        refine W.run D_ok 3 160 (by kernel_rfl) ?_
        exact W.fin (by decide) (by kernel_rfl) (Weak.sel [] [0, 1, 6, 7, 8, 16] (by kernel_rfl) (by kernel_rfl) (by kernel_rfl))
        ) ?_
    rcases cond_some h59 with ⟨hc62, h59⟩ | ⟨hc62, h59⟩
    · refine CodeOk.ifT hc62 (by kernel_rfl) ?_
      refine CodeOk.skip ?_
      refine CodeOk.weak (st' := ⟨tl 32 [(0, V.str a0), (1, V.int a1), (6, V.int y35), (7, V.int y36), (8, V.int y37), (16, V.bool (decide (y37 < a1)))], []⟩) (Weak.refl _) ?_
      refine CodeOk.join (fun (⟨a0, a1, y37, y49, y50⟩ : ((List UInt8) × Int × Int × Int × Int)) => ⟨tl 32 [(0, V.str a0), (1, V.int a1), (6, V.int y49), (7, V.int y50), (8, V.int y37)], []⟩) (fun i => m_spec_LineCol_k2 N (m_spec_LineCol_l1 N n1) i = some r) ?_ ?_
      · rintro ⟨a0, a1, y37, y49, y50⟩ h66
        rw [m_spec_LineCol_k2] at h66
        refine CodeOk.endR (tl 32 [(0, V.str a0), (1, V.int a1), (6, V.int y49), (7, V.int y50), (8, V.int (IntKind.wrap .i64 (y37 + 1)))]) [] mix (by
            refine W.run D_ok 3 160 (by kernel_rfl) ?_
            exact W.fin (by decide) (by kernel_rfl) (Weak.sel [] [0, 1, 6, 7, 8] (by kernel_rfl) (by kernel_rfl) (by kernel_rfl))
            ) (fun st hw => ?_)
        exact ih60 (a0, a1, y49, y50, (IntKind.wrap .i64 (y37 + 1))) h66 _ (hw.trans (Weak.sel [] [0, 1, 6, 7, 8] (by kernel_rfl) (by kernel_rfl) (by kernel_rfl)))
      intro hk67
      refine CodeOk.block' ?_
      obtain ⟨b52, hx69, h59⟩ := bind_some h59
      refine CodeOk.cutR (tl 32 [(0, V.str a0), (1, V.int a1), (6, V.int y35), (7, V.int y36), (8, V.int y37), (22, V.bool (((b52).toNat : Int) == 10))]) [] mix (by
          refine W.run D_ok 2 160 (by kernel_rfl) ?_
          refine W.ixS D_ok hx69 (by kernel_rfl) ?_
          refine W.run D_ok 1 160 (by kernel_rfl) ?_
          exact W.fin (by decide) (by kernel_rfl) (Weak.sel [] [0, 1, 6, 7, 8, 22] (by kernel_rfl) (by kernel_rfl) (by kernel_rfl))
          ) ?_
      rcases cond_some h59 with ⟨hc70, h59⟩ | ⟨hc70, h59⟩
      · refine CodeOk.ifT hc70 (by kernel_rfl) ?_
        refine CodeOk.cutR (tl 32 [(0, V.str a0), (1, V.int a1), (6, V.int (IntKind.wrap .i64 (y35 + 1))), (8, V.int y37)]) [] mix (by
            refine W.run D_ok 3 160 (by kernel_rfl) ?_
            exact W.fin (by decide) (by kernel_rfl) (Weak.sel [] [0, 1, 6, 8] (by kernel_rfl) (by kernel_rfl) (by kernel_rfl))
            ) ?_
        refine CodeOk.endR (tl 32 [(0, V.str a0), (1, V.int a1), (6, V.int (IntKind.wrap .i64 (y35 + 1))), (7, V.int (IntKind.wrap .i64 (y37 + 1))), (8, V.int y37)]) [] mix (by
            refine W.run D_ok 3 160 (by kernel_rfl) ?_
            exact W.fin (by decide) (by kernel_rfl) (Weak.sel [] [0, 1, 6, 7, 8] (by kernel_rfl) (by kernel_rfl) (by kernel_rfl))
            ) (fun st hw => ?_)
        exact hk67 (a0, a1, y37, (IntKind.wrap .i64 (y35 + 1)), (IntKind.wrap .i64 (y37 + 1))) h59 _ (hw.trans (Weak.sel [] [0, 1, 6, 7, 8] (by kernel_rfl) (by kernel_rfl) (by kernel_rfl)))
      · refine CodeOk.ifF hc70 (by kernel_rfl) ?_
        refine CodeOk.skip ?_
        exact hk67 (a0, a1, y37, y35, y36) h59 _ (Weak.sel [] [0, 1, 6, 7, 8] (by kernel_rfl) (by kernel_rfl) (by kernel_rfl))
    · refine CodeOk.ifF hc62 (by kernel_rfl) ?_
      refine CodeOk.exit ?_
      refine CodeOk.weak (st' := ⟨tl 32 [(0, V.str a0), (1, V.int a1), (6, V.int y35), (7, V.int y36), (8, V.int y37), (16, V.bool (decide (y37 < a1)))], []⟩) (Weak.refl _) ?_
      refine CodeOk.cutR (tl 32 [(4, V.int y35), (5, V.int (IntKind.wrap .i64 ((IntKind.wrap .i64 (a1 - y36)) + 1)))]) [] mix (by
          refine W.run D_ok 7 160 (by kernel_rfl) ?_
          exact W.fin (by decide) (by kernel_rfl) (Weak.sel [] [4, 5] (by kernel_rfl) (by kernel_rfl) (by kernel_rfl))
          ) ?_
      refine CodeOk.ret ?_
      have h59 := Option.some.inj h59
      subst h59
      exact Ends.gen [] (.inr rfl) (RetV.two rfl (OneR.tmp (t := 4) (r := V.int y35) (by kernel_rfl)) (OneR.tmp (t := 5) (r := V.int (IntKind.wrap .i64 ((IntKind.wrap .i64 (a1 - y36)) + 1))) (by kernel_rfl))) (by kernel_rfl) (by kernel_rfl) (by kernel_rfl)

theorem m_impl_within_ok (a0 : Int) (a1 : Int) (a2 : Int) {r : Bool} (h : m_impl_within a0 a1 a2 = some r) :
    AC Try.prog GG 47 [V.int a0, V.int a1, V.int a2] [] (V.bool r) [] := by
  rw [m_impl_within] at h
  refine AC.enter Try.func47 rfl ?_
  refine CodeOk.cutR (tl 15 [(0, V.int a0), (1, V.int a1), (2, V.int a2)]) [] mix (by
      refine W.run D_ok 1 100 (by kernel_rfl) ?_
      exact W.fin (by decide) (by kernel_rfl) (Weak.sel [] [0, 1, 2] (by kernel_rfl) (by kernel_rfl) (by kernel_rfl))
      ) ?_
  obtain ⟨y1, hv2, h⟩ := bind_some h
  refine CodeOk.cutR (tl 15 [(6, V.bool y1)]) [] mix (by
      refine W.run D_ok 4 100 (by kernel_rfl) ?_
      rcases cond_some hv2 with ⟨hc3, hv2⟩ | ⟨hc3, hv2⟩
      · refine W.is 10 hc3 (by kernel_rfl) ?_
        refine W.run D_ok 5 100 (by kernel_rfl) ?_
        have hv2 := Option.some.inj hv2
        subst hv2
        exact W.fin (by decide) (by kernel_rfl) (Weak.sel [] [6] (by kernel_rfl) (by kernel_rfl) (by kernel_rfl))
      · refine W.is 10 hc3 (by kernel_rfl) ?_
        refine W.run D_ok 5 100 (by kernel_rfl) ?_
        have hv2 := Option.some.inj hv2
        subst hv2
        exact W.fin (by decide) (by kernel_rfl) (Weak.sel [] [6] (by kernel_rfl) (by kernel_rfl) (by kernel_rfl))
      ) ?_
  refine CodeOk.ret ?_
  have h := Option.some.inj h
  subst h
  exact Ends.gen [] (.inr rfl) (RetV.one rfl (OneR.tmp (t := 6) (r := V.bool y1) (by kernel_rfl))) (by kernel_rfl) (by kernel_rfl) (by kernel_rfl)

theorem m_strings_Count_ok (a0 : List UInt8) {r : Int} (h : m_strings_Count a0 = some r) :
    AC Try.prog GG 48 [V.str a0, V.str [10]] [] (V.int r) [] := by
  rw [m_strings_Count] at h
  refine AC.enter Try.func48 rfl ?_
  refine CodeOk.cutR (tl 34 [(0, V.str a0), (1, V.str [10])]) [] mix (by
      refine W.run D_ok 1 100 (by kernel_rfl) ?_
      exact W.fin (by decide) (by kernel_rfl) (Weak.sel [] [0, 1] (by kernel_rfl) (by kernel_rfl) (by kernel_rfl))
      ) ?_
  refine CodeOk.seq' ?_
  refine CodeOk.cutR (tl 34 [(0, V.str a0), (1, V.str [10]), (9, V.bool false)]) [] mix (by
      refine W.run D_ok 3 100 (by kernel_rfl) ?_
      exact W.fin (by decide) (by kernel_rfl) (Weak.sel [] [0, 1, 9] (by kernel_rfl) (by kernel_rfl) (by kernel_rfl))
      ) ?_
  refine CodeOk.ifF (c := false) rfl (by kernel_rfl) ?_
  refine CodeOk.skip ?_
  refine CodeOk.weak (st' := ⟨tl 34 [(0, V.str a0), (1, V.str [10]), (9, V.bool false)], []⟩) (Weak.refl _) ?_
  refine CodeOk.seq' ?_
  refine CodeOk.cutR (tl 34 [(0, V.str a0), (1, V.str [10]), (15, V.bool true)]) [] mix (by
      refine W.run D_ok 3 100 (by kernel_rfl) ?_
      exact W.fin (by decide) (by kernel_rfl) (Weak.sel [] [0, 1, 15] (by kernel_rfl) (by kernel_rfl) (by kernel_rfl))
      ) ?_
  refine CodeOk.ifT (c := true) rfl (by kernel_rfl) ?_
  obtain ⟨b4, hx4, h⟩ := bind_some h
  refine CodeOk.cutR (tl 34 [(4, V.int ((Go.Lib.countByte a0 (Int.toNat ((b4).toNat : Int)).toUInt8) : Int))]) [] mix (by
      refine W.run D_ok 2 100 (by kernel_rfl) ?_
      refine W.ixS D_ok hx4 (by kernel_rfl) ?_
      refine W.ext (vs := [.string ⟨⟨a0⟩⟩, .int .u8 ((b4).toNat : Int)]) (ext74 _ _) (by kernel_rfl) ?_
      refine W.run D_ok 1 100 (by kernel_rfl) ?_
      exact W.fin (by decide) (by kernel_rfl) (Weak.sel [] [4] (by kernel_rfl) (by kernel_rfl) (by kernel_rfl))
      ) ?_
  refine CodeOk.ret ?_
  have h := Option.some.inj h
  subst h
  exact Ends.gen [] (.inr rfl) (RetV.one rfl (OneR.tmp (t := 4) (r := V.int ((Go.Lib.countByte a0 (Int.toNat ((b4).toNat : Int)).toUInt8) : Int)) (by kernel_rfl))) (by kernel_rfl) (by kernel_rfl) (by kernel_rfl)

theorem m_bytealg_LastIndexByteString_ok (N : Nat) (a0 : List UInt8) (a1 : Int) {r : Int} (h : m_bytealg_LastIndexByteString N a0 a1 = some r) :
    AC Try.prog GG 76 [V.str a0, .c (.int .u8 a1)] [] (V.int r) [] := by
  rw [m_bytealg_LastIndexByteString] at h
  refine AC.enter Try.func76 rfl ?_
  refine CodeOk.cutR (tl 19 [(0, V.str a0), (1, .c (.int .u8 a1))]) [] mix (by
      refine W.run D_ok 1 100 (by kernel_rfl) ?_
      exact W.fin (by decide) (by kernel_rfl) (Weak.sel [] [0, 1] (by kernel_rfl) (by kernel_rfl) (by kernel_rfl))
      ) ?_
  refine CodeOk.seq' ?_
  refine CodeOk.cutR (tl 19 [(0, V.str a0), (1, .c (.int .u8 a1)), (5, V.int (IntKind.wrap .i64 ((a0.length : Int) - 1)))]) [] mix (by
      refine W.run D_ok 4 100 (by kernel_rfl) ?_
      exact W.fin (by decide) (by kernel_rfl) (Weak.sel [] [0, 1, 5] (by kernel_rfl) (by kernel_rfl) (by kernel_rfl))
      ) ?_
  refine CodeOk.block' ?_
  refine CodeOk.loopJ (fun (⟨a0, a1, y19⟩ : ((List UInt8) × Int × Int)) => ⟨tl 19 [(0, V.str a0), (1, .c (.int .u8 a1)), (5, V.int y19)], []⟩) (fun n i => m_bytealg_LastIndexByteString_l1 N n i = some r) (n0 := N) (i0 := (a0, a1, (IntKind.wrap .i64 ((a0.length : Int) - 1)))) (Weak.sel [] [0, 1, 5] (by kernel_rfl) (by kernel_rfl) (by kernel_rfl)) h (fun i h => by simp [m_bytealg_LastIndexByteString_l1] at h) ?_
  rintro n1 ⟨a0, a1, y19⟩ h43 ih44
  rw [m_bytealg_LastIndexByteString_l1] at h43
  refine CodeOk.seq' ?_
  refine CodeOk.cutR (tl 19 [(0, V.str a0), (1, .c (.int .u8 a1)), (5, V.int y19), (10, V.bool (decide (y19 ≥ 0)))]) [] mix (by
      refine W.run D_ok 2 160 (by kernel_rfl) ?_
      exact W.fin (by decide) (by kernel_rfl) (Weak.sel [] [0, 1, 5, 10] (by kernel_rfl) (by kernel_rfl) (by kernel_rfl))
      ) ?_
  rcases cond_some h43 with ⟨hc46, h43⟩ | ⟨hc46, h43⟩
  · refine CodeOk.ifT hc46 (by kernel_rfl) ?_
    refine CodeOk.skip ?_
    refine CodeOk.weak (st' := ⟨tl 19 [(0, V.str a0), (1, .c (.int .u8 a1)), (5, V.int y19), (10, V.bool (decide (y19 ≥ 0)))], []⟩) (Weak.refl _) ?_
    refine CodeOk.seq' ?_
    refine CodeOk.block' ?_
    obtain ⟨b28, hx51, h43⟩ := bind_some h43
    refine CodeOk.cutR (tl 19 [(0, V.str a0), (1, .c (.int .u8 a1)), (5, V.int y19), (17, V.bool (((b28).toNat : Int) == a1))]) [] mix (by
        refine W.run D_ok 2 160 (by kernel_rfl) ?_
        refine W.ixS D_ok hx51 (by kernel_rfl) ?_
        refine W.run D_ok 2 160 (by kernel_rfl) ?_
        exact W.fin (by decide) (by kernel_rfl) (Weak.sel [] [0, 1, 5, 17] (by kernel_rfl) (by kernel_rfl) (by kernel_rfl))
        ) ?_
    rcases cond_some h43 with ⟨hc52, h43⟩ | ⟨hc52, h43⟩
    · refine CodeOk.ifT hc52 (by kernel_rfl) ?_
      refine CodeOk.cutR (tl 19 [(4, V.int y19)]) [] mix (by
          refine W.run D_ok 2 160 (by kernel_rfl) ?_
          exact W.fin (by decide) (by kernel_rfl) (Weak.sel [] [4] (by kernel_rfl) (by kernel_rfl) (by kernel_rfl))
          ) ?_
      refine CodeOk.ret ?_
      have h43 := Option.some.inj h43
      subst h43
      exact Ends.gen [] (.inr rfl) (RetV.one rfl (OneR.tmp (t := 4) (r := V.int y19) (by kernel_rfl))) (by kernel_rfl) (by kernel_rfl) (by kernel_rfl)
    · refine CodeOk.ifF hc52 (by kernel_rfl) ?_
      refine CodeOk.skip ?_
      refine CodeOk.weak (st' := ⟨tl 19 [(0, V.str a0), (1, .c (.int .u8 a1)), (5, V.int y19), (17, V.bool (((b28).toNat : Int) == a1))], []⟩) (Weak.refl _) ?_
      refine CodeOk.endR (tl 19 [(0, V.str a0), (1, .c (.int .u8 a1)), (5, V.int (IntKind.wrap .i64 (y19 - 1)))]) [] mix (by
          refine W.run D_ok 3 160 (by kernel_rfl) ?_
          exact W.fin (by decide) (by kernel_rfl) (Weak.sel [] [0, 1, 5] (by kernel_rfl) (by kernel_rfl) (by kernel_rfl))
          ) (fun st hw => ?_)
      exact ih44 (a0, a1, (IntKind.wrap .i64 (y19 - 1))) h43 _ (hw.trans (Weak.sel [] [0, 1, 5] (by kernel_rfl) (by kernel_rfl) (by kernel_rfl)))
  · refine CodeOk.ifF hc46 (by kernel_rfl) ?_
    refine CodeOk.exit ?_
    refine CodeOk.weak (st' := ⟨tl 19 [(0, V.str a0), (1, .c (.int .u8 a1)), (5, V.int y19), (10, V.bool (decide (y19 ≥ 0)))], []⟩) (Weak.refl _) ?_
    refine CodeOk.cutR (tl 19 [(4, V.int (-1))]) [] mix (by
        refine W.run D_ok 1 160 (by kernel_rfl) ?_
        exact W.fin (by decide) (by kernel_rfl) (Weak.sel [] [4] (by kernel_rfl) (by kernel_rfl) (by kernel_rfl))
        ) ?_
    refine CodeOk.ret ?_
    have h43 := Option.some.inj h43
    subst h43
    exact Ends.gen [] (.inr rfl) (RetV.one rfl (OneR.tmp (t := 4) (r := V.int (-1)) (by kernel_rfl))) (by kernel_rfl) (by kernel_rfl) (by kernel_rfl)

theorem m_strings_LastIndexByte_ok (N : Nat) (a0 : List UInt8) (a1 : Int) {r : Int} (h : m_strings_LastIndexByte N a0 a1 = some r) :
    AC Try.prog GG 49 [V.str a0, .c (.int .u8 a1)] [] (V.int r) [] := by
  rw [m_strings_LastIndexByte] at h
  refine AC.enter Try.func49 rfl ?_
  refine CodeOk.cutR (tl 8 [(0, V.str a0), (1, .c (.int .u8 a1))]) [] mix (by
      refine W.run D_ok 1 100 (by kernel_rfl) ?_
      exact W.fin (by decide) (by kernel_rfl) (Weak.sel [] [0, 1] (by kernel_rfl) (by kernel_rfl) (by kernel_rfl))
      ) ?_
  obtain ⟨r2, hx2, h⟩ := bind_some h
  refine CodeOk.cutR (tl 8 [(4, V.int r2)]) [] mix (by
      refine W.run D_ok 2 100 (by kernel_rfl) ?_
      refine W.call0 (m_bytealg_LastIndexByteString_ok N a0 a1 hx2) cok76 rfl (by kernel_rfl) ?_
      refine W.run D_ok 1 100 (by kernel_rfl) ?_
      exact W.fin (by decide) (by kernel_rfl) (Weak.sel [] [4] (by kernel_rfl) (by kernel_rfl) (by kernel_rfl))
      ) ?_
  refine CodeOk.ret ?_
  have h := Option.some.inj h
  subst h
  exact Ends.gen [] (.inr rfl) (RetV.one rfl (OneR.tmp (t := 4) (r := V.int r2) (by kernel_rfl))) (by kernel_rfl) (by kernel_rfl) (by kernel_rfl)

theorem m_impl_LineCol_ok (N : Nat) (a0 : List UInt8) (a1 : Int) {r : (Int × Int)} (h : m_impl_LineCol N a0 a1 = some r) :
    AC Try.prog GG 22 [V.str a0, V.int a1] [] (.tup [V.int r.1, V.int r.2]) [] := by
  rw [m_impl_LineCol] at h
  refine AC.enter Try.func22 rfl ?_
  refine CodeOk.cutR (tl 22 [(0, V.str a0), (1, V.int a1)]) [] mix (by
      refine W.run D_ok 2 100 (by kernel_rfl) ?_
      exact W.fin (by decide) (by kernel_rfl) (Weak.sel [] [0, 1] (by kernel_rfl) (by kernel_rfl) (by kernel_rfl))
      ) ?_
  refine CodeOk.seq' ?_
  obtain ⟨r4, hx5, h⟩ := bind_some h
  refine CodeOk.cutR (tl 22 [(0, V.str a0), (1, V.int a1), (10, V.bool (!r4))]) [] mix (by
      refine W.run D_ok 3 100 (by kernel_rfl) ?_
      refine W.call0 (m_impl_within_ok a1 0 (a0.length : Int) hx5) cok47 rfl (by kernel_rfl) ?_
      refine W.run D_ok 1 100 (by kernel_rfl) ?_
      exact W.fin (by decide) (by kernel_rfl) (Weak.sel [] [0, 1, 10] (by kernel_rfl) (by kernel_rfl) (by kernel_rfl))
      ) ?_
  rcases cond_some h with ⟨hc6, h⟩ | ⟨hc6, h⟩
  · refine CodeOk.ifT hc6 (by kernel_rfl) ?_
    refine CodeOk.cutR (tl 22 [(4, V.int 0), (5, V.int 0)]) [] mix (by
        refine W.run D_ok 2 100 (by kernel_rfl) ?_
        exact W.fin (by decide) (by kernel_rfl) (Weak.sel [] [4, 5] (by kernel_rfl) (by kernel_rfl) (by kernel_rfl))
        ) ?_
    refine CodeOk.ret ?_
    have h := Option.some.inj h
    subst h
    exact Ends.gen [] (.inr rfl) (RetV.two rfl (OneR.tmp (t := 4) (r := V.int 0) (by kernel_rfl)) (OneR.tmp (t := 5) (r := V.int 0) (by kernel_rfl))) (by kernel_rfl) (by kernel_rfl) (by kernel_rfl)
  · refine CodeOk.ifF hc6 (by kernel_rfl) ?_
    refine CodeOk.skip ?_
    refine CodeOk.weak (st' := ⟨tl 22 [(0, V.str a0), (1, V.int a1), (10, V.bool (!r4))], []⟩) (Weak.refl _) ?_
    obtain ⟨s9, hx11, h⟩ := bind_some h
    obtain ⟨r10, hx12, h⟩ := bind_some h
    obtain ⟨s11, hx13, h⟩ := bind_some h
    obtain ⟨r12, hx14, h⟩ := bind_some h
    refine CodeOk.cutR (tl 22 [(4, V.int (IntKind.wrap .i64 (r10 + 1))), (5, V.int (IntKind.wrap .i64 (a1 - r12)))]) [] mix (by
        refine W.run D_ok 2 100 (by kernel_rfl) ?_
        refine W.cutS D_ok hx11 (by kernel_rfl) ?_
        refine W.call0 (m_strings_Count_ok s9 hx12) cok48 rfl (by kernel_rfl) ?_
        refine W.run D_ok 4 100 (by kernel_rfl) ?_
        refine W.cutS D_ok hx13 (by kernel_rfl) ?_
        refine W.call0 (m_strings_LastIndexByte_ok N s11 10 hx14) cok49 rfl (by kernel_rfl) ?_
        refine W.run D_ok 3 100 (by kernel_rfl) ?_
        exact W.fin (by decide) (by kernel_rfl) (Weak.sel [] [4, 5] (by kernel_rfl) (by kernel_rfl) (by kernel_rfl))
        ) ?_
    refine CodeOk.ret ?_
    have h := Option.some.inj h
    subst h
    exact Ends.gen [] (.inr rfl) (RetV.two rfl (OneR.tmp (t := 4) (r := V.int (IntKind.wrap .i64 (r10 + 1))) (by kernel_rfl)) (OneR.tmp (t := 5) (r := V.int (IntKind.wrap .i64 (a1 - r12))) (by kernel_rfl))) (by kernel_rfl) (by kernel_rfl) (by kernel_rfl)

theorem m_laws_FnExactLineCol_ok (N : Nat) (a0 : List UInt8) (a1 : Int) {r : Bool} (h : m_laws_FnExactLineCol N a0 a1 = some r) :
    AC Try.prog GG 5 [V.str a0, V.int a1] [] (V.bool r) [] := by
  rw [m_laws_FnExactLineCol] at h
  refine AC.enter Try.func5 rfl ?_
  refine CodeOk.cutR (tl 32 [(0, V.str a0), (1, V.int a1)]) [] mix (by
      refine W.run D_ok 1 100 (by kernel_rfl) ?_
      exact W.fin (by decide) (by kernel_rfl) (Weak.sel [] [0, 1] (by kernel_rfl) (by kernel_rfl) (by kernel_rfl))
      ) ?_
  refine CodeOk.seq' ?_
  refine CodeOk.cutR (tl 32 [(0, V.str a0), (1, V.int a1), (11, V.bool (decide ((a0.length : Int) > 1048576)))]) [] mix (by
      refine W.run D_ok 3 100 (by kernel_rfl) ?_
      exact W.fin (by decide) (by kernel_rfl) (Weak.sel [] [0, 1, 11] (by kernel_rfl) (by kernel_rfl) (by kernel_rfl))
      ) ?_
  rcases cond_some h with ⟨hc2, h⟩ | ⟨hc2, h⟩
  · refine CodeOk.ifT hc2 (by kernel_rfl) ?_
    refine CodeOk.cutR (tl 32 [(4, V.bool true)]) [] mix (by
        refine W.run D_ok 1 100 (by kernel_rfl) ?_
        exact W.fin (by decide) (by kernel_rfl) (Weak.sel [] [4] (by kernel_rfl) (by kernel_rfl) (by kernel_rfl))
        ) ?_
    refine CodeOk.ret ?_
    have h := Option.some.inj h
    subst h
    exact Ends.gen [] (.inr rfl) (RetV.one rfl (OneR.tmp (t := 4) (r := V.bool true) (by kernel_rfl))) (by kernel_rfl) (by kernel_rfl) (by kernel_rfl)
  · refine CodeOk.ifF hc2 (by kernel_rfl) ?_
    refine CodeOk.skip ?_
    refine CodeOk.weak (st' := ⟨tl 32 [(0, V.str a0), (1, V.int a1), (11, V.bool (decide ((a0.length : Int) > 1048576)))], []⟩) (Weak.refl _) ?_
    obtain ⟨r2, hx4, h⟩ := bind_some h
    refine CodeOk.cutR (tl 32 [(0, V.str a0), (1, V.int a1), (5, V.int r2.1), (6, V.int r2.2)]) [] mix (by
        refine W.run D_ok 2 100 (by kernel_rfl) ?_
        refine W.call0 (m_spec_LineCol_ok N a0 a1 hx4) cok21 rfl (by kernel_rfl) ?_
        refine W.run D_ok 5 100 (by kernel_rfl) ?_
        exact W.fin (by decide) (by kernel_rfl) (Weak.sel [] [0, 1, 5, 6] (by kernel_rfl) (by kernel_rfl) (by kernel_rfl))
        ) ?_
    obtain ⟨r4, hx6, h⟩ := bind_some h
    refine CodeOk.cutR (tl 32 [(5, V.int r2.1), (6, V.int r2.2), (7, V.int r4.1), (8, V.int r4.2)]) [] mix (by
        refine W.run D_ok 2 100 (by kernel_rfl) ?_
        refine W.call0 (m_impl_LineCol_ok N a0 a1 hx6) cok22 rfl (by kernel_rfl) ?_
        refine W.run D_ok 5 100 (by kernel_rfl) ?_
        exact W.fin (by decide) (by kernel_rfl) (Weak.sel [] [5, 6, 7, 8] (by kernel_rfl) (by kernel_rfl) (by kernel_rfl))
        ) ?_
    refine CodeOk.seq' ?_
    obtain ⟨y6, hv12, h⟩ := bind_some h
    refine CodeOk.cutR (tl 32 [(31, V.bool y6)]) [] mix (by
        refine W.run D_ok 4 100 (by kernel_rfl) ?_
        rcases cond_some hv12 with ⟨hc13, hv12⟩ | ⟨hc13, hv12⟩
        · refine W.is 27 hc13 (by kernel_rfl) ?_
          refine W.run D_ok 4 100 (by kernel_rfl) ?_
          have hv12 := Option.some.inj hv12
          subst hv12
          exact W.fin (by decide) (by kernel_rfl) (Weak.sel [] [31] (by kernel_rfl) (by kernel_rfl) (by kernel_rfl))
        · refine W.is 27 hc13 (by kernel_rfl) ?_
          refine W.run D_ok 4 100 (by kernel_rfl) ?_
          have hv12 := Option.some.inj hv12
          subst hv12
          exact W.fin (by decide) (by kernel_rfl) (Weak.sel [] [31] (by kernel_rfl) (by kernel_rfl) (by kernel_rfl))
        ) ?_
    rcases cond_some h with ⟨hc14, h⟩ | ⟨hc14, h⟩
    · refine CodeOk.ifT hc14 (by kernel_rfl) ?_
      refine CodeOk.cutR (tl 32 [(4, V.bool false)]) [] mix (by
          refine W.run D_ok 1 100 (by kernel_rfl) ?_
          exact W.fin (by decide) (by kernel_rfl) (Weak.sel [] [4] (by kernel_rfl) (by kernel_rfl) (by kernel_rfl))
          ) ?_
      refine CodeOk.ret ?_
      have h := Option.some.inj h
      subst h
      exact Ends.gen [] (.inr rfl) (RetV.one rfl (OneR.tmp (t := 4) (r := V.bool false) (by kernel_rfl))) (by kernel_rfl) (by kernel_rfl) (by kernel_rfl)
    · refine CodeOk.ifF hc14 (by kernel_rfl) ?_
      refine CodeOk.skip ?_
      refine CodeOk.weak (st' := ⟨tl 32 [(31, V.bool y6)], []⟩) (Weak.refl _) ?_
      refine CodeOk.cutR (tl 32 [(4, V.bool true)]) [] mix (by
          refine W.run D_ok 1 100 (by kernel_rfl) ?_
          exact W.fin (by decide) (by kernel_rfl) (Weak.sel [] [4] (by kernel_rfl) (by kernel_rfl) (by kernel_rfl))
          ) ?_
      refine CodeOk.ret ?_
      have h := Option.some.inj h
      subst h
      exact Ends.gen [] (.inr rfl) (RetV.one rfl (OneR.tmp (t := 4) (r := V.bool true) (by kernel_rfl))) (by kernel_rfl) (by kernel_rfl) (by kernel_rfl)

theorem m_laws_szDNode_ok (a0 : SDNode) (a1 : Int) {r : Int} (h : m_laws_szDNode a0 a1 = some r) :
    AC Try.prog GG 60 [.agg [V.int a0.Kind, V.int a0.N, V.str a0.Text, .sl false false (a0.Kids.map encI)], V.int a1] [] (V.int r) [] := by
  rw [m_laws_szDNode] at h
  refine AC.enter Try.func60 rfl ?_
  refine CodeOk.cutR (tl 19 [(1, V.int a1), (2, .loc 100 0)]) [(100, .cells 81 [V.int a0.Kind, V.int a0.N, V.str a0.Text, .sl false false (a0.Kids.map encI)])] mix (by
      refine W.run D_ok 2 100 (by kernel_rfl) ?_
      exact W.fin (by decide) (by kernel_rfl) (Weak.sel [(100, 100)] [1, 2] (by kernel_rfl) (by kernel_rfl) (by kernel_rfl))
      ) ?_
  refine CodeOk.cutR (tl 19 [(1, V.int (IntKind.wrap .i64 (a1 - (a0.Text.length : Int)))), (2, .loc 100 0)]) [(100, .cells 81 [V.int a0.Kind, V.int a0.N, V.str a0.Text, .sl false false (a0.Kids.map encI)])] mix (by
      refine W.run D_ok 6 101 (by kernel_rfl) ?_
      exact W.fin (by decide) (by kernel_rfl) (Weak.sel [(100, 100)] [1, 2] (by kernel_rfl) (by kernel_rfl) (by kernel_rfl))
      ) ?_
  refine CodeOk.seq' ?_
  refine CodeOk.cutR (tl 19 [(1, V.int (IntKind.wrap .i64 (a1 - (a0.Text.length : Int)))), (2, .loc 100 0), (11, V.bool (decide ((IntKind.wrap .i64 (a1 - (a0.Text.length : Int))) < 0)))]) [(100, .cells 81 [V.int a0.Kind, V.int a0.N, V.str a0.Text, .sl false false (a0.Kids.map encI)])] mix (by
      refine W.run D_ok 2 101 (by kernel_rfl) ?_
      exact W.fin (by decide) (by kernel_rfl) (Weak.sel [(100, 100)] [1, 2, 11] (by kernel_rfl) (by kernel_rfl) (by kernel_rfl))
      ) ?_
  rcases cond_some h with ⟨hc2, h⟩ | ⟨hc2, h⟩
  · refine CodeOk.ifT hc2 (by kernel_rfl) ?_
    refine CodeOk.cutR (tl 19 [(4, V.int (-1))]) [] mix (by
        refine W.run D_ok 1 101 (by kernel_rfl) ?_
        exact W.fin (by decide) (by kernel_rfl) (Weak.sel [] [4] (by kernel_rfl) (by kernel_rfl) (by kernel_rfl))
        ) ?_
    refine CodeOk.ret ?_
    have h := Option.some.inj h
    subst h
    exact Ends.gen [] (.inr rfl) (RetV.one rfl (OneR.tmp (t := 4) (r := V.int (-1)) (by kernel_rfl))) (by kernel_rfl) (by kernel_rfl) (by kernel_rfl)
  · refine CodeOk.ifF hc2 (by kernel_rfl) ?_
    refine CodeOk.skip ?_
    refine CodeOk.weak (st' := ⟨tl 19 [(1, V.int (IntKind.wrap .i64 (a1 - (a0.Text.length : Int)))), (2, .loc 100 0), (11, V.bool (decide ((IntKind.wrap .i64 (a1 - (a0.Text.length : Int))) < 0)))], [(100, .cells 81 [V.int a0.Kind, V.int a0.N, V.str a0.Text, .sl false false (a0.Kids.map encI)])]⟩) (Weak.refl _) ?_
    obtain ⟨r2, hx4, h⟩ := bind_some h
    refine CodeOk.cutR (tl 19 [(1, V.int r2)]) [] mix (by
        refine W.run D_ok 3 101 (by kernel_rfl) ?_
        refine W.call0 (m_laws_szIntS_ok a0.Kids (IntKind.wrap .i64 (a1 - (a0.Text.length : Int))) hx4) cok43 rfl (by kernel_rfl) ?_
        refine W.run D_ok 1 101 (by kernel_rfl) ?_
        exact W.fin (by decide) (by kernel_rfl) (Weak.sel [] [1] (by kernel_rfl) (by kernel_rfl) (by kernel_rfl))
        ) ?_
    refine CodeOk.seq' ?_
    refine CodeOk.cutR (tl 19 [(1, V.int r2), (17, V.bool (decide (r2 < 0)))]) [] mix (by
        refine W.run D_ok 2 101 (by kernel_rfl) ?_
        exact W.fin (by decide) (by kernel_rfl) (Weak.sel [] [1, 17] (by kernel_rfl) (by kernel_rfl) (by kernel_rfl))
        ) ?_
    rcases cond_some h with ⟨hc6, h⟩ | ⟨hc6, h⟩
    · refine CodeOk.ifT hc6 (by kernel_rfl) ?_
      refine CodeOk.cutR (tl 19 [(4, V.int (-1))]) [] mix (by
          refine W.run D_ok 1 101 (by kernel_rfl) ?_
          exact W.fin (by decide) (by kernel_rfl) (Weak.sel [] [4] (by kernel_rfl) (by kernel_rfl) (by kernel_rfl))
          ) ?_
      refine CodeOk.ret ?_
      have h := Option.some.inj h
      subst h
      exact Ends.gen [] (.inr rfl) (RetV.one rfl (OneR.tmp (t := 4) (r := V.int (-1)) (by kernel_rfl))) (by kernel_rfl) (by kernel_rfl) (by kernel_rfl)
    · refine CodeOk.ifF hc6 (by kernel_rfl) ?_
      refine CodeOk.skip ?_
      refine CodeOk.weak (st' := ⟨tl 19 [(1, V.int r2), (17, V.bool (decide (r2 < 0)))], []⟩) (Weak.refl _) ?_
      refine CodeOk.cutR (tl 19 [(4, V.int r2)]) [] mix (by
          refine W.run D_ok 2 101 (by kernel_rfl) ?_
          exact W.fin (by decide) (by kernel_rfl) (Weak.sel [] [4] (by kernel_rfl) (by kernel_rfl) (by kernel_rfl))
          ) ?_
      refine CodeOk.ret ?_
      have h := Option.some.inj h
      subst h
      exact Ends.gen [] (.inr rfl) (RetV.one rfl (OneR.tmp (t := 4) (r := V.int r2) (by kernel_rfl))) (by kernel_rfl) (by kernel_rfl) (by kernel_rfl)

theorem m_laws_szDNodeS_ok (N : Nat) (a0 : List SDNode) (a1 : Int) {r : Int} (h : m_laws_szDNodeS N a0 a1 = some r) :
    AC Try.prog GG 30 [.sl false false (a0.map (encSDNode false)), V.int a1] [] (V.int r) [] := by
  rw [m_laws_szDNodeS] at h
  refine AC.enter Try.func30 rfl ?_
  refine CodeOk.cutR (tl 27 [(0, .sl false false (a0.map (encSDNode false))), (1, V.int a1)]) [] mix (by
      refine W.run D_ok 1 100 (by kernel_rfl) ?_
      exact W.fin (by decide) (by kernel_rfl) (Weak.sel [] [0, 1] (by kernel_rfl) (by kernel_rfl) (by kernel_rfl))
      ) ?_
  refine CodeOk.cutR (tl 27 [(0, .sl false false (a0.map (encSDNode false))), (1, V.int (IntKind.wrap .i64 (a1 - (a0.length : Int))))]) [] mix (by
      refine W.run D_ok 2 100 (by kernel_rfl) ?_
      refine W.len D_ok (encSDNode false) a0 [] (by kernel_rfl) (by kernel_rfl) ?_
      refine W.run D_ok 2 100 (by kernel_rfl) ?_
      exact W.fin (by decide) (by kernel_rfl) (Weak.sel [] [0, 1] (by kernel_rfl) (by kernel_rfl) (by kernel_rfl))
      ) ?_
  refine CodeOk.seq' ?_
  refine CodeOk.cutR (tl 27 [(0, .sl false false (a0.map (encSDNode false))), (1, V.int (IntKind.wrap .i64 (a1 - (a0.length : Int)))), (11, V.bool (decide ((IntKind.wrap .i64 (a1 - (a0.length : Int))) < 0)))]) [] mix (by
      refine W.run D_ok 2 100 (by kernel_rfl) ?_
      exact W.fin (by decide) (by kernel_rfl) (Weak.sel [] [0, 1, 11] (by kernel_rfl) (by kernel_rfl) (by kernel_rfl))
      ) ?_
  rcases cond_some h with ⟨hc2, h⟩ | ⟨hc2, h⟩
  · refine CodeOk.ifT hc2 (by kernel_rfl) ?_
    refine CodeOk.cutR (tl 27 [(4, V.int (-1))]) [] mix (by
        refine W.run D_ok 1 100 (by kernel_rfl) ?_
        exact W.fin (by decide) (by kernel_rfl) (Weak.sel [] [4] (by kernel_rfl) (by kernel_rfl) (by kernel_rfl))
        ) ?_
    refine CodeOk.ret ?_
    have h := Option.some.inj h
    subst h
    exact Ends.gen [] (.inr rfl) (RetV.one rfl (OneR.tmp (t := 4) (r := V.int (-1)) (by kernel_rfl))) (by kernel_rfl) (by kernel_rfl) (by kernel_rfl)
  · refine CodeOk.ifF hc2 (by kernel_rfl) ?_
    refine CodeOk.skip ?_
    refine CodeOk.weak (st' := ⟨tl 27 [(0, .sl false false (a0.map (encSDNode false))), (1, V.int (IntKind.wrap .i64 (a1 - (a0.length : Int)))), (11, V.bool (decide ((IntKind.wrap .i64 (a1 - (a0.length : Int))) < 0)))], []⟩) (Weak.refl _) ?_
    refine CodeOk.seq' ?_
    refine CodeOk.cutR (tl 27 [(0, .sl false false (a0.map (encSDNode false))), (1, V.int (IntKind.wrap .i64 (a1 - (a0.length : Int)))), (5, V.int 0)]) [] mix (by
        refine W.run D_ok 1 100 (by kernel_rfl) ?_
        exact W.fin (by decide) (by kernel_rfl) (Weak.sel [] [0, 1, 5] (by kernel_rfl) (by kernel_rfl) (by kernel_rfl))
        ) ?_
    refine CodeOk.block' ?_
    refine CodeOk.loopJ (fun (⟨a0, y37, y38⟩ : ((List SDNode) × Int × Int)) => ⟨tl 27 [(0, .sl false false (a0.map (encSDNode false))), (1, V.int y37), (5, V.int y38)], []⟩) (fun n i => m_laws_szDNodeS_l1 N n i = some r) (n0 := N) (i0 := (a0, (IntKind.wrap .i64 (a1 - (a0.length : Int))), 0)) (Weak.sel [] [0, 1, 5] (by kernel_rfl) (by kernel_rfl) (by kernel_rfl)) h (fun i h => by simp [m_laws_szDNodeS_l1] at h) ?_
    rintro n1 ⟨a0, y37, y38⟩ h65 ih66
    rw [m_laws_szDNodeS_l1] at h65
    refine CodeOk.seq' ?_
    refine CodeOk.cutR (tl 27 [(0, .sl false false (a0.map (encSDNode false))), (1, V.int y37), (5, V.int y38), (15, V.bool (decide (y38 < (a0.length : Int))))]) [] mix (by
        refine W.run D_ok 2 160 (by kernel_rfl) ?_
        refine W.len D_ok (encSDNode false) a0 [] (by kernel_rfl) (by kernel_rfl) ?_
        refine W.run D_ok 1 160 (by kernel_rfl) ?_
        exact W.fin (by decide) (by kernel_rfl) (Weak.sel [] [0, 1, 5, 15] (by kernel_rfl) (by kernel_rfl) (by kernel_rfl))
        ) ?_
    rcases cond_some h65 with ⟨hc68, h65⟩ | ⟨hc68, h65⟩
    · refine CodeOk.ifT hc68 (by kernel_rfl) ?_
      refine CodeOk.skip ?_
      refine CodeOk.weak (st' := ⟨tl 27 [(0, .sl false false (a0.map (encSDNode false))), (1, V.int y37), (5, V.int y38), (15, V.bool (decide (y38 < (a0.length : Int))))], []⟩) (Weak.refl _) ?_
      refine CodeOk.seq' ?_
      refine CodeOk.block' ?_
      obtain ⟨e55, hx76, h65⟩ := bind_some h65
      obtain ⟨r56, hx77, h65⟩ := bind_some h65
      refine CodeOk.cutR (tl 27 [(0, .sl false false (a0.map (encSDNode false))), (1, V.int r56), (5, V.int y38)]) [] mix (by
          refine W.run D_ok 2 160 (by kernel_rfl) ?_
          refine W.ixD D_ok (encSDNode false) hx76 4 (by kernel_rfl) (by kernel_rfl) ?_
          refine W.run D_ok 2 160 (by kernel_rfl) ?_
          refine W.call0 (m_laws_szDNode_ok e55 y37 hx77) cok60 rfl (by kernel_rfl) ?_
          refine W.run D_ok 1 160 (by kernel_rfl) ?_
          exact W.fin (by decide) (by kernel_rfl) (Weak.sel [] [0, 1, 5] (by kernel_rfl) (by kernel_rfl) (by kernel_rfl))
          ) ?_
      refine CodeOk.cutR (tl 27 [(0, .sl false false (a0.map (encSDNode false))), (1, V.int r56), (5, V.int y38), (25, V.bool (decide (r56 < 0)))]) [] mix (by
          refine W.run D_ok 2 160 (by kernel_rfl) ?_
          exact W.fin (by decide) (by kernel_rfl) (Weak.sel [] [0, 1, 5, 25] (by kernel_rfl) (by kernel_rfl) (by kernel_rfl))
          ) ?_
      rcases cond_some h65 with ⟨hc78, h65⟩ | ⟨hc78, h65⟩
      · refine CodeOk.ifT hc78 (by kernel_rfl) ?_
        refine CodeOk.cutR (tl 27 [(4, V.int (-1))]) [] mix (by
            refine W.run D_ok 1 160 (by kernel_rfl) ?_
            exact W.fin (by decide) (by kernel_rfl) (Weak.sel [] [4] (by kernel_rfl) (by kernel_rfl) (by kernel_rfl))
            ) ?_
        refine CodeOk.ret ?_
        have h65 := Option.some.inj h65
        subst h65
        exact Ends.gen [] (.inr rfl) (RetV.one rfl (OneR.tmp (t := 4) (r := V.int (-1)) (by kernel_rfl))) (by kernel_rfl) (by kernel_rfl) (by kernel_rfl)
      · refine CodeOk.ifF hc78 (by kernel_rfl) ?_
        refine CodeOk.skip ?_
        refine CodeOk.weak (st' := ⟨tl 27 [(0, .sl false false (a0.map (encSDNode false))), (1, V.int r56), (5, V.int y38), (25, V.bool (decide (r56 < 0)))], []⟩) (Weak.refl _) ?_
        refine CodeOk.endR (tl 27 [(0, .sl false false (a0.map (encSDNode false))), (1, V.int r56), (5, V.int (IntKind.wrap .i64 (y38 + 1)))]) [] mix (by
            refine W.run D_ok 3 160 (by kernel_rfl) ?_
            exact W.fin (by decide) (by kernel_rfl) (Weak.sel [] [0, 1, 5] (by kernel_rfl) (by kernel_rfl) (by kernel_rfl))
            ) (fun st hw => ?_)
        exact ih66 (a0, r56, (IntKind.wrap .i64 (y38 + 1))) h65 _ (hw.trans (Weak.sel [] [0, 1, 5] (by kernel_rfl) (by kernel_rfl) (by kernel_rfl)))
    · refine CodeOk.ifF hc68 (by kernel_rfl) ?_
      refine CodeOk.exit ?_
      refine CodeOk.weak (st' := ⟨tl 27 [(0, .sl false false (a0.map (encSDNode false))), (1, V.int y37), (5, V.int y38), (15, V.bool (decide (y38 < (a0.length : Int))))], []⟩) (Weak.refl _) ?_
      refine CodeOk.cutR (tl 27 [(4, V.int y37)]) [] mix (by
          refine W.run D_ok 2 160 (by kernel_rfl) ?_
          exact W.fin (by decide) (by kernel_rfl) (Weak.sel [] [4] (by kernel_rfl) (by kernel_rfl) (by kernel_rfl))
          ) ?_
      refine CodeOk.ret ?_
      have h65 := Option.some.inj h65
      subst h65
      exact Ends.gen [] (.inr rfl) (RetV.one rfl (OneR.tmp (t := 4) (r := V.int y37) (by kernel_rfl))) (by kernel_rfl) (by kernel_rfl) (by kernel_rfl)

theorem m_laws_toDNode_ok (N : Nat) (a0 : SDNode) {r : SDNode} (h : m_laws_toDNode N a0 = some r) :
    AC Try.prog GG 63 [.agg [V.int a0.Kind, V.int a0.N, V.str a0.Text, .sl false false (a0.Kids.map encI)]] [] (.agg [V.int r.Kind, V.int r.N, V.str r.Text, .own 100]) [(100, .vec false 3 1 (r.Kids.map encI))] := by
  rw [m_laws_toDNode] at h
  refine AC.enter Try.func63 rfl ?_
  refine CodeOk.cutR (tl 18 [(1, .loc 100 0), (2, .loc 101 0)]) [(101, .cells 83 [V.int 0, V.int 0, V.str [], .c (.slice none 0 0)]), (100, .cells 81 [V.int a0.Kind, V.int a0.N, V.str a0.Text, .sl false false (a0.Kids.map encI)])] mix (by
      refine W.run D_ok 2 100 (by kernel_rfl) ?_
      exact W.fin (by decide) (by kernel_rfl) (Weak.sel [(101, 101), (100, 100)] [1, 2] (by kernel_rfl) (by kernel_rfl) (by kernel_rfl))
      ) ?_
  refine CodeOk.cutR (tl 18 [(1, .loc 100 0), (2, .loc 101 0), (3, .loc 102 0)]) [(102, .cells 83 [V.int 0, V.int 0, V.str [], .c (.slice none 0 0)]), (101, .cells 83 [V.int 0, V.int 0, V.str [], .c (.slice none 0 0)]), (100, .cells 81 [V.int a0.Kind, V.int a0.N, V.str a0.Text, .sl false false (a0.Kids.map encI)])] mix (by
      refine W.run D_ok 1 102 (by kernel_rfl) ?_
      exact W.fin (by decide) (by kernel_rfl) (Weak.sel [(102, 102), (101, 101), (100, 100)] [1, 2, 3] (by kernel_rfl) (by kernel_rfl) (by kernel_rfl))
      ) ?_
  refine CodeOk.cutR (tl 18 [(1, .loc 100 0), (2, .loc 101 0), (3, .loc 102 0)]) [(102, .cells 83 [V.int a0.Kind, V.int 0, V.str [], .c (.slice none 0 0)]), (101, .cells 83 [V.int 0, V.int 0, V.str [], .c (.slice none 0 0)]), (100, .cells 81 [V.int a0.Kind, V.int a0.N, V.str a0.Text, .sl false false (a0.Kids.map encI)])] mix (by
      refine W.run D_ok 4 103 (by kernel_rfl) ?_
      exact W.fin (by decide) (by kernel_rfl) (Weak.sel [(102, 102), (101, 101), (100, 100)] [1, 2, 3] (by kernel_rfl) (by kernel_rfl) (by kernel_rfl))
      ) ?_
  refine CodeOk.cutR (tl 18 [(1, .loc 100 0), (2, .loc 101 0), (3, .loc 102 0)]) [(102, .cells 83 [V.int a0.Kind, V.int a0.N, V.str [], .c (.slice none 0 0)]), (101, .cells 83 [V.int 0, V.int 0, V.str [], .c (.slice none 0 0)]), (100, .cells 81 [V.int a0.Kind, V.int a0.N, V.str a0.Text, .sl false false (a0.Kids.map encI)])] mix (by
      refine W.run D_ok 4 103 (by kernel_rfl) ?_
      exact W.fin (by decide) (by kernel_rfl) (Weak.sel [(102, 102), (101, 101), (100, 100)] [1, 2, 3] (by kernel_rfl) (by kernel_rfl) (by kernel_rfl))
      ) ?_
  refine CodeOk.cutR (tl 18 [(1, .loc 100 0), (2, .loc 101 0), (3, .loc 102 0)]) [(102, .cells 83 [V.int a0.Kind, V.int a0.N, V.str a0.Text, .c (.slice none 0 0)]), (101, .cells 83 [V.int 0, V.int 0, V.str [], .c (.slice none 0 0)]), (100, .cells 81 [V.int a0.Kind, V.int a0.N, V.str a0.Text, .sl false false (a0.Kids.map encI)])] mix (by
      refine W.run D_ok 4 103 (by kernel_rfl) ?_
      exact W.fin (by decide) (by kernel_rfl) (Weak.sel [(102, 102), (101, 101), (100, 100)] [1, 2, 3] (by kernel_rfl) (by kernel_rfl) (by kernel_rfl))
      ) ?_
  obtain ⟨r2, hx2, h⟩ := bind_some h
  refine CodeOk.cutR (tl 18 [(2, .loc 101 0), (3, .loc 102 0)]) [(102, .cells 83 [V.int a0.Kind, V.int a0.N, V.str a0.Text, .own 103]), (103, .vec false 3 1 (r2.map encI)), (101, .cells 83 [V.int 0, V.int 0, V.str [], .c (.slice none 0 0)])] mix (by
      refine W.run D_ok 2 103 (by kernel_rfl) ?_
      refine W.call (m_laws_toIntS_ok N a0.Kids hx2) cok44 [] [(100, 103)] [103] (show LayOk _ [] from trivial) (by kernel_rfl) (by kernel_rfl) ?_
      refine W.run D_ok 2 104 (by kernel_rfl) ?_
      exact W.fin (by decide) (by kernel_rfl) (Weak.sel [(102, 102), (103, 103), (101, 101)] [2, 3] (by kernel_rfl) (by kernel_rfl) (by kernel_rfl))
      ) ?_
  refine CodeOk.cutR (tl 18 [(2, .loc 101 0)]) [(101, .cells 83 [V.int a0.Kind, V.int a0.N, V.str a0.Text, .own 103]), (103, .vec false 3 1 (r2.map encI))] mix (by
      refine W.run D_ok 2 104 (by kernel_rfl) ?_
      exact W.fin (by decide) (by kernel_rfl) (Weak.sel [(101, 101), (103, 103)] [2] (by kernel_rfl) (by kernel_rfl) (by kernel_rfl))
      ) ?_
  refine CodeOk.ret ?_
  have h := Option.some.inj h
  subst h
  exact Ends.gen [(103, 100)] (.inr rfl) (RetV.one rfl (OneR.cell D_ok (r := .agg [V.int a0.Kind, V.int a0.N, V.str a0.Text, .own 103]) (i := 101) (ety := 83) (cs := [V.int a0.Kind, V.int a0.N, V.str a0.Text, .own 103]) (by kernel_rfl) (by kernel_rfl) (by kernel_rfl))) (by kernel_rfl) (by kernel_rfl) (by kernel_rfl)

theorem m_laws_toDNodeS_ok (N : Nat) (a0 : List SDNode) {r : (List SDNode)} (h : m_laws_toDNodeS N a0 = some r) :
    AC Try.prog GG 32 [.sl false false (a0.map (encSDNode false))] [] (.own 100) [(100, .vec false 83 4 (r.map (encSDNode true)))] := by
  rw [m_laws_toDNodeS] at h
  refine AC.enter Try.func32 rfl ?_
  refine CodeOk.cutR (tl 23 [(0, .sl false false (a0.map (encSDNode false)))]) [] mix (by
      refine W.run D_ok 1 100 (by kernel_rfl) ?_
      exact W.fin (by decide) (by kernel_rfl) (Weak.sel [] [0] (by kernel_rfl) (by kernel_rfl) (by kernel_rfl))
      ) ?_
  obtain ⟨x2, hx2, h⟩ := bind_some h
  refine CodeOk.cutR (tl 23 [(0, .sl false false (a0.map (encSDNode false))), (3, .own 100)]) [(100, .vec false 83 4 (x2.map (encSDNode true)))] mix (by
      refine W.run D_ok 1 100 (by kernel_rfl) ?_
      refine W.len D_ok (encSDNode false) a0 [] (by kernel_rfl) (by kernel_rfl) ?_
      refine W.mkN D_ok (encSDNode true) 56 hx2 100 83 4 [.int .i64 0, .int .i64 0, .string ⟨#[]⟩, .slice none 0 0] (by kernel_rfl) (by kernel_rfl) ?_
      refine W.run D_ok 1 101 (by kernel_rfl) ?_
      exact W.fin (by decide) (by kernel_rfl) (Weak.sel [(100, 100)] [0, 3] (by kernel_rfl) (by kernel_rfl) (by kernel_rfl))
      ) ?_
  refine CodeOk.seq' ?_
  refine CodeOk.cutR (tl 23 [(0, .sl false false (a0.map (encSDNode false))), (3, .own 100), (4, V.int 0)]) [(100, .vec false 83 4 (x2.map (encSDNode true)))] mix (by
      refine W.run D_ok 1 101 (by kernel_rfl) ?_
      exact W.fin (by decide) (by kernel_rfl) (Weak.sel [(100, 100)] [0, 3, 4] (by kernel_rfl) (by kernel_rfl) (by kernel_rfl))
      ) ?_
  refine CodeOk.block' ?_
  refine CodeOk.loopJ (fun (⟨a0, y71, y72⟩ : ((List SDNode) × Int × (List SDNode))) => ⟨tl 23 [(0, .sl false false (a0.map (encSDNode false))), (3, .own 100), (4, V.int y71)], [(100, .vec false 83 4 (y72.map (encSDNode true)))]⟩) (fun n i => m_laws_toDNodeS_l1 N n i = some r) (n0 := N) (i0 := (a0, 0, x2)) (Weak.sel [(100, 100)] [0, 3, 4] (by kernel_rfl) (by kernel_rfl) (by kernel_rfl)) h (fun i h => by simp [m_laws_toDNodeS_l1] at h) ?_
  rintro n1 ⟨a0, y71, y72⟩ h95 ih96
  rw [m_laws_toDNodeS_l1] at h95
  refine CodeOk.seq' ?_
  refine CodeOk.cutR (tl 23 [(0, .sl false false (a0.map (encSDNode false))), (3, .own 100), (4, V.int y71), (11, V.bool (decide (y71 < (a0.length : Int))))]) [(100, .vec false 83 4 (y72.map (encSDNode true)))] mix (by
      refine W.run D_ok 2 163 (by kernel_rfl) ?_
      refine W.len D_ok (encSDNode false) a0 [] (by kernel_rfl) (by kernel_rfl) ?_
      refine W.run D_ok 1 163 (by kernel_rfl) ?_
      exact W.fin (by decide) (by kernel_rfl) (Weak.sel [(100, 100)] [0, 3, 4, 11] (by kernel_rfl) (by kernel_rfl) (by kernel_rfl))
      ) ?_
  rcases cond_some h95 with ⟨hc98, h95⟩ | ⟨hc98, h95⟩
  · refine CodeOk.ifT hc98 (by kernel_rfl) ?_
    refine CodeOk.skip ?_
    refine CodeOk.weak (st' := ⟨tl 23 [(0, .sl false false (a0.map (encSDNode false))), (3, .own 100), (4, V.int y71), (11, V.bool (decide (y71 < (a0.length : Int))))], [(100, .vec false 83 4 (y72.map (encSDNode true)))]⟩) (Weak.refl _) ?_
    refine CodeOk.seq' ?_
    refine CodeOk.block' ?_
    obtain ⟨e103, hx111, h95⟩ := bind_some h95
    obtain ⟨r104, hx112, h95⟩ := bind_some h95
    obtain ⟨e105, hx113, h95⟩ := bind_some h95
    obtain ⟨x106, hu114, h95⟩ := bind_some h95
    refine CodeOk.endR (tl 23 [(0, .sl false false (a0.map (encSDNode false))), (3, .own 100), (4, V.int y71)]) [(100, .vec false 83 4 (x106.map (encSDNode true)))] mix (by
        refine W.run D_ok 4 163 (by kernel_rfl) ?_
        refine W.ixD D_ok (encSDNode false) hx111 4 (by kernel_rfl) (by kernel_rfl) ?_
        refine W.run D_ok 1 163 (by kernel_rfl) ?_
        refine W.call (m_laws_toDNode_ok N e103 hx112) cok63 [] [(100, 163)] [163] (show LayOk _ [] from trivial) (by kernel_rfl) (by kernel_rfl) ?_
        refine W.ixO D_ok (encSDNode true) hx113 100 4 (by kernel_rfl) ?_
        refine W.stO D_ok (encSDNode true) (x' := r104) hx113 hu114 (j := 100) (nn := false) (ety := 83) (sz := 4) (b := 0) (ys := [V.int r104.Kind, V.int r104.N, V.str r104.Text, .sl false true (r104.Kids.map encI)]) (C := [163]) (R := []) (by kernel_rfl) (by kernel_rfl) ?_
        exact W.fin (by decide) (by kernel_rfl) (Weak.sel [(100, 100)] [0, 3, 4] (by kernel_rfl) (by kernel_rfl) (by kernel_rfl))
        ) (fun st hw => ?_)
    refine CodeOk.weak (st' := ⟨tl 23 [(0, .sl false false (a0.map (encSDNode false))), (3, .own 100), (4, V.int y71)], [(100, .vec false 83 4 (x106.map (encSDNode true)))]⟩) hw ?_
    refine CodeOk.endR (tl 23 [(0, .sl false false (a0.map (encSDNode false))), (3, .own 100), (4, V.int (IntKind.wrap .i64 (y71 + 1)))]) [(100, .vec false 83 4 (x106.map (encSDNode true)))] mix (by
        refine W.run D_ok 3 164 (by kernel_rfl) ?_
        exact W.fin (by decide) (by kernel_rfl) (Weak.sel [(100, 100)] [0, 3, 4] (by kernel_rfl) (by kernel_rfl) (by kernel_rfl))
        ) (fun st hw => ?_)
    exact ih96 (a0, (IntKind.wrap .i64 (y71 + 1)), x106) h95 _ (hw.trans (Weak.sel [(100, 100)] [0, 3, 4] (by kernel_rfl) (by kernel_rfl) (by kernel_rfl)))
  · refine CodeOk.ifF hc98 (by kernel_rfl) ?_
    refine CodeOk.exit ?_
    refine CodeOk.weak (st' := ⟨tl 23 [(0, .sl false false (a0.map (encSDNode false))), (3, .own 100), (4, V.int y71), (11, V.bool (decide (y71 < (a0.length : Int))))], [(100, .vec false 83 4 (y72.map (encSDNode true)))]⟩) (Weak.refl _) ?_
    refine CodeOk.cutR (tl 23 [(2, .own 100)]) [(100, .vec false 83 4 (y72.map (encSDNode true)))] mix (by
        refine W.run D_ok 2 163 (by kernel_rfl) ?_
        exact W.fin (by decide) (by kernel_rfl) (Weak.sel [(100, 100)] [2] (by kernel_rfl) (by kernel_rfl) (by kernel_rfl))
        ) ?_
    refine CodeOk.ret ?_
    have h95 := Option.some.inj h95
    subst h95
    exact Ends.gen [(100, 100)] (.inr rfl) (RetV.one rfl (OneR.tmp (t := 2) (r := .own 100) (by kernel_rfl))) (by kernel_rfl) (by kernel_rfl) (by kernel_rfl)

theorem m_spec_l4Plain_ok (N : Nat) (a0 : List UInt8) {r : Bool} (h : m_spec_l4Plain N a0 = some r) :
    AC Try.prog GG 87 [V.str a0] [] (V.bool r) [] := by
  rw [m_spec_l4Plain] at h
  refine AC.enter Try.func87 rfl ?_
  refine CodeOk.cutR (tl 14 [(0, V.str a0)]) [] mix (by
      refine W.run D_ok 1 100 (by kernel_rfl) ?_
      exact W.fin (by decide) (by kernel_rfl) (Weak.sel [] [0] (by kernel_rfl) (by kernel_rfl) (by kernel_rfl))
      ) ?_
  refine CodeOk.seq' ?_
  refine CodeOk.cutR (tl 14 [(0, V.str a0), (3, V.int 0)]) [] mix (by
      refine W.run D_ok 1 100 (by kernel_rfl) ?_
      exact W.fin (by decide) (by kernel_rfl) (Weak.sel [] [0, 3] (by kernel_rfl) (by kernel_rfl) (by kernel_rfl))
      ) ?_
  refine CodeOk.block' ?_
  refine CodeOk.loopJ (fun (⟨a0, y19⟩ : ((List UInt8) × Int)) => ⟨tl 14 [(0, V.str a0), (3, V.int y19)], []⟩) (fun n i => m_spec_l4Plain_l1 N n i = some r) (n0 := N) (i0 := (a0, 0)) (Weak.sel [] [0, 3] (by kernel_rfl) (by kernel_rfl) (by kernel_rfl)) h (fun i h => by simp [m_spec_l4Plain_l1] at h) ?_
  rintro n1 ⟨a0, y19⟩ h43 ih44
  rw [m_spec_l4Plain_l1] at h43
  refine CodeOk.seq' ?_
  refine CodeOk.cutR (tl 14 [(0, V.str a0), (3, V.int y19), (7, V.bool (decide (y19 < (a0.length : Int))))]) [] mix (by
      refine W.run D_ok 4 160 (by kernel_rfl) ?_
      exact W.fin (by decide) (by kernel_rfl) (Weak.sel [] [0, 3, 7] (by kernel_rfl) (by kernel_rfl) (by kernel_rfl))
      ) ?_
  rcases cond_some h43 with ⟨hc46, h43⟩ | ⟨hc46, h43⟩
  · refine CodeOk.ifT hc46 (by kernel_rfl) ?_
    refine CodeOk.skip ?_
    refine CodeOk.weak (st' := ⟨tl 14 [(0, V.str a0), (3, V.int y19), (7, V.bool (decide (y19 < (a0.length : Int))))], []⟩) (Weak.refl _) ?_
    refine CodeOk.seq' ?_
    refine CodeOk.block' ?_
    obtain ⟨b28, hx51, h43⟩ := bind_some h43
    refine CodeOk.cutR (tl 14 [(0, V.str a0), (3, V.int y19), (13, V.bool (((b28).toNat : Int) == 10))]) [] mix (by
        refine W.run D_ok 2 160 (by kernel_rfl) ?_
        refine W.ixS D_ok hx51 (by kernel_rfl) ?_
        refine W.run D_ok 1 160 (by kernel_rfl) ?_
        exact W.fin (by decide) (by kernel_rfl) (Weak.sel [] [0, 3, 13] (by kernel_rfl) (by kernel_rfl) (by kernel_rfl))
        ) ?_
    rcases cond_some h43 with ⟨hc52, h43⟩ | ⟨hc52, h43⟩
    · refine CodeOk.ifT hc52 (by kernel_rfl) ?_
      refine CodeOk.cutR (tl 14 [(2, V.bool false)]) [] mix (by
          refine W.run D_ok 1 160 (by kernel_rfl) ?_
          exact W.fin (by decide) (by kernel_rfl) (Weak.sel [] [2] (by kernel_rfl) (by kernel_rfl) (by kernel_rfl))
          ) ?_
      refine CodeOk.ret ?_
      have h43 := Option.some.inj h43
      subst h43
      exact Ends.gen [] (.inr rfl) (RetV.one rfl (OneR.tmp (t := 2) (r := V.bool false) (by kernel_rfl))) (by kernel_rfl) (by kernel_rfl) (by kernel_rfl)
    · refine CodeOk.ifF hc52 (by kernel_rfl) ?_
      refine CodeOk.skip ?_
      refine CodeOk.weak (st' := ⟨tl 14 [(0, V.str a0), (3, V.int y19), (13, V.bool (((b28).toNat : Int) == 10))], []⟩) (Weak.refl _) ?_
      refine CodeOk.endR (tl 14 [(0, V.str a0), (3, V.int (IntKind.wrap .i64 (y19 + 1)))]) [] mix (by
          refine W.run D_ok 3 160 (by kernel_rfl) ?_
          exact W.fin (by decide) (by kernel_rfl) (Weak.sel [] [0, 3] (by kernel_rfl) (by kernel_rfl) (by kernel_rfl))
          ) (fun st hw => ?_)
      exact ih44 (a0, (IntKind.wrap .i64 (y19 + 1))) h43 _ (hw.trans (Weak.sel [] [0, 3] (by kernel_rfl) (by kernel_rfl) (by kernel_rfl)))
  · refine CodeOk.ifF hc46 (by kernel_rfl) ?_
    refine CodeOk.exit ?_
    refine CodeOk.weak (st' := ⟨tl 14 [(0, V.str a0), (3, V.int y19), (7, V.bool (decide (y19 < (a0.length : Int))))], []⟩) (Weak.refl _) ?_
    refine CodeOk.cutR (tl 14 [(2, V.bool true)]) [] mix (by
        refine W.run D_ok 1 160 (by kernel_rfl) ?_
        exact W.fin (by decide) (by kernel_rfl) (Weak.sel [] [2] (by kernel_rfl) (by kernel_rfl) (by kernel_rfl))
        ) ?_
    refine CodeOk.ret ?_
    have h43 := Option.some.inj h43
    subst h43
    exact Ends.gen [] (.inr rfl) (RetV.one rfl (OneR.tmp (t := 2) (r := V.bool true) (by kernel_rfl))) (by kernel_rfl) (by kernel_rfl) (by kernel_rfl)

theorem m_spec_l15Node_ok (N : Nat) (a0 : SDNode) {r : Bool} (h : m_spec_l15Node N a0 = some r) :
    AC Try.prog GG 79 [.agg [V.int a0.Kind, V.int a0.N, V.str a0.Text, .sl false false (a0.Kids.map encI)]] [] (V.bool r) [] := by
  rw [m_spec_l15Node] at h
  refine AC.enter Try.func79 rfl ?_
  refine CodeOk.cutR (tl 61 [(1, .loc 100 0)]) [(100, .cells 83 [V.int a0.Kind, V.int a0.N, V.str a0.Text, .sl false false (a0.Kids.map encI)])] mix (by
      refine W.run D_ok 2 100 (by kernel_rfl) ?_
      exact W.fin (by decide) (by kernel_rfl) (Weak.sel [(100, 100)] [1] (by kernel_rfl) (by kernel_rfl) (by kernel_rfl))
      ) ?_
  refine CodeOk.seq' ?_
  obtain ⟨y2, hv15, h⟩ := bind_some h
  refine CodeOk.cutR (tl 61 [(1, .loc 100 0), (20, V.bool y2)]) [(100, .cells 83 [V.int a0.Kind, V.int a0.N, V.str a0.Text, .sl false false (a0.Kids.map encI)])] mix (by
      refine W.run D_ok 4 101 (by kernel_rfl) ?_
      rcases cond_some hv15 with ⟨hc16, hv15⟩ | ⟨hc16, hv15⟩
      · refine W.is 6 hc16 (by kernel_rfl) ?_
        refine W.run D_ok 5 101 (by kernel_rfl) ?_
        rcases cond_some hv15 with ⟨hc17, hv15⟩ | ⟨hc17, hv15⟩
        · refine W.is 11 hc17 (by kernel_rfl) ?_
          refine W.run D_ok 9 101 (by kernel_rfl) ?_
          have hv15 := Option.some.inj hv15
          subst hv15
          exact W.fin (by decide) (by kernel_rfl) (Weak.sel [(100, 100)] [1, 20] (by kernel_rfl) (by kernel_rfl) (by kernel_rfl))
        · refine W.is 11 hc17 (by kernel_rfl) ?_
          refine W.run D_ok 4 101 (by kernel_rfl) ?_
          rcases cond_some hv15 with ⟨hc18, hv15⟩ | ⟨hc18, hv15⟩
          · refine W.is 15 hc18 (by kernel_rfl) ?_
            refine W.run D_ok 5 101 (by kernel_rfl) ?_
            have hv15 := Option.some.inj hv15
            subst hv15
            exact W.fin (by decide) (by kernel_rfl) (Weak.sel [(100, 100)] [1, 20] (by kernel_rfl) (by kernel_rfl) (by kernel_rfl))
          · refine W.is 15 hc18 (by kernel_rfl) ?_
            refine W.run D_ok 5 101 (by kernel_rfl) ?_
            have hv15 := Option.some.inj hv15
            subst hv15
            exact W.fin (by decide) (by kernel_rfl) (Weak.sel [(100, 100)] [1, 20] (by kernel_rfl) (by kernel_rfl) (by kernel_rfl))
      · refine W.is 6 hc16 (by kernel_rfl) ?_
        refine W.run D_ok 9 101 (by kernel_rfl) ?_
        rcases cond_some hv15 with ⟨hc19, hv15⟩ | ⟨hc19, hv15⟩
        · refine W.is 15 hc19 (by kernel_rfl) ?_
          refine W.run D_ok 5 101 (by kernel_rfl) ?_
          have hv15 := Option.some.inj hv15
          subst hv15
          exact W.fin (by decide) (by kernel_rfl) (Weak.sel [(100, 100)] [1, 20] (by kernel_rfl) (by kernel_rfl) (by kernel_rfl))
        · refine W.is 15 hc19 (by kernel_rfl) ?_
          refine W.run D_ok 5 101 (by kernel_rfl) ?_
          have hv15 := Option.some.inj hv15
          subst hv15
          exact W.fin (by decide) (by kernel_rfl) (Weak.sel [(100, 100)] [1, 20] (by kernel_rfl) (by kernel_rfl) (by kernel_rfl))
      ) ?_
  rcases cond_some h with ⟨hc20, h⟩ | ⟨hc20, h⟩
  · refine CodeOk.ifT hc20 (by kernel_rfl) ?_
    refine CodeOk.cutR (tl 61 [(2, V.bool false)]) [] mix (by
        refine W.run D_ok 1 101 (by kernel_rfl) ?_
        exact W.fin (by decide) (by kernel_rfl) (Weak.sel [] [2] (by kernel_rfl) (by kernel_rfl) (by kernel_rfl))
        ) ?_
    refine CodeOk.ret ?_
    have h := Option.some.inj h
    subst h
    exact Ends.gen [] (.inr rfl) (RetV.one rfl (OneR.tmp (t := 2) (r := V.bool false) (by kernel_rfl))) (by kernel_rfl) (by kernel_rfl) (by kernel_rfl)
  · refine CodeOk.ifF hc20 (by kernel_rfl) ?_
    refine CodeOk.skip ?_
    refine CodeOk.weak (st' := ⟨tl 61 [(1, .loc 100 0), (20, V.bool y2)], [(100, .cells 83 [V.int a0.Kind, V.int a0.N, V.str a0.Text, .sl false false (a0.Kids.map encI)])]⟩) (Weak.refl _) ?_
    refine CodeOk.seq' ?_
    refine CodeOk.cutR (tl 61 [(1, .loc 100 0), (22, V.int a0.Kind)]) [(100, .cells 83 [V.int a0.Kind, V.int a0.N, V.str a0.Text, .sl false false (a0.Kids.map encI)])] mix (by
        refine W.run D_ok 2 101 (by kernel_rfl) ?_
        exact W.fin (by decide) (by kernel_rfl) (Weak.sel [(100, 100)] [1, 22] (by kernel_rfl) (by kernel_rfl) (by kernel_rfl))
        ) ?_
    refine CodeOk.block' ?_
    refine CodeOk.cutR (tl 61 [(1, .loc 100 0), (22, V.int a0.Kind), (23, V.bool (a0.Kind == 1))]) [(100, .cells 83 [V.int a0.Kind, V.int a0.N, V.str a0.Text, .sl false false (a0.Kids.map encI)])] mix (by
        refine W.run D_ok 2 101 (by kernel_rfl) ?_
        exact W.fin (by decide) (by kernel_rfl) (Weak.sel [(100, 100)] [1, 22, 23] (by kernel_rfl) (by kernel_rfl) (by kernel_rfl))
        ) ?_
    rcases cond_some h with ⟨hc39, h⟩ | ⟨hc39, h⟩
    · refine CodeOk.ifT hc39 (by kernel_rfl) ?_
      obtain ⟨y11, hv42, h⟩ := bind_some h
      refine CodeOk.cutR (tl 61 [(2, V.bool y11)]) [] mix (by
          refine W.run D_ok 2 101 (by kernel_rfl) ?_
          obtain ⟨r12, hx43, hv42⟩ := bind_some hv42
          refine W.call0 (m_spec_l4Plain_ok N a0.Text hx43) cok87 rfl (by kernel_rfl) ?_
          refine W.run D_ok 1 101 (by kernel_rfl) ?_
          rcases cond_some hv42 with ⟨hc44, hv42⟩ | ⟨hc44, hv42⟩
          · refine W.is 28 hc44 (by kernel_rfl) ?_
            refine W.run D_ok 2 101 (by kernel_rfl) ?_
            refine W.len D_ok encI a0.Kids [] (by kernel_rfl) (by kernel_rfl) ?_
            refine W.run D_ok 3 101 (by kernel_rfl) ?_
            have hv42 := Option.some.inj hv42
            subst hv42
            exact W.fin (by decide) (by kernel_rfl) (Weak.sel [] [2] (by kernel_rfl) (by kernel_rfl) (by kernel_rfl))
          · refine W.is 28 hc44 (by kernel_rfl) ?_
            refine W.run D_ok 6 101 (by kernel_rfl) ?_
            have hv42 := Option.some.inj hv42
            subst hv42
            exact W.fin (by decide) (by kernel_rfl) (Weak.sel [] [2] (by kernel_rfl) (by kernel_rfl) (by kernel_rfl))
          ) ?_
      refine CodeOk.ret ?_
      have h := Option.some.inj h
      subst h
      exact Ends.gen [] (.inr rfl) (RetV.one rfl (OneR.tmp (t := 2) (r := V.bool y11) (by kernel_rfl))) (by kernel_rfl) (by kernel_rfl) (by kernel_rfl)
    · refine CodeOk.ifF hc39 (by kernel_rfl) ?_
      refine CodeOk.join (fun (⟨a0, y13⟩ : (SDNode × Bool)) => ⟨tl 61 [(1, .loc 100 0), (22, V.int a0.Kind), (34, V.bool y13)], [(100, .cells 83 [V.int a0.Kind, V.int a0.N, V.str a0.Text, .sl false false (a0.Kids.map encI)])]⟩) (fun i => m_spec_l15Node_k1 N i = some r) ?_ ?_
      · rintro ⟨a0, y13⟩ h46
        rw [m_spec_l15Node_k1] at h46
        rcases cond_some h46 with ⟨hc47, h46⟩ | ⟨hc47, h46⟩
        · refine CodeOk.ifT hc47 (by kernel_rfl) ?_
          refine CodeOk.cutR (tl 61 [(2, V.bool ((a0.Kids.length : Int) == 0))]) [] mix (by
              refine W.run D_ok 2 101 (by kernel_rfl) ?_
              refine W.len D_ok encI a0.Kids [] (by kernel_rfl) (by kernel_rfl) ?_
              refine W.run D_ok 2 101 (by kernel_rfl) ?_
              exact W.fin (by decide) (by kernel_rfl) (Weak.sel [] [2] (by kernel_rfl) (by kernel_rfl) (by kernel_rfl))
              ) ?_
          refine CodeOk.ret ?_
          have h46 := Option.some.inj h46
          subst h46
          exact Ends.gen [] (.inr rfl) (RetV.one rfl (OneR.tmp (t := 2) (r := V.bool ((a0.Kids.length : Int) == 0)) (by kernel_rfl))) (by kernel_rfl) (by kernel_rfl) (by kernel_rfl)
        · refine CodeOk.ifF hc47 (by kernel_rfl) ?_
          refine CodeOk.cutR (tl 61 [(1, .loc 100 0), (22, V.int a0.Kind), (41, V.bool (a0.Kind == 4))]) [(100, .cells 83 [V.int a0.Kind, V.int a0.N, V.str a0.Text, .sl false false (a0.Kids.map encI)])] mix (by
              refine W.run D_ok 2 101 (by kernel_rfl) ?_
              exact W.fin (by decide) (by kernel_rfl) (Weak.sel [(100, 100)] [1, 22, 41] (by kernel_rfl) (by kernel_rfl) (by kernel_rfl))
              ) ?_
          rcases cond_some h46 with ⟨hc48, h46⟩ | ⟨hc48, h46⟩
          · refine CodeOk.ifT hc48 (by kernel_rfl) ?_
            obtain ⟨y15, hv51, h46⟩ := bind_some h46
            refine CodeOk.cutR (tl 61 [(2, V.bool y15)]) [] mix (by
                refine W.run D_ok 2 101 (by kernel_rfl) ?_
                obtain ⟨r16, hx52, hv51⟩ := bind_some hv51
                refine W.call0 (m_spec_l1In_ok a0.N 0 40 hx52) cok46 rfl (by kernel_rfl) ?_
                refine W.run D_ok 1 101 (by kernel_rfl) ?_
                rcases cond_some hv51 with ⟨hc53, hv51⟩ | ⟨hc53, hv51⟩
                · refine W.is 46 hc53 (by kernel_rfl) ?_
                  refine W.run D_ok 2 101 (by kernel_rfl) ?_
                  refine W.len D_ok encI a0.Kids [] (by kernel_rfl) (by kernel_rfl) ?_
                  refine W.run D_ok 3 101 (by kernel_rfl) ?_
                  have hv51 := Option.some.inj hv51
                  subst hv51
                  exact W.fin (by decide) (by kernel_rfl) (Weak.sel [] [2] (by kernel_rfl) (by kernel_rfl) (by kernel_rfl))
                · refine W.is 46 hc53 (by kernel_rfl) ?_
                  refine W.run D_ok 6 101 (by kernel_rfl) ?_
                  have hv51 := Option.some.inj hv51
                  subst hv51
                  exact W.fin (by decide) (by kernel_rfl) (Weak.sel [] [2] (by kernel_rfl) (by kernel_rfl) (by kernel_rfl))
                ) ?_
            refine CodeOk.ret ?_
            have h46 := Option.some.inj h46
            subst h46
            exact Ends.gen [] (.inr rfl) (RetV.one rfl (OneR.tmp (t := 2) (r := V.bool y15) (by kernel_rfl))) (by kernel_rfl) (by kernel_rfl) (by kernel_rfl)
          · refine CodeOk.ifF hc48 (by kernel_rfl) ?_
            refine CodeOk.cutR (tl 61 [(1, .loc 100 0), (52, V.bool (a0.Kind == 5))]) [(100, .cells 83 [V.int a0.Kind, V.int a0.N, V.str a0.Text, .sl false false (a0.Kids.map encI)])] mix (by
                refine W.run D_ok 2 101 (by kernel_rfl) ?_
                exact W.fin (by decide) (by kernel_rfl) (Weak.sel [(100, 100)] [1, 52] (by kernel_rfl) (by kernel_rfl) (by kernel_rfl))
                ) ?_
            rcases cond_some h46 with ⟨hc54, h46⟩ | ⟨hc54, h46⟩
            · refine CodeOk.ifT hc54 (by kernel_rfl) ?_
              refine CodeOk.cutR (tl 61 [(2, V.bool ((a0.Kids.length : Int) == 1))]) [] mix (by
                  refine W.run D_ok 2 101 (by kernel_rfl) ?_
                  refine W.len D_ok encI a0.Kids [] (by kernel_rfl) (by kernel_rfl) ?_
                  refine W.run D_ok 2 101 (by kernel_rfl) ?_
                  exact W.fin (by decide) (by kernel_rfl) (Weak.sel [] [2] (by kernel_rfl) (by kernel_rfl) (by kernel_rfl))
                  ) ?_
              refine CodeOk.ret ?_
              have h46 := Option.some.inj h46
              subst h46
              exact Ends.gen [] (.inr rfl) (RetV.one rfl (OneR.tmp (t := 2) (r := V.bool ((a0.Kids.length : Int) == 1)) (by kernel_rfl))) (by kernel_rfl) (by kernel_rfl) (by kernel_rfl)
            · refine CodeOk.ifF hc54 (by kernel_rfl) ?_
              refine CodeOk.skip ?_
              refine CodeOk.weak (st' := ⟨tl 61 [(1, .loc 100 0), (52, V.bool (a0.Kind == 5))], [(100, .cells 83 [V.int a0.Kind, V.int a0.N, V.str a0.Text, .sl false false (a0.Kids.map encI)])]⟩) (Weak.refl _) ?_
              refine CodeOk.cutR (tl 61 [(2, V.bool (a0.Kind == 6))]) [] mix (by
                  refine W.run D_ok 4 101 (by kernel_rfl) ?_
                  exact W.fin (by decide) (by kernel_rfl) (Weak.sel [] [2] (by kernel_rfl) (by kernel_rfl) (by kernel_rfl))
                  ) ?_
              refine CodeOk.ret ?_
              have h46 := Option.some.inj h46
              subst h46
              exact Ends.gen [] (.inr rfl) (RetV.one rfl (OneR.tmp (t := 2) (r := V.bool (a0.Kind == 6)) (by kernel_rfl))) (by kernel_rfl) (by kernel_rfl) (by kernel_rfl)
      intro hk55
      refine CodeOk.cutR (tl 61 [(1, .loc 100 0), (22, V.int a0.Kind), (34, V.bool (a0.Kind == 2))]) [(100, .cells 83 [V.int a0.Kind, V.int a0.N, V.str a0.Text, .sl false false (a0.Kids.map encI)])] mix (by
          refine W.run D_ok 2 101 (by kernel_rfl) ?_
          exact W.fin (by decide) (by kernel_rfl) (Weak.sel [(100, 100)] [1, 22, 34] (by kernel_rfl) (by kernel_rfl) (by kernel_rfl))
          ) ?_
      rcases cond_some h with ⟨hc56, h⟩ | ⟨hc56, h⟩
      · refine CodeOk.ifT hc56 (by kernel_rfl) ?_
        refine CodeOk.skip ?_
        exact hk55 (a0, (a0.Kind == 2)) h _ (Weak.sel [(100, 100)] [1, 22, 34] (by kernel_rfl) (by kernel_rfl) (by kernel_rfl))
      · refine CodeOk.ifF hc56 (by kernel_rfl) ?_
        refine CodeOk.endR (tl 61 [(1, .loc 100 0), (22, V.int a0.Kind), (34, V.bool (a0.Kind == 3))]) [(100, .cells 83 [V.int a0.Kind, V.int a0.N, V.str a0.Text, .sl false false (a0.Kids.map encI)])] mix (by
            refine W.run D_ok 2 101 (by kernel_rfl) ?_
            exact W.fin (by decide) (by kernel_rfl) (Weak.sel [(100, 100)] [1, 22, 34] (by kernel_rfl) (by kernel_rfl) (by kernel_rfl))
            ) (fun st hw => ?_)
        exact hk55 (a0, (a0.Kind == 3)) h _ (hw.trans (Weak.sel [(100, 100)] [1, 22, 34] (by kernel_rfl) (by kernel_rfl) (by kernel_rfl)))

theorem m_spec_l15Starts_ok (N : Nat) (a0 : List SDNode) {r : ((List Int) × Bool)} (h : m_spec_l15Starts N a0 = some r) :
    AC Try.prog GG 80 [.sl false false (a0.map (encSDNode false))] [] (.tup [.own 100, V.bool r.2]) [(100, .vec false 3 1 (r.1.map encI))] := by
  rw [m_spec_l15Starts] at h
  refine AC.enter Try.func80 rfl ?_
  refine CodeOk.cutR (tl 53 [(0, .sl false false (a0.map (encSDNode false)))]) [] mix (by
      refine W.run D_ok 2 100 (by kernel_rfl) ?_
      exact W.fin (by decide) (by kernel_rfl) (Weak.sel [] [0] (by kernel_rfl) (by kernel_rfl) (by kernel_rfl))
      ) ?_
  refine CodeOk.cutR (tl 53 [(0, .sl false false (a0.map (encSDNode false))), (4, .own 100)]) [(100, .vec false 3 1 ([].map encI))] mix (by
      refine W.run D_ok 2 100 (by kernel_rfl) ?_
      exact W.fin (by decide) (by kernel_rfl) (Weak.sel [(100, 100)] [0, 4] (by kernel_rfl) (by kernel_rfl) (by kernel_rfl))
      ) ?_
  refine CodeOk.seq' ?_
  refine CodeOk.cutR (tl 53 [(0, .sl false false (a0.map (encSDNode false))), (4, .own 100), (5, V.int 0)]) [(100, .vec false 3 1 ([].map encI))] mix (by
      refine W.run D_ok 1 101 (by kernel_rfl) ?_
      exact W.fin (by decide) (by kernel_rfl) (Weak.sel [(100, 100)] [0, 4, 5] (by kernel_rfl) (by kernel_rfl) (by kernel_rfl))
      ) ?_
  refine CodeOk.block' ?_
  refine CodeOk.loopJ (fun (⟨a0, y917, y918⟩ : ((List SDNode) × Int × (List Int))) => ⟨tl 53 [(0, .sl false false (a0.map (encSDNode false))), (4, .own 100), (5, V.int y917)], [(100, .vec false 3 1 (y918.map encI))]⟩) (fun n i => m_spec_l15Starts_l1 N n i = some r) (n0 := N) (i0 := (a0, 0, [])) (Weak.sel [(100, 100)] [0, 4, 5] (by kernel_rfl) (by kernel_rfl) (by kernel_rfl)) h (fun i h => by simp [m_spec_l15Starts_l1] at h) ?_
  rintro n1 ⟨a0, y917, y918⟩ h1961 ih1962
  rw [m_spec_l15Starts_l1] at h1961
  refine CodeOk.seq' ?_
  refine CodeOk.cutR (tl 53 [(0, .sl false false (a0.map (encSDNode false))), (4, .own 100), (5, V.int y917), (12, V.bool (decide (y917 < (a0.length : Int))))]) [(100, .vec false 3 1 (y918.map encI))] mix (by
      refine W.run D_ok 2 245 (by kernel_rfl) ?_
      refine W.len D_ok (encSDNode false) a0 [] (by kernel_rfl) (by kernel_rfl) ?_
      refine W.run D_ok 1 245 (by kernel_rfl) ?_
      exact W.fin (by decide) (by kernel_rfl) (Weak.sel [(100, 100)] [0, 4, 5, 12] (by kernel_rfl) (by kernel_rfl) (by kernel_rfl))
      ) ?_
  rcases cond_some h1961 with ⟨hc1964, h1961⟩ | ⟨hc1964, h1961⟩
  · refine CodeOk.ifT hc1964 (by kernel_rfl) ?_
    refine CodeOk.skip ?_
    refine CodeOk.weak (st' := ⟨tl 53 [(0, .sl false false (a0.map (encSDNode false))), (4, .own 100), (5, V.int y917), (12, V.bool (decide (y917 < (a0.length : Int))))], [(100, .vec false 3 1 (y918.map encI))]⟩) (Weak.refl _) ?_
    refine CodeOk.seq' ?_
    refine CodeOk.block' ?_
    refine CodeOk.cutR (tl 53 [(0, .sl false false (a0.map (encSDNode false))), (4, .own 100), (5, V.int y917), (6, V.int y917)]) [(100, .vec false 3 1 (y918.map encI))] mix (by
        refine W.run D_ok 2 245 (by kernel_rfl) ?_
        exact W.fin (by decide) (by kernel_rfl) (Weak.sel [(100, 100)] [0, 4, 5, 6] (by kernel_rfl) (by kernel_rfl) (by kernel_rfl))
        ) ?_
    refine CodeOk.seq' ?_
    obtain ⟨e1474, hx2322, h1961⟩ := bind_some h1961
    refine CodeOk.cutR (tl 53 [(0, .sl false false (a0.map (encSDNode false))), (4, .own 100), (5, V.int y917), (6, V.int y917), (7, V.int (IntKind.wrap .i64 ((e1474.Kids.length : Int) - 1)))]) [(100, .vec false 3 1 (y918.map encI))] mix (by
        refine W.run D_ok 2 245 (by kernel_rfl) ?_
        refine W.ixD D_ok (encSDNode false) hx2322 4 (by kernel_rfl) (by kernel_rfl) ?_
        refine W.run D_ok 2 245 (by kernel_rfl) ?_
        refine W.len D_ok encI e1474.Kids [] (by kernel_rfl) (by kernel_rfl) ?_
        refine W.run D_ok 2 245 (by kernel_rfl) ?_
        exact W.fin (by decide) (by kernel_rfl) (Weak.sel [(100, 100)] [0, 4, 5, 6, 7] (by kernel_rfl) (by kernel_rfl) (by kernel_rfl))
        ) ?_
    refine CodeOk.block' ?_
    refine CodeOk.loopJ (fun (⟨a0, y917, y918, y1499, y1500⟩ : ((List SDNode) × Int × (List Int) × Int × Int)) => ⟨tl 53 [(0, .sl false false (a0.map (encSDNode false))), (4, .own 100), (5, V.int y917), (6, V.int y1499), (7, V.int y1500)], [(100, .vec false 3 1 (y918.map encI))]⟩) (fun n i => m_spec_l15Starts_l2 N (m_spec_l15Starts_l1 N n1) n i = some r) (n0 := N) (i0 := (a0, y917, y918, y917, (IntKind.wrap .i64 ((e1474.Kids.length : Int) - 1)))) (Weak.sel [(100, 100)] [0, 4, 5, 6, 7] (by kernel_rfl) (by kernel_rfl) (by kernel_rfl)) h1961 (fun i h => by simp [m_spec_l15Starts_l2] at h) ?_
    rintro n2 ⟨a0, y917, y918, y1499, y1500⟩ h2399 ih2400
    rw [m_spec_l15Starts_l2] at h2399
    refine CodeOk.seq' ?_
    refine CodeOk.cutR (tl 53 [(0, .sl false false (a0.map (encSDNode false))), (4, .own 100), (5, V.int y917), (6, V.int y1499), (7, V.int y1500), (24, V.bool (decide (y1500 ≥ 0)))]) [(100, .vec false 3 1 (y918.map encI))] mix (by
        refine W.run D_ok 2 305 (by kernel_rfl) ?_
        exact W.fin (by decide) (by kernel_rfl) (Weak.sel [(100, 100)] [0, 4, 5, 6, 7, 24] (by kernel_rfl) (by kernel_rfl) (by kernel_rfl))
        ) ?_
    rcases cond_some h2399 with ⟨hc2402, h2399⟩ | ⟨hc2402, h2399⟩
    · refine CodeOk.ifT hc2402 (by kernel_rfl) ?_
      refine CodeOk.skip ?_
      refine CodeOk.weak (st' := ⟨tl 53 [(0, .sl false false (a0.map (encSDNode false))), (4, .own 100), (5, V.int y917), (6, V.int y1499), (7, V.int y1500), (24, V.bool (decide (y1500 ≥ 0)))], [(100, .vec false 3 1 (y918.map encI))]⟩) (Weak.refl _) ?_
      refine CodeOk.seq' ?_
      refine CodeOk.block' ?_
      refine CodeOk.seq' ?_
      obtain ⟨y1546, hv2432, h2399⟩ := bind_some h2399
      refine CodeOk.cutR (tl 53 [(0, .sl false false (a0.map (encSDNode false))), (4, .own 100), (5, V.int y917), (6, V.int y1499), (7, V.int y1500), (41, V.bool y1546)]) [(100, .vec false 3 1 (y918.map encI))] mix (by
          refine W.run D_ok 2 305 (by kernel_rfl) ?_
          obtain ⟨e1547, hx2433, hv2432⟩ := bind_some hv2432
          refine W.ixD D_ok (encSDNode false) hx2433 4 (by kernel_rfl) (by kernel_rfl) ?_
          refine W.run D_ok 3 305 (by kernel_rfl) ?_
          obtain ⟨e1548, hx2434, hv2432⟩ := bind_some hv2432
          refine W.ixD D_ok encI hx2434 1 (by kernel_rfl) (by kernel_rfl) ?_
          refine W.run D_ok 5 305 (by kernel_rfl) ?_
          rcases cond_some hv2432 with ⟨hc2435, hv2432⟩ | ⟨hc2435, hv2432⟩
          · refine W.is 38 hc2435 (by kernel_rfl) ?_
            refine W.run D_ok 3 305 (by kernel_rfl) ?_
            have hv2432 := Option.some.inj hv2432
            subst hv2432
            exact W.fin (by decide) (by kernel_rfl) (Weak.sel [(100, 100)] [0, 4, 5, 6, 7, 41] (by kernel_rfl) (by kernel_rfl) (by kernel_rfl))
          · refine W.is 38 hc2435 (by kernel_rfl) ?_
            refine W.run D_ok 3 305 (by kernel_rfl) ?_
            have hv2432 := Option.some.inj hv2432
            subst hv2432
            exact W.fin (by decide) (by kernel_rfl) (Weak.sel [(100, 100)] [0, 4, 5, 6, 7, 41] (by kernel_rfl) (by kernel_rfl) (by kernel_rfl))
          ) ?_
      rcases cond_some h2399 with ⟨hc2436, h2399⟩ | ⟨hc2436, h2399⟩
      · refine CodeOk.ifT hc2436 (by kernel_rfl) ?_
        refine CodeOk.cutR (tl 53 [(2, .own 305), (3, V.bool false)]) [(305, .vec false 3 1 ([].map encI))] mix (by
            refine W.run D_ok 3 305 (by kernel_rfl) ?_
            exact W.fin (by decide) (by kernel_rfl) (Weak.sel [(305, 305)] [2, 3] (by kernel_rfl) (by kernel_rfl) (by kernel_rfl))
            ) ?_
        refine CodeOk.ret ?_
        have h2399 := Option.some.inj h2399
        subst h2399
        exact Ends.gen [(305, 100)] (.inr rfl) (RetV.two rfl (OneR.tmp (t := 2) (r := .own 305) (by kernel_rfl)) (OneR.tmp (t := 3) (r := V.bool false) (by kernel_rfl))) (by kernel_rfl) (by kernel_rfl) (by kernel_rfl)
      · refine CodeOk.ifF hc2436 (by kernel_rfl) ?_
        refine CodeOk.skip ?_
        refine CodeOk.weak (st' := ⟨tl 53 [(0, .sl false false (a0.map (encSDNode false))), (4, .own 100), (5, V.int y917), (6, V.int y1499), (7, V.int y1500), (41, V.bool y1546)], [(100, .vec false 3 1 (y918.map encI))]⟩) (Weak.refl _) ?_
        obtain ⟨e1550, hx2438, h2399⟩ := bind_some h2399
        refine CodeOk.endR (tl 53 [(0, .sl false false (a0.map (encSDNode false))), (4, .own 100), (5, V.int y917), (6, V.int e1550), (7, V.int y1500)]) [(100, .vec false 3 1 (y918.map encI))] mix (by
            refine W.run D_ok 3 305 (by kernel_rfl) ?_
            refine W.ixO D_ok encI hx2438 100 1 (by kernel_rfl) ?_
            refine W.ldO D_ok encI hx2438 3 100 0 (V.int e1550) (by kernel_rfl) (by kernel_rfl) ?_
            refine W.run D_ok 1 305 (by kernel_rfl) ?_
            exact W.fin (by decide) (by kernel_rfl) (Weak.sel [(100, 100)] [0, 4, 5, 6, 7] (by kernel_rfl) (by kernel_rfl) (by kernel_rfl))
            ) (fun st hw => ?_)
        refine CodeOk.weak (st' := ⟨tl 53 [(0, .sl false false (a0.map (encSDNode false))), (4, .own 100), (5, V.int y917), (6, V.int e1550), (7, V.int y1500)], [(100, .vec false 3 1 (y918.map encI))]⟩) hw ?_
        refine CodeOk.endR (tl 53 [(0, .sl false false (a0.map (encSDNode false))), (4, .own 100), (5, V.int y917), (6, V.int e1550), (7, V.int (IntKind.wrap .i64 (y1500 - 1)))]) [(100, .vec false 3 1 (y918.map encI))] mix (by
            refine W.run D_ok 3 305 (by kernel_rfl) ?_
            exact W.fin (by decide) (by kernel_rfl) (Weak.sel [(100, 100)] [0, 4, 5, 6, 7] (by kernel_rfl) (by kernel_rfl) (by kernel_rfl))
            ) (fun st hw => ?_)
        exact ih2400 (a0, y917, y918, e1550, (IntKind.wrap .i64 (y1500 - 1))) h2399 _ (hw.trans (Weak.sel [(100, 100)] [0, 4, 5, 6, 7] (by kernel_rfl) (by kernel_rfl) (by kernel_rfl)))
    · refine CodeOk.ifF hc2402 (by kernel_rfl) ?_
      refine CodeOk.exit ?_
      refine CodeOk.weak (st' := ⟨tl 53 [(0, .sl false false (a0.map (encSDNode false))), (4, .own 100), (5, V.int y917), (6, V.int y1499), (7, V.int y1500), (24, V.bool (decide (y1500 ≥ 0)))], [(100, .vec false 3 1 (y918.map encI))]⟩) (Weak.refl _) ?_
      obtain ⟨x1552, hx2440, h2399⟩ := bind_some h2399
      refine CodeOk.endR (tl 53 [(0, .sl false false (a0.map (encSDNode false))), (4, .own 306), (5, V.int y917)]) [(306, .vec false 3 1 (x1552.map encI))] mix (by
          refine W.run D_ok 3 305 (by kernel_rfl) ?_
          refine W.appO D_ok encI (a := 100) (c := 305) (el := 3) (sz := 1) 8 hx2440 rfl 306 (by kernel_rfl) ?_
          refine W.run D_ok 1 307 (by kernel_rfl) ?_
          exact W.fin (by decide) (by kernel_rfl) (Weak.sel [(306, 306)] [0, 4, 5] (by kernel_rfl) (by kernel_rfl) (by kernel_rfl))
          ) (fun st hw => ?_)
      refine CodeOk.weak (st' := ⟨tl 53 [(0, .sl false false (a0.map (encSDNode false))), (4, .own 306), (5, V.int y917)], [(306, .vec false 3 1 (x1552.map encI))]⟩) hw ?_
      refine CodeOk.endR (tl 53 [(0, .sl false false (a0.map (encSDNode false))), (4, .own 306), (5, V.int (IntKind.wrap .i64 (y917 + 1)))]) [(306, .vec false 3 1 (x1552.map encI))] mix (by
          refine W.run D_ok 3 307 (by kernel_rfl) ?_
          exact W.fin (by decide) (by kernel_rfl) (Weak.sel [(306, 306)] [0, 4, 5] (by kernel_rfl) (by kernel_rfl) (by kernel_rfl))
          ) (fun st hw => ?_)
      exact ih1962 (a0, (IntKind.wrap .i64 (y917 + 1)), x1552) h2399 _ (hw.trans (Weak.sel [(306, 100)] [0, 4, 5] (by kernel_rfl) (by kernel_rfl) (by kernel_rfl)))
  · refine CodeOk.ifF hc1964 (by kernel_rfl) ?_
    refine CodeOk.exit ?_
    refine CodeOk.weak (st' := ⟨tl 53 [(0, .sl false false (a0.map (encSDNode false))), (4, .own 100), (5, V.int y917), (12, V.bool (decide (y917 < (a0.length : Int))))], [(100, .vec false 3 1 (y918.map encI))]⟩) (Weak.refl _) ?_
    refine CodeOk.cutR (tl 53 [(2, .own 100), (3, V.bool true)]) [(100, .vec false 3 1 (y918.map encI))] mix (by
        refine W.run D_ok 3 245 (by kernel_rfl) ?_
        exact W.fin (by decide) (by kernel_rfl) (Weak.sel [(100, 100)] [2, 3] (by kernel_rfl) (by kernel_rfl) (by kernel_rfl))
        ) ?_
    refine CodeOk.ret ?_
    have h1961 := Option.some.inj h1961
    subst h1961
    exact Ends.gen [(100, 100)] (.inr rfl) (RetV.two rfl (OneR.tmp (t := 2) (r := .own 100) (by kernel_rfl)) (OneR.tmp (t := 3) (r := V.bool true) (by kernel_rfl))) (by kernel_rfl) (by kernel_rfl) (by kernel_rfl)

theorem m_spec_DocOk_ok (N : Nat) (a0 : List SDNode) {r : Bool} (h : m_spec_DocOk N a0 = some r) :
    AC Try.prog GG 61 [.sl false false (a0.map (encSDNode false))] [] (V.bool r) [] := by
  rw [m_spec_DocOk] at h
  refine AC.enter Try.func61 rfl ?_
  refine CodeOk.cutR (tl 37 [(0, .sl false false (a0.map (encSDNode false)))]) [] mix (by
      refine W.run D_ok 1 100 (by kernel_rfl) ?_
      exact W.fin (by decide) (by kernel_rfl) (Weak.sel [] [0] (by kernel_rfl) (by kernel_rfl) (by kernel_rfl))
      ) ?_
  refine CodeOk.seq' ?_
  obtain ⟨r4, hx5, h⟩ := bind_some h
  refine CodeOk.cutR (tl 37 [(0, .sl false false (a0.map (encSDNode false))), (9, V.bool (!r4))]) [] mix (by
      refine W.run D_ok 1 100 (by kernel_rfl) ?_
      refine W.len D_ok (encSDNode false) a0 [] (by kernel_rfl) (by kernel_rfl) ?_
      refine W.call0 (m_spec_l1In_ok (a0.length : Int) 1 4000 hx5) cok46 rfl (by kernel_rfl) ?_
      refine W.run D_ok 1 100 (by kernel_rfl) ?_
      exact W.fin (by decide) (by kernel_rfl) (Weak.sel [] [0, 9] (by kernel_rfl) (by kernel_rfl) (by kernel_rfl))
      ) ?_
  rcases cond_some h with ⟨hc6, h⟩ | ⟨hc6, h⟩
  · refine CodeOk.ifT hc6 (by kernel_rfl) ?_
    refine CodeOk.cutR (tl 37 [(2, V.bool false)]) [] mix (by
        refine W.run D_ok 1 100 (by kernel_rfl) ?_
        exact W.fin (by decide) (by kernel_rfl) (Weak.sel [] [2] (by kernel_rfl) (by kernel_rfl) (by kernel_rfl))
        ) ?_
    refine CodeOk.ret ?_
    have h := Option.some.inj h
    subst h
    exact Ends.gen [] (.inr rfl) (RetV.one rfl (OneR.tmp (t := 2) (r := V.bool false) (by kernel_rfl))) (by kernel_rfl) (by kernel_rfl) (by kernel_rfl)
  · refine CodeOk.ifF hc6 (by kernel_rfl) ?_
    refine CodeOk.skip ?_
    refine CodeOk.weak (st' := ⟨tl 37 [(0, .sl false false (a0.map (encSDNode false))), (9, V.bool (!r4))], []⟩) (Weak.refl _) ?_
    refine CodeOk.seq' ?_
    refine CodeOk.cutR (tl 37 [(0, .sl false false (a0.map (encSDNode false))), (3, V.int 0)]) [] mix (by
        refine W.run D_ok 1 100 (by kernel_rfl) ?_
        exact W.fin (by decide) (by kernel_rfl) (Weak.sel [] [0, 3] (by kernel_rfl) (by kernel_rfl) (by kernel_rfl))
        ) ?_
    refine CodeOk.block' ?_
    refine CodeOk.loopJ (fun (⟨a0, y39⟩ : ((List SDNode) × Int)) => ⟨tl 37 [(0, .sl false false (a0.map (encSDNode false))), (3, V.int y39)], []⟩) (fun n i => m_spec_DocOk_l1 N n i = some r) (n0 := N) (i0 := (a0, 0)) (Weak.sel [] [0, 3] (by kernel_rfl) (by kernel_rfl) (by kernel_rfl)) h (fun i h => by simp [m_spec_DocOk_l1] at h) ?_
    rintro n1 ⟨a0, y39⟩ h69 ih70
    rw [m_spec_DocOk_l1] at h69
    refine CodeOk.seq' ?_
    refine CodeOk.cutR (tl 37 [(0, .sl false false (a0.map (encSDNode false))), (3, V.int y39), (13, V.bool (decide (y39 < (a0.length : Int))))]) [] mix (by
        refine W.run D_ok 2 160 (by kernel_rfl) ?_
        refine W.len D_ok (encSDNode false) a0 [] (by kernel_rfl) (by kernel_rfl) ?_
        refine W.run D_ok 1 160 (by kernel_rfl) ?_
        exact W.fin (by decide) (by kernel_rfl) (Weak.sel [] [0, 3, 13] (by kernel_rfl) (by kernel_rfl) (by kernel_rfl))
        ) ?_
    rcases cond_some h69 with ⟨hc72, h69⟩ | ⟨hc72, h69⟩
    · refine CodeOk.ifT hc72 (by kernel_rfl) ?_
      refine CodeOk.skip ?_
      refine CodeOk.weak (st' := ⟨tl 37 [(0, .sl false false (a0.map (encSDNode false))), (3, V.int y39), (13, V.bool (decide (y39 < (a0.length : Int))))], []⟩) (Weak.refl _) ?_
      refine CodeOk.seq' ?_
      refine CodeOk.block' ?_
      obtain ⟨e55, hx80, h69⟩ := bind_some h69
      obtain ⟨r56, hx81, h69⟩ := bind_some h69
      refine CodeOk.cutR (tl 37 [(0, .sl false false (a0.map (encSDNode false))), (3, V.int y39), (21, V.bool (!r56))]) [] mix (by
          refine W.run D_ok 2 160 (by kernel_rfl) ?_
          refine W.ixD D_ok (encSDNode false) hx80 4 (by kernel_rfl) (by kernel_rfl) ?_
          refine W.run D_ok 1 160 (by kernel_rfl) ?_
          refine W.call0 (m_spec_l15Node_ok N e55 hx81) cok79 rfl (by kernel_rfl) ?_
          refine W.run D_ok 1 160 (by kernel_rfl) ?_
          exact W.fin (by decide) (by kernel_rfl) (Weak.sel [] [0, 3, 21] (by kernel_rfl) (by kernel_rfl) (by kernel_rfl))
          ) ?_
      rcases cond_some h69 with ⟨hc82, h69⟩ | ⟨hc82, h69⟩
      · refine CodeOk.ifT hc82 (by kernel_rfl) ?_
        refine CodeOk.cutR (tl 37 [(2, V.bool false)]) [] mix (by
            refine W.run D_ok 1 160 (by kernel_rfl) ?_
            exact W.fin (by decide) (by kernel_rfl) (Weak.sel [] [2] (by kernel_rfl) (by kernel_rfl) (by kernel_rfl))
            ) ?_
        refine CodeOk.ret ?_
        have h69 := Option.some.inj h69
        subst h69
        exact Ends.gen [] (.inr rfl) (RetV.one rfl (OneR.tmp (t := 2) (r := V.bool false) (by kernel_rfl))) (by kernel_rfl) (by kernel_rfl) (by kernel_rfl)
      · refine CodeOk.ifF hc82 (by kernel_rfl) ?_
        refine CodeOk.skip ?_
        refine CodeOk.weak (st' := ⟨tl 37 [(0, .sl false false (a0.map (encSDNode false))), (3, V.int y39), (21, V.bool (!r56))], []⟩) (Weak.refl _) ?_
        refine CodeOk.endR (tl 37 [(0, .sl false false (a0.map (encSDNode false))), (3, V.int (IntKind.wrap .i64 (y39 + 1)))]) [] mix (by
            refine W.run D_ok 3 160 (by kernel_rfl) ?_
            exact W.fin (by decide) (by kernel_rfl) (Weak.sel [] [0, 3] (by kernel_rfl) (by kernel_rfl) (by kernel_rfl))
            ) (fun st hw => ?_)
        exact ih70 (a0, (IntKind.wrap .i64 (y39 + 1))) h69 _ (hw.trans (Weak.sel [] [0, 3] (by kernel_rfl) (by kernel_rfl) (by kernel_rfl)))
    · refine CodeOk.ifF hc72 (by kernel_rfl) ?_
      refine CodeOk.exit ?_
      refine CodeOk.weak (st' := ⟨tl 37 [(0, .sl false false (a0.map (encSDNode false))), (3, V.int y39), (13, V.bool (decide (y39 < (a0.length : Int))))], []⟩) (Weak.refl _) ?_
      obtain ⟨r58, hx84, h69⟩ := bind_some h69
      refine CodeOk.cutR (tl 37 [(0, .sl false false (a0.map (encSDNode false))), (4, .own 160), (5, V.bool r58.2)]) [(160, .vec false 3 1 (r58.1.map encI))] mix (by
          refine W.run D_ok 1 160 (by kernel_rfl) ?_
          refine W.call (m_spec_l15Starts_ok N a0 hx84) cok80 [] [(100, 160)] [160] (show LayOk _ [] from trivial) (by kernel_rfl) (by kernel_rfl) ?_
          refine W.run D_ok 5 161 (by kernel_rfl) ?_
          exact W.fin (by decide) (by kernel_rfl) (Weak.sel [(160, 160)] [0, 4, 5] (by kernel_rfl) (by kernel_rfl) (by kernel_rfl))
          ) ?_
      obtain ⟨y60, hv87, h69⟩ := bind_some h69
      refine CodeOk.cutR (tl 37 [(2, V.bool y60)]) [] mix (by
          refine W.run D_ok 2 161 (by kernel_rfl) ?_
          rcases cond_some hv87 with ⟨hc88, hv87⟩ | ⟨hc88, hv87⟩
          · refine W.is 28 hc88 (by kernel_rfl) ?_
            refine W.run D_ok 2 161 (by kernel_rfl) ?_
            refine W.len D_ok (encSDNode false) a0 [] (by kernel_rfl) (by kernel_rfl) ?_
            refine W.run D_ok 1 161 (by kernel_rfl) ?_
            obtain ⟨e61, hx89, hv87⟩ := bind_some hv87
            refine W.ixO D_ok encI hx89 160 1 (by kernel_rfl) ?_
            refine W.ldO D_ok encI hx89 3 160 0 (V.int e61) (by kernel_rfl) (by kernel_rfl) ?_
            refine W.run D_ok 3 161 (by kernel_rfl) ?_
            have hv87 := Option.some.inj hv87
            subst hv87
            exact W.fin (by decide) (by kernel_rfl) (Weak.sel [] [2] (by kernel_rfl) (by kernel_rfl) (by kernel_rfl))
          · refine W.is 28 hc88 (by kernel_rfl) ?_
            refine W.run D_ok 9 161 (by kernel_rfl) ?_
            have hv87 := Option.some.inj hv87
            subst hv87
            exact W.fin (by decide) (by kernel_rfl) (Weak.sel [] [2] (by kernel_rfl) (by kernel_rfl) (by kernel_rfl))
          ) ?_
      refine CodeOk.ret ?_
      have h69 := Option.some.inj h69
      subst h69
      exact Ends.gen [] (.inr rfl) (RetV.one rfl (OneR.tmp (t := 2) (r := V.bool y60) (by kernel_rfl))) (by kernel_rfl) (by kernel_rfl) (by kernel_rfl)

theorem m_spec_l15Shift_ok (N : Nat) (a0 : List SDNode) (a1 : Int) {r : (List SDNode)} (h : m_spec_l15Shift N a0 a1 = some r) :
    AC Try.prog GG 62 [.sl false false (a0.map (encSDNode false)), V.int a1] [] (.own 100) [(100, .vec false 83 4 (r.map (encSDNode true)))] := by
  rw [m_spec_l15Shift] at h
  refine AC.enter Try.func62 rfl ?_
  refine CodeOk.cutR (tl 52 [(0, .sl false false (a0.map (encSDNode false))), (1, V.int a1)]) [] mix (by
      refine W.run D_ok 1 100 (by kernel_rfl) ?_
      exact W.fin (by decide) (by kernel_rfl) (Weak.sel [] [0, 1] (by kernel_rfl) (by kernel_rfl) (by kernel_rfl))
      ) ?_
  refine CodeOk.cutR (tl 52 [(0, .sl false false (a0.map (encSDNode false))), (1, V.int a1), (5, .own 100)]) [(100, .vec false 83 4 ([].map (encSDNode true)))] mix (by
      refine W.run D_ok 2 100 (by kernel_rfl) ?_
      exact W.fin (by decide) (by kernel_rfl) (Weak.sel [(100, 100)] [0, 1, 5] (by kernel_rfl) (by kernel_rfl) (by kernel_rfl))
      ) ?_
  refine CodeOk.seq' ?_
  refine CodeOk.cutR (tl 52 [(0, .sl false false (a0.map (encSDNode false))), (1, V.int a1), (5, .own 100), (6, V.int 0)]) [(100, .vec false 83 4 ([].map (encSDNode true)))] mix (by
      refine W.run D_ok 1 101 (by kernel_rfl) ?_
      exact W.fin (by decide) (by kernel_rfl) (Weak.sel [(100, 100)] [0, 1, 5, 6] (by kernel_rfl) (by kernel_rfl) (by kernel_rfl))
      ) ?_
  refine CodeOk.block' ?_
  refine CodeOk.loopJ (fun (⟨a0, a1, y869, y870⟩ : ((List SDNode) × Int × Int × (List SDNode))) => ⟨tl 52 [(0, .sl false false (a0.map (encSDNode false))), (1, V.int a1), (5, .own 100), (6, V.int y869)], [(100, .vec false 83 4 (y870.map (encSDNode true)))]⟩) (fun n i => m_spec_l15Shift_l1 N n i = some r) (n0 := N) (i0 := (a0, a1, 0, [])) (Weak.sel [(100, 100)] [0, 1, 5, 6] (by kernel_rfl) (by kernel_rfl) (by kernel_rfl)) h (fun i h => by simp [m_spec_l15Shift_l1] at h) ?_
  rintro n1 ⟨a0, a1, y869, y870⟩ h1173 ih1174
  rw [m_spec_l15Shift_l1] at h1173
  refine CodeOk.seq' ?_
  refine CodeOk.cutR (tl 52 [(0, .sl false false (a0.map (encSDNode false))), (1, V.int a1), (5, .own 100), (6, V.int y869), (13, V.bool (decide (y869 < (a0.length : Int))))]) [(100, .vec false 83 4 (y870.map (encSDNode true)))] mix (by
      refine W.run D_ok 2 297 (by kernel_rfl) ?_
      refine W.len D_ok (encSDNode false) a0 [] (by kernel_rfl) (by kernel_rfl) ?_
      refine W.run D_ok 1 297 (by kernel_rfl) ?_
      exact W.fin (by decide) (by kernel_rfl) (Weak.sel [(100, 100)] [0, 1, 5, 6, 13] (by kernel_rfl) (by kernel_rfl) (by kernel_rfl))
      ) ?_
  rcases cond_some h1173 with ⟨hc1176, h1173⟩ | ⟨hc1176, h1173⟩
  · refine CodeOk.ifT hc1176 (by kernel_rfl) ?_
    refine CodeOk.skip ?_
    refine CodeOk.weak (st' := ⟨tl 52 [(0, .sl false false (a0.map (encSDNode false))), (1, V.int a1), (5, .own 100), (6, V.int y869), (13, V.bool (decide (y869 < (a0.length : Int))))], [(100, .vec false 83 4 (y870.map (encSDNode true)))]⟩) (Weak.refl _) ?_
    refine CodeOk.seq' ?_
    refine CodeOk.block' ?_
    obtain ⟨e1198, hx1294, h1173⟩ := bind_some h1173
    refine CodeOk.cutR (tl 52 [(0, .sl false false (a0.map (encSDNode false))), (1, V.int a1), (5, .own 100), (6, V.int y869), (7, .loc 297 0)]) [(297, .cells 83 [V.int e1198.Kind, V.int e1198.N, V.str e1198.Text, .sl false false (e1198.Kids.map encI)]), (100, .vec false 83 4 (y870.map (encSDNode true)))] mix (by
        refine W.run D_ok 2 297 (by kernel_rfl) ?_
        refine W.ixD D_ok (encSDNode false) hx1294 4 (by kernel_rfl) (by kernel_rfl) ?_
        refine W.run D_ok 3 297 (by kernel_rfl) ?_
        exact W.fin (by decide) (by kernel_rfl) (Weak.sel [(297, 297), (100, 100)] [0, 1, 5, 6, 7] (by kernel_rfl) (by kernel_rfl) (by kernel_rfl))
        ) ?_
    refine CodeOk.cutR (tl 52 [(0, .sl false false (a0.map (encSDNode false))), (1, V.int a1), (5, .own 100), (6, V.int y869), (7, .loc 297 0)]) [(297, .cells 83 [V.int e1198.Kind, V.int e1198.N, V.str e1198.Text, .own 298]), (298, .vec false 3 1 ([].map encI)), (100, .vec false 83 4 (y870.map (encSDNode true)))] mix (by
        refine W.run D_ok 3 298 (by kernel_rfl) ?_
        exact W.fin (by decide) (by kernel_rfl) (Weak.sel [(297, 297), (298, 298), (100, 100)] [0, 1, 5, 6, 7] (by kernel_rfl) (by kernel_rfl) (by kernel_rfl))
        ) ?_
    refine CodeOk.seq' ?_
    refine CodeOk.cutR (tl 52 [(0, .sl false false (a0.map (encSDNode false))), (1, V.int a1), (5, .own 100), (6, V.int y869), (7, .loc 297 0), (8, V.int 0)]) [(297, .cells 83 [V.int e1198.Kind, V.int e1198.N, V.str e1198.Text, .own 298]), (298, .vec false 3 1 ([].map encI)), (100, .vec false 83 4 (y870.map (encSDNode true)))] mix (by
        refine W.run D_ok 1 299 (by kernel_rfl) ?_
        exact W.fin (by decide) (by kernel_rfl) (Weak.sel [(297, 297), (298, 298), (100, 100)] [0, 1, 5, 6, 7, 8] (by kernel_rfl) (by kernel_rfl) (by kernel_rfl))
        ) ?_
    refine CodeOk.block' ?_
    refine CodeOk.loopJ (fun (⟨a0, a1, y869, y870, e1198, y1267, y1268⟩ : ((List SDNode) × Int × Int × (List SDNode) × SDNode × Int × (List Int))) => ⟨tl 52 [(0, .sl false false (a0.map (encSDNode false))), (1, V.int a1), (5, .own 100), (6, V.int y869), (7, .loc 101 0), (8, V.int y1267)], [(100, .vec false 83 4 (y870.map (encSDNode true))), (101, .cells 83 [V.int e1198.Kind, V.int e1198.N, V.str e1198.Text, .own 102]), (102, .vec false 3 1 (y1268.map encI))]⟩) (fun n i => m_spec_l15Shift_l2 N (m_spec_l15Shift_l1 N n1) n i = some r) (n0 := N) (i0 := (a0, a1, y869, y870, e1198, 0, [])) (Weak.sel [(100, 100), (297, 101), (298, 102)] [0, 1, 5, 6, 7, 8] (by kernel_rfl) (by kernel_rfl) (by kernel_rfl)) h1173 (fun i h => by simp [m_spec_l15Shift_l2] at h) ?_
    rintro n2 ⟨a0, a1, y869, y870, e1198, y1267, y1268⟩ h1387 ih1388
    rw [m_spec_l15Shift_l2] at h1387
    refine CodeOk.seq' ?_
    obtain ⟨e1290, hx1393, h1387⟩ := bind_some h1387
    refine CodeOk.cutR (tl 52 [(0, .sl false false (a0.map (encSDNode false))), (1, V.int a1), (5, .own 100), (6, V.int y869), (7, .loc 101 0), (8, V.int y1267), (29, V.bool (decide (y1267 < (e1290.Kids.length : Int))))]) [(100, .vec false 83 4 (y870.map (encSDNode true))), (101, .cells 83 [V.int e1198.Kind, V.int e1198.N, V.str e1198.Text, .own 102]), (102, .vec false 3 1 (y1268.map encI))] mix (by
        refine W.run D_ok 3 363 (by kernel_rfl) ?_
        refine W.ixD D_ok (encSDNode false) hx1393 4 (by kernel_rfl) (by kernel_rfl) ?_
        refine W.run D_ok 2 363 (by kernel_rfl) ?_
        refine W.len D_ok encI e1290.Kids [] (by kernel_rfl) (by kernel_rfl) ?_
        refine W.run D_ok 1 363 (by kernel_rfl) ?_
        exact W.fin (by decide) (by kernel_rfl) (Weak.sel [(100, 100), (101, 101), (102, 102)] [0, 1, 5, 6, 7, 8, 29] (by kernel_rfl) (by kernel_rfl) (by kernel_rfl))
        ) ?_
    rcases cond_some h1387 with ⟨hc1394, h1387⟩ | ⟨hc1394, h1387⟩
    · refine CodeOk.ifT hc1394 (by kernel_rfl) ?_
      refine CodeOk.skip ?_
      refine CodeOk.weak (st' := ⟨tl 52 [(0, .sl false false (a0.map (encSDNode false))), (1, V.int a1), (5, .own 100), (6, V.int y869), (7, .loc 101 0), (8, V.int y1267), (29, V.bool (decide (y1267 < (e1290.Kids.length : Int))))], [(100, .vec false 83 4 (y870.map (encSDNode true))), (101, .cells 83 [V.int e1198.Kind, V.int e1198.N, V.str e1198.Text, .own 102]), (102, .vec false 3 1 (y1268.map encI))]⟩) (Weak.refl _) ?_
      refine CodeOk.seq' ?_
      refine CodeOk.block' ?_
      obtain ⟨e1300, hx1404, h1387⟩ := bind_some h1387
      obtain ⟨e1301, hx1405, h1387⟩ := bind_some h1387
      obtain ⟨x1302, hx1406, h1387⟩ := bind_some h1387
      refine CodeOk.endR (tl 52 [(0, .sl false false (a0.map (encSDNode false))), (1, V.int a1), (5, .own 100), (6, V.int y869), (7, .loc 101 0), (8, V.int y1267)]) [(101, .cells 83 [V.int e1198.Kind, V.int e1198.N, V.str e1198.Text, .own 364]), (364, .vec false 3 1 (x1302.map encI)), (100, .vec false 83 4 (y870.map (encSDNode true)))] mix (by
          refine W.run D_ok 4 363 (by kernel_rfl) ?_
          refine W.ixD D_ok (encSDNode false) hx1404 4 (by kernel_rfl) (by kernel_rfl) ?_
          refine W.run D_ok 3 363 (by kernel_rfl) ?_
          refine W.ixD D_ok encI hx1405 1 (by kernel_rfl) (by kernel_rfl) ?_
          refine W.run D_ok 4 363 (by kernel_rfl) ?_
          refine W.appO D_ok encI (a := 102) (c := 363) (el := 3) (sz := 1) 8 hx1406 rfl 364 (by kernel_rfl) ?_
          refine W.run D_ok 2 365 (by kernel_rfl) ?_
          exact W.fin (by decide) (by kernel_rfl) (Weak.sel [(101, 101), (364, 364), (100, 100)] [0, 1, 5, 6, 7, 8] (by kernel_rfl) (by kernel_rfl) (by kernel_rfl))
          ) (fun st hw => ?_)
      refine CodeOk.weak (st' := ⟨tl 52 [(0, .sl false false (a0.map (encSDNode false))), (1, V.int a1), (5, .own 100), (6, V.int y869), (7, .loc 101 0), (8, V.int y1267)], [(101, .cells 83 [V.int e1198.Kind, V.int e1198.N, V.str e1198.Text, .own 364]), (364, .vec false 3 1 (x1302.map encI)), (100, .vec false 83 4 (y870.map (encSDNode true)))]⟩) hw ?_
      refine CodeOk.endR (tl 52 [(0, .sl false false (a0.map (encSDNode false))), (1, V.int a1), (5, .own 100), (6, V.int y869), (7, .loc 101 0), (8, V.int (IntKind.wrap .i64 (y1267 + 1)))]) [(101, .cells 83 [V.int e1198.Kind, V.int e1198.N, V.str e1198.Text, .own 364]), (364, .vec false 3 1 (x1302.map encI)), (100, .vec false 83 4 (y870.map (encSDNode true)))] mix (by
          refine W.run D_ok 3 365 (by kernel_rfl) ?_
          exact W.fin (by decide) (by kernel_rfl) (Weak.sel [(101, 101), (364, 364), (100, 100)] [0, 1, 5, 6, 7, 8] (by kernel_rfl) (by kernel_rfl) (by kernel_rfl))
          ) (fun st hw => ?_)
      exact ih1388 (a0, a1, y869, y870, e1198, (IntKind.wrap .i64 (y1267 + 1)), x1302) h1387 _ (hw.trans (Weak.sel [(100, 100), (101, 101), (364, 102)] [0, 1, 5, 6, 7, 8] (by kernel_rfl) (by kernel_rfl) (by kernel_rfl)))
    · refine CodeOk.ifF hc1394 (by kernel_rfl) ?_
      refine CodeOk.exit ?_
      refine CodeOk.weak (st' := ⟨tl 52 [(0, .sl false false (a0.map (encSDNode false))), (1, V.int a1), (5, .own 100), (6, V.int y869), (7, .loc 101 0), (8, V.int y1267), (29, V.bool (decide (y1267 < (e1290.Kids.length : Int))))], [(100, .vec false 83 4 (y870.map (encSDNode true))), (101, .cells 83 [V.int e1198.Kind, V.int e1198.N, V.str e1198.Text, .own 102]), (102, .vec false 3 1 (y1268.map encI))]⟩) (Weak.refl _) ?_
      obtain ⟨x1304, hx1408, h1387⟩ := bind_some h1387
      refine CodeOk.endR (tl 52 [(0, .sl false false (a0.map (encSDNode false))), (1, V.int a1), (5, .own 364), (6, V.int y869)]) [(364, .vec false 83 4 (x1304.map (encSDNode true)))] mix (by
          refine W.run D_ok 3 363 (by kernel_rfl) ?_
          refine W.appO D_ok (encSDNode true) (a := 100) (c := 363) (el := 83) (sz := 4) 56 hx1408 rfl 364 (by kernel_rfl) ?_
          refine W.run D_ok 1 365 (by kernel_rfl) ?_
          exact W.fin (by decide) (by kernel_rfl) (Weak.sel [(364, 364)] [0, 1, 5, 6] (by kernel_rfl) (by kernel_rfl) (by kernel_rfl))
          ) (fun st hw => ?_)
      refine CodeOk.weak (st' := ⟨tl 52 [(0, .sl false false (a0.map (encSDNode false))), (1, V.int a1), (5, .own 364), (6, V.int y869)], [(364, .vec false 83 4 (x1304.map (encSDNode true)))]⟩) hw ?_
      refine CodeOk.endR (tl 52 [(0, .sl false false (a0.map (encSDNode false))), (1, V.int a1), (5, .own 364), (6, V.int (IntKind.wrap .i64 (y869 + 1)))]) [(364, .vec false 83 4 (x1304.map (encSDNode true)))] mix (by
          refine W.run D_ok 3 365 (by kernel_rfl) ?_
          exact W.fin (by decide) (by kernel_rfl) (Weak.sel [(364, 364)] [0, 1, 5, 6] (by kernel_rfl) (by kernel_rfl) (by kernel_rfl))
          ) (fun st hw => ?_)
      exact ih1174 (a0, a1, (IntKind.wrap .i64 (y869 + 1)), x1304) h1387 _ (hw.trans (Weak.sel [(364, 100)] [0, 1, 5, 6] (by kernel_rfl) (by kernel_rfl) (by kernel_rfl)))
  · refine CodeOk.ifF hc1176 (by kernel_rfl) ?_
    refine CodeOk.exit ?_
    refine CodeOk.weak (st' := ⟨tl 52 [(0, .sl false false (a0.map (encSDNode false))), (1, V.int a1), (5, .own 100), (6, V.int y869), (13, V.bool (decide (y869 < (a0.length : Int))))], [(100, .vec false 83 4 (y870.map (encSDNode true)))]⟩) (Weak.refl _) ?_
    refine CodeOk.cutR (tl 52 [(4, .own 100)]) [(100, .vec false 83 4 (y870.map (encSDNode true)))] mix (by
        refine W.run D_ok 2 297 (by kernel_rfl) ?_
        exact W.fin (by decide) (by kernel_rfl) (Weak.sel [(100, 100)] [4] (by kernel_rfl) (by kernel_rfl) (by kernel_rfl))
        ) ?_
    refine CodeOk.ret ?_
    have h1173 := Option.some.inj h1173
    subst h1173
    exact Ends.gen [(100, 100)] (.inr rfl) (RetV.one rfl (OneR.tmp (t := 4) (r := .own 100) (by kernel_rfl))) (by kernel_rfl) (by kernel_rfl) (by kernel_rfl)

end Go.Proofs.Try
