/-
  The walks that show that the code computes the models, part 1.
-/
import Derived.Test.YtllanibkffnogaaM1
import Derived.Shelf.Spec.SlicesInsertGrow
import Derived.Laws.CopyRow
namespace Go.Proofs.Try
open Go.Av
set_option maxRecDepth 100000
set_option maxHeartbeats 8000000
set_option linter.unusedSimpArgs false
set_option linter.unusedVariables false

open Go.Lib Go.RowKit
theorem cok4 : callOk Try.prog 4 := fun _ _ => Try.call4 _ _
theorem cok7 : callOk Try.prog 7 := fun _ _ => Try.call7 _ _
theorem cok10 : callOk Try.prog 10 := fun _ _ => Try.call10 _ _
theorem cok11 : callOk Try.prog 11 := fun _ _ => Try.call11 _ _
theorem cok12 : callOk Try.prog 12 := fun _ _ => Try.call12 _ _
theorem cok13 : callOk Try.prog 13 := fun _ _ => Try.call13 _ _
theorem cok14 : callOk Try.prog 14 := fun _ _ => Try.call14 _ _
theorem cok15 : callOk Try.prog 15 := fun _ _ => Try.call15 _ _
theorem cok21 : callOk Try.prog 21 := fun _ _ => Try.call21 _ _
theorem cok22 : callOk Try.prog 22 := fun _ _ => Try.call22 _ _
theorem cok23 : callOk Try.prog 23 := fun _ _ => Try.call23 _ _
theorem cok24 : callOk Try.prog 24 := fun _ _ => Try.call24 _ _
theorem cok25 : callOk Try.prog 25 := fun _ _ => Try.call25 _ _
theorem cok26 : callOk Try.prog 26 := fun _ _ => Try.call26 _ _
theorem cok27 : callOk Try.prog 27 := fun _ _ => Try.call27 _ _
theorem cok28 : callOk Try.prog 28 := fun _ _ => Try.call28 _ _
theorem cok29 : callOk Try.prog 29 := fun _ _ => Try.call29 _ _
theorem cok30 : callOk Try.prog 30 := fun _ _ => Try.call30 _ _

theorem m_laws_szBind_ok (a0 : SBind) (a1 : Int) {r : Int} (h : m_laws_szBind a0 a1 = some r) :
    AC Try.prog GG 27 [.agg [V.str a0.Name, V.int a0.Val], V.int a1] [] (V.int r) [] := by
 rw [m_laws_szBind] at h
 refine AC.enter Try.func27 rfl ?_
 refine cu D_ok mix 2 100 (tl 13 [(1, V.int a1), (2, .loc 100 0)]) [(100, .cells 50 [V.str a0.Name, V.int a0.Val])] (by kernel_rfl) ?_
 refine cu D_ok mix 6 101 (tl 13 [(1, V.int (IntKind.wrap .i64 (a1 - (a0.Name.length : Int))))]) [] (by kernel_rfl) ?_
 refine CodeOk.seq' ?_
 refine cu D_ok mix 2 101 (tl 13 [(1, V.int (IntKind.wrap .i64 (a1 - (a0.Name.length : Int)))), (11, V.bool (decide ((IntKind.wrap .i64 (a1 - (a0.Name.length : Int))) < 0)))]) [] (by kernel_rfl) ?_
 (revert h; refine cond_rev (fun hc2 h => ?_) (fun hc2 h => ?_))
 ·refine CodeOk.ifT hc2 (by kernel_rfl) ?_
  refine cu D_ok mix 1 101 (tl 13 [(4, V.int (-1))]) [] (by kernel_rfl) ?_
  refine CodeOk.ret ?_
  have h := Option.some.inj h
  subst h
  exact Ends.gen [] (.inr rfl) (RetV.one rfl (OneR.tmp (t := 4) (r := V.int (-1)) (by kernel_rfl))) (by kernel_rfl) (by kernel_rfl) (by kernel_rfl)
 refine CodeOk.ifF hc2 (by kernel_rfl) ?_
 refine CodeOk.skip ?_
 refine cu D_ok mix 2 101 (tl 13 [(4, V.int (IntKind.wrap .i64 (a1 - (a0.Name.length : Int))))]) [] (by kernel_rfl) ?_
 refine CodeOk.ret ?_
 have h := Option.some.inj h
 subst h
 exact Ends.gen [] (.inr rfl) (RetV.one rfl (OneR.tmp (t := 4) (r := V.int (IntKind.wrap .i64 (a1 - (a0.Name.length : Int)))) (by kernel_rfl))) (by kernel_rfl) (by kernel_rfl) (by kernel_rfl)

theorem m_laws_szBindS_ok (N : Nat) (a0 : List SBind) (a1 : Int) {r : Int} (h : m_laws_szBindS N a0 a1 = some r) :
    AC Try.prog GG 10 [.sl false false (a0.map encSBind), V.int a1] [] (V.int r) [] := by
 rw [m_laws_szBindS] at h
 refine AC.enter Try.func10 rfl ?_
 refine cu D_ok mix 1 100 (tl 27 [(0, .sl false false (a0.map encSBind)), (1, V.int a1)]) [] (by kernel_rfl) ?_
 refine CodeOk.cutR (tl 27 [(0, .sl false false (a0.map encSBind)), (1, V.int (IntKind.wrap .i64 (a1 - (a0.length : Int))))]) [] mix (by
  refine W.run D_ok 2 100 (by kernel_rfl) ?_
  refine W.len D_ok encSBind a0 [] (by kernel_rfl) (by kernel_rfl) ?_
  refine W.run D_ok 2 100 (by kernel_rfl) ?_
  exact W.fi (by kernel_rfl)
  ) ?_
 refine CodeOk.seq' ?_
 refine cu D_ok mix 2 100 (tl 27 [(0, .sl false false (a0.map encSBind)), (1, V.int (IntKind.wrap .i64 (a1 - (a0.length : Int)))), (11, V.bool (decide ((IntKind.wrap .i64 (a1 - (a0.length : Int))) < 0)))]) [] (by kernel_rfl) ?_
 (revert h; refine cond_rev (fun hc2 h => ?_) (fun hc2 h => ?_))
 ·refine CodeOk.ifT hc2 (by kernel_rfl) ?_
  refine cu D_ok mix 1 100 (tl 27 [(4, V.int (-1))]) [] (by kernel_rfl) ?_
  refine CodeOk.ret ?_
  have h := Option.some.inj h
  subst h
  exact Ends.gen [] (.inr rfl) (RetV.one rfl (OneR.tmp (t := 4) (r := V.int (-1)) (by kernel_rfl))) (by kernel_rfl) (by kernel_rfl) (by kernel_rfl)
 refine CodeOk.ifF hc2 (by kernel_rfl) ?_
 refine CodeOk.skip ?_
 refine CodeOk.seq' ?_
 refine cu D_ok mix 1 100 (tl 27 [(0, .sl false false (a0.map encSBind)), (1, V.int (IntKind.wrap .i64 (a1 - (a0.length : Int)))), (5, V.int 0)]) [] (by kernel_rfl) ?_
 refine CodeOk.block' ?_
 refine CodeOk.loopJ (fun (⟨a0, y37, y38⟩ : ((List SBind) × Int × Int)) => ⟨tl 27 [(0, .sl false false (a0.map encSBind)), (1, V.int y37), (5, V.int y38)], []⟩) (fun n i => m_laws_szBindS_l1 N n i = some r) (n0 := N) (i0 := (a0, (IntKind.wrap .i64 (a1 - (a0.length : Int))), 0)) (Weak.sel [] [0, 1, 5] (by kernel_rfl) (by kernel_rfl) (by kernel_rfl)) h (fun i h => by simp [m_laws_szBindS_l1] at h) ?_
 rintro n1 ⟨a0, y37, y38⟩ h65 ih66
 rw [m_laws_szBindS_l1] at h65
 refine CodeOk.seq' ?_
 refine CodeOk.cutR (tl 27 [(0, .sl false false (a0.map encSBind)), (1, V.int y37), (5, V.int y38), (15, V.bool (decide (y38 < (a0.length : Int))))]) [] mix (by
  refine W.run D_ok 2 160 (by kernel_rfl) ?_
  refine W.len D_ok encSBind a0 [] (by kernel_rfl) (by kernel_rfl) ?_
  refine W.run D_ok 1 160 (by kernel_rfl) ?_
  exact W.fi (by kernel_rfl)
  ) ?_
 (revert h65; refine cond_rev (fun hc68 h65 => ?_) (fun hc68 h65 => ?_))
 ·refine CodeOk.ifT hc68 (by kernel_rfl) ?_
  refine CodeOk.skip ?_
  refine CodeOk.seq' ?_
  refine CodeOk.block' ?_
  (revert h65; refine bind_rev fun e55 hx76 h65 => ?_)
  (revert h65; refine bind_rev fun r56 hx77 h65 => ?_)
  refine CodeOk.cutR (tl 27 [(0, .sl false false (a0.map encSBind)), (1, V.int r56), (5, V.int y38)]) [] mix (by
   refine W.run D_ok 2 160 (by kernel_rfl) ?_
   refine W.ixD D_ok encSBind hx76 2 (by kernel_rfl) (by kernel_rfl) ?_
   refine W.run D_ok 2 160 (by kernel_rfl) ?_
   refine W.call0 (m_laws_szBind_ok e55 y37 hx77) cok27 rfl (by kernel_rfl) ?_
   refine W.run D_ok 1 160 (by kernel_rfl) ?_
   exact W.fi (by kernel_rfl)
   ) ?_
  refine cu D_ok mix 2 160 (tl 27 [(0, .sl false false (a0.map encSBind)), (1, V.int r56), (5, V.int y38), (25, V.bool (decide (r56 < 0)))]) [] (by kernel_rfl) ?_
  (revert h65; refine cond_rev (fun hc78 h65 => ?_) (fun hc78 h65 => ?_))
  ·refine CodeOk.ifT hc78 (by kernel_rfl) ?_
   refine cu D_ok mix 1 160 (tl 27 [(4, V.int (-1))]) [] (by kernel_rfl) ?_
   refine CodeOk.ret ?_
   have h65 := Option.some.inj h65
   subst h65
   exact Ends.gen [] (.inr rfl) (RetV.one rfl (OneR.tmp (t := 4) (r := V.int (-1)) (by kernel_rfl))) (by kernel_rfl) (by kernel_rfl) (by kernel_rfl)
  refine CodeOk.ifF hc78 (by kernel_rfl) ?_
  refine CodeOk.skip ?_
  refine ce D_ok mix 3 160 (tl 27 [(0, .sl false false (a0.map encSBind)), (1, V.int r56), (5, V.int (IntKind.wrap .i64 (y38 + 1)))]) [] (by kernel_rfl) (fun st hw => ?_)
  exact ih66 (a0, r56, (IntKind.wrap .i64 (y38 + 1))) h65 _ (hw.trans (Weak.sel [] [0, 1, 5] (by kernel_rfl) (by kernel_rfl) (by kernel_rfl)))
 refine CodeOk.ifF hc68 (by kernel_rfl) ?_
 refine CodeOk.exit ?_
 refine cu D_ok mix 2 160 (tl 27 [(4, V.int y37)]) [] (by kernel_rfl) ?_
 refine CodeOk.ret ?_
 have h65 := Option.some.inj h65
 subst h65
 exact Ends.gen [] (.inr rfl) (RetV.one rfl (OneR.tmp (t := 4) (r := V.int y37) (by kernel_rfl))) (by kernel_rfl) (by kernel_rfl) (by kernel_rfl)

theorem m_laws_toBind_ok (a0 : SBind) {r : SBind} (h : m_laws_toBind a0 = some r) :
    AC Try.prog GG 28 [.agg [V.str a0.Name, V.int a0.Val]] [] (.agg [V.str r.Name, V.int r.Val]) [] := by
 rw [m_laws_toBind] at h
 refine AC.enter Try.func28 rfl ?_
 refine cu D_ok mix 2 100 (tl 11 [(1, .loc 100 0), (2, .loc 101 0)]) [(101, .cells 44 [V.str [], V.int 0]), (100, .cells 50 [V.str a0.Name, V.int a0.Val])] (by kernel_rfl) ?_
 refine cu D_ok mix 1 102 (tl 11 [(1, .loc 100 0), (2, .loc 101 0), (3, .loc 102 0)]) [(102, .cells 44 [V.str [], V.int 0]), (101, .cells 44 [V.str [], V.int 0]), (100, .cells 50 [V.str a0.Name, V.int a0.Val])] (by kernel_rfl) ?_
 refine cu D_ok mix 4 103 (tl 11 [(1, .loc 100 0), (2, .loc 101 0), (3, .loc 102 0)]) [(102, .cells 44 [V.str a0.Name, V.int 0]), (101, .cells 44 [V.str [], V.int 0]), (100, .cells 50 [V.str a0.Name, V.int a0.Val])] (by kernel_rfl) ?_
 refine cu D_ok mix 4 103 (tl 11 [(2, .loc 101 0), (3, .loc 102 0)]) [(102, .cells 44 [V.str a0.Name, V.int a0.Val]), (101, .cells 44 [V.str [], V.int 0])] (by kernel_rfl) ?_
 refine cu D_ok mix 2 103 (tl 11 [(2, .loc 101 0)]) [(101, .cells 44 [V.str a0.Name, V.int a0.Val])] (by kernel_rfl) ?_
 refine CodeOk.ret ?_
 have h := Option.some.inj h
 subst h
 exact Ends.gen [] (.inr rfl) (RetV.one rfl (OneR.cell D_ok (r := .agg [V.str a0.Name, V.int a0.Val]) (i := 101) (ety := 44) (cs := [V.str a0.Name, V.int a0.Val]) (by kernel_rfl) (by kernel_rfl) (by kernel_rfl))) (by kernel_rfl) (by kernel_rfl) (by kernel_rfl)

theorem m_laws_toBindS_ok (N : Nat) (a0 : List SBind) {r : (List SBind)} (h : m_laws_toBindS N a0 = some r) :
    AC Try.prog GG 12 [.sl false false (a0.map encSBind)] [] (.own 100) [(100, .vec false 44 2 (r.map encSBind))] := by
 rw [m_laws_toBindS] at h
 refine AC.enter Try.func12 rfl ?_
 refine cu D_ok mix 1 100 (tl 23 [(0, .sl false false (a0.map encSBind))]) [] (by kernel_rfl) ?_
 (revert h; refine bind_rev fun x2 hx2 h => ?_)
 refine CodeOk.cutR (tl 23 [(0, .sl false false (a0.map encSBind)), (3, .own 100)]) [(100, .vec false 44 2 (x2.map encSBind))] mix (by
  refine W.run D_ok 1 100 (by kernel_rfl) ?_
  refine W.len D_ok encSBind a0 [] (by kernel_rfl) (by kernel_rfl) ?_
  refine W.mk D_ok encSBind 24 hx2 100 44 2 [.string ⟨#[]⟩, .int .i64 0] (by kernel_rfl) (by kernel_rfl) ?_
  refine W.run D_ok 1 101 (by kernel_rfl) ?_
  exact W.fi (by kernel_rfl)
  ) ?_
 refine CodeOk.seq' ?_
 refine cu D_ok mix 1 101 (tl 23 [(0, .sl false false (a0.map encSBind)), (3, .own 100), (4, V.int 0)]) [(100, .vec false 44 2 (x2.map encSBind))] (by kernel_rfl) ?_
 refine CodeOk.block' ?_
 refine CodeOk.loopJ (fun (⟨a0, y71, y72⟩ : ((List SBind) × Int × (List SBind))) => ⟨tl 23 [(0, .sl false false (a0.map encSBind)), (3, .own 100), (4, V.int y71)], [(100, .vec false 44 2 (y72.map encSBind))]⟩) (fun n i => m_laws_toBindS_l1 N n i = some r) (n0 := N) (i0 := (a0, 0, x2)) (Weak.sel [(100, 100)] [0, 3, 4] (by kernel_rfl) (by kernel_rfl) (by kernel_rfl)) h (fun i h => by simp [m_laws_toBindS_l1] at h) ?_
 rintro n1 ⟨a0, y71, y72⟩ h95 ih96
 rw [m_laws_toBindS_l1] at h95
 refine CodeOk.seq' ?_
 refine CodeOk.cutR (tl 23 [(0, .sl false false (a0.map encSBind)), (3, .own 100), (4, V.int y71), (11, V.bool (decide (y71 < (a0.length : Int))))]) [(100, .vec false 44 2 (y72.map encSBind))] mix (by
  refine W.run D_ok 2 161 (by kernel_rfl) ?_
  refine W.len D_ok encSBind a0 [] (by kernel_rfl) (by kernel_rfl) ?_
  refine W.run D_ok 1 161 (by kernel_rfl) ?_
  exact W.fi (by kernel_rfl)
  ) ?_
 (revert h95; refine cond_rev (fun hc98 h95 => ?_) (fun hc98 h95 => ?_))
 ·refine CodeOk.ifT hc98 (by kernel_rfl) ?_
  refine CodeOk.skip ?_
  refine CodeOk.seq' ?_
  refine CodeOk.block' ?_
  (revert h95; refine bind_rev fun e103 hx111 h95 => ?_)
  (revert h95; refine bind_rev fun r104 hx112 h95 => ?_)
  (revert h95; refine bind_rev fun e105 hx113 h95 => ?_)
  (revert h95; refine bind_rev fun x106 hu114 h95 => ?_)
  refine CodeOk.endR (tl 23 [(0, .sl false false (a0.map encSBind)), (3, .own 100), (4, V.int y71)]) [(100, .vec false 44 2 (x106.map encSBind))] mix (by
   refine W.run D_ok 4 161 (by kernel_rfl) ?_
   refine W.ixD D_ok encSBind hx111 2 (by kernel_rfl) (by kernel_rfl) ?_
   refine W.run D_ok 1 161 (by kernel_rfl) ?_
   refine W.call0 (m_laws_toBind_ok e103 hx112) cok28 rfl (by kernel_rfl) ?_
   refine W.ixO D_ok encSBind hx113 100 2 (by kernel_rfl) ?_
   refine W.stO D_ok encSBind (x' := r104) hx113 hu114 (j := 100) (nn := false) (ety := 44) (sz := 2) (b := 0) (ys := [V.str r104.Name, V.int r104.Val]) (C := []) (R := []) (by kernel_rfl) (by kernel_rfl) ?_
   exact W.fi (by kernel_rfl)
   ) (fun st hw => ?_)
  refine CodeOk.weak hw ?_
  refine ce D_ok mix 3 161 (tl 23 [(0, .sl false false (a0.map encSBind)), (3, .own 100), (4, V.int (IntKind.wrap .i64 (y71 + 1)))]) [(100, .vec false 44 2 (x106.map encSBind))] (by kernel_rfl) (fun st hw => ?_)
  exact ih96 (a0, (IntKind.wrap .i64 (y71 + 1)), x106) h95 _ (hw.trans (Weak.sel [(100, 100)] [0, 3, 4] (by kernel_rfl) (by kernel_rfl) (by kernel_rfl)))
 refine CodeOk.ifF hc98 (by kernel_rfl) ?_
 refine CodeOk.exit ?_
 refine cu D_ok mix 2 161 (tl 23 [(2, .own 100)]) [(100, .vec false 44 2 (y72.map encSBind))] (by kernel_rfl) ?_
 refine CodeOk.ret ?_
 have h95 := Option.some.inj h95
 subst h95
 exact Ends.gen [(100, 100)] (.inr rfl) (RetV.one rfl (OneR.tmp (t := 2) (r := .own 100) (by kernel_rfl))) (by kernel_rfl) (by kernel_rfl) (by kernel_rfl)

theorem m_spec_SetVar_ok (N : Nat) (a0 : List SBind) (a1 : List UInt8) (a2 : Int) {r : (List SBind)} (h : m_spec_SetVar N a0 a1 a2 = some r) :
    AC Try.prog GG 11 [.sl false false (a0.map encSBind), V.str a1, V.int a2] [] (.own 100) [(100, .vec false 44 2 (r.map encSBind))] := by
 rw [m_spec_SetVar] at h
 refine AC.enter Try.func11 rfl ?_
 refine cu D_ok mix 1 100 (tl 57 [(0, .sl false false (a0.map encSBind)), (1, V.str a1), (2, V.int a2)]) [] (by kernel_rfl) ?_
 refine cu D_ok mix 2 100 (tl 57 [(0, .sl false false (a0.map encSBind)), (1, V.str a1), (2, V.int a2), (7, .own 100)]) [(100, .vec false 44 2 ([].map encSBind))] (by kernel_rfl) ?_
 refine cu D_ok mix 1 101 (tl 57 [(0, .sl false false (a0.map encSBind)), (1, V.str a1), (2, V.int a2), (7, .own 100), (8, V.bool false)]) [(100, .vec false 44 2 ([].map encSBind))] (by kernel_rfl) ?_
 refine CodeOk.seq' ?_
 refine cu D_ok mix 1 101 (tl 57 [(0, .sl false false (a0.map encSBind)), (1, V.str a1), (2, V.int a2), (7, .own 100), (8, V.bool false), (9, V.int 0)]) [(100, .vec false 44 2 ([].map encSBind))] (by kernel_rfl) ?_
 refine CodeOk.block' ?_
 refine CodeOk.loopJ (fun (⟨a0, a1, a2, y167, y168, y169⟩ : ((List SBind) × (List UInt8) × Int × Bool × Int × (List SBind))) => ⟨tl 57 [(0, .sl false false (a0.map encSBind)), (1, V.str a1), (2, V.int a2), (7, .own 100), (8, V.bool y167), (9, V.int y168)], [(100, .vec false 44 2 (y169.map encSBind))]⟩) (fun n i => m_spec_SetVar_l1 N n i = some r) (n0 := N) (i0 := (a0, a1, a2, false, 0, [])) (Weak.sel [(100, 100)] [0, 1, 2, 7, 8, 9] (by kernel_rfl) (by kernel_rfl) (by kernel_rfl)) h (fun i h => by simp [m_spec_SetVar_l1] at h) ?_
 rintro n1 ⟨a0, a1, a2, y167, y168, y169⟩ h279 ih280
 rw [m_spec_SetVar_l1] at h279
 refine CodeOk.seq' ?_
 refine CodeOk.cutR (tl 57 [(0, .sl false false (a0.map encSBind)), (1, V.str a1), (2, V.int a2), (7, .own 100), (8, V.bool y167), (9, V.int y168), (14, V.bool (decide (y168 < (a0.length : Int))))]) [(100, .vec false 44 2 (y169.map encSBind))] mix (by
  refine W.run D_ok 2 169 (by kernel_rfl) ?_
  refine W.len D_ok encSBind a0 [] (by kernel_rfl) (by kernel_rfl) ?_
  refine W.run D_ok 1 169 (by kernel_rfl) ?_
  exact W.fi (by kernel_rfl)
  ) ?_
 (revert h279; refine cond_rev (fun hc282 h279 => ?_) (fun hc282 h279 => ?_))
 ·refine CodeOk.ifT hc282 (by kernel_rfl) ?_
  refine CodeOk.skip ?_
  refine CodeOk.join (fun (⟨a0, a1, a2, y168, y235, y236⟩ : ((List SBind) × (List UInt8) × Int × Int × Bool × (List SBind))) => ⟨tl 57 [(0, .sl false false (a0.map encSBind)), (1, V.str a1), (2, V.int a2), (7, .own 100), (8, V.bool y235), (9, V.int y168)], [(100, .vec false 44 2 (y236.map encSBind))]⟩) (fun i => m_spec_SetVar_k2 N (m_spec_SetVar_l1 N n1) i = some r) ?_ ?_
  · rintro ⟨a0, a1, a2, y168, y235, y236⟩ h311
    rw [m_spec_SetVar_k2] at h311
    refine ce D_ok mix 3 173 (tl 57 [(0, .sl false false (a0.map encSBind)), (1, V.str a1), (2, V.int a2), (7, .own 100), (8, V.bool y235), (9, V.int (IntKind.wrap .i64 (y168 + 1)))]) [(100, .vec false 44 2 (y236.map encSBind))] (by kernel_rfl) (fun st hw => ?_)
    exact ih280 (a0, a1, a2, y235, (IntKind.wrap .i64 (y168 + 1)), y236) h311 _ (hw.trans (Weak.sel [(100, 100)] [0, 1, 2, 7, 8, 9] (by kernel_rfl) (by kernel_rfl) (by kernel_rfl)))
  intro hk312
  refine CodeOk.block' ?_
  refine CodeOk.seq' ?_
  (revert h279; refine bind_rev fun e240 hx317 h279 => ?_)
  refine CodeOk.cutR (tl 57 [(0, .sl false false (a0.map encSBind)), (1, V.str a1), (2, V.int a2), (7, .own 100), (8, V.bool y167), (9, V.int y168), (23, V.bool (e240.Name == a1))]) [(100, .vec false 44 2 (y169.map encSBind))] mix (by
   refine W.run D_ok 2 169 (by kernel_rfl) ?_
   refine W.ixD D_ok encSBind hx317 2 (by kernel_rfl) (by kernel_rfl) ?_
   refine W.run D_ok 4 169 (by kernel_rfl) ?_
   exact W.fi (by kernel_rfl)
   ) ?_
  (revert h279; refine cond_rev (fun hc318 h279 => ?_) (fun hc318 h279 => ?_))
  ·refine CodeOk.ifT hc318 (by kernel_rfl) ?_
   refine CodeOk.exit ?_
   exact hk312 (a0, a1, a2, y168, y167, y169) h279 _ (Weak.sel [(100, 100)] [0, 1, 2, 7, 8, 9] (by kernel_rfl) (by kernel_rfl) (by kernel_rfl))
  refine CodeOk.ifF hc318 (by kernel_rfl) ?_
  refine CodeOk.skip ?_
  refine CodeOk.join (fun (⟨a0, a1, a2, y168, y246, y247⟩ : ((List SBind) × (List UInt8) × Int × Int × Bool × (List SBind))) => ⟨tl 57 [(0, .sl false false (a0.map encSBind)), (1, V.str a1), (2, V.int a2), (7, .own 100), (8, V.bool y246), (9, V.int y168)], [(100, .vec false 44 2 (y247.map encSBind))]⟩) (fun i => m_spec_SetVar_k3 N (m_spec_SetVar_l1 N n1) i = some r) ?_ ?_
  · rintro ⟨a0, a1, a2, y168, y246, y247⟩ h327
    rw [m_spec_SetVar_k3] at h327
    (revert h327; refine bind_rev fun e250 hx330 h327 => ?_)
    (revert h327; refine bind_rev fun x251 hx331 h327 => ?_)
    refine CodeOk.endR (tl 57 [(0, .sl false false (a0.map encSBind)), (1, V.str a1), (2, V.int a2), (7, .own 172), (8, V.bool y246), (9, V.int y168)]) [(172, .vec false 44 2 (x251.map encSBind))] mix (by
     refine W.run D_ok 3 171 (by kernel_rfl) ?_
     refine W.ixD D_ok encSBind hx330 2 (by kernel_rfl) (by kernel_rfl) ?_
     refine W.run D_ok 2 171 (by kernel_rfl) ?_
     refine W.appO D_ok encSBind (a := 100) (c := 171) (el := 44) (sz := 2) 24 hx331 rfl 172 (by kernel_rfl) ?_
     refine W.run D_ok 1 173 (by kernel_rfl) ?_
     exact W.fi (by kernel_rfl)
     ) (fun st hw => ?_)
    exact hk312 (a0, a1, a2, y168, y246, x251) h327 _ (hw.trans (Weak.sel [(172, 100)] [0, 1, 2, 7, 8, 9] (by kernel_rfl) (by kernel_rfl) (by kernel_rfl)))
  intro hk332
  (revert h279; refine bind_rev fun y253 hv335 h279 => ?_)
  refine CodeOk.cutR (tl 57 [(0, .sl false false (a0.map encSBind)), (1, V.str a1), (2, V.int a2), (7, .own 100), (8, V.bool y167), (9, V.int y168), (34, V.bool y253)]) [(100, .vec false 44 2 (y169.map encSBind))] mix (by
   refine W.run D_ok 3 169 (by kernel_rfl) ?_
   (revert hv335; refine cond_rev (fun hc336 hv335 => ?_) (fun hc336 hv335 => ?_))
   ·refine W.is 26 hc336 (by kernel_rfl) ?_
    refine W.run D_ok 2 169 (by kernel_rfl) ?_
    (revert hv335; refine bind_rev fun e254 hx337 hv335 => ?_)
    refine W.ixD D_ok encSBind hx337 2 (by kernel_rfl) (by kernel_rfl) ?_
    refine W.run D_ok 5 169 (by kernel_rfl) ?_
    have hv335 := Option.some.inj hv335
    subst hv335
    exact W.fs [(100, 100)] [0, 1, 2, 7, 8, 9, 34] (by kernel_rfl)
   refine W.is 26 hc336 (by kernel_rfl) ?_
   refine W.run D_ok 8 169 (by kernel_rfl) ?_
   have hv335 := Option.some.inj hv335
   subst hv335
   exact W.fs [(100, 100)] [0, 1, 2, 7, 8, 9, 34] (by kernel_rfl)
   ) ?_
  (revert h279; refine cond_rev (fun hc338 h279 => ?_) (fun hc338 h279 => ?_))
  ·refine CodeOk.ifT hc338 (by kernel_rfl) ?_
   (revert h279; refine bind_rev fun x256 hx340 h279 => ?_)
   refine CodeOk.cutR (tl 57 [(0, .sl false false (a0.map encSBind)), (1, V.str a1), (2, V.int a2), (7, .own 170), (9, V.int y168)]) [(170, .vec false 44 2 (x256.map encSBind))] mix (by
    refine W.run D_ok 5 169 (by kernel_rfl) ?_
    refine W.appO D_ok encSBind (a := 100) (c := 169) (el := 44) (sz := 2) 24 hx340 rfl 170 (by kernel_rfl) ?_
    refine W.run D_ok 1 171 (by kernel_rfl) ?_
    exact W.fi (by kernel_rfl)
    ) ?_
   refine ce D_ok mix 1 171 (tl 57 [(0, .sl false false (a0.map encSBind)), (1, V.str a1), (2, V.int a2), (7, .own 170), (8, V.bool true), (9, V.int y168)]) [(170, .vec false 44 2 (x256.map encSBind))] (by kernel_rfl) (fun st hw => ?_)
   exact hk332 (a0, a1, a2, y168, true, x256) h279 _ (hw.trans (Weak.sel [(170, 100)] [0, 1, 2, 7, 8, 9] (by kernel_rfl) (by kernel_rfl) (by kernel_rfl)))
  refine CodeOk.ifF hc338 (by kernel_rfl) ?_
  refine CodeOk.skip ?_
  exact hk332 (a0, a1, a2, y168, y167, y169) h279 _ (Weak.sel [(100, 100)] [0, 1, 2, 7, 8, 9] (by kernel_rfl) (by kernel_rfl) (by kernel_rfl))
 refine CodeOk.ifF hc282 (by kernel_rfl) ?_
 refine CodeOk.exit ?_
 refine CodeOk.join (fun (y259 : (List SBind)) => ⟨tl 57 [(7, .own 100)], [(100, .vec false 44 2 (y259.map encSBind))]⟩) (fun i => m_spec_SetVar_k4 N (m_spec_SetVar_l1 N n1) i = some r) ?_ ?_
 · rintro y259 h344
   rw [m_spec_SetVar_k4] at h344
   refine cu D_ok mix 2 171 (tl 57 [(6, .own 100)]) [(100, .vec false 44 2 (y259.map encSBind))] (by kernel_rfl) ?_
   refine CodeOk.ret ?_
   have h344 := Option.some.inj h344
   subst h344
   exact Ends.gen [(100, 100)] (.inr rfl) (RetV.one rfl (OneR.tmp (t := 6) (r := .own 100) (by kernel_rfl))) (by kernel_rfl) (by kernel_rfl) (by kernel_rfl)
 intro hk345
 refine cu D_ok mix 2 169 (tl 57 [(1, V.str a1), (2, V.int a2), (7, .own 100), (49, V.bool (!y167))]) [(100, .vec false 44 2 (y169.map encSBind))] (by kernel_rfl) ?_
 (revert h279; refine cond_rev (fun hc346 h279 => ?_) (fun hc346 h279 => ?_))
 ·refine CodeOk.ifT hc346 (by kernel_rfl) ?_
  (revert h279; refine bind_rev fun x261 hx348 h279 => ?_)
  refine CodeOk.endR (tl 57 [(7, .own 170)]) [(170, .vec false 44 2 (x261.map encSBind))] mix (by
   refine W.run D_ok 5 169 (by kernel_rfl) ?_
   refine W.appO D_ok encSBind (a := 100) (c := 169) (el := 44) (sz := 2) 24 hx348 rfl 170 (by kernel_rfl) ?_
   refine W.run D_ok 1 171 (by kernel_rfl) ?_
   exact W.fi (by kernel_rfl)
   ) (fun st hw => ?_)
  exact hk345 x261 h279 _ (hw.trans (Weak.sel [(170, 100)] [7] (by kernel_rfl) (by kernel_rfl) (by kernel_rfl)))
 refine CodeOk.ifF hc346 (by kernel_rfl) ?_
 refine CodeOk.skip ?_
 exact hk345 y169 h279 _ (Weak.sel [(100, 100)] [7] (by kernel_rfl) (by kernel_rfl) (by kernel_rfl))

theorem m_slices_Clone_Bind_nil : AC Try.prog GG 22 [.c (.slice none 0 0)] [] (.own 100) [(100, .vec false 44 2 (([] : List SBind).map encSBind))] := by
  refine AC.enter Try.func22 rfl ?_
  refine CodeOk.cutR (tl 8 [(0, .c (.slice none 0 0))]) [] mix (by
      refine W.run D_ok 1 100 (by kernel_rfl) ?_
      exact W.fin (by decide) (by kernel_rfl) (Weak.sel [] [0] (by kernel_rfl) (by kernel_rfl) (by kernel_rfl))
      ) ?_
  refine CodeOk.seq' ?_
  refine CodeOk.cutR (tl 8 [(0, .c (.slice none 0 0)), (4, V.bool true)]) [] mix (by
      refine W.run D_ok 1 100 (by kernel_rfl) ?_
      refine W.nilEq D_ok true (by kernel_rfl) ?_
      exact W.fin (by decide) (by kernel_rfl) (Weak.sel [] [0, 4] (by kernel_rfl) (by kernel_rfl) (by kernel_rfl))
      ) ?_
  refine CodeOk.ifT (c := true) rfl (by kernel_rfl) ?_
  refine CodeOk.cutR (tl 8 [(2, .c (.slice none 0 0))]) [] mix (by
      refine W.run D_ok 1 100 (by kernel_rfl) ?_
      exact W.fin (by decide) (by kernel_rfl) (Weak.sel [] [2] (by kernel_rfl) (by kernel_rfl) (by kernel_rfl))
      ) ?_
  refine CodeOk.weak (Weak.nil 2 101 44 2 (by kernel_rfl) (by kernel_rfl)) ?_
  refine CodeOk.ret ?_
  exact Ends.gen [(101, 100)] (.inr rfl) (RetV.one rfl (OneR.tmp (t := 2) (r := .own 101) (by kernel_rfl))) (by kernel_rfl) (by kernel_rfl) (by kernel_rfl)

theorem m_slices_Clone_Bind_nn (a0 : List SBind) {r : (List SBind)} (hx2 : app 24 [] a0 = some r) :
    AC Try.prog GG 22 [.sl true false (a0.map encSBind)] [] (.own 100) [(100, .vec false 44 2 (r.map encSBind))] := by
  refine AC.enter Try.func22 rfl ?_
  refine CodeOk.cutR (tl 8 [(0, .sl true false (a0.map encSBind))]) [] mix (by
      refine W.run D_ok 1 100 (by kernel_rfl) ?_
      exact W.fin (by decide) (by kernel_rfl) (Weak.sel [] [0] (by kernel_rfl) (by kernel_rfl) (by kernel_rfl))
      ) ?_
  refine CodeOk.seq' ?_
  refine CodeOk.cutR (tl 8 [(0, .sl true false (a0.map encSBind)), (4, V.bool false)]) [] mix (by
      refine W.run D_ok 1 100 (by kernel_rfl) ?_
      refine W.nilEq D_ok false (by kernel_rfl) ?_
      exact W.fin (by decide) (by kernel_rfl) (Weak.sel [] [0, 4] (by kernel_rfl) (by kernel_rfl) (by kernel_rfl))
      ) ?_
  refine CodeOk.ifF (c := false) rfl (by kernel_rfl) ?_
  refine CodeOk.skip ?_
  refine CodeOk.weak (st' := ⟨tl 8 [(0, .sl true false (a0.map encSBind)), (4, V.bool false)], []⟩) (Weak.refl _) ?_
  refine CodeOk.cutR (tl 8 [(2, .own 101)]) [(101, .vec false 44 2 (r.map encSBind))] mix (by
      refine W.run D_ok 2 100 (by kernel_rfl) ?_
      refine W.appD D_ok encSBind (a := 100) (el := 44) 24 hx2 rfl 101 2 (fun _ => by first | rfl | kernel_rfl) (by kernel_rfl) ?_
      refine W.run D_ok 1 102 (by kernel_rfl) ?_
      exact W.fin (by decide) (by kernel_rfl) (Weak.sel [(101, 101)] [2] (by kernel_rfl) (by kernel_rfl) (by kernel_rfl))
      ) ?_
  refine CodeOk.ret ?_
  exact Ends.gen [(101, 100)] (.inr rfl) (RetV.one rfl (OneR.tmp (t := 2) (r := .own 101) (by kernel_rfl))) (by kernel_rfl) (by kernel_rfl) (by kernel_rfl)

theorem m_slices_Clone_Bind_ok (a0 : List SBind) {r : (List SBind)} (h : m_slices_Clone_Bind a0 = some r) :
    AC Try.prog GG 22 [.sl false false (a0.map encSBind)] [] (.own 100) [(100, .vec false 44 2 (r.map encSBind))] := by
  rw [m_slices_Clone_Bind] at h
  obtain ⟨x2, h2, h⟩ := bind_some h
  have h := Option.some.inj h
  subst h
  refine AC.slCase (fun h0 => ?_) (m_slices_Clone_Bind_nn a0 h2)
  have ha : a0 = [] := by simpa using h0
  subst ha
  have hr : x2 = [] := by
    rw [app_some (by simp)] at h2
    simpa using h2.symm
  subst hr
  exact m_slices_Clone_Bind_nil

theorem m_impl_SetVar_1_ok (a0 : SBind) (p0_0 : List UInt8) {r : Bool} (h : m_impl_SetVar_1 a0 p0_0 = some r) :
    AC Try.prog GG 23 [.agg [V.str a0.Name, V.int a0.Val], .loc 0 0] [(0, .cells 9 [V.str p0_0])] (V.bool r) [(0, .cells 9 [V.str p0_0])] := by
 rw [m_impl_SetVar_1] at h
 refine AC.enter Try.func23 rfl ?_
 refine cu D_ok mix 2 100 (tl 8 [(1, .loc 0 0), (2, .loc 100 0)]) [(100, .cells 44 [V.str a0.Name, V.int a0.Val]), (0, .cells 9 [V.str p0_0])] (by kernel_rfl) ?_
 refine cu D_ok mix 5 101 (tl 8 [(3, V.bool (a0.Name == p0_0))]) [(0, .cells 9 [V.str p0_0])] (by kernel_rfl) ?_
 refine CodeOk.ret ?_
 have h := Option.some.inj h
 subst h
 exact Ends.gen [(0, 0)] (.inr rfl) (RetV.one rfl (OneR.tmp (t := 3) (r := V.bool (a0.Name == p0_0)) (by kernel_rfl))) (by kernel_rfl) (by kernel_rfl) (by kernel_rfl)

theorem m_slices_IndexFunc_Bind_ok (N : Nat) (p0 : List SBind) (p1_0 : List UInt8) {r : Int} (h : m_slices_IndexFunc_Bind N p0 p1_0 = some r) :
    AC Try.prog GG 24 [.own 0, .fn 23 [.loc 1 0]] [(0, .vec false 44 2 (p0.map encSBind)), (1, .cells 9 [V.str p1_0])] (V.int r) [(0, .vec false 44 2 (p0.map encSBind)), (1, .cells 9 [V.str p1_0])] := by
 rw [m_slices_IndexFunc_Bind] at h
 refine AC.enter Try.func24 rfl ?_
 refine cu D_ok mix 1 100 (tl 19 [(0, .own 0), (1, .fn 23 [.loc 1 0])]) [(0, .vec false 44 2 (p0.map encSBind)), (1, .cells 9 [V.str p1_0])] (by kernel_rfl) ?_
 refine CodeOk.seq' ?_
 refine CodeOk.cutR (tl 19 [(0, .own 0), (1, .fn 23 [.loc 1 0]), (7, V.int (p0.length : Int)), (8, V.int 0)]) [(0, .vec false 44 2 (p0.map encSBind)), (1, .cells 9 [V.str p1_0])] mix (by
  refine W.run D_ok 1 100 (by kernel_rfl) ?_
  refine W.len D_ok encSBind p0 [0] (by kernel_rfl) (by kernel_rfl) ?_
  refine W.run D_ok 1 100 (by kernel_rfl) ?_
  exact W.fi (by kernel_rfl)
  ) ?_
 refine CodeOk.block' ?_
 refine CodeOk.loopJ (fun (y35 : Int) => ⟨tl 19 [(0, .own 0), (1, .fn 23 [.loc 1 0]), (7, V.int (p0.length : Int)), (8, V.int y35)], [(0, .vec false 44 2 (p0.map encSBind)), (1, .cells 9 [V.str p1_0])]⟩) (fun n i => m_slices_IndexFunc_Bind_l1 N p0 p1_0 n i = some r) (n0 := N) (i0 := 0) (Weak.sel [(0, 0), (1, 1)] [0, 1, 7, 8] (by kernel_rfl) (by kernel_rfl) (by kernel_rfl)) h (fun i h => by simp [m_slices_IndexFunc_Bind_l1] at h) ?_
 rintro n1 y35 h63 ih64
 rw [m_slices_IndexFunc_Bind_l1] at h63
 refine cu D_ok mix 1 160 (tl 19 [(0, .own 0), (1, .fn 23 [.loc 1 0]), (7, V.int (p0.length : Int)), (8, V.int y35), (9, V.bool (decide (y35 < (p0.length : Int))))]) [(0, .vec false 44 2 (p0.map encSBind)), (1, .cells 9 [V.str p1_0])] (by kernel_rfl) ?_
 refine CodeOk.seq' ?_
 (revert h63; refine cond_rev (fun hc66 h63 => ?_) (fun hc66 h63 => ?_))
 ·refine CodeOk.ifT hc66 (by kernel_rfl) ?_
  refine CodeOk.skip ?_
  refine CodeOk.seq' ?_
  refine CodeOk.block' ?_
  refine cu D_ok mix 2 160 (tl 19 [(0, .own 0), (1, .fn 23 [.loc 1 0]), (5, V.int y35), (7, V.int (p0.length : Int)), (8, V.int y35)]) [(0, .vec false 44 2 (p0.map encSBind)), (1, .cells 9 [V.str p1_0])] (by kernel_rfl) ?_
  (revert h63; refine bind_rev fun e51 hx74 h63 => ?_)
  (revert h63; refine bind_rev fun r52 hx75 h63 => ?_)
  refine CodeOk.cutR (tl 19 [(0, .own 0), (1, .fn 23 [.loc 1 0]), (5, V.int y35), (7, V.int (p0.length : Int)), (8, V.int y35), (16, V.bool r52)]) [(0, .vec false 44 2 (p0.map encSBind)), (1, .cells 9 [V.str p1_0])] mix (by
   refine W.run D_ok 3 160 (by kernel_rfl) ?_
   refine W.ixO D_ok encSBind hx74 0 2 (by kernel_rfl) ?_
   refine W.ldO D_ok encSBind hx74 44 0 0 (.agg [V.str e51.Name, V.int e51.Val]) (by kernel_rfl) (by kernel_rfl) ?_
   refine W.call (m_impl_SetVar_1_ok e51 p1_0 hx75) cok23 [(1, 0)] [(0, 1)] [] (show LayOk _ [] from trivial) (by kernel_rfl) (by kernel_rfl) ?_
   exact W.fi (by kernel_rfl)
   ) ?_
  (revert h63; refine cond_rev (fun hc76 h63 => ?_) (fun hc76 h63 => ?_))
  ·refine CodeOk.ifT hc76 (by kernel_rfl) ?_
   refine cu D_ok mix 2 160 (tl 19 [(4, V.int y35)]) [(0, .vec false 44 2 (p0.map encSBind)), (1, .cells 9 [V.str p1_0])] (by kernel_rfl) ?_
   refine CodeOk.ret ?_
   have h63 := Option.some.inj h63
   subst h63
   exact Ends.gen [(0, 0), (1, 1)] (.inr rfl) (RetV.one rfl (OneR.tmp (t := 4) (r := V.int y35) (by kernel_rfl))) (by kernel_rfl) (by kernel_rfl) (by kernel_rfl)
  refine CodeOk.ifF hc76 (by kernel_rfl) ?_
  refine CodeOk.skip ?_
  refine ce D_ok mix 2 160 (tl 19 [(0, .own 0), (1, .fn 23 [.loc 1 0]), (7, V.int (p0.length : Int)), (8, V.int (IntKind.wrap .i64 (y35 + 1)))]) [(0, .vec false 44 2 (p0.map encSBind)), (1, .cells 9 [V.str p1_0])] (by kernel_rfl) (fun st hw => ?_)
  exact ih64 (IntKind.wrap .i64 (y35 + 1)) h63 _ (hw.trans (Weak.sel [(0, 0), (1, 1)] [0, 1, 7, 8] (by kernel_rfl) (by kernel_rfl) (by kernel_rfl)))
 refine CodeOk.ifF hc66 (by kernel_rfl) ?_
 refine CodeOk.exit ?_
 refine cu D_ok mix 1 160 (tl 19 [(4, V.int (-1))]) [(0, .vec false 44 2 (p0.map encSBind)), (1, .cells 9 [V.str p1_0])] (by kernel_rfl) ?_
 refine CodeOk.ret ?_
 have h63 := Option.some.inj h63
 subst h63
 exact Ends.gen [(0, 0), (1, 1)] (.inr rfl) (RetV.one rfl (OneR.tmp (t := 4) (r := V.int (-1)) (by kernel_rfl))) (by kernel_rfl) (by kernel_rfl) (by kernel_rfl)

theorem m_slices_DeleteFunc_Bind_ok (N : Nat) (p0 : List SBind) (p1_0 : List UInt8) {r : (List SBind)} (h : m_slices_DeleteFunc_Bind N p0 p1_0 = some r) :
    AC Try.prog GG 21 [.own 0, .fn 23 [.loc 1 0]] [(0, .vec false 44 2 (p0.map encSBind)), (1, .cells 9 [V.str p1_0])] (.own 100) [(1, .cells 9 [V.str p1_0]), (100, .vec false 44 2 (r.map encSBind))] := by
 rw [m_slices_DeleteFunc_Bind] at h
 refine AC.enter Try.func21 rfl ?_
 refine cu D_ok mix 1 100 (tl 42 [(0, .own 0), (1, .fn 23 [.loc 1 0])]) [(0, .vec false 44 2 (p0.map encSBind)), (1, .cells 9 [V.str p1_0])] (by kernel_rfl) ?_
 (revert h; refine bind_rev fun r2 hx2 h => ?_)
 refine CodeOk.cutR (tl 42 [(0, .own 0), (1, .fn 23 [.loc 1 0]), (5, V.int r2)]) [(0, .vec false 44 2 (p0.map encSBind)), (1, .cells 9 [V.str p1_0])] mix (by
  refine W.run D_ok 2 100 (by kernel_rfl) ?_
  refine W.call (m_slices_IndexFunc_Bind_ok N p0 p1_0 hx2) cok24 [(0, 0), (1, 1)] [(0, 0), (1, 1)] [] (show LayOk _ [] from trivial) (by kernel_rfl) (by kernel_rfl) ?_
  refine W.run D_ok 1 100 (by kernel_rfl) ?_
  exact W.fi (by kernel_rfl)
  ) ?_
 refine CodeOk.seq' ?_
 refine cu D_ok mix 2 100 (tl 42 [(0, .own 0), (1, .fn 23 [.loc 1 0]), (5, V.int r2), (12, V.bool (r2 == (-1)))]) [(0, .vec false 44 2 (p0.map encSBind)), (1, .cells 9 [V.str p1_0])] (by kernel_rfl) ?_
 (revert h; refine cond_rev (fun hc4 h => ?_) (fun hc4 h => ?_))
 ·refine CodeOk.ifT hc4 (by kernel_rfl) ?_
  refine cu D_ok mix 2 100 (tl 42 [(4, .own 0)]) [(0, .vec false 44 2 (p0.map encSBind)), (1, .cells 9 [V.str p1_0])] (by kernel_rfl) ?_
  refine CodeOk.ret ?_
  have h := Option.some.inj h
  subst h
  exact Ends.gen [(1, 1), (0, 100)] (.inr rfl) (RetV.one rfl (OneR.tmp (t := 4) (r := .own 0) (by kernel_rfl))) (by kernel_rfl) (by kernel_rfl) (by kernel_rfl)
 refine CodeOk.ifF hc4 (by kernel_rfl) ?_
 refine CodeOk.skip ?_
 refine CodeOk.seq' ?_
 refine cu D_ok mix 3 100 (tl 42 [(0, .own 0), (1, .fn 23 [.loc 1 0]), (5, V.int r2), (6, V.int (IntKind.wrap .i64 (r2 + 1)))]) [(0, .vec false 44 2 (p0.map encSBind)), (1, .cells 9 [V.str p1_0])] (by kernel_rfl) ?_
 refine CodeOk.block' ?_
 refine CodeOk.loopJ (fun (⟨y81, y82, y83⟩ : (Int × Int × (List SBind))) => ⟨tl 42 [(0, .own 0), (1, .fn 23 [.loc 1 0]), (5, V.int y81), (6, V.int y82)], [(0, .vec false 44 2 (y83.map encSBind)), (1, .cells 9 [V.str p1_0])]⟩) (fun n i => m_slices_DeleteFunc_Bind_l1 N p1_0 n i = some r) (n0 := N) (i0 := (r2, (IntKind.wrap .i64 (r2 + 1)), p0)) (Weak.sel [(0, 0), (1, 1)] [0, 1, 5, 6] (by kernel_rfl) (by kernel_rfl) (by kernel_rfl)) h (fun i h => by simp [m_slices_DeleteFunc_Bind_l1] at h) ?_
 rintro n1 ⟨y81, y82, y83⟩ h117 ih118
 rw [m_slices_DeleteFunc_Bind_l1] at h117
 refine CodeOk.seq' ?_
 refine CodeOk.cutR (tl 42 [(0, .own 0), (1, .fn 23 [.loc 1 0]), (5, V.int y81), (6, V.int y82), (19, V.bool (decide (y82 < (y83.length : Int))))]) [(0, .vec false 44 2 (y83.map encSBind)), (1, .cells 9 [V.str p1_0])] mix (by
  refine W.run D_ok 2 162 (by kernel_rfl) ?_
  refine W.len D_ok encSBind y83 [0] (by kernel_rfl) (by kernel_rfl) ?_
  refine W.run D_ok 1 162 (by kernel_rfl) ?_
  exact W.fi (by kernel_rfl)
  ) ?_
 (revert h117; refine cond_rev (fun hc120 h117 => ?_) (fun hc120 h117 => ?_))
 ·refine CodeOk.ifT hc120 (by kernel_rfl) ?_
  refine CodeOk.skip ?_
  refine CodeOk.join (fun (⟨y82, y113, y114⟩ : (Int × Int × (List SBind))) => ⟨tl 42 [(0, .own 0), (1, .fn 23 [.loc 1 0]), (5, V.int y113), (6, V.int y82)], [(0, .vec false 44 2 (y114.map encSBind)), (1, .cells 9 [V.str p1_0])]⟩) (fun i => m_slices_DeleteFunc_Bind_k2 N p1_0 (m_slices_DeleteFunc_Bind_l1 N p1_0 n1) i = some r) ?_ ?_
  · rintro ⟨y82, y113, y114⟩ h130
    rw [m_slices_DeleteFunc_Bind_k2] at h130
    refine ce D_ok mix 3 163 (tl 42 [(0, .own 0), (1, .fn 23 [.loc 1 0]), (5, V.int y113), (6, V.int (IntKind.wrap .i64 (y82 + 1)))]) [(0, .vec false 44 2 (y114.map encSBind)), (1, .cells 9 [V.str p1_0])] (by kernel_rfl) (fun st hw => ?_)
    exact ih118 (y113, (IntKind.wrap .i64 (y82 + 1)), y114) h130 _ (hw.trans (Weak.sel [(0, 0), (1, 1)] [0, 1, 5, 6] (by kernel_rfl) (by kernel_rfl) (by kernel_rfl)))
  intro hk131
  refine CodeOk.block' ?_
  (revert h117; refine bind_rev fun e116 hx133 h117 => ?_)
  refine CodeOk.cutR (tl 42 [(0, .own 0), (1, .fn 23 [.loc 1 0]), (5, V.int y81), (6, V.int y82), (7, .loc 162 0)]) [(162, .cells 44 [V.str e116.Name, V.int e116.Val]), (0, .vec false 44 2 (y83.map encSBind)), (1, .cells 9 [V.str p1_0])] mix (by
   refine W.run D_ok 2 162 (by kernel_rfl) ?_
   refine W.ixO D_ok encSBind hx133 0 2 (by kernel_rfl) ?_
   refine W.ldO D_ok encSBind hx133 44 0 0 (.agg [V.str e116.Name, V.int e116.Val]) (by kernel_rfl) (by kernel_rfl) ?_
   refine W.run D_ok 2 162 (by kernel_rfl) ?_
   exact W.fi (by kernel_rfl)
   ) ?_
  (revert h117; refine bind_rev fun r118 hx135 h117 => ?_)
  refine CodeOk.cutR (tl 42 [(0, .own 0), (1, .fn 23 [.loc 1 0]), (5, V.int y81), (6, V.int y82), (7, .loc 162 0), (29, V.bool (!r118))]) [(162, .cells 44 [V.str e116.Name, V.int e116.Val]), (0, .vec false 44 2 (y83.map encSBind)), (1, .cells 9 [V.str p1_0])] mix (by
   refine W.run D_ok 2 163 (by kernel_rfl) ?_
   refine W.call (m_impl_SetVar_1_ok e116 p1_0 hx135) cok23 [(1, 0)] [(0, 1)] [] (show LayOk _ [] from trivial) (by kernel_rfl) (by kernel_rfl) ?_
   refine W.run D_ok 1 163 (by kernel_rfl) ?_
   exact W.fi (by kernel_rfl)
   ) ?_
  (revert h117; refine cond_rev (fun hc136 h117 => ?_) (fun hc136 h117 => ?_))
  ·refine CodeOk.ifT hc136 (by kernel_rfl) ?_
   (revert h117; refine bind_rev fun e121 hx139 h117 => ?_)
   (revert h117; refine bind_rev fun x122 hu140 h117 => ?_)
   refine CodeOk.cutR (tl 42 [(0, .own 0), (1, .fn 23 [.loc 1 0]), (5, V.int y81), (6, V.int y82)]) [(0, .vec false 44 2 (x122.map encSBind)), (1, .cells 9 [V.str p1_0])] mix (by
    refine W.run D_ok 3 163 (by kernel_rfl) ?_
    refine W.ixO D_ok encSBind hx139 0 2 (by kernel_rfl) ?_
    refine W.stO D_ok encSBind (x' := e116) hx139 hu140 (j := 0) (nn := false) (ety := 44) (sz := 2) (b := 0) (ys := [V.str e116.Name, V.int e116.Val]) (C := []) (R := []) (by kernel_rfl) (by kernel_rfl) ?_
    exact W.fi (by kernel_rfl)
    ) ?_
   refine ce D_ok mix 3 163 (tl 42 [(0, .own 0), (1, .fn 23 [.loc 1 0]), (5, V.int (IntKind.wrap .i64 (y81 + 1))), (6, V.int y82)]) [(0, .vec false 44 2 (x122.map encSBind)), (1, .cells 9 [V.str p1_0])] (by kernel_rfl) (fun st hw => ?_)
   exact hk131 (y82, (IntKind.wrap .i64 (y81 + 1)), x122) h117 _ (hw.trans (Weak.sel [(0, 0), (1, 1)] [0, 1, 5, 6] (by kernel_rfl) (by kernel_rfl) (by kernel_rfl)))
  refine CodeOk.ifF hc136 (by kernel_rfl) ?_
  refine CodeOk.skip ?_
  exact hk131 (y82, y81, y83) h117 _ (Weak.sel [(0, 0), (1, 1)] [0, 1, 5, 6] (by kernel_rfl) (by kernel_rfl) (by kernel_rfl))
 refine CodeOk.ifF hc120 (by kernel_rfl) ?_
 refine CodeOk.exit ?_
 (revert h117; refine bind_rev fun l124 hx142 h117 => ?_)
 refine CodeOk.cutR (tl 42 [(0, .own 0), (5, V.int y81)]) [(0, .vec false 44 2 ((clr (⟨[], 0⟩ : SBind) y81.toNat y83).map encSBind)), (1, .cells 9 [V.str p1_0])] mix (by
  refine W.run D_ok 2 162 (by kernel_rfl) ?_
  refine W.viewO D_ok encSBind hx142 0 2 (by kernel_rfl) ?_
  refine W.clr D_ok encSBind (⟨[], 0⟩ : SBind) hx142 rfl 0 44 2 (nn := false) (by kernel_rfl) ?_
  exact W.fi (by kernel_rfl)
  ) ?_
 (revert h117; refine bind_rev fun l126 hx144 h117 => ?_)
 refine CodeOk.cutR (tl 42 [(4, .own 162)]) [(162, .vec false 44 2 (l126.map encSBind)), (1, .cells 9 [V.str p1_0])] mix (by
  refine W.run D_ok 2 162 (by kernel_rfl) ?_
  refine W.cutO D_ok encSBind hx144 162 (j := 0) (el := 44) (sz := 2) (by kernel_rfl) ?_
  refine W.run D_ok 1 163 (by kernel_rfl) ?_
  exact W.fi (by kernel_rfl)
  ) ?_
 refine CodeOk.ret ?_
 have h117 := Option.some.inj h117
 subst h117
 exact Ends.gen [(1, 1), (162, 100)] (.inr rfl) (RetV.one rfl (OneR.tmp (t := 4) (r := .own 162) (by kernel_rfl))) (by kernel_rfl) (by kernel_rfl) (by kernel_rfl)

theorem m_impl_SetVar_2_ok (a0 : SBind) (p0_0 : List UInt8) {r : Bool} (h : m_impl_SetVar_2 a0 p0_0 = some r) :
    AC Try.prog GG 25 [.agg [V.str a0.Name, V.int a0.Val], .loc 0 0] [(0, .cells 9 [V.str p0_0])] (V.bool r) [(0, .cells 9 [V.str p0_0])] := by
 rw [m_impl_SetVar_2] at h
 refine AC.enter Try.func25 rfl ?_
 refine cu D_ok mix 2 100 (tl 8 [(1, .loc 0 0), (2, .loc 100 0)]) [(100, .cells 44 [V.str a0.Name, V.int a0.Val]), (0, .cells 9 [V.str p0_0])] (by kernel_rfl) ?_
 refine cu D_ok mix 5 101 (tl 8 [(3, V.bool (!(Op.bytesLess a0.Name p0_0 || a0.Name == p0_0)))]) [(0, .cells 9 [V.str p0_0])] (by kernel_rfl) ?_
 refine CodeOk.ret ?_
 have h := Option.some.inj h
 subst h
 exact Ends.gen [(0, 0)] (.inr rfl) (RetV.one rfl (OneR.tmp (t := 3) (r := V.bool (!(Op.bytesLess a0.Name p0_0 || a0.Name == p0_0))) (by kernel_rfl))) (by kernel_rfl) (by kernel_rfl) (by kernel_rfl)

theorem m_slices_IndexFunc_Bind_v2_ok (N : Nat) (p0 : List SBind) (p1_0 : List UInt8) {r : Int} (h : m_slices_IndexFunc_Bind_v2 N p0 p1_0 = some r) :
    AC Try.prog GG 24 [.own 0, .fn 25 [.loc 1 0]] [(0, .vec false 44 2 (p0.map encSBind)), (1, .cells 9 [V.str p1_0])] (V.int r) [(0, .vec false 44 2 (p0.map encSBind)), (1, .cells 9 [V.str p1_0])] := by
 rw [m_slices_IndexFunc_Bind_v2] at h
 refine AC.enter Try.func24 rfl ?_
 refine cu D_ok mix 1 100 (tl 19 [(0, .own 0), (1, .fn 25 [.loc 1 0])]) [(0, .vec false 44 2 (p0.map encSBind)), (1, .cells 9 [V.str p1_0])] (by kernel_rfl) ?_
 refine CodeOk.seq' ?_
 refine CodeOk.cutR (tl 19 [(0, .own 0), (1, .fn 25 [.loc 1 0]), (7, V.int (p0.length : Int)), (8, V.int 0)]) [(0, .vec false 44 2 (p0.map encSBind)), (1, .cells 9 [V.str p1_0])] mix (by
  refine W.run D_ok 1 100 (by kernel_rfl) ?_
  refine W.len D_ok encSBind p0 [0] (by kernel_rfl) (by kernel_rfl) ?_
  refine W.run D_ok 1 100 (by kernel_rfl) ?_
  exact W.fi (by kernel_rfl)
  ) ?_
 refine CodeOk.block' ?_
 refine CodeOk.loopJ (fun (y35 : Int) => ⟨tl 19 [(0, .own 0), (1, .fn 25 [.loc 1 0]), (7, V.int (p0.length : Int)), (8, V.int y35)], [(0, .vec false 44 2 (p0.map encSBind)), (1, .cells 9 [V.str p1_0])]⟩) (fun n i => m_slices_IndexFunc_Bind_v2_l1 N p0 p1_0 n i = some r) (n0 := N) (i0 := 0) (Weak.sel [(0, 0), (1, 1)] [0, 1, 7, 8] (by kernel_rfl) (by kernel_rfl) (by kernel_rfl)) h (fun i h => by simp [m_slices_IndexFunc_Bind_v2_l1] at h) ?_
 rintro n1 y35 h63 ih64
 rw [m_slices_IndexFunc_Bind_v2_l1] at h63
 refine cu D_ok mix 1 160 (tl 19 [(0, .own 0), (1, .fn 25 [.loc 1 0]), (7, V.int (p0.length : Int)), (8, V.int y35), (9, V.bool (decide (y35 < (p0.length : Int))))]) [(0, .vec false 44 2 (p0.map encSBind)), (1, .cells 9 [V.str p1_0])] (by kernel_rfl) ?_
 refine CodeOk.seq' ?_
 (revert h63; refine cond_rev (fun hc66 h63 => ?_) (fun hc66 h63 => ?_))
 ·refine CodeOk.ifT hc66 (by kernel_rfl) ?_
  refine CodeOk.skip ?_
  refine CodeOk.seq' ?_
  refine CodeOk.block' ?_
  refine cu D_ok mix 2 160 (tl 19 [(0, .own 0), (1, .fn 25 [.loc 1 0]), (5, V.int y35), (7, V.int (p0.length : Int)), (8, V.int y35)]) [(0, .vec false 44 2 (p0.map encSBind)), (1, .cells 9 [V.str p1_0])] (by kernel_rfl) ?_
  (revert h63; refine bind_rev fun e51 hx74 h63 => ?_)
  (revert h63; refine bind_rev fun r52 hx75 h63 => ?_)
  refine CodeOk.cutR (tl 19 [(0, .own 0), (1, .fn 25 [.loc 1 0]), (5, V.int y35), (7, V.int (p0.length : Int)), (8, V.int y35), (16, V.bool r52)]) [(0, .vec false 44 2 (p0.map encSBind)), (1, .cells 9 [V.str p1_0])] mix (by
   refine W.run D_ok 3 160 (by kernel_rfl) ?_
   refine W.ixO D_ok encSBind hx74 0 2 (by kernel_rfl) ?_
   refine W.ldO D_ok encSBind hx74 44 0 0 (.agg [V.str e51.Name, V.int e51.Val]) (by kernel_rfl) (by kernel_rfl) ?_
   refine W.call (m_impl_SetVar_2_ok e51 p1_0 hx75) cok25 [(1, 0)] [(0, 1)] [] (show LayOk _ [] from trivial) (by kernel_rfl) (by kernel_rfl) ?_
   exact W.fi (by kernel_rfl)
   ) ?_
  (revert h63; refine cond_rev (fun hc76 h63 => ?_) (fun hc76 h63 => ?_))
  ·refine CodeOk.ifT hc76 (by kernel_rfl) ?_
   refine cu D_ok mix 2 160 (tl 19 [(4, V.int y35)]) [(0, .vec false 44 2 (p0.map encSBind)), (1, .cells 9 [V.str p1_0])] (by kernel_rfl) ?_
   refine CodeOk.ret ?_
   have h63 := Option.some.inj h63
   subst h63
   exact Ends.gen [(0, 0), (1, 1)] (.inr rfl) (RetV.one rfl (OneR.tmp (t := 4) (r := V.int y35) (by kernel_rfl))) (by kernel_rfl) (by kernel_rfl) (by kernel_rfl)
  refine CodeOk.ifF hc76 (by kernel_rfl) ?_
  refine CodeOk.skip ?_
  refine ce D_ok mix 2 160 (tl 19 [(0, .own 0), (1, .fn 25 [.loc 1 0]), (7, V.int (p0.length : Int)), (8, V.int (IntKind.wrap .i64 (y35 + 1)))]) [(0, .vec false 44 2 (p0.map encSBind)), (1, .cells 9 [V.str p1_0])] (by kernel_rfl) (fun st hw => ?_)
  exact ih64 (IntKind.wrap .i64 (y35 + 1)) h63 _ (hw.trans (Weak.sel [(0, 0), (1, 1)] [0, 1, 7, 8] (by kernel_rfl) (by kernel_rfl) (by kernel_rfl)))
 refine CodeOk.ifF hc66 (by kernel_rfl) ?_
 refine CodeOk.exit ?_
 refine cu D_ok mix 1 160 (tl 19 [(4, V.int (-1))]) [(0, .vec false 44 2 (p0.map encSBind)), (1, .cells 9 [V.str p1_0])] (by kernel_rfl) ?_
 refine CodeOk.ret ?_
 have h63 := Option.some.inj h63
 subst h63
 exact Ends.gen [(0, 0), (1, 1)] (.inr rfl) (RetV.one rfl (OneR.tmp (t := 4) (r := V.int (-1)) (by kernel_rfl))) (by kernel_rfl) (by kernel_rfl) (by kernel_rfl)

theorem m_slices_Insert_Bind_copy_k {P : Program} (w : World) (dT sT ty elem : TypeId) (g o dLen dCap : Nat) (a : Addr) (sLen sCap k : Nat) (cur : Array Value) (t : TypeId) (cs : List Value)
    (hu : P.underlying dT = some (.slice elem)) (hs : (P.info? elem).map (·.size) = some k)
    (hg : w.heap[g]? = some (.cells cur t (0, 0))) (hn : cs.length = Nat.min sLen dLen * k)
    (hsrc : ∀ j v, cs[j]? = some v → w.cell? (a.add j) = some v) (hfit : o + cs.length ≤ cur.size) (h1 : ∀ v ∈ cs, v.oneCell' = true) :
    (Builtin.copy_ #[dT, sT] ty #[.slice (some ⟨g, o, none⟩) dLen dCap, .slice (some a) sLen sCap]).run P w =
      .ok (goInt (Nat.min sLen dLen)) (w.setRow g (cur.toList.take o ++ cs ++ cur.toList.drop (o + cs.length)).toArray) := by
  have hl := run_loadCells_list (P := P) w a cs hsrc
  have hst := run_storeCells_at P g o t cs 0 cur w hg (by simpa using hfit) h1
  cases hq : P.info? elem with
  | none => simp [hq] at hs
  | some i =>
    have hi : i.size = k := by simpa [hq] using hs
    simp [Builtin.copy_, run_underlying hu, Builtin.lenOf, Builtin.firstCells, sizeOf, typeInfo, hq, hi, ← hn, hl, hst]

theorem m_slices_Insert_Bind_mixIns : Try.prog.follows .mixedOrders = true := by kernel_rfl
theorem m_slices_Insert_Bind_sizIns : (Try.prog.info? 44).map (·.size) = some 2 := by kernel_rfl

theorem m_slices_Insert_Bind_ins_shift (g n c i vb m vc : Nat) (cur varr : Array Value) (w : World) (hi : i < n) (hm : 0 < m) (hroom : n + m ≤ c) (hc63 : c ≤ maxLen) (hvb : vb ≠ g)
    (hg : w.heap[g]? = some (.cells cur 44 (0, 0))) (hcs : cur.size = c * 2) (h1 : ∀ v, v ∈ cur.toList.take (n * 2) → v.oneCell' = true)
    (hv : w.heap[vb]? = some (.cells varr 44 (0, 0))) (hvs : varr.size = vc * 2) (hmv : m ≤ vc) (h1v : ∀ v, v ∈ varr.toList.take (m * 2) → v.oneCell' = true) :
    Calls Try.prog 26 #[.slice (some ⟨g, 0, none⟩) n c, .int .i64 i, .slice (some ⟨vb, 0, none⟩) m vc] w
      (Ins 44 2 w (some g) n m ((cur.toList.take (n * 2)).take (i * 2) ++ varr.toList.take (m * 2) ++ (cur.toList.take (n * 2)).drop (i * 2))) := by
  have uS := run_underlying Try.underlying24
  have hz1 : ¬ ((m : Int) = 0) := by omega
  have hz2 : ¬ ((i : Int) = (n : Int)) := by omega
  have mixed := m_slices_Insert_Bind_mixIns
  have hc63' : c ≤ 9223372036854775807 := by simpa only [maxLen] using hc63
  have hw1 : IntKind.i64.wrap ((i : Int) + (m : Int)) = (i : Int) + (m : Int) := by rw [IntKind.wrap_i64]; omega
  have hb1 : (0 : Int) ≤ (i : Int) + (m : Int) := by omega
  have hin : i ≤ n := by omega
  have htn : ((i : Int) + (m : Int)).toNat = i + m := by omega
  have hb2 : ¬ (c = i + m) := by omega
  have hb3 : (i : Int) ≤ (n : Int) + (m : Int) := by omega
  have hb4 : ¬ (c = i) := by omega
  have hov : ∀ lb cb, (callFunc 33 #[.slice (some ⟨vb, 0, none⟩) m vc, .slice (some ⟨g, (i + m) * 2, none⟩) lb cb]).run Try.prog w = .ok (.value (.bool false)) w := fun lb cb => by
    rw [run_callFunc_extern Try.func33 (by kernel_rfl) (by kernel_rfl) (by kernel_rfl) (e := Extern.SlicesOverlaps.overlaps #[24, 24] #[4]) (by kernel_rfl),
      Lib.run_overlaps_apart w 24 4 44 Try.underlying24 2 (fun w => ty44.sizeOf w) ⟨vb, 0, none⟩ ⟨g, (i + m) * 2, none⟩ m vc lb cb hvb 44 44 varr.size cur.size (by simp [World.shape?, hv]) (by simp [World.shape?, hg]) (by omega) (frozen_of_row w vb _ varr 44 hv) (frozen_of_row w vb _ varr 44 hv)]
    rfl
  obtain ⟨mid, hmid⟩ : ∃ mid : List Value, mid = (cur.toList.take (n * 2)).drop (i * 2) := ⟨_, rfl⟩
  have hml : mid.length = (n - i) * 2 := by subst hmid; simp; omega
  obtain ⟨row1, hrow1⟩ : ∃ row1 : Array Value, row1 = (cur.toList.take ((i + m) * 2) ++ mid ++ cur.toList.drop ((i + m) * 2 + mid.length)).toArray := ⟨_, rfl⟩
  have hcp1 : ∀ ty dc sc, (Builtin.copy_ #[24, 24] ty #[.slice (some ⟨g, (i + m) * 2, none⟩) (n + m - (i + m)) dc, .slice (some ⟨g, i * 2, none⟩) (n + m - i) sc]).run Try.prog w.drew = .ok (goInt ((n - i : Nat) : Int)) (w.drew.setRow g row1) := fun ty dc sc => by
    have hmin : Nat.min (n + m - i) (n + m - (i + m)) = n - i := by show min _ _ = _; rw [Nat.min_def]; split <;> omega
    have := m_slices_Insert_Bind_copy_k w.drew 24 24 ty 44 g ((i + m) * 2) (n + m - (i + m)) dc ⟨g, i * 2, none⟩ (n + m - i) sc 2 cur 44 mid Try.underlying24 m_slices_Insert_Bind_sizIns hg (by rw [hmin, hml])
      (fun j v hj => by
        rw [Addr.add_lit, cell_of_row w.drew g _ cur 44 (0, 0) hg]
        rw [hmid, List.getElem?_drop, List.getElem?_take] at hj
        split at hj
        · simpa using hj
        · cases hj) (by rw [hml, hcs]; omega) (fun v hv => h1 v (by rw [hmid] at hv; exact List.mem_of_mem_drop hv))
    rw [hmin, ← hrow1] at this
    exact this
  have hrl : row1.size = cur.size := by rw [hrow1]; simp [hml]; omega
  obtain ⟨W1, hW1⟩ : ∃ W1, W1 = w.drew.setRow g row1 := ⟨_, rfl⟩
  have hg1 : W1.heap[g]? = some (.cells row1 44 (0, 0)) := by rw [hW1]; exact setRow_heap w.drew g cur _ 44 _ hg
  have hv1 : W1.heap[vb]? = some (.cells varr 44 (0, 0)) := by rw [hW1, setRow_other w.drew g vb _ hvb]; exact hv
  obtain ⟨row2, hrow2⟩ : ∃ row2 : Array Value, row2 = (row1.toList.take (i * 2) ++ varr.toList.take (m * 2) ++ row1.toList.drop (i * 2 + (varr.toList.take (m * 2)).length)).toArray := ⟨_, rfl⟩
  have hvl : (varr.toList.take (m * 2)).length = m * 2 := by simp; omega
  have hcp2 : ∀ (W : World), W.heap = W1.heap → ∀ ty dc, (Builtin.copy_ #[24, 24] ty #[.slice (some ⟨g, i * 2, none⟩) (n + m - i) dc, .slice (some ⟨vb, 0, none⟩) m vc]).run Try.prog W = .ok (goInt m) (W.setRow g row2) := fun W hW ty dc => by
    have hmin : Nat.min m (n + m - i) = m := by show min _ _ = _; rw [Nat.min_def]; split <;> omega
    have := m_slices_Insert_Bind_copy_k W 24 24 ty 44 g (i * 2) (n + m - i) dc ⟨vb, 0, none⟩ m vc 2 row1 44 (varr.toList.take (m * 2)) Try.underlying24 m_slices_Insert_Bind_sizIns (by rw [hW]; exact hg1) (by rw [hmin, hvl])
      (fun j v hj => by
        rw [Addr.add_lit, Nat.zero_add, cell_of_row W vb _ varr 44 (0, 0) (by rw [hW]; exact hv1)]
        rw [List.getElem?_take] at hj
        split at hj
        · simpa using hj
        · cases hj) (by rw [hvl, hrl, hcs]; omega) h1v
    rw [hmin, ← hrow2] at this
    exact this
  rw [← hW1] at hcp1
  have hfin : Ins 44 2 w (some g) n m ((cur.toList.take (n * 2)).take (i * 2) ++ varr.toList.take (m * 2) ++ (cur.toList.take (n * 2)).drop (i * 2)) (.returned (.slice (some ⟨g, 0, none⟩) (n + m) c)) (W1.setRow g row2) := by
    have hgl : g < w.heap.size := (Array.getElem?_eq_some_iff.1 hg).1
    have hr2 : row2.size = cur.size := by rw [hrow2]; simp [hrl]; omega
    refine ⟨g, c, row2, rfl, ⟨?_, ?_, ?_, ?_, fun k hk hne => ?_⟩, setRow_heap W1 g row1 _ 44 _ hg1, hroom, hc63, by rw [hr2, hcs], ?_, .inl rfl, ?_⟩
    · rw [hW1]; rfl
    · rw [hW1]; rfl
    · rw [hW1]; rfl
    · rw [hW1]; simp
    · have hkg : k ≠ g := fun e => hne (by rw [e])
      rw [setRow_other W1 g k _ hkg, hW1, setRow_other w.drew g k _ hkg]; rfl
    · have e1 : row1.toList.take (i * 2) = (cur.toList.take (n * 2)).take (i * 2) := by
        rw [hrow1]
        simp only []
        rw [List.append_assoc, List.take_append_of_le_length (by simp; omega), List.take_take, List.take_take]
        congr 1; omega
      have e2 : (row1.toList.drop (i * 2 + m * 2)).take ((n - i) * 2) = mid := by
        rw [hrow1]
        simp only []
        rw [show i * 2 + m * 2 = (cur.toList.take ((i + m) * 2)).length by simp; omega, List.append_assoc, List.drop_left, ← hml, List.take_left]
      rw [hrow2]
      simp only []
      have hA : ((cur.toList.take (n * 2)).take (i * 2)).length = i * 2 := by
        rw [List.length_take, List.length_take, Array.length_toList]; omega
      rw [e1, hvl, ← hmid]
      generalize (cur.toList.take (n * 2)).take (i * 2) = A at hA ⊢
      generalize varr.toList.take (m * 2) = B at hvl ⊢
      rw [show (n + m) * 2 = (A ++ B).length + (n - i) * 2 by rw [List.length_append, hA, hvl]; omega, List.take_length_add_append, e2]
    · rw [hW1]; simpa using hgl
  clear hrow1 hrow2 hmid hW1 hg1 hv1 hvl hml hrl hcs hvs hv h1 h1v
  go_enter Try.func26, Try.ntmps26
  go_wp2_with (simp only [hov])
  go_region_law_o (refine step_copy_runI rfl _ _ 24 24 rfl _ _ (by simp [Act.eval, Act.put]) (by simp [Act.eval, Act.put]) (hcp1 _ _ _) ?_)
  go_wp2_with (at_builtin; refine wpList_copy_runI _ rfl _ _ 24 24 rfl _ _ rfl rfl (hcp2 _ rfl _ _) ?_)
  go_ret
  exact hfin

theorem m_slices_Insert_Bind_ins_end (s : Value) (n vb m vc : Nat) (olds : List Value) (varr : Array Value) (w : World) (hm : 0 < m)
    (hs : (s = .slice none 0 0 ∧ n = 0 ∧ olds = []) ∨ ∃ g c cur, s = .slice (some ⟨g, 0, none⟩) n c ∧ w.heap[g]? = some (.cells cur 44 (0, 0)) ∧ n ≤ c ∧ c ≤ maxLen ∧ cur.size = c * 2 ∧ olds = cur.toList.take (n * 2))
    (hv : w.heap[vb]? = some (.cells varr 44 (0, 0))) (hvs : varr.size = vc * 2) (hmv : m ≤ vc) (h1v : ∀ v, v ∈ varr.toList.take (m * 2) → v.oneCell' = true) (hb : (n + m) * 24 ≤ 140737488355328) :
    Calls Try.prog 26 #[s, .int .i64 n, .slice (some ⟨vb, 0, none⟩) m vc] w
      (Ins 44 2 w s.ownBlock n m (olds ++ varr.toList.take (m * 2))) := by
  have uS := run_underlying Try.underlying24
  have hz1 : ¬ ((m : Int) = 0) := by omega
  have mixed := m_slices_Insert_Bind_mixIns
  have hol : olds.length = n * 2 := by
    rcases hs with ⟨_, rfl, rfl⟩ | ⟨g, c, cur, _, _, hnc, _, hsz, rfl⟩
    · rfl
    · simp; omega
  have hvl : (varr.toList.take (m * 2)).length = m * 2 := by simp; omega
  have hsrc : Src Try.prog 2 24 (.slice (some ⟨vb, 0, none⟩) m vc) m (varr.toList.take (m * 2)) w := Src.ofSlice w Try.underlying24 ⟨vb, 0, none⟩ m vc _ (by rw [hvl])
    (fun j v hj => by
      rw [Addr.add_lit, Nat.zero_add, cell_of_row w vb _ varr 44 (0, 0) hv]
      rw [List.getElem?_take] at hj
      split at hj
      · simpa using hj
      · cases hj) h1v
  obtain ⟨inf, z, e1, e2, e3, e4, e5⟩ : ∃ inf z, Try.prog.info? 44 = some inf ∧ inf.size = 2 ∧ inf.bytes = 24 ∧ inf.zero = some z ∧ z.cells.size = 2 := ⟨Try.t44, _, by kernel_rfl, rfl, rfl, rfl, rfl⟩
  have hv' : (s = .slice none 0 0 ∧ n = 0) ∨ ∃ g cap arr, s = .slice (some ⟨g, 0, none⟩) n cap ∧ w.heap[g]? = some (.cells arr 44 (0, 0)) ∧ n ≤ cap ∧ cap ≤ maxLen ∧ arr.size = cap * inf.size ∧ ∀ p, p < n * inf.size → arr[p]? = olds[p]? := by
    rcases hs with ⟨h1, h2, _⟩ | ⟨g, c, cur, h1, h2, h3, h4, h5, rfl⟩
    · exact .inl ⟨h1, h2⟩
    · refine .inr ⟨g, c, cur, h1, h2, h3, h4, by rw [e2]; exact h5, fun p hp => ?_⟩
      rw [e2] at hp
      rw [List.getElem?_take, if_pos hp]
      simp
  obtain ⟨v', w', hrun, hgb, hres⟩ := run_append_vec (ty := 24) w 24 24 44 inf z Try.underlying24 e1 e4 (by rw [e5, e2]) s n _ m _ (by rw [e2]; exact hsrc) (fun p => olds[p]?) hv' (by simp only [maxLen]; omega) (by rw [e3]; exact hb)
  obtain ⟨g', cap', arr', rfl, h1, h2, h3, h4, h5, h6, h7, h8⟩ := hres.resolve_left (fun h => by omega)
  have hfin : Ins 44 2 w s.ownBlock n m (olds ++ varr.toList.take (m * 2)) (.returned (.slice (some ⟨g', 0, none⟩) (n + m) cap')) w' := by
    rw [e2] at h4 h5 h6
    refine ⟨g', cap', arr', rfl, hgb, h1, h2, h3, h4, ?_, h7, h8⟩
    apply List.ext_getElem?
    intro p
    rw [List.getElem?_take]
    split
    · by_cases hp : p < n * 2
      · rw [List.getElem?_append_left (by omega)]
        simpa using h5 p hp
      · rw [List.getElem?_append_right (by omega), hol]
        have := h6 (p - n * 2) (by omega)
        rw [show n * 2 + (p - n * 2) = p by omega] at this
        simpa using this
    · rw [List.getElem?_eq_none]
      rw [List.length_append, hol, hvl]; omega
  clear h1 h2 h3 h4 h5 h6 h7 h8 hgb hv' hsrc hvl hol h1v hvs hv e1 e2 e3 e4 e5
  rcases hs with ⟨rfl, rfl, rfl⟩ | ⟨g, c, cur, rfl, hg, hnc, hcm, hsz, rfl⟩
  · go_enter Try.func26, Try.ntmps26
    go_wp2_with (at_builtin; refine Lib.wpList_append_run _ rfl _ _ _ _ rfl _ _ rfl rfl _ _ hrun ?_)
    go_ret
    simp only [Nat.zero_add, List.nil_append] at hfin
    exact hfin
  · clear hg hsz hcm
    go_enter Try.func26, Try.ntmps26
    go_wp2_with (at_builtin; refine Lib.wpList_append_run _ rfl _ _ _ _ rfl _ _ rfl rfl _ _ hrun ?_)
    all_goals (go_ret; exact hfin)

theorem m_slices_Insert_Bind_ins_grow (g n c i vb m vc : Nat) (cur varr : Array Value) (w : World) (hi : i < n) (hm : 0 < m) (hnc : n ≤ c) (hroom : c < n + m) (hc63 : c ≤ maxLen) (hb : (n + m) * 24 ≤ 140737488355328)
    (hg : w.heap[g]? = some (.cells cur 44 (0, 0))) (hcs : cur.size = c * 2) (h1 : ∀ v, v ∈ cur.toList.take (n * 2) → v.oneCell' = true)
    (hv : w.heap[vb]? = some (.cells varr 44 (0, 0))) (hvs : varr.size = vc * 2) (hmv : m ≤ vc) (h1v : ∀ v, v ∈ varr.toList.take (m * 2) → v.oneCell' = true) :
    Calls Try.prog 26 #[.slice (some ⟨g, 0, none⟩) n c, .int .i64 i, .slice (some ⟨vb, 0, none⟩) m vc] w
      (Ins 44 2 w (some g) n m ((cur.toList.take (n * 2)).take (i * 2) ++ varr.toList.take (m * 2) ++ (cur.toList.take (n * 2)).drop (i * 2))) := by
  have uS := run_underlying Try.underlying24
  have hz1 : ¬ ((m : Int) = 0) := by omega
  have hz2 : ¬ ((i : Int) = (n : Int)) := by omega
  have hz3 : (c : Int) < (n : Int) + (m : Int) := by omega
  have mixed := m_slices_Insert_Bind_mixIns
  have hc63' : c ≤ 9223372036854775807 := by simpa only [maxLen] using hc63
  have hgl : g < w.heap.size := (Array.getElem?_eq_some_iff.1 hg).1
  have hvw : vb < w.heap.size := (Array.getElem?_eq_some_iff.1 hv).1
  have hkk : (n : Int) + (m : Int) - (i : Int) = ((n + m - i : Nat) : Int) := by omega
  have hik : i + (n + m - i) = n + m := by omega
  have hvl : (varr.toList.take (m * 2)).length = m * 2 := by simp; omega
  obtain ⟨inf, z, e1, e2, e3, e4, e5⟩ : ∃ inf z, Try.prog.info? 44 = some inf ∧ inf.size = 2 ∧ inf.bytes = 24 ∧ inf.zero = some z ∧ z.cells.size = 2 := ⟨Try.t44, _, by kernel_rfl, rfl, rfl, rfl, rfl⟩
  obtain ⟨fro, hfro⟩ : ∃ fro : List Value, fro = (cur.toList.take (n * 2)).take (i * 2) := ⟨_, rfl⟩
  have hfl : fro.length = i * 2 := by rw [hfro, List.length_take, List.length_take, Array.length_toList]; omega
  have hold : (Builtin.firstCells inf.size i (.slice (some ⟨g, 0, none⟩) i c)).run Try.prog w.drew = .ok fro.toArray w.drew := by
    rw [e2]
    exact run_firstCells_some w.drew 2 i ⟨g, 0, none⟩ i c fro hfl (fun j v hj => by
      rw [Addr.add_lit, Nat.zero_add, cell_of_row w.drew g _ cur 44 (0, 0) hg]
      rw [hfro, List.getElem?_take, List.getElem?_take] at hj
      split at hj
      · split at hj
        · simpa using hj
        · cases hj
      · cases hj)
  obtain ⟨G, hG⟩ : ∃ G, G = grownCap w (n + m) c 44 := ⟨_, rfl⟩
  obtain ⟨ROW, hROW⟩ : ∃ ROW : Array Value, ROW = fro.toArray ++ Builtin.zeroCells z.cells (n + m - i) ++ Builtin.zeroCells z.cells (G - (n + m)) := ⟨_, rfl⟩
  have hrz : ∀ ty, (Builtin.append_ #[24, 3] ty #[.slice (some ⟨g, 0, none⟩) i c, .int .i64 ((n : Int) + (m : Int) - (i : Int))]).run Try.prog w =
      .ok (.slice (some ⟨w.heap.size, 0, none⟩) (n + m) G) (w.drew.alloc (.cells ROW 44)) := fun ty => by
    have h := Lib.run_append_grow_zeros w 24 3 ty 44 inf z .i64 .i64 Try.underlying24 Try.underlying3 e1 e4 (some ⟨g, 0, none⟩) i c fro hold (n + m - i) (by omega) (by omega) (by omega) (by omega) (by rw [e3]; omega) (by rw [e3, hik]; exact growslice_fits hroom hb)
    rw [hik, ← hG, ← hROW] at h
    rw [hkk]
    exact h
  have hGn : n + m ≤ G := by rw [hG]; exact grownCap_ge w _ _ _
  have hGm : G ≤ maxLen := by rw [hG]; exact grownCap_le_maxLen w (n + m) c 44 (by unfold maxLen; omega)
  have hG63 : G ≤ 9223372036854775807 := by simpa only [maxLen] using hGm
  have hRs : ROW.size = G * 2 := by
    rw [hROW]
    simp only [Array.size_append, List.size_toArray, size_zeroCells, e5, hfl]
    omega
  have hGi : ¬ (G = i) := by omega
  have hGim : ¬ (G = i + m) := by omega
  have hci : ¬ (c = i) := by omega
  have hgN : g ≠ w.heap.size := by omega
  have hvN : vb ≠ w.heap.size := by omega
  obtain ⟨W1, hW1⟩ : ∃ W1, W1 = w.drew.alloc (.cells ROW 44) := ⟨_, rfl⟩
  have hN1 : W1.heap[w.heap.size]? = some (.cells ROW 44 (0, 0)) := by rw [hW1]; exact heap_alloc_new w.drew _
  have hg1 : W1.heap[g]? = some (.cells cur 44 (0, 0)) := by rw [hW1, heap_alloc_old w.drew _ hgl]; exact hg
  have hv1 : W1.heap[vb]? = some (.cells varr 44 (0, 0)) := by rw [hW1, heap_alloc_old w.drew _ hvw]; exact hv
  have hk1 : ∀ k, k < w.heap.size → W1.heap[k]? = w.heap[k]? := fun k hk => by rw [hW1, heap_alloc_old w.drew _ hk]; rfl
  have hs1 : W1.heap.size = w.heap.size + 1 := by rw [hW1]; simp
  have ho1 : W1.os = w.os ∧ W1.tape = w.tape ∧ W1.output = w.output := by rw [hW1]; exact ⟨rfl, rfl, rfl⟩
  obtain ⟨row1, hrow1⟩ : ∃ row1 : Array Value, row1 = (ROW.toList.take (i * 2) ++ varr.toList.take (m * 2) ++ ROW.toList.drop (i * 2 + (varr.toList.take (m * 2)).length)).toArray := ⟨_, rfl⟩
  have hcpA : ∀ (W : World), W.heap = W1.heap → ∀ ty dc, (Builtin.copy_ #[24, 24] ty #[.slice (some ⟨w.heap.size, i * 2, none⟩) (n + m - i) dc, .slice (some ⟨vb, 0, none⟩) m vc]).run Try.prog W = .ok (goInt m) (W.setRow w.heap.size row1) := fun W hW ty dc => by
    have hmin : Nat.min m (n + m - i) = m := by show min _ _ = _; rw [Nat.min_def]; split <;> omega
    have := m_slices_Insert_Bind_copy_k W 24 24 ty 44 w.heap.size (i * 2) (n + m - i) dc ⟨vb, 0, none⟩ m vc 2 ROW 44 (varr.toList.take (m * 2)) Try.underlying24 m_slices_Insert_Bind_sizIns (by rw [hW]; exact hN1) (by rw [hmin, hvl])
      (fun j v hj => by
        rw [Addr.add_lit, Nat.zero_add, cell_of_row W vb _ varr 44 (0, 0) (by rw [hW]; exact hv1)]
        rw [List.getElem?_take] at hj
        split at hj
        · simpa using hj
        · cases hj) (by rw [hvl, hRs]; omega) h1v
    rw [hmin, ← hrow1] at this
    exact this
  have hrl : row1.size = ROW.size := by rw [hrow1]; simp [hvl]; omega
  obtain ⟨mid, hmid⟩ : ∃ mid : List Value, mid = (cur.toList.take (n * 2)).drop (i * 2) := ⟨_, rfl⟩
  have hml : mid.length = (n - i) * 2 := by subst hmid; simp; omega
  obtain ⟨row2, hrow2⟩ : ∃ row2 : Array Value, row2 = (row1.toList.take ((i + m) * 2) ++ mid ++ row1.toList.drop ((i + m) * 2 + mid.length)).toArray := ⟨_, rfl⟩
  obtain ⟨W2, hW2⟩ : ∃ W2, W2 = W1.setRow w.heap.size row1 := ⟨_, rfl⟩
  have hN2 : W2.heap[w.heap.size]? = some (.cells row1 44 (0, 0)) := by rw [hW2]; exact setRow_heap W1 _ ROW _ 44 _ hN1
  have hg2 : W2.heap[g]? = some (.cells cur 44 (0, 0)) := by rw [hW2, setRow_other W1 _ g _ hgN]; exact hg1
  have hcpB : ∀ (W : World), W.heap = W2.heap → ∀ ty dc sc, (Builtin.copy_ #[24, 24] ty #[.slice (some ⟨w.heap.size, (i + m) * 2, none⟩) (n + m - (i + m)) dc, .slice (some ⟨g, i * 2, none⟩) (n - i) sc]).run Try.prog W = .ok (goInt ((n - i : Nat) : Int)) (W.setRow w.heap.size row2) := fun W hW ty dc sc => by
    have hmin : Nat.min (n - i) (n + m - (i + m)) = n - i := by show min _ _ = _; rw [Nat.min_def]; split <;> omega
    have := m_slices_Insert_Bind_copy_k W 24 24 ty 44 w.heap.size ((i + m) * 2) (n + m - (i + m)) dc ⟨g, i * 2, none⟩ (n - i) sc 2 row1 44 mid Try.underlying24 m_slices_Insert_Bind_sizIns (by rw [hW]; exact hN2) (by rw [hmin, hml])
      (fun j v hj => by
        rw [Addr.add_lit, cell_of_row W g _ cur 44 (0, 0) (by rw [hW]; exact hg2)]
        rw [hmid, List.getElem?_drop, List.getElem?_take] at hj
        split at hj
        · simpa using hj
        · cases hj) (by rw [hml, hrl, hRs]; omega) (fun v hv => h1 v (by rw [hmid] at hv; exact List.mem_of_mem_drop hv))
    rw [hmin, ← hrow2] at this
    exact this
  have hfin : ∀ W' : World, W'.heap = (W2.setRow w.heap.size row2).heap → W'.os = w.os → W'.tape = w.tape → W'.output = w.output →
      Ins 44 2 w (some g) n m (fro ++ varr.toList.take (m * 2) ++ mid) (.returned (.slice (some ⟨w.heap.size, 0, none⟩) (n + m) G)) W' := by
    intro W' hh h1 h2 h3
    have hr2 : row2.size = ROW.size := by rw [hrow2]; simp [hrl, hml]; omega
    refine ⟨w.heap.size, G, row2, rfl, ⟨h1, h2, h3, ?_, fun k hk hne => ?_⟩, by rw [hh]; exact setRow_heap W2 _ row1 _ 44 _ hN2, hGn, hGm, by rw [hr2, hRs], ?_, .inr (Nat.le_refl _), ?_⟩
    · rw [hh, hW2]; simp [hs1]
    · have hkg : k ≠ w.heap.size := by omega
      rw [hh, setRow_other W2 _ k _ hkg, hW2, setRow_other W1 _ k _ hkg]; exact hk1 k hk
    · have e0 : ROW.toList.take (i * 2) = fro := by
        rw [hROW, ← hfl]
        simp
      have e1 : row1.toList.take ((i + m) * 2) = fro ++ varr.toList.take (m * 2) := by
        rw [hrow1]
        simp only []
        rw [e0, show (i + m) * 2 = (fro ++ varr.toList.take (m * 2)).length by rw [List.length_append, hfl, hvl]; omega, List.take_left]
      rw [hrow2]
      simp only []
      rw [e1, show (n + m) * 2 = (fro ++ varr.toList.take (m * 2) ++ mid).length by rw [List.length_append, List.length_append, hfl, hvl, hml]; omega, List.take_left]
    · rw [hh, hW2]; simp [hs1]
  rw [← hmid, ← hfro]
  have hb1 : (0 : Int) ≤ (i : Int) + (m : Int) := by omega
  have hw1 : IntKind.i64.wrap ((i : Int) + (m : Int)) = (i : Int) + (m : Int) := by rw [IntKind.wrap_i64]; omega
  have hin : i ≤ n := by omega
  have htn : ((i : Int) + (m : Int)).toNat = i + m := by omega
  have hb3 : (i : Int) ≤ (n : Int) := by omega
  subst hW2
  subst hW1
  have hE : ((w.alloc (.cells ROW 44)).drew).heap = (w.drew.alloc (.cells ROW 44)).heap := rfl
  have hF : ∀ (W : World), W.heap = (w.drew.alloc (.cells ROW 44)).heap → (W.setRow w.heap.size row1).drew.heap = ((w.drew.alloc (.cells ROW 44)).setRow w.heap.size row1).heap := fun W h => by
    show (W.setRow w.heap.size row1).heap = _
    simp only [World.setRow, h]
  clear hkk hik hold hROW hG hRs hrow1 hrow2 hmid hfro hN1 hg1 hv1 hk1 hs1 ho1 hN2 hg2 hrl hml hvl hfl e1 e2 e3 e4 e5 hg hv h1 h1v hcs hvs
  go_enter Try.func26, Try.ntmps26
  go_wp2_with (first
    | (at_builtin; refine Lib.wpList_append_run _ rfl _ _ _ _ rfl _ _ rfl rfl _ _ (hrz _) ?_)
    | (at_builtin; refine wpList_copy_runI _ rfl _ _ 24 24 rfl _ _ rfl rfl (hcpA _ hE _ _) ?_))
  go_region_law_o (refine step_copy_runI rfl _ _ 24 24 rfl (.slice (some ⟨w.heap.size, (i + m) * 2, none⟩) (n + m - (i + m)) (G - (i + m))) (.slice (some ⟨g, i * 2, none⟩) (n - i) (c - i)) (by simp [Act.eval, Act.put]) (by simp [Act.eval, Act.put]) (hcpB _ (hF _ hE) 3 (G - (i + m)) (c - i)) ?_)
  go_wp2
  go_ret
  exact hfin _ rfl rfl rfl rfl

theorem m_slices_Insert_Bind_mem (s : Value) (i n vb m vc : Nat) (olds : List Value) (varr : Array Value) (w : World) (hm : 0 < m) (hi : i ≤ n) (hs : OwnAt 44 2 w s n olds) (h1 : ∀ v, v ∈ olds → v.oneCell' = true)
    (hv : w.heap[vb]? = some (.cells varr 44 (0, 0))) (hvs : varr.size = vc * 2) (hmv : m ≤ vc) (h1v : ∀ v, v ∈ varr.toList.take (m * 2) → v.oneCell' = true) (hne : s.ownBlock ≠ some vb) (hb : (n + m) * 24 ≤ 140737488355328) :
    Calls Try.prog 26 #[s, .int .i64 i, .slice (some ⟨vb, 0, none⟩) m vc] w (Ins 44 2 w s.ownBlock n m (olds.take (i * 2) ++ varr.toList.take (m * 2) ++ olds.drop (i * 2))) := by
  by_cases hin : i = n
  · subst hin
    have ho : olds.length = i * 2 := by
      rcases hs with ⟨_, rfl, rfl⟩ | ⟨g, c, cur, _, _, hnc, _, hsz, rfl⟩
      · simp
      · rw [List.length_take, Array.length_toList, hsz]; omega
    rw [List.take_of_length_le (by omega), List.drop_eq_nil_of_le (by omega), List.append_nil]
    exact m_slices_Insert_Bind_ins_end s i vb m vc olds varr w hm hs hv hvs hmv h1v hb
  · rcases hs with ⟨_, rfl, _⟩ | ⟨g, c, cur, rfl, hg, hnc, hcm, hsz, rfl⟩
    · omega
    · have hvb : vb ≠ g := fun e => hne (by rw [e]; rfl)
      by_cases hroom : n + m ≤ c
      · exact m_slices_Insert_Bind_ins_shift g n c i vb m vc cur varr w (by omega) hm hroom hcm hvb hg hsz h1 hv hvs hmv h1v
      · exact m_slices_Insert_Bind_ins_grow g n c i vb m vc cur varr w (by omega) hm hnc (by omega) hcm hb hg hsz h1 hv hvs hmv h1v

theorem m_slices_Insert_Bind_ok (a1 : Int) (p0 : List SBind) (p1 : List SBind) {r : (List SBind)} (h : m_slices_Insert_Bind a1 p0 p1 = some r) :
    AC Try.prog GG 26 [.own 0, V.int a1, .own 1] [(0, .vec false 44 2 (p0.map encSBind)), (1, .vec false 44 2 (p1.map encSBind))] (.own 100) [(100, .vec false 44 2 (r.map encSBind))] :=
  AC.insO (bytes := 24) encSBind h (fun i nn nn1 rows rows1 => AC.insert m_slices_Insert_Bind_mem i nn nn1 rows rows1)


theorem m_impl_SetVar_ok (N : Nat) (a0 : List SBind) (a1 : List UInt8) (a2 : Int) {r : (List SBind)} (h : m_impl_SetVar N a0 a1 a2 = some r) :
    AC Try.prog GG 7 [.sl false false (a0.map encSBind), V.str a1, V.int a2] [] (.own 100) [(100, .vec false 44 2 (r.map encSBind))] := by
 rw [m_impl_SetVar] at h
 refine AC.enter Try.func7 rfl ?_
 refine cu D_ok mix 2 100 (tl 27 [(0, .sl false false (a0.map encSBind)), (2, V.int a2), (4, .loc 100 0)]) [(100, .cells 9 [V.str a1])] (by kernel_rfl) ?_
 (revert h; refine bind_rev fun r3 hx3 h => ?_)
 (revert h; refine bind_rev fun r4 hx4 h => ?_)
 refine CodeOk.cutR (tl 27 [(2, V.int a2), (4, .loc 100 0), (7, .own 102)]) [(102, .vec false 44 2 (r4.map encSBind)), (100, .cells 9 [V.str a1])] mix (by
  refine W.run D_ok 1 101 (by kernel_rfl) ?_
  refine W.call (m_slices_Clone_Bind_ok a0 hx3) cok22 [] [(100, 101)] [101] (show LayOk _ [] from trivial) (by kernel_rfl) (by kernel_rfl) ?_
  refine W.run D_ok 1 102 (by kernel_rfl) ?_
  refine W.call (m_slices_DeleteFunc_Bind_ok N r3 a1 hx4) cok21 [(101, 0), (100, 1)] [(1, 100), (100, 102)] [102] (show LayOk _ [] from trivial) (by kernel_rfl) (by kernel_rfl) ?_
  refine W.run D_ok 1 103 (by kernel_rfl) ?_
  exact W.fi (by kernel_rfl)
  ) ?_
 (revert h; refine bind_rev fun r6 hx6 h => ?_)
 refine CodeOk.cutR (tl 27 [(2, V.int a2), (4, .loc 100 0), (7, .own 102), (8, V.int r6)]) [(102, .vec false 44 2 (r4.map encSBind)), (100, .cells 9 [V.str a1])] mix (by
  refine W.run D_ok 2 103 (by kernel_rfl) ?_
  refine W.call (m_slices_IndexFunc_Bind_v2_ok N r4 a1 hx6) cok24 [(102, 0), (100, 1)] [(0, 102), (1, 100)] [] (show LayOk _ [] from trivial) (by kernel_rfl) (by kernel_rfl) ?_
  refine W.run D_ok 1 103 (by kernel_rfl) ?_
  exact W.fi (by kernel_rfl)
  ) ?_
 refine CodeOk.join (fun (⟨a2, a1, r4, y7⟩ : (Int × (List UInt8) × (List SBind) × Int)) => ⟨tl 27 [(2, V.int a2), (4, .loc 100 0), (7, .own 101), (8, V.int y7)], [(100, .cells 9 [V.str a1]), (101, .vec false 44 2 (r4.map encSBind))]⟩) (fun i => m_impl_SetVar_k1 N i = some r) ?_ ?_
 · rintro ⟨a2, a1, r4, y7⟩ h8
   rw [m_impl_SetVar_k1] at h8
   (revert h8; refine bind_rev fun r9 hx10 h8 => ?_)
   refine CodeOk.cutR (tl 27 [(6, .own 104)]) [(104, .vec false 44 2 (r9.map encSBind))] mix (by
    refine W.run D_ok 6 103 (by kernel_rfl) ?_
    refine W.call (m_slices_Insert_Bind_ok y7 r4 [(⟨a1, a2⟩ : SBind)] hx10) cok26 [(101, 0), (103, 1)] [(100, 104)] [104] (show LayOk _ [] from trivial) (by kernel_rfl) (by kernel_rfl) ?_
    refine W.run D_ok 1 105 (by kernel_rfl) ?_
    exact W.fi (by kernel_rfl)
    ) ?_
   refine CodeOk.ret ?_
   have h8 := Option.some.inj h8
   subst h8
   exact Ends.gen [(104, 100)] (.inr rfl) (RetV.one rfl (OneR.tmp (t := 6) (r := .own 104) (by kernel_rfl))) (by kernel_rfl) (by kernel_rfl) (by kernel_rfl)
 intro hk11
 refine cu D_ok mix 2 103 (tl 27 [(2, V.int a2), (4, .loc 100 0), (7, .own 102), (8, V.int r6), (17, V.bool (decide (r6 < 0)))]) [(102, .vec false 44 2 (r4.map encSBind)), (100, .cells 9 [V.str a1])] (by kernel_rfl) ?_
 (revert h; refine cond_rev (fun hc12 h => ?_) (fun hc12 h => ?_))
 ·refine CodeOk.ifT hc12 (by kernel_rfl) ?_
  refine CodeOk.endR (tl 27 [(2, V.int a2), (4, .loc 100 0), (7, .own 102), (8, V.int (r4.length : Int))]) [(102, .vec false 44 2 (r4.map encSBind)), (100, .cells 9 [V.str a1])] mix (by
   refine W.run D_ok 1 103 (by kernel_rfl) ?_
   refine W.len D_ok encSBind r4 [102] (by kernel_rfl) (by kernel_rfl) ?_
   refine W.run D_ok 1 103 (by kernel_rfl) ?_
   exact W.fi (by kernel_rfl)
   ) (fun st hw => ?_)
  exact hk11 (a2, a1, r4, (r4.length : Int)) h _ (hw.trans (Weak.sel [(100, 100), (102, 101)] [2, 4, 7, 8] (by kernel_rfl) (by kernel_rfl) (by kernel_rfl)))
 refine CodeOk.ifF hc12 (by kernel_rfl) ?_
 refine CodeOk.skip ?_
 exact hk11 (a2, a1, r4, r6) h _ (Weak.sel [(100, 100), (102, 101)] [2, 4, 7, 8] (by kernel_rfl) (by kernel_rfl) (by kernel_rfl))

theorem m_laws_eqBind_ok (a0 : SBind) (a1 : SBind) {r : Bool} (h : m_laws_eqBind a0 a1 = some r) :
    AC Try.prog GG 29 [.agg [V.str a0.Name, V.int a0.Val], .agg [V.str a1.Name, V.int a1.Val]] [] (V.bool r) [] := by
 rw [m_laws_eqBind] at h
 refine AC.enter Try.func29 rfl ?_
 refine cu D_ok mix 3 100 (tl 15 [(2, .loc 100 0), (3, .loc 101 0)]) [(101, .cells 44 [V.str a1.Name, V.int a1.Val]), (100, .cells 44 [V.str a0.Name, V.int a0.Val])] (by kernel_rfl) ?_
 refine CodeOk.seq' ?_
 refine cu D_ok mix 5 102 (tl 15 [(2, .loc 100 0), (3, .loc 101 0), (9, V.bool (!(a0.Name == a1.Name)))]) [(101, .cells 44 [V.str a1.Name, V.int a1.Val]), (100, .cells 44 [V.str a0.Name, V.int a0.Val])] (by kernel_rfl) ?_
 (revert h; refine cond_rev (fun hc2 h => ?_) (fun hc2 h => ?_))
 ·refine CodeOk.ifT hc2 (by kernel_rfl) ?_
  refine cu D_ok mix 1 102 (tl 15 [(4, V.bool false)]) [] (by kernel_rfl) ?_
  refine CodeOk.ret ?_
  have h := Option.some.inj h
  subst h
  exact Ends.gen [] (.inr rfl) (RetV.one rfl (OneR.tmp (t := 4) (r := V.bool false) (by kernel_rfl))) (by kernel_rfl) (by kernel_rfl) (by kernel_rfl)
 refine CodeOk.ifF hc2 (by kernel_rfl) ?_
 refine CodeOk.skip ?_
 refine CodeOk.seq' ?_
 refine cu D_ok mix 5 102 (tl 15 [(14, V.bool (a0.Val != a1.Val))]) [] (by kernel_rfl) ?_
 (revert h; refine cond_rev (fun hc4 h => ?_) (fun hc4 h => ?_))
 ·refine CodeOk.ifT hc4 (by kernel_rfl) ?_
  refine cu D_ok mix 1 102 (tl 15 [(4, V.bool false)]) [] (by kernel_rfl) ?_
  refine CodeOk.ret ?_
  have h := Option.some.inj h
  subst h
  exact Ends.gen [] (.inr rfl) (RetV.one rfl (OneR.tmp (t := 4) (r := V.bool false) (by kernel_rfl))) (by kernel_rfl) (by kernel_rfl) (by kernel_rfl)
 refine CodeOk.ifF hc4 (by kernel_rfl) ?_
 refine CodeOk.skip ?_
 refine cu D_ok mix 1 102 (tl 15 [(4, V.bool true)]) [] (by kernel_rfl) ?_
 refine CodeOk.ret ?_
 have h := Option.some.inj h
 subst h
 exact Ends.gen [] (.inr rfl) (RetV.one rfl (OneR.tmp (t := 4) (r := V.bool true) (by kernel_rfl))) (by kernel_rfl) (by kernel_rfl) (by kernel_rfl)

theorem m_laws_eqBindS_ok (N : Nat) (a0 : List SBind) (a1 : List SBind) {r : Bool} (h : m_laws_eqBindS N a0 a1 = some r) :
    AC Try.prog GG 13 [.sl false false (a0.map encSBind), .sl false false (a1.map encSBind)] [] (V.bool r) [] := by
 rw [m_laws_eqBindS] at h
 refine AC.enter Try.func13 rfl ?_
 refine cu D_ok mix 1 100 (tl 27 [(0, .sl false false (a0.map encSBind)), (1, .sl false false (a1.map encSBind))]) [] (by kernel_rfl) ?_
 refine CodeOk.seq' ?_
 refine CodeOk.cutR (tl 27 [(0, .sl false false (a0.map encSBind)), (1, .sl false false (a1.map encSBind)), (10, V.bool ((a0.length : Int) != (a1.length : Int)))]) [] mix (by
  refine W.run D_ok 1 100 (by kernel_rfl) ?_
  refine W.len D_ok encSBind a0 [] (by kernel_rfl) (by kernel_rfl) ?_
  refine W.run D_ok 1 100 (by kernel_rfl) ?_
  refine W.len D_ok encSBind a1 [] (by kernel_rfl) (by kernel_rfl) ?_
  refine W.run D_ok 1 100 (by kernel_rfl) ?_
  exact W.fi (by kernel_rfl)
  ) ?_
 (revert h; refine cond_rev (fun hc2 h => ?_) (fun hc2 h => ?_))
 ·refine CodeOk.ifT hc2 (by kernel_rfl) ?_
  refine cu D_ok mix 1 100 (tl 27 [(4, V.bool false)]) [] (by kernel_rfl) ?_
  refine CodeOk.ret ?_
  have h := Option.some.inj h
  subst h
  exact Ends.gen [] (.inr rfl) (RetV.one rfl (OneR.tmp (t := 4) (r := V.bool false) (by kernel_rfl))) (by kernel_rfl) (by kernel_rfl) (by kernel_rfl)
 refine CodeOk.ifF hc2 (by kernel_rfl) ?_
 refine CodeOk.skip ?_
 refine CodeOk.seq' ?_
 refine cu D_ok mix 1 100 (tl 27 [(0, .sl false false (a0.map encSBind)), (1, .sl false false (a1.map encSBind)), (5, V.int 0)]) [] (by kernel_rfl) ?_
 refine CodeOk.block' ?_
 refine CodeOk.loopJ (fun (⟨a0, a1, y51⟩ : ((List SBind) × (List SBind) × Int)) => ⟨tl 27 [(0, .sl false false (a0.map encSBind)), (1, .sl false false (a1.map encSBind)), (5, V.int y51)], []⟩) (fun n i => m_laws_eqBindS_l1 N n i = some r) (n0 := N) (i0 := (a0, a1, 0)) (Weak.sel [] [0, 1, 5] (by kernel_rfl) (by kernel_rfl) (by kernel_rfl)) h (fun i h => by simp [m_laws_eqBindS_l1] at h) ?_
 rintro n1 ⟨a0, a1, y51⟩ h85 ih86
 rw [m_laws_eqBindS_l1] at h85
 refine CodeOk.seq' ?_
 refine CodeOk.cutR (tl 27 [(0, .sl false false (a0.map encSBind)), (1, .sl false false (a1.map encSBind)), (5, V.int y51), (14, V.bool (decide (y51 < (a0.length : Int))))]) [] mix (by
  refine W.run D_ok 2 160 (by kernel_rfl) ?_
  refine W.len D_ok encSBind a0 [] (by kernel_rfl) (by kernel_rfl) ?_
  refine W.run D_ok 1 160 (by kernel_rfl) ?_
  exact W.fi (by kernel_rfl)
  ) ?_
 (revert h85; refine cond_rev (fun hc88 h85 => ?_) (fun hc88 h85 => ?_))
 ·refine CodeOk.ifT hc88 (by kernel_rfl) ?_
  refine CodeOk.skip ?_
  refine CodeOk.seq' ?_
  refine CodeOk.block' ?_
  (revert h85; refine bind_rev fun e74 hx99 h85 => ?_)
  (revert h85; refine bind_rev fun e75 hx100 h85 => ?_)
  (revert h85; refine bind_rev fun r76 hx101 h85 => ?_)
  refine CodeOk.cutR (tl 27 [(0, .sl false false (a0.map encSBind)), (1, .sl false false (a1.map encSBind)), (5, V.int y51), (26, V.bool (!r76))]) [] mix (by
   refine W.run D_ok 2 160 (by kernel_rfl) ?_
   refine W.ixD D_ok encSBind hx99 2 (by kernel_rfl) (by kernel_rfl) ?_
   refine W.run D_ok 3 160 (by kernel_rfl) ?_
   refine W.ixD D_ok encSBind hx100 2 (by kernel_rfl) (by kernel_rfl) ?_
   refine W.run D_ok 1 160 (by kernel_rfl) ?_
   refine W.call0 (m_laws_eqBind_ok e74 e75 hx101) cok29 rfl (by kernel_rfl) ?_
   refine W.run D_ok 1 160 (by kernel_rfl) ?_
   exact W.fi (by kernel_rfl)
   ) ?_
  (revert h85; refine cond_rev (fun hc102 h85 => ?_) (fun hc102 h85 => ?_))
  ·refine CodeOk.ifT hc102 (by kernel_rfl) ?_
   refine cu D_ok mix 1 160 (tl 27 [(4, V.bool false)]) [] (by kernel_rfl) ?_
   refine CodeOk.ret ?_
   have h85 := Option.some.inj h85
   subst h85
   exact Ends.gen [] (.inr rfl) (RetV.one rfl (OneR.tmp (t := 4) (r := V.bool false) (by kernel_rfl))) (by kernel_rfl) (by kernel_rfl) (by kernel_rfl)
  refine CodeOk.ifF hc102 (by kernel_rfl) ?_
  refine CodeOk.skip ?_
  refine ce D_ok mix 3 160 (tl 27 [(0, .sl false false (a0.map encSBind)), (1, .sl false false (a1.map encSBind)), (5, V.int (IntKind.wrap .i64 (y51 + 1)))]) [] (by kernel_rfl) (fun st hw => ?_)
  exact ih86 (a0, a1, (IntKind.wrap .i64 (y51 + 1))) h85 _ (hw.trans (Weak.sel [] [0, 1, 5] (by kernel_rfl) (by kernel_rfl) (by kernel_rfl)))
 refine CodeOk.ifF hc88 (by kernel_rfl) ?_
 refine CodeOk.exit ?_
 refine cu D_ok mix 1 160 (tl 27 [(4, V.bool true)]) [] (by kernel_rfl) ?_
 refine CodeOk.ret ?_
 have h85 := Option.some.inj h85
 subst h85
 exact Ends.gen [] (.inr rfl) (RetV.one rfl (OneR.tmp (t := 4) (r := V.bool true) (by kernel_rfl))) (by kernel_rfl) (by kernel_rfl) (by kernel_rfl)

theorem m_laws_markText_ok (N : Nat) (a0 : Int) {r : (List UInt8)} (h : m_laws_markText N a0 = some r) :
    AC Try.prog GG 30 [V.int a0] [] (V.str r) [] := by
 rw [m_laws_markText] at h
 refine AC.enter Try.func30 rfl ?_
 refine cu D_ok mix 1 100 (tl 20 [(0, V.int a0)]) [] (by kernel_rfl) ?_
 refine CodeOk.seq' ?_
 refine cu D_ok mix 2 100 (tl 20 [(0, V.int a0), (5, V.bool (decide (a0 ≤ 0)))]) [] (by kernel_rfl) ?_
 (revert h; refine cond_rev (fun hc2 h => ?_) (fun hc2 h => ?_))
 ·refine CodeOk.ifT hc2 (by kernel_rfl) ?_
  refine cu D_ok mix 1 100 (tl 20 [(2, V.str [109, 48])]) [] (by kernel_rfl) ?_
  refine CodeOk.ret ?_
  have h := Option.some.inj h
  subst h
  exact Ends.gen [] (.inr rfl) (RetV.one rfl (OneR.tmp (t := 2) (r := V.str [109, 48]) (by kernel_rfl))) (by kernel_rfl) (by kernel_rfl) (by kernel_rfl)
 refine CodeOk.ifF hc2 (by kernel_rfl) ?_
 refine CodeOk.skip ?_
 refine cu D_ok mix 1 100 (tl 20 [(0, V.int a0), (3, V.str [])]) [] (by kernel_rfl) ?_
 refine CodeOk.seq' ?_
 refine CodeOk.block' ?_
 refine CodeOk.loopJ (fun (⟨y13, y14⟩ : (Int × (List UInt8))) => ⟨tl 20 [(0, V.int y13), (3, V.str y14)], []⟩) (fun n i => m_laws_markText_l1 N n i = some r) (n0 := N) (i0 := (a0, [])) (Weak.sel [] [0, 3] (by kernel_rfl) (by kernel_rfl) (by kernel_rfl)) h (fun i h => by simp [m_laws_markText_l1] at h) ?_
 rintro n1 ⟨y13, y14⟩ h25 ih26
 rw [m_laws_markText_l1] at h25
 refine CodeOk.seq' ?_
 refine cu D_ok mix 2 162 (tl 20 [(0, V.int y13), (3, V.str y14), (7, V.bool (decide (y13 > 0)))]) [] (by kernel_rfl) ?_
 (revert h25; refine cond_rev (fun hc28 h25 => ?_) (fun hc28 h25 => ?_))
 ·refine CodeOk.ifT hc28 (by kernel_rfl) ?_
  refine CodeOk.skip ?_
  refine CodeOk.block' ?_
  (revert h25; refine bind_rev fun s20 hx30 h25 => ?_)
  refine CodeOk.cutR (tl 20 [(0, V.int y13), (3, V.str s20)]) [] mix (by
   refine W.run D_ok 4 162 (by kernel_rfl) ?_
   refine W.run D_ok 1 162 (by kernel_rfl) ?_
   refine W.vecEq 162 (nn := true) (e := 5) (k := 1) (rows := [[.c (.int .u8 (IntKind.wrap .u8 (IntKind.wrap .i64 (48 + (Int.tmod y13 10)))))]]) (rows' := [(bytI (IntKind.wrap .i64 (48 + (Int.tmod y13 10))))].map byteRow) (by kernel_rfl) (by first | (simp only [List.map_cons, List.map_nil, ← bytI_row]; done) | (simp only [List.map_cons, List.map_nil, ← bytI_row]; rfl)) ?_
   refine W.strO D_ok ([(bytI (IntKind.wrap .i64 (48 + (Int.tmod y13 10))))] : List UInt8) (a := 162) (by kernel_rfl) ?_
   refine W.run D_ok 1 163 (by kernel_rfl) ?_
   refine W.cat hx30 (by kernel_rfl) ?_
   refine W.run D_ok 1 163 (by kernel_rfl) ?_
   exact W.fi (by kernel_rfl)
   ) ?_
  refine ce D_ok mix 3 163 (tl 20 [(0, V.int (IntKind.wrap .i64 (Int.tdiv y13 10))), (3, V.str s20)]) [] (by kernel_rfl) (fun st hw => ?_)
  exact ih26 ((IntKind.wrap .i64 (Int.tdiv y13 10)), s20) h25 _ (hw.trans (Weak.sel [] [0, 3] (by kernel_rfl) (by kernel_rfl) (by kernel_rfl)))
 refine CodeOk.ifF hc28 (by kernel_rfl) ?_
 refine CodeOk.exit ?_
 (revert h25; refine bind_rev fun s22 hx32 h25 => ?_)
 refine CodeOk.cutR (tl 20 [(2, V.str s22)]) [] mix (by
  refine W.run D_ok 1 162 (by kernel_rfl) ?_
  refine W.cat hx32 (by kernel_rfl) ?_
  refine W.run D_ok 1 162 (by kernel_rfl) ?_
  exact W.fi (by kernel_rfl)
  ) ?_
 refine CodeOk.ret ?_
 have h25 := Option.some.inj h25
 subst h25
 exact Ends.gen [] (.inr rfl) (RetV.one rfl (OneR.tmp (t := 2) (r := V.str s22) (by kernel_rfl))) (by kernel_rfl) (by kernel_rfl) (by kernel_rfl)

theorem m_laws_markBindS_ok (e0 : TypeId) (N : Nat) (a1 : Int) (p0 : List SBind) {r : (Int × (List SBind))} (h : m_laws_markBindS N a1 p0 = some r) :
    AC Try.prog GG 14 [.own 0, V.int a1] [(0, .vec false e0 2 (p0.map encSBind))] (V.int r.1) [(0, .vec false e0 2 (r.2.map encSBind))] := by
 rw [m_laws_markBindS] at h
 refine AC.enter Try.func14 rfl ?_
 refine cu D_ok mix 1 100 (tl 28 [(0, .own 0), (1, V.int a1)]) [(0, .vec false e0 2 (p0.map encSBind))] (by kernel_rfl) ?_
 refine CodeOk.seq' ?_
 refine cu D_ok mix 1 100 (tl 28 [(0, .own 0), (1, V.int a1), (5, V.int 0)]) [(0, .vec false e0 2 (p0.map encSBind))] (by kernel_rfl) ?_
 refine CodeOk.block' ?_
 refine CodeOk.loopJ (fun (⟨y87, y88, y89⟩ : (Int × Int × (List SBind))) => ⟨tl 28 [(0, .own 0), (1, V.int y87), (5, V.int y88)], [(0, .vec false e0 2 (y89.map encSBind))]⟩) (fun n i => m_laws_markBindS_l1 N n i = some r) (n0 := N) (i0 := (a1, 0, p0)) (Weak.sel [(0, 0)] [0, 1, 5] (by kernel_rfl) (by kernel_rfl) (by kernel_rfl)) h (fun i h => by simp [m_laws_markBindS_l1] at h) ?_
 rintro n1 ⟨y87, y88, y89⟩ h113 ih114
 rw [m_laws_markBindS_l1] at h113
 refine CodeOk.seq' ?_
 refine CodeOk.cutR (tl 28 [(0, .own 0), (1, V.int y87), (5, V.int y88), (9, V.bool (decide (y88 < (y89.length : Int))))]) [(0, .vec false e0 2 (y89.map encSBind))] mix (by
  refine W.run D_ok 2 160 (by kernel_rfl) ?_
  refine W.len D_ok encSBind y89 [0] (by kernel_rfl) (by kernel_rfl) ?_
  refine W.run D_ok 1 160 (by kernel_rfl) ?_
  exact W.fi (by kernel_rfl)
  ) ?_
 (revert h113; refine cond_rev (fun hc116 h113 => ?_) (fun hc116 h113 => ?_))
 ·refine CodeOk.ifT hc116 (by kernel_rfl) ?_
  refine CodeOk.skip ?_
  refine CodeOk.seq' ?_
  refine CodeOk.block' ?_
  (revert h113; refine bind_rev fun r126 hx130 h113 => ?_)
  (revert h113; refine bind_rev fun e127 hx131 h113 => ?_)
  (revert h113; refine bind_rev fun x128 hu132 h113 => ?_)
  refine CodeOk.cutR (tl 28 [(0, .own 0), (1, V.int y87), (5, V.int y88)]) [(0, .vec false e0 2 (x128.map encSBind))] mix (by
   refine W.run D_ok 3 160 (by kernel_rfl) ?_
   refine W.call0 (m_laws_markText_ok N y87 hx130) cok30 rfl (by kernel_rfl) ?_
   refine W.ixO D_ok encSBind hx131 0 2 (by kernel_rfl) ?_
   refine W.run D_ok 1 160 (by kernel_rfl) ?_
   refine W.stO D_ok encSBind (x' := (⟨r126, e127.Val⟩ : SBind)) hx131 hu132 (j := 0) (nn := false) (ety := e0) (sz := 2) (b := 0) (ys := [V.str r126]) (C := []) (R := []) (by kernel_rfl) (by kernel_rfl) ?_
   exact W.fi (by kernel_rfl)
   ) ?_
  refine cu D_ok mix 3 160 (tl 28 [(0, .own 0), (1, V.int (IntKind.wrap .i64 (y87 + 1))), (5, V.int y88)]) [(0, .vec false e0 2 (x128.map encSBind))] (by kernel_rfl) ?_
  (revert h113; refine bind_rev fun e131 hx135 h113 => ?_)
  (revert h113; refine bind_rev fun x132 hu136 h113 => ?_)
  refine CodeOk.cutR (tl 28 [(0, .own 0), (1, V.int (IntKind.wrap .i64 (y87 + 1))), (5, V.int y88)]) [(0, .vec false e0 2 (x132.map encSBind))] mix (by
   refine W.run D_ok 3 160 (by kernel_rfl) ?_
   refine W.ixO D_ok encSBind hx135 0 2 (by kernel_rfl) ?_
   refine W.run D_ok 1 160 (by kernel_rfl) ?_
   refine W.stO D_ok encSBind (x' := (⟨e131.Name, (IntKind.wrap .i64 (y87 + 1))⟩ : SBind)) hx135 hu136 (j := 0) (nn := false) (ety := e0) (sz := 2) (b := 1) (ys := [V.int (IntKind.wrap .i64 (y87 + 1))]) (C := []) (R := []) (by kernel_rfl) (by kernel_rfl) ?_
   exact W.fi (by kernel_rfl)
   ) ?_
  refine ce D_ok mix 3 160 (tl 28 [(0, .own 0), (1, V.int (IntKind.wrap .i64 ((IntKind.wrap .i64 (y87 + 1)) + 1))), (5, V.int y88)]) [(0, .vec false e0 2 (x132.map encSBind))] (by kernel_rfl) (fun st hw => ?_)
  refine CodeOk.weak hw ?_
  refine ce D_ok mix 3 160 (tl 28 [(0, .own 0), (1, V.int (IntKind.wrap .i64 ((IntKind.wrap .i64 (y87 + 1)) + 1))), (5, V.int (IntKind.wrap .i64 (y88 + 1)))]) [(0, .vec false e0 2 (x132.map encSBind))] (by kernel_rfl) (fun st hw => ?_)
  exact ih114 ((IntKind.wrap .i64 ((IntKind.wrap .i64 (y87 + 1)) + 1)), (IntKind.wrap .i64 (y88 + 1)), x132) h113 _ (hw.trans (Weak.sel [(0, 0)] [0, 1, 5] (by kernel_rfl) (by kernel_rfl) (by kernel_rfl)))
 refine CodeOk.ifF hc116 (by kernel_rfl) ?_
 refine CodeOk.exit ?_
 refine cu D_ok mix 2 160 (tl 28 [(4, V.int y87)]) [(0, .vec false e0 2 (y89.map encSBind))] (by kernel_rfl) ?_
 refine CodeOk.ret ?_
 have h113 := Option.some.inj h113
 subst h113
 exact Ends.gen [(0, 0)] (.inr rfl) (RetV.one rfl (OneR.tmp (t := 4) (r := V.int y87) (by kernel_rfl))) (by kernel_rfl) (by kernel_rfl) (by kernel_rfl)

theorem m_laws_heldBindS_ok (N : Nat) (a0 : List SBind) (a1 : Int) {r : Int} (h : m_laws_heldBindS N a0 a1 = some r) :
    AC Try.prog GG 15 [.sl false false (a0.map encSBind), V.int a1] [] (V.int r) [] := by
 rw [m_laws_heldBindS] at h
 refine AC.enter Try.func15 rfl ?_
 refine cu D_ok mix 1 100 (tl 32 [(0, .sl false false (a0.map encSBind)), (1, V.int a1)]) [] (by kernel_rfl) ?_
 refine CodeOk.seq' ?_
 refine cu D_ok mix 1 100 (tl 32 [(0, .sl false false (a0.map encSBind)), (1, V.int a1), (5, V.int 0)]) [] (by kernel_rfl) ?_
 refine CodeOk.block' ?_
 refine CodeOk.loopJ (fun (⟨a0, y101, y102⟩ : ((List SBind) × Int × Int)) => ⟨tl 32 [(0, .sl false false (a0.map encSBind)), (1, V.int y101), (5, V.int y102)], []⟩) (fun n i => m_laws_heldBindS_l1 N n i = some r) (n0 := N) (i0 := (a0, a1, 0)) (Weak.sel [] [0, 1, 5] (by kernel_rfl) (by kernel_rfl) (by kernel_rfl)) h (fun i h => by simp [m_laws_heldBindS_l1] at h) ?_
 rintro n1 ⟨a0, y101, y102⟩ h173 ih174
 rw [m_laws_heldBindS_l1] at h173
 refine CodeOk.seq' ?_
 refine CodeOk.cutR (tl 32 [(0, .sl false false (a0.map encSBind)), (1, V.int y101), (5, V.int y102), (9, V.bool (decide (y102 < (a0.length : Int))))]) [] mix (by
  refine W.run D_ok 2 160 (by kernel_rfl) ?_
  refine W.len D_ok encSBind a0 [] (by kernel_rfl) (by kernel_rfl) ?_
  refine W.run D_ok 1 160 (by kernel_rfl) ?_
  exact W.fi (by kernel_rfl)
  ) ?_
 (revert h173; refine cond_rev (fun hc176 h173 => ?_) (fun hc176 h173 => ?_))
 ·refine CodeOk.ifT hc176 (by kernel_rfl) ?_
  refine CodeOk.skip ?_
  refine CodeOk.seq' ?_
  refine CodeOk.block' ?_
  refine CodeOk.seq' ?_
  (revert h173; refine bind_rev fun e147 hx200 h173 => ?_)
  (revert h173; refine bind_rev fun r148 hx201 h173 => ?_)
  refine CodeOk.cutR (tl 32 [(0, .sl false false (a0.map encSBind)), (1, V.int y101), (5, V.int y102), (19, V.bool (!(e147.Name == r148)))]) [] mix (by
   refine W.run D_ok 2 160 (by kernel_rfl) ?_
   refine W.ixD D_ok encSBind hx200 2 (by kernel_rfl) (by kernel_rfl) ?_
   refine W.run D_ok 3 160 (by kernel_rfl) ?_
   refine W.call0 (m_laws_markText_ok N y101 hx201) cok30 rfl (by kernel_rfl) ?_
   refine W.run D_ok 1 160 (by kernel_rfl) ?_
   exact W.fi (by kernel_rfl)
   ) ?_
  (revert h173; refine cond_rev (fun hc202 h173 => ?_) (fun hc202 h173 => ?_))
  ·refine CodeOk.ifT hc202 (by kernel_rfl) ?_
   refine cu D_ok mix 1 160 (tl 32 [(4, V.int (-1))]) [] (by kernel_rfl) ?_
   refine CodeOk.ret ?_
   have h173 := Option.some.inj h173
   subst h173
   exact Ends.gen [] (.inr rfl) (RetV.one rfl (OneR.tmp (t := 4) (r := V.int (-1)) (by kernel_rfl))) (by kernel_rfl) (by kernel_rfl) (by kernel_rfl)
  refine CodeOk.ifF hc202 (by kernel_rfl) ?_
  refine CodeOk.skip ?_
  refine cu D_ok mix 3 160 (tl 32 [(0, .sl false false (a0.map encSBind)), (1, V.int (IntKind.wrap .i64 (y101 + 1))), (5, V.int y102)]) [] (by kernel_rfl) ?_
  refine CodeOk.seq' ?_
  (revert h173; refine bind_rev fun e152 hx207 h173 => ?_)
  refine CodeOk.cutR (tl 32 [(0, .sl false false (a0.map encSBind)), (1, V.int (IntKind.wrap .i64 (y101 + 1))), (5, V.int y102), (28, V.bool (e152.Val != (IntKind.wrap .i64 (y101 + 1))))]) [] mix (by
   refine W.run D_ok 2 160 (by kernel_rfl) ?_
   refine W.ixD D_ok encSBind hx207 2 (by kernel_rfl) (by kernel_rfl) ?_
   refine W.run D_ok 4 160 (by kernel_rfl) ?_
   exact W.fi (by kernel_rfl)
   ) ?_
  (revert h173; refine cond_rev (fun hc208 h173 => ?_) (fun hc208 h173 => ?_))
  ·refine CodeOk.ifT hc208 (by kernel_rfl) ?_
   refine cu D_ok mix 1 160 (tl 32 [(4, V.int (-1))]) [] (by kernel_rfl) ?_
   refine CodeOk.ret ?_
   have h173 := Option.some.inj h173
   subst h173
   exact Ends.gen [] (.inr rfl) (RetV.one rfl (OneR.tmp (t := 4) (r := V.int (-1)) (by kernel_rfl))) (by kernel_rfl) (by kernel_rfl) (by kernel_rfl)
  refine CodeOk.ifF hc208 (by kernel_rfl) ?_
  refine CodeOk.skip ?_
  refine ce D_ok mix 3 160 (tl 32 [(0, .sl false false (a0.map encSBind)), (1, V.int (IntKind.wrap .i64 ((IntKind.wrap .i64 (y101 + 1)) + 1))), (5, V.int y102)]) [] (by kernel_rfl) (fun st hw => ?_)
  refine CodeOk.weak hw ?_
  refine ce D_ok mix 3 160 (tl 32 [(0, .sl false false (a0.map encSBind)), (1, V.int (IntKind.wrap .i64 ((IntKind.wrap .i64 (y101 + 1)) + 1))), (5, V.int (IntKind.wrap .i64 (y102 + 1)))]) [] (by kernel_rfl) (fun st hw => ?_)
  exact ih174 (a0, (IntKind.wrap .i64 ((IntKind.wrap .i64 (y101 + 1)) + 1)), (IntKind.wrap .i64 (y102 + 1))) h173 _ (hw.trans (Weak.sel [] [0, 1, 5] (by kernel_rfl) (by kernel_rfl) (by kernel_rfl)))
 refine CodeOk.ifF hc176 (by kernel_rfl) ?_
 refine CodeOk.exit ?_
 refine cu D_ok mix 2 160 (tl 32 [(4, V.int y101)]) [] (by kernel_rfl) ?_
 refine CodeOk.ret ?_
 have h173 := Option.some.inj h173
 subst h173
 exact Ends.gen [] (.inr rfl) (RetV.one rfl (OneR.tmp (t := 4) (r := V.int y101) (by kernel_rfl))) (by kernel_rfl) (by kernel_rfl) (by kernel_rfl)

theorem m_laws_FnExactSetVar_ok (N : Nat) (a0 : List SBind) (a1 : List UInt8) (a2 : Int) {r : Bool} (h : m_laws_FnExactSetVar N a0 a1 a2 = some r) :
    AC Try.prog GG 4 [.sl false false (a0.map encSBind), V.str a1, V.int a2] [] (V.bool r) [] := by
 rw [m_laws_FnExactSetVar] at h
 refine AC.enter Try.func4 rfl ?_
 refine cu D_ok mix 1 100 (tl 82 [(0, .sl false false (a0.map encSBind)), (1, V.str a1), (2, V.int a2)]) [] (by kernel_rfl) ?_
 refine CodeOk.seq' ?_
 refine cu D_ok mix 3 100 (tl 82 [(0, .sl false false (a0.map encSBind)), (1, V.str a1), (2, V.int a2), (17, V.bool (decide ((a1.length : Int) > 1048576)))]) [] (by kernel_rfl) ?_
 (revert h; refine cond_rev (fun hc2 h => ?_) (fun hc2 h => ?_))
 ·refine CodeOk.ifT hc2 (by kernel_rfl) ?_
  refine cu D_ok mix 1 100 (tl 82 [(6, V.bool true)]) [] (by kernel_rfl) ?_
  refine CodeOk.ret ?_
  have h := Option.some.inj h
  subst h
  exact Ends.gen [] (.inr rfl) (RetV.one rfl (OneR.tmp (t := 6) (r := V.bool true) (by kernel_rfl))) (by kernel_rfl) (by kernel_rfl) (by kernel_rfl)
 refine CodeOk.ifF hc2 (by kernel_rfl) ?_
 refine CodeOk.skip ?_
 refine cu D_ok mix 1 100 (tl 82 [(0, .sl false false (a0.map encSBind)), (1, V.str a1), (2, V.int a2), (7, V.int 1048576)]) [] (by kernel_rfl) ?_
 (revert h; refine bind_rev fun r2 hx4 h => ?_)
 refine CodeOk.cutR (tl 82 [(0, .sl false false (a0.map encSBind)), (1, V.str a1), (2, V.int a2), (7, V.int r2)]) [] mix (by
  refine W.run D_ok 2 100 (by kernel_rfl) ?_
  refine W.call0 (m_laws_szBindS_ok N a0 1048576 hx4) cok10 rfl (by kernel_rfl) ?_
  refine W.run D_ok 1 100 (by kernel_rfl) ?_
  exact W.fi (by kernel_rfl)
  ) ?_
 refine CodeOk.seq' ?_
 refine cu D_ok mix 2 100 (tl 82 [(0, .sl false false (a0.map encSBind)), (1, V.str a1), (2, V.int a2), (22, V.bool (decide (r2 < 0)))]) [] (by kernel_rfl) ?_
 (revert h; refine cond_rev (fun hc6 h => ?_) (fun hc6 h => ?_))
 ·refine CodeOk.ifT hc6 (by kernel_rfl) ?_
  refine cu D_ok mix 1 100 (tl 82 [(6, V.bool true)]) [] (by kernel_rfl) ?_
  refine CodeOk.ret ?_
  have h := Option.some.inj h
  subst h
  exact Ends.gen [] (.inr rfl) (RetV.one rfl (OneR.tmp (t := 6) (r := V.bool true) (by kernel_rfl))) (by kernel_rfl) (by kernel_rfl) (by kernel_rfl)
 refine CodeOk.ifF hc6 (by kernel_rfl) ?_
 refine CodeOk.skip ?_
 (revert h; refine bind_rev fun r5 hx9 h => ?_)
 (revert h; refine bind_rev fun r6 hx10 h => ?_)
 refine CodeOk.cutR (tl 82 [(0, .sl false false (a0.map encSBind)), (1, V.str a1), (2, V.int a2), (8, .own 101)]) [(101, .vec false 44 2 (r6.map encSBind))] mix (by
  refine W.run D_ok 1 100 (by kernel_rfl) ?_
  refine W.call (m_laws_toBindS_ok N a0 hx9) cok12 [] [(100, 100)] [100] (show LayOk _ [] from trivial) (by kernel_rfl) (by kernel_rfl) ?_
  refine W.run D_ok 2 101 (by kernel_rfl) ?_
  refine W.lend (m_spec_SetVar_ok N r5 a1 a2 hx10) cok11 [(100, 101)] [101] (LayOk.cons (j := 100) encSBind encSBind r5 (by kernel_rfl) (fun _ => rfl) (show LayOk _ [] from trivial)) (.own _) (.cons (DeepR.map (fun _ => (.cons (.c _) (.cons (.c _) .nil))) _) .nil) (by kernel_rfl) (by kernel_rfl) ?_
  refine W.run D_ok 1 102 (by kernel_rfl) ?_
  exact W.fi (by kernel_rfl)
  ) ?_
 (revert h; refine bind_rev fun r8 hx12 h => ?_)
 refine CodeOk.cutR (tl 82 [(0, .sl false false (a0.map encSBind)), (1, V.str a1), (2, V.int a2), (8, .own 101), (9, .own 102)]) [(102, .vec false 44 2 (r8.map encSBind)), (101, .vec false 44 2 (r6.map encSBind))] mix (by
  refine W.run D_ok 1 102 (by kernel_rfl) ?_
  refine W.call (m_laws_toBindS_ok N a0 hx12) cok12 [] [(100, 102)] [102] (show LayOk _ [] from trivial) (by kernel_rfl) (by kernel_rfl) ?_
  refine W.run D_ok 1 103 (by kernel_rfl) ?_
  exact W.fi (by kernel_rfl)
  ) ?_
 (revert h; refine bind_rev fun r10 hx14 h => ?_)
 refine CodeOk.cutR (tl 82 [(0, .sl false false (a0.map encSBind)), (1, V.str a1), (2, V.int a2), (8, .own 101), (9, .own 102), (10, .own 103)]) [(103, .vec false 44 2 (r10.map encSBind)), (102, .vec false 44 2 (r8.map encSBind)), (101, .vec false 44 2 (r6.map encSBind))] mix (by
  refine W.run D_ok 3 103 (by kernel_rfl) ?_
  refine W.lend (m_impl_SetVar_ok N r8 a1 a2 hx14) cok7 [(100, 103)] [103] (LayOk.cons (j := 102) encSBind encSBind r8 (by kernel_rfl) (fun _ => rfl) (show LayOk _ [] from trivial)) (.own _) (.cons (DeepR.map (fun _ => (.cons (.c _) (.cons (.c _) .nil))) _) .nil) (by kernel_rfl) (by kernel_rfl) ?_
  refine W.run D_ok 1 104 (by kernel_rfl) ?_
  exact W.fi (by kernel_rfl)
  ) ?_
 refine CodeOk.seq' ?_
 (revert h; refine bind_rev fun r14 hx19 h => ?_)
 refine CodeOk.cutR (tl 82 [(0, .sl false false (a0.map encSBind)), (1, V.str a1), (2, V.int a2), (8, .own 101), (9, .own 102), (10, .own 103), (37, V.bool (!r14))]) [(103, .vec false 44 2 (r10.map encSBind)), (102, .vec false 44 2 (r8.map encSBind)), (101, .vec false 44 2 (r6.map encSBind))] mix (by
  refine W.run D_ok 2 104 (by kernel_rfl) ?_
  refine W.lend (m_laws_eqBindS_ok N r10 r6 hx19) cok13 [] [] (LayOk.cons (j := 103) encSBind encSBind r10 (by kernel_rfl) (fun _ => rfl) (LayOk.cons (j := 101) encSBind encSBind r6 (by kernel_rfl) (fun _ => rfl) (show LayOk _ [] from trivial))) (.c _) .nil (by kernel_rfl) (by kernel_rfl) ?_
  refine W.run D_ok 1 104 (by kernel_rfl) ?_
  exact W.fi (by kernel_rfl)
  ) ?_
 (revert h; refine cond_rev (fun hc20 h => ?_) (fun hc20 h => ?_))
 ·refine CodeOk.ifT hc20 (by kernel_rfl) ?_
  refine cu D_ok mix 1 104 (tl 82 [(6, V.bool false)]) [] (by kernel_rfl) ?_
  refine CodeOk.ret ?_
  have h := Option.some.inj h
  subst h
  exact Ends.gen [] (.inr rfl) (RetV.one rfl (OneR.tmp (t := 6) (r := V.bool false) (by kernel_rfl))) (by kernel_rfl) (by kernel_rfl) (by kernel_rfl)
 refine CodeOk.ifF hc20 (by kernel_rfl) ?_
 refine CodeOk.skip ?_
 refine CodeOk.seq' ?_
 (revert h; refine bind_rev fun r21 hx28 h => ?_)
 (revert h; refine bind_rev fun r22 hx29 h => ?_)
 refine CodeOk.cutR (tl 82 [(0, .sl false false (a0.map encSBind)), (1, V.str a1), (2, V.int a2), (8, .own 101), (9, .own 102), (10, .own 103), (42, V.bool (!r22))]) [(103, .vec false 44 2 (r10.map encSBind)), (102, .vec false 44 2 (r8.map encSBind)), (101, .vec false 44 2 (r6.map encSBind))] mix (by
  refine W.run D_ok 2 104 (by kernel_rfl) ?_
  refine W.call (m_laws_toBindS_ok N a0 hx28) cok12 [] [(100, 104)] [104] (show LayOk _ [] from trivial) (by kernel_rfl) (by kernel_rfl) ?_
  refine W.lend (m_laws_eqBindS_ok N r8 r21 hx29) cok13 [] [] (LayOk.cons (j := 102) encSBind encSBind r8 (by kernel_rfl) (fun _ => rfl) (LayOk.cons (j := 104) encSBind encSBind r21 (by kernel_rfl) (fun _ => rfl) (show LayOk _ [] from trivial))) (.c _) .nil (by kernel_rfl) (by kernel_rfl) ?_
  refine W.run D_ok 1 105 (by kernel_rfl) ?_
  exact W.fi (by kernel_rfl)
  ) ?_
 (revert h; refine cond_rev (fun hc30 h => ?_) (fun hc30 h => ?_))
 ·refine CodeOk.ifT hc30 (by kernel_rfl) ?_
  refine cu D_ok mix 1 105 (tl 82 [(6, V.bool false)]) [] (by kernel_rfl) ?_
  refine CodeOk.ret ?_
  have h := Option.some.inj h
  subst h
  exact Ends.gen [] (.inr rfl) (RetV.one rfl (OneR.tmp (t := 6) (r := V.bool false) (by kernel_rfl))) (by kernel_rfl) (by kernel_rfl) (by kernel_rfl)
 refine CodeOk.ifF hc30 (by kernel_rfl) ?_
 refine CodeOk.skip ?_
 refine cu D_ok mix 1 105 (tl 82 [(0, .sl false false (a0.map encSBind)), (1, V.str a1), (2, V.int a2), (8, .own 101), (9, .own 102), (10, .own 103), (11, V.int 1)]) [(103, .vec false 44 2 (r10.map encSBind)), (102, .vec false 44 2 (r8.map encSBind)), (101, .vec false 44 2 (r6.map encSBind))] (by kernel_rfl) ?_
 (revert h; refine bind_rev fun r24 hx32 h => ?_)
 refine CodeOk.cutR (tl 82 [(0, .sl false false (a0.map encSBind)), (1, V.str a1), (2, V.int a2), (8, .own 101), (10, .own 103), (11, V.int r24.1)]) [(103, .vec false 44 2 (r10.map encSBind)), (101, .vec false 44 2 (r6.map encSBind))] mix (by
  refine W.run D_ok 2 105 (by kernel_rfl) ?_
  refine W.call (m_laws_markBindS_ok 44 N 1 r8 hx32) cok14 [(102, 0)] [(0, 102)] [] (show LayOk _ [] from trivial) (by kernel_rfl) (by kernel_rfl) ?_
  refine W.run D_ok 1 105 (by kernel_rfl) ?_
  exact W.fi (by kernel_rfl)
  ) ?_
 refine CodeOk.seq' ?_
 (revert h; refine bind_rev fun y29 hv41 h => ?_)
 refine CodeOk.cutR (tl 82 [(0, .sl false false (a0.map encSBind)), (1, V.str a1), (2, V.int a2), (8, .own 100), (10, .own 101), (53, V.bool y29)]) [(100, .vec false 44 2 (r6.map encSBind)), (101, .vec false 44 2 (r10.map encSBind))] mix (by
  refine W.run D_ok 3 105 (by kernel_rfl) ?_
  (revert hv41; refine cond_rev (fun hc42 hv41 => ?_) (fun hc42 hv41 => ?_))
  ·refine W.is 48 hc42 (by kernel_rfl) ?_
   refine W.run D_ok 5 105 (by kernel_rfl) ?_
   have hv41 := Option.some.inj hv41
   subst hv41
   exact W.fs [(101, 100), (103, 101)] [0, 1, 2, 8, 10, 53] (by kernel_rfl)
  refine W.is 48 hc42 (by kernel_rfl) ?_
  refine W.run D_ok 2 105 (by kernel_rfl) ?_
  (revert hv41; refine bind_rev fun r30 hx43 hv41 => ?_)
  refine W.lend (m_laws_eqBindS_ok N r10 r6 hx43) cok13 [] [] (LayOk.cons (j := 103) encSBind encSBind r10 (by kernel_rfl) (fun _ => rfl) (LayOk.cons (j := 101) encSBind encSBind r6 (by kernel_rfl) (fun _ => rfl) (show LayOk _ [] from trivial))) (.c _) .nil (by kernel_rfl) (by kernel_rfl) ?_
  refine W.run D_ok 2 105 (by kernel_rfl) ?_
  have hv41 := Option.some.inj hv41
  subst hv41
  exact W.fs [(101, 100), (103, 101)] [0, 1, 2, 8, 10, 53] (by kernel_rfl)
  ) ?_
 (revert h; refine cond_rev (fun hc44 h => ?_) (fun hc44 h => ?_))
 ·refine CodeOk.ifT hc44 (by kernel_rfl) ?_
  refine cu D_ok mix 1 105 (tl 82 [(6, V.bool false)]) [] (by kernel_rfl) ?_
  refine CodeOk.ret ?_
  have h := Option.some.inj h
  subst h
  exact Ends.gen [] (.inr rfl) (RetV.one rfl (OneR.tmp (t := 6) (r := V.bool false) (by kernel_rfl))) (by kernel_rfl) (by kernel_rfl) (by kernel_rfl)
 refine CodeOk.ifF hc44 (by kernel_rfl) ?_
 refine CodeOk.skip ?_
 refine cu D_ok mix 1 105 (tl 82 [(0, .sl false false (a0.map encSBind)), (1, V.str a1), (2, V.int a2), (8, .own 100), (10, .own 101), (12, V.int 1)]) [(100, .vec false 44 2 (r6.map encSBind)), (101, .vec false 44 2 (r10.map encSBind))] (by kernel_rfl) ?_
 (revert h; refine bind_rev fun r32 hx46 h => ?_)
 refine CodeOk.cutR (tl 82 [(0, .sl false false (a0.map encSBind)), (1, V.str a1), (2, V.int a2), (8, .own 100), (10, .own 101), (12, V.int r32.1)]) [(100, .vec false 44 2 (r6.map encSBind)), (101, .vec false 44 2 (r32.2.map encSBind))] mix (by
  refine W.run D_ok 2 105 (by kernel_rfl) ?_
  refine W.call (m_laws_markBindS_ok 44 N 1 r10 hx46) cok14 [(101, 0)] [(0, 101)] [] (show LayOk _ [] from trivial) (by kernel_rfl) (by kernel_rfl) ?_
  refine W.run D_ok 1 105 (by kernel_rfl) ?_
  exact W.fi (by kernel_rfl)
  ) ?_
 refine cu D_ok mix 1 105 (tl 82 [(0, .sl false false (a0.map encSBind)), (1, V.str a1), (2, V.int a2), (8, .own 100), (10, .own 101), (12, V.int r32.1), (13, V.int 1)]) [(100, .vec false 44 2 (r6.map encSBind)), (101, .vec false 44 2 (r32.2.map encSBind))] (by kernel_rfl) ?_
 (revert h; refine bind_rev fun r34 hx48 h => ?_)
 refine CodeOk.cutR (tl 82 [(0, .sl false false (a0.map encSBind)), (1, V.str a1), (2, V.int a2), (8, .own 100), (10, .own 101), (12, V.int r32.1), (13, V.int r34)]) [(100, .vec false 44 2 (r6.map encSBind)), (101, .vec false 44 2 (r32.2.map encSBind))] mix (by
  refine W.run D_ok 2 105 (by kernel_rfl) ?_
  refine W.lend (m_laws_heldBindS_ok N r32.2 1 hx48) cok15 [] [] (LayOk.cons (j := 101) encSBind encSBind r32.2 (by kernel_rfl) (fun _ => rfl) (show LayOk _ [] from trivial)) (.c _) .nil (by kernel_rfl) (by kernel_rfl) ?_
  refine W.run D_ok 1 105 (by kernel_rfl) ?_
  exact W.fi (by kernel_rfl)
  ) ?_
 refine CodeOk.seq' ?_
 refine cu D_ok mix 2 105 (tl 82 [(0, .sl false false (a0.map encSBind)), (1, V.str a1), (2, V.int a2), (8, .own 100), (10, .own 101), (12, V.int r32.1), (13, V.int r34), (61, V.bool (decide (r34 < 0)))]) [(100, .vec false 44 2 (r6.map encSBind)), (101, .vec false 44 2 (r32.2.map encSBind))] (by kernel_rfl) ?_
 (revert h; refine cond_rev (fun hc50 h => ?_) (fun hc50 h => ?_))
 ·refine CodeOk.ifT hc50 (by kernel_rfl) ?_
  refine cu D_ok mix 1 105 (tl 82 [(6, V.bool false)]) [] (by kernel_rfl) ?_
  refine CodeOk.ret ?_
  have h := Option.some.inj h
  subst h
  exact Ends.gen [] (.inr rfl) (RetV.one rfl (OneR.tmp (t := 6) (r := V.bool false) (by kernel_rfl))) (by kernel_rfl) (by kernel_rfl) (by kernel_rfl)
 refine CodeOk.ifF hc50 (by kernel_rfl) ?_
 refine CodeOk.skip ?_
 refine CodeOk.seq' ?_
 refine cu D_ok mix 3 105 (tl 82 [(0, .sl false false (a0.map encSBind)), (1, V.str a1), (2, V.int a2), (8, .own 100), (10, .own 101), (12, V.int r32.1), (64, V.bool (r34 != r32.1))]) [(100, .vec false 44 2 (r6.map encSBind)), (101, .vec false 44 2 (r32.2.map encSBind))] (by kernel_rfl) ?_
 (revert h; refine cond_rev (fun hc52 h => ?_) (fun hc52 h => ?_))
 ·refine CodeOk.ifT hc52 (by kernel_rfl) ?_
  refine cu D_ok mix 1 105 (tl 82 [(6, V.bool false)]) [] (by kernel_rfl) ?_
  refine CodeOk.ret ?_
  have h := Option.some.inj h
  subst h
  exact Ends.gen [] (.inr rfl) (RetV.one rfl (OneR.tmp (t := 6) (r := V.bool false) (by kernel_rfl))) (by kernel_rfl) (by kernel_rfl) (by kernel_rfl)
 refine CodeOk.ifF hc52 (by kernel_rfl) ?_
 refine CodeOk.skip ?_
 (revert h; refine bind_rev fun r37 hx55 h => ?_)
 (revert h; refine bind_rev fun r38 hx56 h => ?_)
 refine CodeOk.cutR (tl 82 [(8, .own 100), (10, .own 101), (12, V.int r32.1), (14, .own 106)]) [(106, .vec false 44 2 (r38.map encSBind)), (100, .vec false 44 2 (r6.map encSBind)), (101, .vec false 44 2 (r32.2.map encSBind))] mix (by
  refine W.run D_ok 1 105 (by kernel_rfl) ?_
  refine W.call (m_laws_toBindS_ok N a0 hx55) cok12 [] [(100, 105)] [105] (show LayOk _ [] from trivial) (by kernel_rfl) (by kernel_rfl) ?_
  refine W.run D_ok 2 106 (by kernel_rfl) ?_
  refine W.lend (m_impl_SetVar_ok N r37 a1 a2 hx56) cok7 [(100, 106)] [106] (LayOk.cons (j := 105) encSBind encSBind r37 (by kernel_rfl) (fun _ => rfl) (show LayOk _ [] from trivial)) (.own _) (.cons (DeepR.map (fun _ => (.cons (.c _) (.cons (.c _) .nil))) _) .nil) (by kernel_rfl) (by kernel_rfl) ?_
  refine W.run D_ok 1 107 (by kernel_rfl) ?_
  exact W.fi (by kernel_rfl)
  ) ?_
 refine CodeOk.seq' ?_
 (revert h; refine bind_rev fun r42 hx61 h => ?_)
 refine CodeOk.cutR (tl 82 [(10, .own 101), (12, V.int r32.1), (73, V.bool (!r42))]) [(101, .vec false 44 2 (r32.2.map encSBind))] mix (by
  refine W.run D_ok 2 107 (by kernel_rfl) ?_
  refine W.lend (m_laws_eqBindS_ok N r38 r6 hx61) cok13 [] [] (LayOk.cons (j := 106) encSBind encSBind r38 (by kernel_rfl) (fun _ => rfl) (LayOk.cons (j := 100) encSBind encSBind r6 (by kernel_rfl) (fun _ => rfl) (show LayOk _ [] from trivial))) (.c _) .nil (by kernel_rfl) (by kernel_rfl) ?_
  refine W.run D_ok 1 107 (by kernel_rfl) ?_
  exact W.fi (by kernel_rfl)
  ) ?_
 (revert h; refine cond_rev (fun hc62 h => ?_) (fun hc62 h => ?_))
 ·refine CodeOk.ifT hc62 (by kernel_rfl) ?_
  refine cu D_ok mix 1 107 (tl 82 [(6, V.bool false)]) [] (by kernel_rfl) ?_
  refine CodeOk.ret ?_
  have h := Option.some.inj h
  subst h
  exact Ends.gen [] (.inr rfl) (RetV.one rfl (OneR.tmp (t := 6) (r := V.bool false) (by kernel_rfl))) (by kernel_rfl) (by kernel_rfl) (by kernel_rfl)
 refine CodeOk.ifF hc62 (by kernel_rfl) ?_
 refine CodeOk.skip ?_
 refine cu D_ok mix 1 107 (tl 82 [(10, .own 101), (12, V.int r32.1), (13, V.int 1)]) [(101, .vec false 44 2 (r32.2.map encSBind))] (by kernel_rfl) ?_
 (revert h; refine bind_rev fun r44 hx64 h => ?_)
 refine CodeOk.cutR (tl 82 [(12, V.int r32.1), (13, V.int r44)]) [] mix (by
  refine W.run D_ok 2 107 (by kernel_rfl) ?_
  refine W.lend (m_laws_heldBindS_ok N r32.2 1 hx64) cok15 [] [] (LayOk.cons (j := 101) encSBind encSBind r32.2 (by kernel_rfl) (fun _ => rfl) (show LayOk _ [] from trivial)) (.c _) .nil (by kernel_rfl) (by kernel_rfl) ?_
  refine W.run D_ok 1 107 (by kernel_rfl) ?_
  exact W.fi (by kernel_rfl)
  ) ?_
 refine CodeOk.seq' ?_
 refine cu D_ok mix 2 107 (tl 82 [(12, V.int r32.1), (13, V.int r44), (78, V.bool (decide (r44 < 0)))]) [] (by kernel_rfl) ?_
 (revert h; refine cond_rev (fun hc66 h => ?_) (fun hc66 h => ?_))
 ·refine CodeOk.ifT hc66 (by kernel_rfl) ?_
  refine cu D_ok mix 1 107 (tl 82 [(6, V.bool false)]) [] (by kernel_rfl) ?_
  refine CodeOk.ret ?_
  have h := Option.some.inj h
  subst h
  exact Ends.gen [] (.inr rfl) (RetV.one rfl (OneR.tmp (t := 6) (r := V.bool false) (by kernel_rfl))) (by kernel_rfl) (by kernel_rfl) (by kernel_rfl)
 refine CodeOk.ifF hc66 (by kernel_rfl) ?_
 refine CodeOk.skip ?_
 refine CodeOk.seq' ?_
 refine cu D_ok mix 3 107 (tl 82 [(81, V.bool (r44 != r32.1))]) [] (by kernel_rfl) ?_
 (revert h; refine cond_rev (fun hc68 h => ?_) (fun hc68 h => ?_))
 ·refine CodeOk.ifT hc68 (by kernel_rfl) ?_
  refine cu D_ok mix 1 107 (tl 82 [(6, V.bool false)]) [] (by kernel_rfl) ?_
  refine CodeOk.ret ?_
  have h := Option.some.inj h
  subst h
  exact Ends.gen [] (.inr rfl) (RetV.one rfl (OneR.tmp (t := 6) (r := V.bool false) (by kernel_rfl))) (by kernel_rfl) (by kernel_rfl) (by kernel_rfl)
 refine CodeOk.ifF hc68 (by kernel_rfl) ?_
 refine CodeOk.skip ?_
 refine cu D_ok mix 1 107 (tl 82 [(6, V.bool true)]) [] (by kernel_rfl) ?_
 refine CodeOk.ret ?_
 have h := Option.some.inj h
 subst h
 exact Ends.gen [] (.inr rfl) (RetV.one rfl (OneR.tmp (t := 6) (r := V.bool true) (by kernel_rfl))) (by kernel_rfl) (by kernel_rfl) (by kernel_rfl)

end Go.Proofs.Try
