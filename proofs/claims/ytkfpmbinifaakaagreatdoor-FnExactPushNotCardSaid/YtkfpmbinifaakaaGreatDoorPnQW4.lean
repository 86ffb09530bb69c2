/-
  The walks that show that the code computes the models, part 4.
-/
import Derived.Test.YtkfpmbinifaakaaGreatDoorPnQW3
namespace Go.Proofs.Tryz
open Go.Av
set_option maxRecDepth 100000
set_option maxHeartbeats 8000000
set_option linter.unusedSimpArgs false
set_option linter.unusedVariables false

theorem m_laws_markNodeS_ok (e0 : TypeId) (N : Nat) (a1 : Int) (p0 : List SNode) {r : (Int × (List SNode))} (h : m_laws_markNodeS N a1 p0 = some r) :
    AC Tryz.prog (GS []) 15 [.own 0, V.i a1] [(0, .vec false e0 5 (p0.map (eSN true)))] (V.i r.1) [(0, .vec false e0 5 (r.2.map (eSN true)))] := by
 rw [m_laws_markNodeS] at h
 refine AC.enter Tryz.func15 rfl ?_
 refine cu Dk mix 1 100 (tl 50 [(0, .own 0), (1, V.i a1)]) [(0, .vec false e0 5 (p0.map (eSN true)))] (by kernel_rfl) ?_
 refine CO.seq' ?_
 refine cu Dk mix 1 100 (tl 50 [(0, .own 0), (1, V.i a1), (5, V.i 0)]) [(0, .vec false e0 5 (p0.map (eSN true)))] (by kernel_rfl) ?_
 refine CO.block' ?_
 refine CO.loopJ (fun (⟨y191, y192, y193⟩ : (Int × Int × (List SNode))) => ⟨tl 50 [(0, .own 0), (1, V.i y191), (5, V.i y192)], [(0, .vec false e0 5 (y193.map (eSN true)))]⟩) (fun n i => m_laws_markNodeS_l1 N n i = some r) (n0 := N) (i0 := (a1, 0, p0)) (Weak.sel [(0, 0)] [0, 1, 5] (by kernel_rfl) (by kernel_rfl) (by kernel_rfl)) h (fun i h => by simp [m_laws_markNodeS_l1] at h) ?_
 rintro n1 ⟨y191, y192, y193⟩ h243 ih244
 rw [m_laws_markNodeS_l1] at h243
 refine CO.seq' ?_
 refine CO.cutR (tl 50 [(0, .own 0), (1, V.i y191), (5, V.i y192), (9, V.b (decide (y192 < (y193.length : Int))))]) [(0, .vec false e0 5 (y193.map (eSN true)))] mix (by
  refine W.run Dk 2 160 (by kernel_rfl) ?_
  refine W.len Dk (eSN true) y193 [0] (by kernel_rfl) (by kernel_rfl) ?_
  refine W.run Dk 1 160 (by kernel_rfl) ?_
  exact W.fi (by kernel_rfl)
  ) ?_
 rcases cond_some h243 with ⟨hc246, h243⟩ | ⟨hc246, h243⟩
 ·refine CO.ifT hc246 (by kernel_rfl) ?_
  refine CO.skip ?_
  refine CO.seq' ?_
  refine CO.block' ?_
  obtain ⟨e268, hx272, h243⟩ := bind_some h243
  obtain ⟨x269, hu273, h243⟩ := bind_some h243
  refine CO.cutR (tl 50 [(0, .own 0), (1, V.i y191), (5, V.i y192)]) [(0, .vec false e0 5 (x269.map (eSN true)))] mix (by
   refine W.run Dk 3 160 (by kernel_rfl) ?_
   refine W.ixO Dk (eSN true) hx272 0 5 (by kernel_rfl) ?_
   refine W.run Dk 1 160 (by kernel_rfl) ?_
   refine W.stO Dk (eSN true) (x' := (⟨y191, e268.Op, e268.Text, e268.Other, e268.Kids⟩ : SNode)) hx272 hu273 (j := 0) (nn := false) (ety := e0) (sz := 5) (b := 0) (ys := [V.i y191]) (C := []) (R := []) (by kernel_rfl) (by kernel_rfl) ?_
   exact W.fi (by kernel_rfl)
   ) ?_
  refine cu Dk mix 3 160 (tl 50 [(0, .own 0), (1, V.i (IntKind.wrap .i64 (y191 + 1))), (5, V.i y192)]) [(0, .vec false e0 5 (x269.map (eSN true)))] (by kernel_rfl) ?_
  obtain ⟨e272, hx276, h243⟩ := bind_some h243
  obtain ⟨x273, hu277, h243⟩ := bind_some h243
  refine CO.cutR (tl 50 [(0, .own 0), (1, V.i (IntKind.wrap .i64 (y191 + 1))), (5, V.i y192)]) [(0, .vec false e0 5 (x273.map (eSN true)))] mix (by
   refine W.run Dk 3 160 (by kernel_rfl) ?_
   refine W.ixO Dk (eSN true) hx276 0 5 (by kernel_rfl) ?_
   refine W.run Dk 1 160 (by kernel_rfl) ?_
   refine W.stO Dk (eSN true) (x' := (⟨e272.Kind, (IntKind.wrap .i64 (y191 + 1)), e272.Text, e272.Other, e272.Kids⟩ : SNode)) hx276 hu277 (j := 0) (nn := false) (ety := e0) (sz := 5) (b := 1) (ys := [V.i (IntKind.wrap .i64 (y191 + 1))]) (C := []) (R := []) (by kernel_rfl) (by kernel_rfl) ?_
   exact W.fi (by kernel_rfl)
   ) ?_
  refine cu Dk mix 3 160 (tl 50 [(0, .own 0), (1, V.i (IntKind.wrap .i64 ((IntKind.wrap .i64 (y191 + 1)) + 1))), (5, V.i y192)]) [(0, .vec false e0 5 (x273.map (eSN true)))] (by kernel_rfl) ?_
  obtain ⟨r277, hx281, h243⟩ := bind_some h243
  obtain ⟨e278, hx282, h243⟩ := bind_some h243
  obtain ⟨x279, hu283, h243⟩ := bind_some h243
  refine CO.cutR (tl 50 [(0, .own 0), (1, V.i (IntKind.wrap .i64 ((IntKind.wrap .i64 (y191 + 1)) + 1))), (5, V.i y192)]) [(0, .vec false e0 5 (x279.map (eSN true)))] mix (by
   refine W.run Dk 3 160 (by kernel_rfl) ?_
   refine W.call0 (m_laws_markText_ok N (IntKind.wrap .i64 ((IntKind.wrap .i64 (y191 + 1)) + 1)) hx281) cok51 rfl (by kernel_rfl) ?_
   refine W.ixO Dk (eSN true) hx282 0 5 (by kernel_rfl) ?_
   refine W.run Dk 1 160 (by kernel_rfl) ?_
   refine W.stO Dk (eSN true) (x' := (⟨e278.Kind, e278.Op, r277, e278.Other, e278.Kids⟩ : SNode)) hx282 hu283 (j := 0) (nn := false) (ety := e0) (sz := 5) (b := 2) (ys := [V.s r277]) (C := []) (R := []) (by kernel_rfl) (by kernel_rfl) ?_
   exact W.fi (by kernel_rfl)
   ) ?_
  refine cu Dk mix 3 160 (tl 50 [(0, .own 0), (1, V.i (IntKind.wrap .i64 ((IntKind.wrap .i64 ((IntKind.wrap .i64 (y191 + 1)) + 1)) + 1))), (5, V.i y192)]) [(0, .vec false e0 5 (x279.map (eSN true)))] (by kernel_rfl) ?_
  obtain ⟨r283, hx287, h243⟩ := bind_some h243
  obtain ⟨e284, hx288, h243⟩ := bind_some h243
  obtain ⟨x285, hu289, h243⟩ := bind_some h243
  refine CO.cutR (tl 50 [(0, .own 0), (1, V.i (IntKind.wrap .i64 ((IntKind.wrap .i64 ((IntKind.wrap .i64 (y191 + 1)) + 1)) + 1))), (5, V.i y192)]) [(0, .vec false e0 5 (x285.map (eSN true)))] mix (by
   refine W.run Dk 3 160 (by kernel_rfl) ?_
   refine W.call0 (m_laws_markText_ok N (IntKind.wrap .i64 ((IntKind.wrap .i64 ((IntKind.wrap .i64 (y191 + 1)) + 1)) + 1)) hx287) cok51 rfl (by kernel_rfl) ?_
   refine W.ixO Dk (eSN true) hx288 0 5 (by kernel_rfl) ?_
   refine W.run Dk 1 160 (by kernel_rfl) ?_
   refine W.stO Dk (eSN true) (x' := (⟨e284.Kind, e284.Op, e284.Text, r283, e284.Kids⟩ : SNode)) hx288 hu289 (j := 0) (nn := false) (ety := e0) (sz := 5) (b := 3) (ys := [V.s r283]) (C := []) (R := []) (by kernel_rfl) (by kernel_rfl) ?_
   exact W.fi (by kernel_rfl)
   ) ?_
  refine cu Dk mix 3 160 (tl 50 [(0, .own 0), (1, V.i (IntKind.wrap .i64 ((IntKind.wrap .i64 ((IntKind.wrap .i64 ((IntKind.wrap .i64 (y191 + 1)) + 1)) + 1)) + 1))), (5, V.i y192)]) [(0, .vec false e0 5 (x285.map (eSN true)))] (by kernel_rfl) ?_
  obtain ⟨e286, hx290, h243⟩ := bind_some h243
  obtain ⟨r287, hx291, h243⟩ := bind_some h243
  obtain ⟨x288, hu292, h243⟩ := bind_some h243
  refine CO.nestEnd Dk 4 (tl 50 [(0, .own 0), (1, V.i (IntKind.wrap .i64 ((IntKind.wrap .i64 ((IntKind.wrap .i64 ((IntKind.wrap .i64 (y191 + 1)) + 1)) + 1)) + 1))), (5, V.i y192), (45, .vp 0 5 y192.toNat 4)]) [(0, .vec false e0 5 (x285.map (eSN true)))] (tl 50 [(0, .own 0), (1, V.i r287.1), (5, V.i y192)]) [(0, .vec false e0 5 (x288.map (eSN true)))] (by kernel_rfl) (by
      refine W.run Dk 2 160 (by kernel_rfl) ?_
      refine W.ixO Dk (eSN true) hx290 0 5 (by kernel_rfl) ?_
      refine W.run Dk 1 160 (by kernel_rfl) ?_
      exact W.fin (by decide) (by kernel_rfl) (Weak.sel [(0, 0)] [0, 1, 5, 45] (by kernel_rfl) (by kernel_rfl) (by kernel_rfl))
      ) ⟨_, rfl, rfl, rfl⟩ ⟨_, rfl, rfl, rfl⟩ ⟨_, rfl, rfl, rfl⟩ cok28 (by kernel_rfl) (by kernel_rfl) (i := 0) (k := 5) (m := y192.toNat) (b := 4) (u := .int .i64 (IntKind.wrap .i64 ((IntKind.wrap .i64 ((IntKind.wrap .i64 ((IntKind.wrap .i64 (y191 + 1)) + 1)) + 1)) + 1))) (by kernel_rfl) (by kernel_rfl) (nn := false) (nn2 := false) (ety := e0) (eSN true) (x' := (⟨e286.Kind, e286.Op, e286.Text, e286.Other, r287.2⟩ : SNode)) hx290 hu292 rfl (by kernel_rfl) (srows := e286.Kids.map encI) (srows' := r287.2.map encI) (by kernel_rfl) (by kernel_rfl) (u' := .int .i64 r287.1) (k2 := 1) (fun _ e => m_laws_markIntS_ok e N (IntKind.wrap .i64 ((IntKind.wrap .i64 ((IntKind.wrap .i64 ((IntKind.wrap .i64 (y191 + 1)) + 1)) + 1)) + 1)) e286.Kids hx291) (fun h0 => m_laws_markIntS_nil N (IntKind.wrap .i64 ((IntKind.wrap .i64 ((IntKind.wrap .i64 ((IntKind.wrap .i64 (y191 + 1)) + 1)) + 1)) + 1)) e286.Kids hx291 (List.map_eq_nil_iff.1 h0)) (fun r hr => by obtain ⟨a, _, rfl⟩ := List.mem_map.1 hr; rfl) (by
      refine W.run Dk 1 160 (by kernel_rfl) ?_
      exact W.fin (by decide) (by kernel_rfl) (Weak.sel [(0, 0)] [0, 1, 5] (by kernel_rfl) (by kernel_rfl) (by kernel_rfl))
   ) (fun st hw => ?_)
  refine CO.weak hw ?_
  refine ce Dk mix 3 160 (tl 50 [(0, .own 0), (1, V.i r287.1), (5, V.i (IntKind.wrap .i64 (y192 + 1)))]) [(0, .vec false e0 5 (x288.map (eSN true)))] (by kernel_rfl) (fun st hw => ?_)
  exact ih244 (r287.1, (IntKind.wrap .i64 (y192 + 1)), x288) h243 _ (hw.trans (Weak.sel [(0, 0)] [0, 1, 5] (by kernel_rfl) (by kernel_rfl) (by kernel_rfl)))
 refine CO.ifF hc246 (by kernel_rfl) ?_
 refine CO.exit ?_
 refine cu Dk mix 2 160 (tl 50 [(4, V.i y191)]) [(0, .vec false e0 5 (y193.map (eSN true)))] (by kernel_rfl) ?_
 refine CO.ret ?_
 have h243 := Option.some.inj h243
 subst h243
 exact Ends.gen [(0, 0)] (.inr rfl) (RetV.one rfl (OneR.tmp (t := 4) (r := V.i y191) (by kernel_rfl))) (by kernel_rfl) (by kernel_rfl) (by kernel_rfl)

theorem m_laws_heldIntS_ok (N : Nat) (a0 : List Int) (a1 : Int) {r : Int} (h : m_laws_heldIntS N a0 a1 = some r) :
    AC Tryz.prog (GS []) 29 [.sl false false (a0.map encI), V.i a1] [] (V.i r) [] := by
 rw [m_laws_heldIntS] at h
 refine AC.enter Tryz.func29 rfl ?_
 refine cu Dk mix 1 100 (tl 21 [(0, .sl false false (a0.map encI)), (1, V.i a1)]) [] (by kernel_rfl) ?_
 refine CO.seq' ?_
 refine cu Dk mix 1 100 (tl 21 [(0, .sl false false (a0.map encI)), (1, V.i a1), (5, V.i 0)]) [] (by kernel_rfl) ?_
 refine CO.block' ?_
 refine CO.loopJ (fun (⟨a0, y37, y38⟩ : ((List Int) × Int × Int)) => ⟨tl 21 [(0, .sl false false (a0.map encI)), (1, V.i y37), (5, V.i y38)], []⟩) (fun n i => m_laws_heldIntS_l1 N n i = some r) (n0 := N) (i0 := (a0, a1, 0)) (Weak.sel [] [0, 1, 5] (by kernel_rfl) (by kernel_rfl) (by kernel_rfl)) h (fun i h => by simp [m_laws_heldIntS_l1] at h) ?_
 rintro n1 ⟨a0, y37, y38⟩ h73 ih74
 rw [m_laws_heldIntS_l1] at h73
 refine CO.seq' ?_
 refine CO.cutR (tl 21 [(0, .sl false false (a0.map encI)), (1, V.i y37), (5, V.i y38), (9, V.b (decide (y38 < (a0.length : Int))))]) [] mix (by
  refine W.run Dk 2 160 (by kernel_rfl) ?_
  refine W.len Dk encI a0 [] (by kernel_rfl) (by kernel_rfl) ?_
  refine W.run Dk 1 160 (by kernel_rfl) ?_
  exact W.fi (by kernel_rfl)
  ) ?_
 rcases cond_some h73 with ⟨hc76, h73⟩ | ⟨hc76, h73⟩
 ·refine CO.ifT hc76 (by kernel_rfl) ?_
  refine CO.skip ?_
  refine CO.seq' ?_
  refine CO.block' ?_
  refine CO.seq' ?_
  obtain ⟨e56, hx87, h73⟩ := bind_some h73
  refine CO.cutR (tl 21 [(0, .sl false false (a0.map encI)), (1, V.i y37), (5, V.i y38), (17, V.b (e56 != y37))]) [] mix (by
   refine W.run Dk 2 160 (by kernel_rfl) ?_
   refine W.ixD Dk encI hx87 1 (by kernel_rfl) (by kernel_rfl) ?_
   refine W.run Dk 3 160 (by kernel_rfl) ?_
   exact W.fi (by kernel_rfl)
   ) ?_
  rcases cond_some h73 with ⟨hc88, h73⟩ | ⟨hc88, h73⟩
  ·refine CO.ifT hc88 (by kernel_rfl) ?_
   refine cu Dk mix 1 160 (tl 21 [(4, V.i (-1))]) [] (by kernel_rfl) ?_
   refine CO.ret ?_
   have h73 := Option.some.inj h73
   subst h73
   exact Ends.gen [] (.inr rfl) (RetV.one rfl (OneR.tmp (t := 4) (r := V.i (-1)) (by kernel_rfl))) (by kernel_rfl) (by kernel_rfl) (by kernel_rfl)
  refine CO.ifF hc88 (by kernel_rfl) ?_
  refine CO.skip ?_
  refine ce Dk mix 3 160 (tl 21 [(0, .sl false false (a0.map encI)), (1, V.i (IntKind.wrap .i64 (y37 + 1))), (5, V.i y38)]) [] (by kernel_rfl) (fun st hw => ?_)
  refine CO.weak hw ?_
  refine ce Dk mix 3 160 (tl 21 [(0, .sl false false (a0.map encI)), (1, V.i (IntKind.wrap .i64 (y37 + 1))), (5, V.i (IntKind.wrap .i64 (y38 + 1)))]) [] (by kernel_rfl) (fun st hw => ?_)
  exact ih74 (a0, (IntKind.wrap .i64 (y37 + 1)), (IntKind.wrap .i64 (y38 + 1))) h73 _ (hw.trans (Weak.sel [] [0, 1, 5] (by kernel_rfl) (by kernel_rfl) (by kernel_rfl)))
 refine CO.ifF hc76 (by kernel_rfl) ?_
 refine CO.exit ?_
 refine cu Dk mix 2 160 (tl 21 [(4, V.i y37)]) [] (by kernel_rfl) ?_
 refine CO.ret ?_
 have h73 := Option.some.inj h73
 subst h73
 exact Ends.gen [] (.inr rfl) (RetV.one rfl (OneR.tmp (t := 4) (r := V.i y37) (by kernel_rfl))) (by kernel_rfl) (by kernel_rfl) (by kernel_rfl)

theorem m_laws_heldNodeS_ok (N : Nat) (a0 : List SNode) (a1 : Int) {r : Int} (h : m_laws_heldNodeS N a0 a1 = some r) :
    AC Tryz.prog (GS []) 16 [.sl false false (a0.map (eSN false)), V.i a1] [] (V.i r) [] := by
 rw [m_laws_heldNodeS] at h
 refine AC.enter Tryz.func16 rfl ?_
 refine cu Dk mix 1 100 (tl 60 [(0, .sl false false (a0.map (eSN false))), (1, V.i a1)]) [] (by kernel_rfl) ?_
 refine CO.seq' ?_
 refine cu Dk mix 1 100 (tl 60 [(0, .sl false false (a0.map (eSN false))), (1, V.i a1), (5, V.i 0)]) [] (by kernel_rfl) ?_
 refine CO.block' ?_
 refine CO.loopJ (fun (⟨a0, y229, y230⟩ : ((List SNode) × Int × Int)) => ⟨tl 60 [(0, .sl false false (a0.map (eSN false))), (1, V.i y229), (5, V.i y230)], []⟩) (fun n i => m_laws_heldNodeS_l1 N n i = some r) (n0 := N) (i0 := (a0, a1, 0)) (Weak.sel [] [0, 1, 5] (by kernel_rfl) (by kernel_rfl) (by kernel_rfl)) h (fun i h => by simp [m_laws_heldNodeS_l1] at h) ?_
 rintro n1 ⟨a0, y229, y230⟩ h383 ih384
 rw [m_laws_heldNodeS_l1] at h383
 refine CO.seq' ?_
 refine CO.cutR (tl 60 [(0, .sl false false (a0.map (eSN false))), (1, V.i y229), (5, V.i y230), (9, V.b (decide (y230 < (a0.length : Int))))]) [] mix (by
  refine W.run Dk 2 160 (by kernel_rfl) ?_
  refine W.len Dk (eSN false) a0 [] (by kernel_rfl) (by kernel_rfl) ?_
  refine W.run Dk 1 160 (by kernel_rfl) ?_
  exact W.fi (by kernel_rfl)
  ) ?_
 rcases cond_some h383 with ⟨hc386, h383⟩ | ⟨hc386, h383⟩
 ·refine CO.ifT hc386 (by kernel_rfl) ?_
  refine CO.skip ?_
  refine CO.seq' ?_
  refine CO.block' ?_
  refine CO.seq' ?_
  obtain ⟨e320, hx428, h383⟩ := bind_some h383
  refine CO.cutR (tl 60 [(0, .sl false false (a0.map (eSN false))), (1, V.i y229), (5, V.i y230), (18, V.b (e320.Kind != y229))]) [] mix (by
   refine W.run Dk 2 160 (by kernel_rfl) ?_
   refine W.ixD Dk (eSN false) hx428 5 (by kernel_rfl) (by kernel_rfl) ?_
   refine W.run Dk 4 160 (by kernel_rfl) ?_
   exact W.fi (by kernel_rfl)
   ) ?_
  rcases cond_some h383 with ⟨hc429, h383⟩ | ⟨hc429, h383⟩
  ·refine CO.ifT hc429 (by kernel_rfl) ?_
   refine cu Dk mix 1 160 (tl 60 [(4, V.i (-1))]) [] (by kernel_rfl) ?_
   refine CO.ret ?_
   have h383 := Option.some.inj h383
   subst h383
   exact Ends.gen [] (.inr rfl) (RetV.one rfl (OneR.tmp (t := 4) (r := V.i (-1)) (by kernel_rfl))) (by kernel_rfl) (by kernel_rfl) (by kernel_rfl)
  refine CO.ifF hc429 (by kernel_rfl) ?_
  refine CO.skip ?_
  refine cu Dk mix 3 160 (tl 60 [(0, .sl false false (a0.map (eSN false))), (1, V.i (IntKind.wrap .i64 (y229 + 1))), (5, V.i y230)]) [] (by kernel_rfl) ?_
  refine CO.seq' ?_
  obtain ⟨e324, hx434, h383⟩ := bind_some h383
  refine CO.cutR (tl 60 [(0, .sl false false (a0.map (eSN false))), (1, V.i (IntKind.wrap .i64 (y229 + 1))), (5, V.i y230), (27, V.b (e324.Op != (IntKind.wrap .i64 (y229 + 1))))]) [] mix (by
   refine W.run Dk 2 160 (by kernel_rfl) ?_
   refine W.ixD Dk (eSN false) hx434 5 (by kernel_rfl) (by kernel_rfl) ?_
   refine W.run Dk 4 160 (by kernel_rfl) ?_
   exact W.fi (by kernel_rfl)
   ) ?_
  rcases cond_some h383 with ⟨hc435, h383⟩ | ⟨hc435, h383⟩
  ·refine CO.ifT hc435 (by kernel_rfl) ?_
   refine cu Dk mix 1 160 (tl 60 [(4, V.i (-1))]) [] (by kernel_rfl) ?_
   refine CO.ret ?_
   have h383 := Option.some.inj h383
   subst h383
   exact Ends.gen [] (.inr rfl) (RetV.one rfl (OneR.tmp (t := 4) (r := V.i (-1)) (by kernel_rfl))) (by kernel_rfl) (by kernel_rfl) (by kernel_rfl)
  refine CO.ifF hc435 (by kernel_rfl) ?_
  refine CO.skip ?_
  refine cu Dk mix 3 160 (tl 60 [(0, .sl false false (a0.map (eSN false))), (1, V.i (IntKind.wrap .i64 ((IntKind.wrap .i64 (y229 + 1)) + 1))), (5, V.i y230)]) [] (by kernel_rfl) ?_
  refine CO.seq' ?_
  obtain ⟨e331, hx443, h383⟩ := bind_some h383
  obtain ⟨r332, hx444, h383⟩ := bind_some h383
  refine CO.cutR (tl 60 [(0, .sl false false (a0.map (eSN false))), (1, V.i (IntKind.wrap .i64 ((IntKind.wrap .i64 (y229 + 1)) + 1))), (5, V.i y230), (37, V.b (!(e331.Text == r332)))]) [] mix (by
   refine W.run Dk 2 160 (by kernel_rfl) ?_
   refine W.ixD Dk (eSN false) hx443 5 (by kernel_rfl) (by kernel_rfl) ?_
   refine W.run Dk 3 160 (by kernel_rfl) ?_
   refine W.call0 (m_laws_markText_ok N (IntKind.wrap .i64 ((IntKind.wrap .i64 (y229 + 1)) + 1)) hx444) cok51 rfl (by kernel_rfl) ?_
   refine W.run Dk 1 160 (by kernel_rfl) ?_
   exact W.fi (by kernel_rfl)
   ) ?_
  rcases cond_some h383 with ⟨hc445, h383⟩ | ⟨hc445, h383⟩
  ·refine CO.ifT hc445 (by kernel_rfl) ?_
   refine cu Dk mix 1 160 (tl 60 [(4, V.i (-1))]) [] (by kernel_rfl) ?_
   refine CO.ret ?_
   have h383 := Option.some.inj h383
   subst h383
   exact Ends.gen [] (.inr rfl) (RetV.one rfl (OneR.tmp (t := 4) (r := V.i (-1)) (by kernel_rfl))) (by kernel_rfl) (by kernel_rfl) (by kernel_rfl)
  refine CO.ifF hc445 (by kernel_rfl) ?_
  refine CO.skip ?_
  refine cu Dk mix 3 160 (tl 60 [(0, .sl false false (a0.map (eSN false))), (1, V.i (IntKind.wrap .i64 ((IntKind.wrap .i64 ((IntKind.wrap .i64 (y229 + 1)) + 1)) + 1))), (5, V.i y230)]) [] (by kernel_rfl) ?_
  refine CO.seq' ?_
  obtain ⟨e339, hx453, h383⟩ := bind_some h383
  obtain ⟨r340, hx454, h383⟩ := bind_some h383
  refine CO.cutR (tl 60 [(0, .sl false false (a0.map (eSN false))), (1, V.i (IntKind.wrap .i64 ((IntKind.wrap .i64 ((IntKind.wrap .i64 (y229 + 1)) + 1)) + 1))), (5, V.i y230), (47, V.b (!(e339.Other == r340)))]) [] mix (by
   refine W.run Dk 2 160 (by kernel_rfl) ?_
   refine W.ixD Dk (eSN false) hx453 5 (by kernel_rfl) (by kernel_rfl) ?_
   refine W.run Dk 3 160 (by kernel_rfl) ?_
   refine W.call0 (m_laws_markText_ok N (IntKind.wrap .i64 ((IntKind.wrap .i64 ((IntKind.wrap .i64 (y229 + 1)) + 1)) + 1)) hx454) cok51 rfl (by kernel_rfl) ?_
   refine W.run Dk 1 160 (by kernel_rfl) ?_
   exact W.fi (by kernel_rfl)
   ) ?_
  rcases cond_some h383 with ⟨hc455, h383⟩ | ⟨hc455, h383⟩
  ·refine CO.ifT hc455 (by kernel_rfl) ?_
   refine cu Dk mix 1 160 (tl 60 [(4, V.i (-1))]) [] (by kernel_rfl) ?_
   refine CO.ret ?_
   have h383 := Option.some.inj h383
   subst h383
   exact Ends.gen [] (.inr rfl) (RetV.one rfl (OneR.tmp (t := 4) (r := V.i (-1)) (by kernel_rfl))) (by kernel_rfl) (by kernel_rfl) (by kernel_rfl)
  refine CO.ifF hc455 (by kernel_rfl) ?_
  refine CO.skip ?_
  refine cu Dk mix 3 160 (tl 60 [(0, .sl false false (a0.map (eSN false))), (1, V.i (IntKind.wrap .i64 ((IntKind.wrap .i64 ((IntKind.wrap .i64 ((IntKind.wrap .i64 (y229 + 1)) + 1)) + 1)) + 1))), (5, V.i y230)]) [] (by kernel_rfl) ?_
  obtain ⟨e343, hx458, h383⟩ := bind_some h383
  obtain ⟨r344, hx459, h383⟩ := bind_some h383
  refine CO.cutR (tl 60 [(0, .sl false false (a0.map (eSN false))), (1, V.i r344), (5, V.i y230)]) [] mix (by
   refine W.run Dk 2 160 (by kernel_rfl) ?_
   refine W.ixD Dk (eSN false) hx458 5 (by kernel_rfl) (by kernel_rfl) ?_
   refine W.run Dk 3 160 (by kernel_rfl) ?_
   refine W.call0 (m_laws_heldIntS_ok N e343.Kids (IntKind.wrap .i64 ((IntKind.wrap .i64 ((IntKind.wrap .i64 ((IntKind.wrap .i64 (y229 + 1)) + 1)) + 1)) + 1)) hx459) cok29 rfl (by kernel_rfl) ?_
   refine W.run Dk 1 160 (by kernel_rfl) ?_
   exact W.fi (by kernel_rfl)
   ) ?_
  refine cu Dk mix 2 160 (tl 60 [(0, .sl false false (a0.map (eSN false))), (1, V.i r344), (5, V.i y230), (58, V.b (decide (r344 < 0)))]) [] (by kernel_rfl) ?_
  rcases cond_some h383 with ⟨hc460, h383⟩ | ⟨hc460, h383⟩
  ·refine CO.ifT hc460 (by kernel_rfl) ?_
   refine cu Dk mix 1 160 (tl 60 [(4, V.i (-1))]) [] (by kernel_rfl) ?_
   refine CO.ret ?_
   have h383 := Option.some.inj h383
   subst h383
   exact Ends.gen [] (.inr rfl) (RetV.one rfl (OneR.tmp (t := 4) (r := V.i (-1)) (by kernel_rfl))) (by kernel_rfl) (by kernel_rfl) (by kernel_rfl)
  refine CO.ifF hc460 (by kernel_rfl) ?_
  refine CO.skip ?_
  refine ce Dk mix 3 160 (tl 60 [(0, .sl false false (a0.map (eSN false))), (1, V.i r344), (5, V.i (IntKind.wrap .i64 (y230 + 1)))]) [] (by kernel_rfl) (fun st hw => ?_)
  exact ih384 (a0, r344, (IntKind.wrap .i64 (y230 + 1))) h383 _ (hw.trans (Weak.sel [] [0, 1, 5] (by kernel_rfl) (by kernel_rfl) (by kernel_rfl)))
 refine CO.ifF hc386 (by kernel_rfl) ?_
 refine CO.exit ?_
 refine cu Dk mix 2 160 (tl 60 [(4, V.i y229)]) [] (by kernel_rfl) ?_
 refine CO.ret ?_
 have h383 := Option.some.inj h383
 subst h383
 exact Ends.gen [] (.inr rfl) (RetV.one rfl (OneR.tmp (t := 4) (r := V.i y229) (by kernel_rfl))) (by kernel_rfl) (by kernel_rfl) (by kernel_rfl)

theorem m_laws_FnExactPushNot_ok (N : Nat) (a0 : List SNode) {r : Bool} (h : m_laws_FnExactPushNot N a0 = some r) :
    AC Tryz.prog (GS [0, 1, 2]) 9 [.sl false false (a0.map (eSN false))] [] (V.b r) [] := by
 rw [m_laws_FnExactPushNot] at h
 refine AC.enter Tryz.func9 rfl ?_
 refine cu Dk mix 1 100 (tl 69 [(0, .sl false false (a0.map (eSN false)))]) [] (by kernel_rfl) ?_
 refine cu Dk mix 1 100 (tl 69 [(0, .sl false false (a0.map (eSN false))), (3, V.i 1048576)]) [] (by kernel_rfl) ?_
 obtain ⟨r2, hx2, h⟩ := bind_some h
 refine CO.cutR (tl 69 [(0, .sl false false (a0.map (eSN false))), (3, V.i r2)]) [] mix (by
  refine W.run Dk 2 100 (by kernel_rfl) ?_
  refine W.call0 (AC.gs (m_laws_szNodeS_ok N a0 1048576 hx2) (by decide)) cok17 rfl (by kernel_rfl) ?_
  refine W.run Dk 1 100 (by kernel_rfl) ?_
  exact W.fi (by kernel_rfl)
  ) ?_
 refine CO.seq' ?_
 refine cu Dk mix 2 100 (tl 69 [(0, .sl false false (a0.map (eSN false))), (15, V.b (decide (r2 < 0)))]) [] (by kernel_rfl) ?_
 rcases cond_some h with ⟨hc4, h⟩ | ⟨hc4, h⟩
 ·refine CO.ifT hc4 (by kernel_rfl) ?_
  refine cu Dk mix 1 100 (tl 69 [(2, V.b true)]) [] (by kernel_rfl) ?_
  refine CO.ret ?_
  have h := Option.some.inj h
  subst h
  exact Ends.gen [] (.inr rfl) (RetV.one rfl (OneR.tmp (t := 2) (r := V.b true) (by kernel_rfl))) (by kernel_rfl) (by kernel_rfl) (by kernel_rfl)
 refine CO.ifF hc4 (by kernel_rfl) ?_
 refine CO.skip ?_
 obtain ⟨r5, hx7, h⟩ := bind_some h
 obtain ⟨r6, hx8, h⟩ := bind_some h
 refine CO.cutR (tl 69 [(0, .sl false false (a0.map (eSN false))), (4, .own 101)]) [(101, .vec false 53 5 (r6.map (eSN true)))] mix (by
  refine W.run Dk 1 100 (by kernel_rfl) ?_
  refine W.call (AC.gs (m_laws_toNodeS_ok N a0 hx7) (by decide)) cok19 [] [(100, 100)] [100] (show LayOk _ [] from trivial) (by kernel_rfl) (by kernel_rfl) ?_
  refine W.lend (AC.gs (m_spec_PushNot_ok N r5 hx8) (by decide)) cok32 [(100, 101)] [101] (LayOk.cons (j := 100) (eSN true) (eSN false) r5 (by kernel_rfl) (sh_eSN _) (show LayOk _ [] from trivial)) (.own _) (.cons (DeepR.map (fun _ => (.cons (.c _) (.cons (.c _) (.cons (.c _) (.cons (.c _) (.cons (.sl _ _ (DeepR.map (fun _ => (.cons (.c _) .nil)) _)) .nil)))))) _) .nil) (by kernel_rfl) (by kernel_rfl) ?_
  refine W.run Dk 1 102 (by kernel_rfl) ?_
  exact W.fi (by kernel_rfl)
  ) ?_
 obtain ⟨r8, hx10, h⟩ := bind_some h
 refine CO.cutR (tl 69 [(0, .sl false false (a0.map (eSN false))), (4, .own 101), (5, .own 102)]) [(102, .vec false 53 5 (r8.map (eSN true))), (101, .vec false 53 5 (r6.map (eSN true)))] mix (by
  refine W.run Dk 1 102 (by kernel_rfl) ?_
  refine W.call (AC.gs (m_laws_toNodeS_ok N a0 hx10) (by decide)) cok19 [] [(100, 102)] [102] (show LayOk _ [] from trivial) (by kernel_rfl) (by kernel_rfl) ?_
  refine W.run Dk 1 103 (by kernel_rfl) ?_
  exact W.fi (by kernel_rfl)
  ) ?_
 obtain ⟨r10, hx12, h⟩ := bind_some h
 refine CO.cutR (tl 69 [(0, .sl false false (a0.map (eSN false))), (4, .own 101), (5, .own 102), (6, .own 103)]) [(103, .vec false 53 5 (r10.map (eSN true))), (102, .vec false 53 5 (r8.map (eSN true))), (101, .vec false 53 5 (r6.map (eSN true)))] mix (by
  refine W.run Dk 1 103 (by kernel_rfl) ?_
  refine W.lend (m_impl_PushNot_ok N r8 hx12) cok33 [(100, 103)] [103] (LayOk.cons (j := 102) (eSN true) (eSN false) r8 (by kernel_rfl) (sh_eSN _) (show LayOk _ [] from trivial)) (.own _) (.cons (DeepR.map (fun _ => (.cons (.c _) (.cons (.c _) (.cons (.c _) (.cons (.c _) (.cons (.sl _ _ (DeepR.map (fun _ => (.cons (.c _) .nil)) _)) .nil)))))) _) .nil) (by kernel_rfl) (by kernel_rfl) ?_
  refine W.run Dk 1 104 (by kernel_rfl) ?_
  exact W.fi (by kernel_rfl)
  ) ?_
 refine CO.seq' ?_
 obtain ⟨r14, hx17, h⟩ := bind_some h
 refine CO.cutR (tl 69 [(0, .sl false false (a0.map (eSN false))), (4, .own 101), (5, .own 102), (6, .own 103), (26, V.b (!r14))]) [(103, .vec false 53 5 (r10.map (eSN true))), (102, .vec false 53 5 (r8.map (eSN true))), (101, .vec false 53 5 (r6.map (eSN true)))] mix (by
  refine W.run Dk 2 104 (by kernel_rfl) ?_
  refine W.lend (AC.gs (m_laws_eqNodeS_ok N r10 r6 hx17) (by decide)) cok14 [] [] (LayOk.cons (j := 103) (eSN true) (eSN false) r10 (by kernel_rfl) (sh_eSN _) (LayOk.cons (j := 101) (eSN true) (eSN false) r6 (by kernel_rfl) (sh_eSN _) (show LayOk _ [] from trivial))) (.c _) .nil (by kernel_rfl) (by kernel_rfl) ?_
  refine W.run Dk 1 104 (by kernel_rfl) ?_
  exact W.fi (by kernel_rfl)
  ) ?_
 rcases cond_some h with ⟨hc18, h⟩ | ⟨hc18, h⟩
 ·refine CO.ifT hc18 (by kernel_rfl) ?_
  refine cu Dk mix 1 104 (tl 69 [(2, V.b false)]) [] (by kernel_rfl) ?_
  refine CO.ret ?_
  have h := Option.some.inj h
  subst h
  exact Ends.gen [] (.inr rfl) (RetV.one rfl (OneR.tmp (t := 2) (r := V.b false) (by kernel_rfl))) (by kernel_rfl) (by kernel_rfl) (by kernel_rfl)
 refine CO.ifF hc18 (by kernel_rfl) ?_
 refine CO.skip ?_
 refine CO.seq' ?_
 obtain ⟨r21, hx26, h⟩ := bind_some h
 obtain ⟨r22, hx27, h⟩ := bind_some h
 refine CO.cutR (tl 69 [(0, .sl false false (a0.map (eSN false))), (4, .own 101), (5, .own 102), (6, .own 103), (31, V.b (!r22))]) [(103, .vec false 53 5 (r10.map (eSN true))), (102, .vec false 53 5 (r8.map (eSN true))), (101, .vec false 53 5 (r6.map (eSN true)))] mix (by
  refine W.run Dk 2 104 (by kernel_rfl) ?_
  refine W.call (AC.gs (m_laws_toNodeS_ok N a0 hx26) (by decide)) cok19 [] [(100, 104)] [104] (show LayOk _ [] from trivial) (by kernel_rfl) (by kernel_rfl) ?_
  refine W.lend (AC.gs (m_laws_eqNodeS_ok N r8 r21 hx27) (by decide)) cok14 [] [] (LayOk.cons (j := 102) (eSN true) (eSN false) r8 (by kernel_rfl) (sh_eSN _) (LayOk.cons (j := 104) (eSN true) (eSN false) r21 (by kernel_rfl) (sh_eSN _) (show LayOk _ [] from trivial))) (.c _) .nil (by kernel_rfl) (by kernel_rfl) ?_
  refine W.run Dk 1 105 (by kernel_rfl) ?_
  exact W.fi (by kernel_rfl)
  ) ?_
 rcases cond_some h with ⟨hc28, h⟩ | ⟨hc28, h⟩
 ·refine CO.ifT hc28 (by kernel_rfl) ?_
  refine cu Dk mix 1 105 (tl 69 [(2, V.b false)]) [] (by kernel_rfl) ?_
  refine CO.ret ?_
  have h := Option.some.inj h
  subst h
  exact Ends.gen [] (.inr rfl) (RetV.one rfl (OneR.tmp (t := 2) (r := V.b false) (by kernel_rfl))) (by kernel_rfl) (by kernel_rfl) (by kernel_rfl)
 refine CO.ifF hc28 (by kernel_rfl) ?_
 refine CO.skip ?_
 refine cu Dk mix 1 105 (tl 69 [(0, .sl false false (a0.map (eSN false))), (4, .own 101), (5, .own 102), (6, .own 103), (7, V.i 1)]) [(103, .vec false 53 5 (r10.map (eSN true))), (102, .vec false 53 5 (r8.map (eSN true))), (101, .vec false 53 5 (r6.map (eSN true)))] (by kernel_rfl) ?_
 obtain ⟨r24, hx30, h⟩ := bind_some h
 refine CO.cutR (tl 69 [(0, .sl false false (a0.map (eSN false))), (4, .own 101), (6, .own 103), (7, V.i r24.1)]) [(103, .vec false 53 5 (r10.map (eSN true))), (101, .vec false 53 5 (r6.map (eSN true)))] mix (by
  refine W.run Dk 2 105 (by kernel_rfl) ?_
  refine W.call (AC.gs (m_laws_markNodeS_ok 53 N 1 r8 hx30) (by decide)) cok15 [(102, 0)] [(0, 102)] [] (show LayOk _ [] from trivial) (by kernel_rfl) (by kernel_rfl) ?_
  refine W.run Dk 1 105 (by kernel_rfl) ?_
  exact W.fi (by kernel_rfl)
  ) ?_
 refine CO.seq' ?_
 obtain ⟨y29, hv39, h⟩ := bind_some h
 refine CO.cutR (tl 69 [(0, .sl false false (a0.map (eSN false))), (4, .own 100), (6, .own 101), (42, V.b y29)]) [(100, .vec false 53 5 (r6.map (eSN true))), (101, .vec false 53 5 (r10.map (eSN true)))] mix (by
  refine W.run Dk 3 105 (by kernel_rfl) ?_
  rcases cond_some hv39 with ⟨hc40, hv39⟩ | ⟨hc40, hv39⟩
  ·refine W.is 37 hc40 (by kernel_rfl) ?_
   refine W.run Dk 5 105 (by kernel_rfl) ?_
   have hv39 := Option.some.inj hv39
   subst hv39
   exact W.fs [(101, 100), (103, 101)] [0, 4, 6, 42] (by kernel_rfl)
  refine W.is 37 hc40 (by kernel_rfl) ?_
  refine W.run Dk 2 105 (by kernel_rfl) ?_
  obtain ⟨r30, hx41, hv39⟩ := bind_some hv39
  refine W.lend (AC.gs (m_laws_eqNodeS_ok N r10 r6 hx41) (by decide)) cok14 [] [] (LayOk.cons (j := 103) (eSN true) (eSN false) r10 (by kernel_rfl) (sh_eSN _) (LayOk.cons (j := 101) (eSN true) (eSN false) r6 (by kernel_rfl) (sh_eSN _) (show LayOk _ [] from trivial))) (.c _) .nil (by kernel_rfl) (by kernel_rfl) ?_
  refine W.run Dk 2 105 (by kernel_rfl) ?_
  have hv39 := Option.some.inj hv39
  subst hv39
  exact W.fs [(101, 100), (103, 101)] [0, 4, 6, 42] (by kernel_rfl)
  ) ?_
 rcases cond_some h with ⟨hc42, h⟩ | ⟨hc42, h⟩
 ·refine CO.ifT hc42 (by kernel_rfl) ?_
  refine cu Dk mix 1 105 (tl 69 [(2, V.b false)]) [] (by kernel_rfl) ?_
  refine CO.ret ?_
  have h := Option.some.inj h
  subst h
  exact Ends.gen [] (.inr rfl) (RetV.one rfl (OneR.tmp (t := 2) (r := V.b false) (by kernel_rfl))) (by kernel_rfl) (by kernel_rfl) (by kernel_rfl)
 refine CO.ifF hc42 (by kernel_rfl) ?_
 refine CO.skip ?_
 refine cu Dk mix 1 105 (tl 69 [(0, .sl false false (a0.map (eSN false))), (4, .own 100), (6, .own 101), (8, V.i 1)]) [(100, .vec false 53 5 (r6.map (eSN true))), (101, .vec false 53 5 (r10.map (eSN true)))] (by kernel_rfl) ?_
 obtain ⟨r32, hx44, h⟩ := bind_some h
 refine CO.cutR (tl 69 [(0, .sl false false (a0.map (eSN false))), (4, .own 100), (6, .own 101), (8, V.i r32.1)]) [(100, .vec false 53 5 (r6.map (eSN true))), (101, .vec false 53 5 (r32.2.map (eSN true)))] mix (by
  refine W.run Dk 2 105 (by kernel_rfl) ?_
  refine W.call (AC.gs (m_laws_markNodeS_ok 53 N 1 r10 hx44) (by decide)) cok15 [(101, 0)] [(0, 101)] [] (show LayOk _ [] from trivial) (by kernel_rfl) (by kernel_rfl) ?_
  refine W.run Dk 1 105 (by kernel_rfl) ?_
  exact W.fi (by kernel_rfl)
  ) ?_
 refine cu Dk mix 1 105 (tl 69 [(0, .sl false false (a0.map (eSN false))), (4, .own 100), (6, .own 101), (8, V.i r32.1), (9, V.i 1)]) [(100, .vec false 53 5 (r6.map (eSN true))), (101, .vec false 53 5 (r32.2.map (eSN true)))] (by kernel_rfl) ?_
 obtain ⟨r34, hx46, h⟩ := bind_some h
 refine CO.cutR (tl 69 [(0, .sl false false (a0.map (eSN false))), (4, .own 100), (6, .own 101), (8, V.i r32.1), (9, V.i r34)]) [(100, .vec false 53 5 (r6.map (eSN true))), (101, .vec false 53 5 (r32.2.map (eSN true)))] mix (by
  refine W.run Dk 2 105 (by kernel_rfl) ?_
  refine W.lend (AC.gs (m_laws_heldNodeS_ok N r32.2 1 hx46) (by decide)) cok16 [] [] (LayOk.cons (j := 101) (eSN true) (eSN false) r32.2 (by kernel_rfl) (sh_eSN _) (show LayOk _ [] from trivial)) (.c _) .nil (by kernel_rfl) (by kernel_rfl) ?_
  refine W.run Dk 1 105 (by kernel_rfl) ?_
  exact W.fi (by kernel_rfl)
  ) ?_
 refine CO.seq' ?_
 refine cu Dk mix 2 105 (tl 69 [(0, .sl false false (a0.map (eSN false))), (4, .own 100), (6, .own 101), (8, V.i r32.1), (9, V.i r34), (50, V.b (decide (r34 < 0)))]) [(100, .vec false 53 5 (r6.map (eSN true))), (101, .vec false 53 5 (r32.2.map (eSN true)))] (by kernel_rfl) ?_
 rcases cond_some h with ⟨hc48, h⟩ | ⟨hc48, h⟩
 ·refine CO.ifT hc48 (by kernel_rfl) ?_
  refine cu Dk mix 1 105 (tl 69 [(2, V.b false)]) [] (by kernel_rfl) ?_
  refine CO.ret ?_
  have h := Option.some.inj h
  subst h
  exact Ends.gen [] (.inr rfl) (RetV.one rfl (OneR.tmp (t := 2) (r := V.b false) (by kernel_rfl))) (by kernel_rfl) (by kernel_rfl) (by kernel_rfl)
 refine CO.ifF hc48 (by kernel_rfl) ?_
 refine CO.skip ?_
 refine CO.seq' ?_
 refine cu Dk mix 3 105 (tl 69 [(0, .sl false false (a0.map (eSN false))), (4, .own 100), (6, .own 101), (8, V.i r32.1), (53, V.b (r34 != r32.1))]) [(100, .vec false 53 5 (r6.map (eSN true))), (101, .vec false 53 5 (r32.2.map (eSN true)))] (by kernel_rfl) ?_
 rcases cond_some h with ⟨hc50, h⟩ | ⟨hc50, h⟩
 ·refine CO.ifT hc50 (by kernel_rfl) ?_
  refine cu Dk mix 1 105 (tl 69 [(2, V.b false)]) [] (by kernel_rfl) ?_
  refine CO.ret ?_
  have h := Option.some.inj h
  subst h
  exact Ends.gen [] (.inr rfl) (RetV.one rfl (OneR.tmp (t := 2) (r := V.b false) (by kernel_rfl))) (by kernel_rfl) (by kernel_rfl) (by kernel_rfl)
 refine CO.ifF hc50 (by kernel_rfl) ?_
 refine CO.skip ?_
 obtain ⟨r37, hx53, h⟩ := bind_some h
 obtain ⟨r38, hx54, h⟩ := bind_some h
 refine CO.cutR (tl 69 [(4, .own 100), (6, .own 101), (8, V.i r32.1), (10, .own 106)]) [(106, .vec false 53 5 (r38.map (eSN true))), (100, .vec false 53 5 (r6.map (eSN true))), (101, .vec false 53 5 (r32.2.map (eSN true)))] mix (by
  refine W.run Dk 1 105 (by kernel_rfl) ?_
  refine W.call (AC.gs (m_laws_toNodeS_ok N a0 hx53) (by decide)) cok19 [] [(100, 105)] [105] (show LayOk _ [] from trivial) (by kernel_rfl) (by kernel_rfl) ?_
  refine W.lend (m_impl_PushNot_ok N r37 hx54) cok33 [(100, 106)] [106] (LayOk.cons (j := 105) (eSN true) (eSN false) r37 (by kernel_rfl) (sh_eSN _) (show LayOk _ [] from trivial)) (.own _) (.cons (DeepR.map (fun _ => (.cons (.c _) (.cons (.c _) (.cons (.c _) (.cons (.c _) (.cons (.sl _ _ (DeepR.map (fun _ => (.cons (.c _) .nil)) _)) .nil)))))) _) .nil) (by kernel_rfl) (by kernel_rfl) ?_
  refine W.run Dk 1 107 (by kernel_rfl) ?_
  exact W.fi (by kernel_rfl)
  ) ?_
 refine CO.seq' ?_
 obtain ⟨r42, hx59, h⟩ := bind_some h
 refine CO.cutR (tl 69 [(6, .own 101), (8, V.i r32.1), (60, V.b (!r42))]) [(101, .vec false 53 5 (r32.2.map (eSN true)))] mix (by
  refine W.run Dk 2 107 (by kernel_rfl) ?_
  refine W.lend (AC.gs (m_laws_eqNodeS_ok N r38 r6 hx59) (by decide)) cok14 [] [] (LayOk.cons (j := 106) (eSN true) (eSN false) r38 (by kernel_rfl) (sh_eSN _) (LayOk.cons (j := 100) (eSN true) (eSN false) r6 (by kernel_rfl) (sh_eSN _) (show LayOk _ [] from trivial))) (.c _) .nil (by kernel_rfl) (by kernel_rfl) ?_
  refine W.run Dk 1 107 (by kernel_rfl) ?_
  exact W.fi (by kernel_rfl)
  ) ?_
 rcases cond_some h with ⟨hc60, h⟩ | ⟨hc60, h⟩
 ·refine CO.ifT hc60 (by kernel_rfl) ?_
  refine cu Dk mix 1 107 (tl 69 [(2, V.b false)]) [] (by kernel_rfl) ?_
  refine CO.ret ?_
  have h := Option.some.inj h
  subst h
  exact Ends.gen [] (.inr rfl) (RetV.one rfl (OneR.tmp (t := 2) (r := V.b false) (by kernel_rfl))) (by kernel_rfl) (by kernel_rfl) (by kernel_rfl)
 refine CO.ifF hc60 (by kernel_rfl) ?_
 refine CO.skip ?_
 refine cu Dk mix 1 107 (tl 69 [(6, .own 101), (8, V.i r32.1), (9, V.i 1)]) [(101, .vec false 53 5 (r32.2.map (eSN true)))] (by kernel_rfl) ?_
 obtain ⟨r44, hx62, h⟩ := bind_some h
 refine CO.cutR (tl 69 [(8, V.i r32.1), (9, V.i r44)]) [] mix (by
  refine W.run Dk 2 107 (by kernel_rfl) ?_
  refine W.lend (AC.gs (m_laws_heldNodeS_ok N r32.2 1 hx62) (by decide)) cok16 [] [] (LayOk.cons (j := 101) (eSN true) (eSN false) r32.2 (by kernel_rfl) (sh_eSN _) (show LayOk _ [] from trivial)) (.c _) .nil (by kernel_rfl) (by kernel_rfl) ?_
  refine W.run Dk 1 107 (by kernel_rfl) ?_
  exact W.fi (by kernel_rfl)
  ) ?_
 refine CO.seq' ?_
 refine cu Dk mix 2 107 (tl 69 [(8, V.i r32.1), (9, V.i r44), (65, V.b (decide (r44 < 0)))]) [] (by kernel_rfl) ?_
 rcases cond_some h with ⟨hc64, h⟩ | ⟨hc64, h⟩
 ·refine CO.ifT hc64 (by kernel_rfl) ?_
  refine cu Dk mix 1 107 (tl 69 [(2, V.b false)]) [] (by kernel_rfl) ?_
  refine CO.ret ?_
  have h := Option.some.inj h
  subst h
  exact Ends.gen [] (.inr rfl) (RetV.one rfl (OneR.tmp (t := 2) (r := V.b false) (by kernel_rfl))) (by kernel_rfl) (by kernel_rfl) (by kernel_rfl)
 refine CO.ifF hc64 (by kernel_rfl) ?_
 refine CO.skip ?_
 refine CO.seq' ?_
 refine cu Dk mix 3 107 (tl 69 [(68, V.b (r44 != r32.1))]) [] (by kernel_rfl) ?_
 rcases cond_some h with ⟨hc66, h⟩ | ⟨hc66, h⟩
 ·refine CO.ifT hc66 (by kernel_rfl) ?_
  refine cu Dk mix 1 107 (tl 69 [(2, V.b false)]) [] (by kernel_rfl) ?_
  refine CO.ret ?_
  have h := Option.some.inj h
  subst h
  exact Ends.gen [] (.inr rfl) (RetV.one rfl (OneR.tmp (t := 2) (r := V.b false) (by kernel_rfl))) (by kernel_rfl) (by kernel_rfl) (by kernel_rfl)
 refine CO.ifF hc66 (by kernel_rfl) ?_
 refine CO.skip ?_
 refine cu Dk mix 1 107 (tl 69 [(2, V.b true)]) [] (by kernel_rfl) ?_
 refine CO.ret ?_
 have h := Option.some.inj h
 subst h
 exact Ends.gen [] (.inr rfl) (RetV.one rfl (OneR.tmp (t := 2) (r := V.b true) (by kernel_rfl))) (by kernel_rfl) (by kernel_rfl) (by kernel_rfl)

end Go.Proofs.Tryz
