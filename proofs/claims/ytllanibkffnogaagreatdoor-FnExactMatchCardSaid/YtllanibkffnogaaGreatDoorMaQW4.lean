/-
  The walks that show that the code computes the models, part 4.
-/
import Derived.Test.YtllanibkffnogaaGreatDoorMaQW3
namespace Go.Proofs.Tryz
open Go.Av
set_option maxRecDepth 100000
set_option maxHeartbeats 8000000
set_option linter.unusedSimpArgs false
set_option linter.unusedVariables false

theorem ml_markIntS_v2_ok (N : Nat) (a1 : Int) {r : Int} (h : ml_markIntS_v2 N a1 = some r) :
    AC Tryz.prog (GS []) 18 [.sl false false ([].map encI), V.i a1] [] (V.i r) [] := by
 rw [ml_markIntS_v2] at h
 refine AC.enter Tryz.func18 rfl ?_
 refine cu Dk mix 1 100 (tl 19 [(0, .sl false false ([].map encI)), (1, V.i a1)]) [] (by kernel_rfl) ?_
 refine CO.seq' ?_
 refine cu Dk mix 1 100 (tl 19 [(0, .sl false false ([].map encI)), (1, V.i a1), (5, V.i 0)]) [] (by kernel_rfl) ?_
 refine CO.block' ?_
 refine CO.loopJ (fun (a1 : Int) => ⟨tl 19 [(0, .sl false false ([].map encI)), (1, V.i a1), (5, V.i 0)], []⟩) (fun n i => ml_markIntS_v2_l1 N n i = some r) (n0 := N) (i0 := a1) (Weak.sel [] [0, 1, 5] (by kernel_rfl) (by kernel_rfl) (by kernel_rfl)) h (fun i h => by simp [ml_markIntS_v2_l1] at h) ?_
 rintro n1 a1 h3 ih4
 rw [ml_markIntS_v2_l1] at h3
 refine CO.seq' ?_
 refine CO.cutR (tl 19 [(0, .sl false false ([].map encI)), (1, V.i a1), (5, V.i 0), (9, V.b false)]) [] mix (by
  refine W.run Dk 2 120 (by kernel_rfl) ?_
  refine W.len Dk encI [] [] (by kernel_rfl) (by kernel_rfl) ?_
  refine W.run Dk 1 120 (by kernel_rfl) ?_
  exact W.fi (by kernel_rfl)
  ) ?_
 refine CO.ifF (c := false) rfl (by kernel_rfl) ?_
 refine CO.exit ?_
 refine cu Dk mix 2 120 (tl 19 [(4, V.i a1)]) [] (by kernel_rfl) ?_
 refine CO.ret ?_
 have h3 := Option.some.inj h3
 subst h3
 exact Ends.gen [] (.inr rfl) (RetV.one rfl (OneR.t (t := 4) (r := V.i a1) (by kernel_rfl))) (by kernel_rfl) (by kernel_rfl) (by kernel_rfl)

theorem ml_markIntS_nil (N : Nat) (k : Int) (l : List Int) {r : (Int × (List Int))} (h : ml_markIntS N k l = some r) (hl : l = []) :
    r.2.map encI = [] ∧ AC Tryz.prog (GS []) 18 [.sl false false [], V.i k] [] (V.i r.1) [] := by
  subst hl
  have h2 : r.2 = [] ∧ ml_markIntS_v2 N k = some r.1 := by
    cases N with
    | zero => simp [ml_markIntS_l1, ml_markIntS] at h
    | succ N =>
      simp [ml_markIntS_l1, ml_markIntS] at h
      subst h
      simp [ml_markIntS_v2_l1, ml_markIntS_v2]
  exact ⟨by rw [h2.1]; rfl, ml_markIntS_v2_ok N k h2.2⟩

theorem ml_markNodeS_ok (e0 : TypeId) (N : Nat) (a1 : Int) (p0 : List SNode) {r : (Int × (List SNode))} (h : ml_markNodeS N a1 p0 = some r) :
    AC Tryz.prog (GS []) 11 [.own 0, V.i a1] [(0, .vec false e0 5 (p0.map (eSN true)))] (V.i r.1) [(0, .vec false e0 5 (r.2.map (eSN true)))] := by
 rw [ml_markNodeS] at h
 refine AC.enter Tryz.func11 rfl ?_
 refine cu Dk mix 1 100 (tl 50 [(0, .own 0), (1, V.i a1)]) [(0, .vec false e0 5 (p0.map (eSN true)))] (by kernel_rfl) ?_
 refine CO.seq' ?_
 refine cu Dk mix 1 100 (tl 50 [(0, .own 0), (1, V.i a1), (5, V.i 0)]) [(0, .vec false e0 5 (p0.map (eSN true)))] (by kernel_rfl) ?_
 refine CO.block' ?_
 refine CO.loopJ (fun (⟨y191, y192, y193⟩ : (Int × Int × (List SNode))) => ⟨tl 50 [(0, .own 0), (1, V.i y191), (5, V.i y192)], [(0, .vec false e0 5 (y193.map (eSN true)))]⟩) (fun n i => ml_markNodeS_l1 N n i = some r) (n0 := N) (i0 := (a1, 0, p0)) (Weak.sel [(0, 0)] [0, 1, 5] (by kernel_rfl) (by kernel_rfl) (by kernel_rfl)) h (fun i h => by simp [ml_markNodeS_l1] at h) ?_
 rintro n1 ⟨y191, y192, y193⟩ h243 ih244
 rw [ml_markNodeS_l1] at h243
 refine CO.seq' ?_
 refine CO.cutR (tl 50 [(0, .own 0), (1, V.i y191), (5, V.i y192), (9, V.b (decide (y192 < (y193.length : Int))))]) [(0, .vec false e0 5 (y193.map (eSN true)))] mix (by
  refine W.run Dk 2 160 (by kernel_rfl) ?_
  refine W.len Dk (eSN true) y193 [0] (by kernel_rfl) (by kernel_rfl) ?_
  refine W.run Dk 1 160 (by kernel_rfl) ?_
  exact W.fi (by kernel_rfl)
  ) ?_
 (revert h243; refine cR (fun hc246 h243 => ?_) (fun hc246 h243 => ?_))
 ·refine CO.ifT hc246 (by kernel_rfl) ?_
  refine CO.skip ?_
  refine CO.seq' ?_
  refine CO.block' ?_
  (revert h243; refine bR fun e268 hx272 h243 => ?_)
  (revert h243; refine bR fun x269 hu273 h243 => ?_)
  refine CO.cutR (tl 50 [(0, .own 0), (1, V.i y191), (5, V.i y192)]) [(0, .vec false e0 5 (x269.map (eSN true)))] mix (by
   refine W.run Dk 3 160 (by kernel_rfl) ?_
   refine W.ixO Dk (eSN true) hx272 0 5 (by kernel_rfl) ?_
   refine W.run Dk 1 160 (by kernel_rfl) ?_
   refine W.stO Dk (eSN true) (x' := (⟨y191, e268.Op, e268.Text, e268.Other, e268.Kids⟩ : SNode)) hx272 hu273 (j := 0) (nn := false) (ety := e0) (sz := 5) (b := 0) (ys := [V.i y191]) (C := []) (R := []) (by kernel_rfl) (by kernel_rfl) ?_
   exact W.fi (by kernel_rfl)
   ) ?_
  refine cu Dk mix 3 160 (tl 50 [(0, .own 0), (1, V.i (IntKind.wrap .i64 (y191 + 1))), (5, V.i y192)]) [(0, .vec false e0 5 (x269.map (eSN true)))] (by kernel_rfl) ?_
  (revert h243; refine bR fun e272 hx276 h243 => ?_)
  (revert h243; refine bR fun x273 hu277 h243 => ?_)
  refine CO.cutR (tl 50 [(0, .own 0), (1, V.i (IntKind.wrap .i64 (y191 + 1))), (5, V.i y192)]) [(0, .vec false e0 5 (x273.map (eSN true)))] mix (by
   refine W.run Dk 3 160 (by kernel_rfl) ?_
   refine W.ixO Dk (eSN true) hx276 0 5 (by kernel_rfl) ?_
   refine W.run Dk 1 160 (by kernel_rfl) ?_
   refine W.stO Dk (eSN true) (x' := (⟨e272.Kind, (IntKind.wrap .i64 (y191 + 1)), e272.Text, e272.Other, e272.Kids⟩ : SNode)) hx276 hu277 (j := 0) (nn := false) (ety := e0) (sz := 5) (b := 1) (ys := [V.i (IntKind.wrap .i64 (y191 + 1))]) (C := []) (R := []) (by kernel_rfl) (by kernel_rfl) ?_
   exact W.fi (by kernel_rfl)
   ) ?_
  refine cu Dk mix 3 160 (tl 50 [(0, .own 0), (1, V.i (IntKind.wrap .i64 ((IntKind.wrap .i64 (y191 + 1)) + 1))), (5, V.i y192)]) [(0, .vec false e0 5 (x273.map (eSN true)))] (by kernel_rfl) ?_
  (revert h243; refine bR fun r277 hx281 h243 => ?_)
  (revert h243; refine bR fun e278 hx282 h243 => ?_)
  (revert h243; refine bR fun x279 hu283 h243 => ?_)
  refine CO.cutR (tl 50 [(0, .own 0), (1, V.i (IntKind.wrap .i64 ((IntKind.wrap .i64 (y191 + 1)) + 1))), (5, V.i y192)]) [(0, .vec false e0 5 (x279.map (eSN true)))] mix (by
   refine W.run Dk 3 160 (by kernel_rfl) ?_
   refine W.call0 (ml_markText_ok N (IntKind.wrap .i64 ((IntKind.wrap .i64 (y191 + 1)) + 1)) hx281) cok39 rfl (by kernel_rfl) ?_
   refine W.ixO Dk (eSN true) hx282 0 5 (by kernel_rfl) ?_
   refine W.run Dk 1 160 (by kernel_rfl) ?_
   refine W.stO Dk (eSN true) (x' := (⟨e278.Kind, e278.Op, r277, e278.Other, e278.Kids⟩ : SNode)) hx282 hu283 (j := 0) (nn := false) (ety := e0) (sz := 5) (b := 2) (ys := [V.s r277]) (C := []) (R := []) (by kernel_rfl) (by kernel_rfl) ?_
   exact W.fi (by kernel_rfl)
   ) ?_
  refine cu Dk mix 3 160 (tl 50 [(0, .own 0), (1, V.i (IntKind.wrap .i64 ((IntKind.wrap .i64 ((IntKind.wrap .i64 (y191 + 1)) + 1)) + 1))), (5, V.i y192)]) [(0, .vec false e0 5 (x279.map (eSN true)))] (by kernel_rfl) ?_
  (revert h243; refine bR fun r283 hx287 h243 => ?_)
  (revert h243; refine bR fun e284 hx288 h243 => ?_)
  (revert h243; refine bR fun x285 hu289 h243 => ?_)
  refine CO.cutR (tl 50 [(0, .own 0), (1, V.i (IntKind.wrap .i64 ((IntKind.wrap .i64 ((IntKind.wrap .i64 (y191 + 1)) + 1)) + 1))), (5, V.i y192)]) [(0, .vec false e0 5 (x285.map (eSN true)))] mix (by
   refine W.run Dk 3 160 (by kernel_rfl) ?_
   refine W.call0 (ml_markText_ok N (IntKind.wrap .i64 ((IntKind.wrap .i64 ((IntKind.wrap .i64 (y191 + 1)) + 1)) + 1)) hx287) cok39 rfl (by kernel_rfl) ?_
   refine W.ixO Dk (eSN true) hx288 0 5 (by kernel_rfl) ?_
   refine W.run Dk 1 160 (by kernel_rfl) ?_
   refine W.stO Dk (eSN true) (x' := (⟨e284.Kind, e284.Op, e284.Text, r283, e284.Kids⟩ : SNode)) hx288 hu289 (j := 0) (nn := false) (ety := e0) (sz := 5) (b := 3) (ys := [V.s r283]) (C := []) (R := []) (by kernel_rfl) (by kernel_rfl) ?_
   exact W.fi (by kernel_rfl)
   ) ?_
  refine cu Dk mix 3 160 (tl 50 [(0, .own 0), (1, V.i (IntKind.wrap .i64 ((IntKind.wrap .i64 ((IntKind.wrap .i64 ((IntKind.wrap .i64 (y191 + 1)) + 1)) + 1)) + 1))), (5, V.i y192)]) [(0, .vec false e0 5 (x285.map (eSN true)))] (by kernel_rfl) ?_
  (revert h243; refine bR fun e286 hx290 h243 => ?_)
  (revert h243; refine bR fun r287 hx291 h243 => ?_)
  (revert h243; refine bR fun x288 hu292 h243 => ?_)
  refine CO.nestEnd Dk 4 (tl 50 [(0, .own 0), (1, V.i (IntKind.wrap .i64 ((IntKind.wrap .i64 ((IntKind.wrap .i64 ((IntKind.wrap .i64 (y191 + 1)) + 1)) + 1)) + 1))), (5, V.i y192), (45, .vp 0 5 y192.toNat 4)]) [(0, .vec false e0 5 (x285.map (eSN true)))] (tl 50 [(0, .own 0), (1, V.i r287.1), (5, V.i y192)]) [(0, .vec false e0 5 (x288.map (eSN true)))] (by kernel_rfl) (by
      refine W.run Dk 2 160 (by kernel_rfl) ?_
      refine W.ixO Dk (eSN true) hx290 0 5 (by kernel_rfl) ?_
      refine W.run Dk 1 160 (by kernel_rfl) ?_
      exact W.fin (by decide) (by kernel_rfl) (Weak.sel [(0, 0)] [0, 1, 5, 45] (by kernel_rfl) (by kernel_rfl) (by kernel_rfl))
      ) ⟨_, rfl, rfl, rfl⟩ ⟨_, rfl, rfl, rfl⟩ ⟨_, rfl, rfl, rfl⟩ cok18 (by kernel_rfl) (by kernel_rfl) (i := 0) (k := 5) (m := y192.toNat) (b := 4) (u := .int .i64 (IntKind.wrap .i64 ((IntKind.wrap .i64 ((IntKind.wrap .i64 ((IntKind.wrap .i64 (y191 + 1)) + 1)) + 1)) + 1))) (by kernel_rfl) (by kernel_rfl) (nn := false) (nn2 := false) (ety := e0) (eSN true) (x' := (⟨e286.Kind, e286.Op, e286.Text, e286.Other, r287.2⟩ : SNode)) hx290 hu292 rfl (by kernel_rfl) (srows := e286.Kids.map encI) (srows' := r287.2.map encI) (by kernel_rfl) (by kernel_rfl) (u' := .int .i64 r287.1) (k2 := 1) (fun _ e => ml_markIntS_ok e N (IntKind.wrap .i64 ((IntKind.wrap .i64 ((IntKind.wrap .i64 ((IntKind.wrap .i64 (y191 + 1)) + 1)) + 1)) + 1)) e286.Kids hx291) (fun h0 => ml_markIntS_nil N (IntKind.wrap .i64 ((IntKind.wrap .i64 ((IntKind.wrap .i64 ((IntKind.wrap .i64 (y191 + 1)) + 1)) + 1)) + 1)) e286.Kids hx291 (List.map_eq_nil_iff.1 h0)) (fun r hr => by obtain ⟨a, _, rfl⟩ := List.mem_map.1 hr; rfl) (by
      refine W.run Dk 1 160 (by kernel_rfl) ?_
      exact W.fin (by decide) (by kernel_rfl) (Weak.sel [(0, 0)] [0, 1, 5] (by kernel_rfl) (by kernel_rfl) (by kernel_rfl))
   ) (fun st hw => ?_)
  refine CO.weak hw ?_
  refine ce Dk mix 3 160 (tl 50 [(0, .own 0), (1, V.i r287.1), (5, V.i (IntKind.wrap .i64 (y192 + 1)))]) [(0, .vec false e0 5 (x288.map (eSN true)))] (by kernel_rfl) (fun st hw => ?_)
  exact ih244 (r287.1, (IntKind.wrap .i64 (y192 + 1)), x288) h243 _ (hw.trans (Weak.sel [(0, 0)] [0, 1, 5] (by kernel_rfl) (by kernel_rfl) (by kernel_rfl)))
 refine CO.ifF hc246 (by kernel_rfl) ?_
 refine CO.exit ?_
 refine cu Dk mix 2 160 (tl 50 [(4, V.i y191)]) [(0, .vec false e0 5 (y193.map (eSN true)))] (by kernel_rfl) ?_
 refine CO.ret ?_
 have h243 := Option.some.inj h243
 subst h243
 exact Ends.gen [(0, 0)] (.inr rfl) (RetV.one rfl (OneR.t (t := 4) (r := V.i y191) (by kernel_rfl))) (by kernel_rfl) (by kernel_rfl) (by kernel_rfl)

theorem ml_markNodeS_v2_ok (N : Nat) (a1 : Int) {r : Int} (h : ml_markNodeS_v2 N a1 = some r) :
    AC Tryz.prog (GS []) 11 [.sl false false ([].map (eSN false)), V.i a1] [] (V.i r) [] := by
 rw [ml_markNodeS_v2] at h
 refine AC.enter Tryz.func11 rfl ?_
 refine cu Dk mix 1 100 (tl 50 [(0, .sl false false ([].map (eSN false))), (1, V.i a1)]) [] (by kernel_rfl) ?_
 refine CO.seq' ?_
 refine cu Dk mix 1 100 (tl 50 [(0, .sl false false ([].map (eSN false))), (1, V.i a1), (5, V.i 0)]) [] (by kernel_rfl) ?_
 refine CO.block' ?_
 refine CO.loopJ (fun (a1 : Int) => ⟨tl 50 [(0, .sl false false ([].map (eSN false))), (1, V.i a1), (5, V.i 0)], []⟩) (fun n i => ml_markNodeS_v2_l1 N n i = some r) (n0 := N) (i0 := a1) (Weak.sel [] [0, 1, 5] (by kernel_rfl) (by kernel_rfl) (by kernel_rfl)) h (fun i h => by simp [ml_markNodeS_v2_l1] at h) ?_
 rintro n1 a1 h3 ih4
 rw [ml_markNodeS_v2_l1] at h3
 refine CO.seq' ?_
 refine CO.cutR (tl 50 [(0, .sl false false ([].map (eSN false))), (1, V.i a1), (5, V.i 0), (9, V.b false)]) [] mix (by
  refine W.run Dk 2 120 (by kernel_rfl) ?_
  refine W.len Dk (eSN false) [] [] (by kernel_rfl) (by kernel_rfl) ?_
  refine W.run Dk 1 120 (by kernel_rfl) ?_
  exact W.fi (by kernel_rfl)
  ) ?_
 refine CO.ifF (c := false) rfl (by kernel_rfl) ?_
 refine CO.exit ?_
 refine cu Dk mix 2 120 (tl 50 [(4, V.i a1)]) [] (by kernel_rfl) ?_
 refine CO.ret ?_
 have h3 := Option.some.inj h3
 subst h3
 exact Ends.gen [] (.inr rfl) (RetV.one rfl (OneR.t (t := 4) (r := V.i a1) (by kernel_rfl))) (by kernel_rfl) (by kernel_rfl) (by kernel_rfl)

theorem ml_markNodeS_nil (N : Nat) (k : Int) (l : List SNode) {r : (Int × (List SNode))} (h : ml_markNodeS N k l = some r) (hl : l = []) :
    r.2.map (eSN true) = [] ∧ AC Tryz.prog (GS []) 11 [.sl false false [], V.i k] [] (V.i r.1) [] := by
  subst hl
  have h2 : r.2 = [] ∧ ml_markNodeS_v2 N k = some r.1 := by
    cases N with
    | zero => simp [ml_markNodeS_l1, ml_markNodeS] at h
    | succ N =>
      simp [ml_markNodeS_l1, ml_markNodeS] at h
      subst h
      simp [ml_markNodeS_v2_l1, ml_markNodeS_v2]
  exact ⟨by rw [h2.1]; rfl, ml_markNodeS_v2_ok N k h2.2⟩

theorem ml_markHoleS_ok (e0 : TypeId) (N : Nat) (a1 : Int) (p0 : List SHole) {r : (Int × (List SHole))} (h : ml_markHoleS N a1 p0 = some r) :
    AC Tryz.prog (GS []) 23 [.own 0, V.i a1] [(0, .vec false e0 2 (p0.map (encSHole true)))] (V.i r.1) [(0, .vec false e0 2 (r.2.map (encSHole true)))] := by
 rw [ml_markHoleS] at h
 refine AC.enter Tryz.func23 rfl ?_
 refine cu Dk mix 1 100 (tl 28 [(0, .own 0), (1, V.i a1)]) [(0, .vec false e0 2 (p0.map (encSHole true)))] (by kernel_rfl) ?_
 refine CO.seq' ?_
 refine cu Dk mix 1 100 (tl 28 [(0, .own 0), (1, V.i a1), (5, V.i 0)]) [(0, .vec false e0 2 (p0.map (encSHole true)))] (by kernel_rfl) ?_
 refine CO.block' ?_
 refine CO.loopJ (fun (⟨y79, y80, y81⟩ : (Int × Int × (List SHole))) => ⟨tl 28 [(0, .own 0), (1, V.i y79), (5, V.i y80)], [(0, .vec false e0 2 (y81.map (encSHole true)))]⟩) (fun n i => ml_markHoleS_l1 N n i = some r) (n0 := N) (i0 := (a1, 0, p0)) (Weak.sel [(0, 0)] [0, 1, 5] (by kernel_rfl) (by kernel_rfl) (by kernel_rfl)) h (fun i h => by simp [ml_markHoleS_l1] at h) ?_
 rintro n1 ⟨y79, y80, y81⟩ h103 ih104
 rw [ml_markHoleS_l1] at h103
 refine CO.seq' ?_
 refine CO.cutR (tl 28 [(0, .own 0), (1, V.i y79), (5, V.i y80), (9, V.b (decide (y80 < (y81.length : Int))))]) [(0, .vec false e0 2 (y81.map (encSHole true)))] mix (by
  refine W.run Dk 2 160 (by kernel_rfl) ?_
  refine W.len Dk (encSHole true) y81 [0] (by kernel_rfl) (by kernel_rfl) ?_
  refine W.run Dk 1 160 (by kernel_rfl) ?_
  exact W.fi (by kernel_rfl)
  ) ?_
 (revert h103; refine cR (fun hc106 h103 => ?_) (fun hc106 h103 => ?_))
 ·refine CO.ifT hc106 (by kernel_rfl) ?_
  refine CO.skip ?_
  refine CO.seq' ?_
  refine CO.block' ?_
  (revert h103; refine bR fun r115 hx119 h103 => ?_)
  (revert h103; refine bR fun e116 hx120 h103 => ?_)
  (revert h103; refine bR fun x117 hu121 h103 => ?_)
  refine CO.cutR (tl 28 [(0, .own 0), (1, V.i y79), (5, V.i y80)]) [(0, .vec false e0 2 (x117.map (encSHole true)))] mix (by
   refine W.run Dk 3 160 (by kernel_rfl) ?_
   refine W.call0 (ml_markText_ok N y79 hx119) cok39 rfl (by kernel_rfl) ?_
   refine W.ixO Dk (encSHole true) hx120 0 2 (by kernel_rfl) ?_
   refine W.run Dk 1 160 (by kernel_rfl) ?_
   refine W.stO Dk (encSHole true) (x' := (⟨r115, e116.Part⟩ : SHole)) hx120 hu121 (j := 0) (nn := false) (ety := e0) (sz := 2) (b := 0) (ys := [V.s r115]) (C := []) (R := []) (by kernel_rfl) (by kernel_rfl) ?_
   exact W.fi (by kernel_rfl)
   ) ?_
  refine cu Dk mix 3 160 (tl 28 [(0, .own 0), (1, V.i (IntKind.wrap .i64 (y79 + 1))), (5, V.i y80)]) [(0, .vec false e0 2 (x117.map (encSHole true)))] (by kernel_rfl) ?_
  (revert h103; refine bR fun e118 hx122 h103 => ?_)
  (revert h103; refine bR fun r119 hx123 h103 => ?_)
  (revert h103; refine bR fun x120 hu124 h103 => ?_)
  refine CO.nestEnd Dk 4 (tl 28 [(0, .own 0), (1, V.i (IntKind.wrap .i64 (y79 + 1))), (5, V.i y80), (23, .vp 0 2 y80.toNat 1)]) [(0, .vec false e0 2 (x117.map (encSHole true)))] (tl 28 [(0, .own 0), (1, V.i r119.1), (5, V.i y80)]) [(0, .vec false e0 2 (x120.map (encSHole true)))] (by kernel_rfl) (by
      refine W.run Dk 2 160 (by kernel_rfl) ?_
      refine W.ixO Dk (encSHole true) hx122 0 2 (by kernel_rfl) ?_
      refine W.run Dk 1 160 (by kernel_rfl) ?_
      exact W.fin (by decide) (by kernel_rfl) (Weak.sel [(0, 0)] [0, 1, 5, 23] (by kernel_rfl) (by kernel_rfl) (by kernel_rfl))
      ) ⟨_, rfl, rfl, rfl⟩ ⟨_, rfl, rfl, rfl⟩ ⟨_, rfl, rfl, rfl⟩ cok11 (by kernel_rfl) (by kernel_rfl) (i := 0) (k := 2) (m := y80.toNat) (b := 1) (u := .int .i64 (IntKind.wrap .i64 (y79 + 1))) (by kernel_rfl) (by kernel_rfl) (nn := false) (nn2 := false) (ety := e0) (encSHole true) (x' := (⟨e118.Name, r119.2⟩ : SHole)) hx122 hu124 rfl (by kernel_rfl) (srows := e118.Part.map (eSN true)) (srows' := r119.2.map (eSN true)) (by kernel_rfl) (by kernel_rfl) (u' := .int .i64 r119.1) (k2 := 5) (fun _ e => ml_markNodeS_ok e N (IntKind.wrap .i64 (y79 + 1)) e118.Part hx123) (fun h0 => ml_markNodeS_nil N (IntKind.wrap .i64 (y79 + 1)) e118.Part hx123 (List.map_eq_nil_iff.1 h0)) (fun r hr => by obtain ⟨a, _, rfl⟩ := List.mem_map.1 hr; rfl) (by
      refine W.run Dk 1 160 (by kernel_rfl) ?_
      exact W.fin (by decide) (by kernel_rfl) (Weak.sel [(0, 0)] [0, 1, 5] (by kernel_rfl) (by kernel_rfl) (by kernel_rfl))
   ) (fun st hw => ?_)
  refine CO.weak hw ?_
  refine ce Dk mix 3 160 (tl 28 [(0, .own 0), (1, V.i r119.1), (5, V.i (IntKind.wrap .i64 (y80 + 1)))]) [(0, .vec false e0 2 (x120.map (encSHole true)))] (by kernel_rfl) (fun st hw => ?_)
  exact ih104 (r119.1, (IntKind.wrap .i64 (y80 + 1)), x120) h103 _ (hw.trans (Weak.sel [(0, 0)] [0, 1, 5] (by kernel_rfl) (by kernel_rfl) (by kernel_rfl)))
 refine CO.ifF hc106 (by kernel_rfl) ?_
 refine CO.exit ?_
 refine cu Dk mix 2 160 (tl 28 [(4, V.i y79)]) [(0, .vec false e0 2 (y81.map (encSHole true)))] (by kernel_rfl) ?_
 refine CO.ret ?_
 have h103 := Option.some.inj h103
 subst h103
 exact Ends.gen [(0, 0)] (.inr rfl) (RetV.one rfl (OneR.t (t := 4) (r := V.i y79) (by kernel_rfl))) (by kernel_rfl) (by kernel_rfl) (by kernel_rfl)

theorem ml_heldIntS_ok (N : Nat) (a0 : List Int) (a1 : Int) {r : Int} (h : ml_heldIntS N a0 a1 = some r) :
    AC Tryz.prog (GS []) 19 [.sl false false (a0.map encI), V.i a1] [] (V.i r) [] := by
 rw [ml_heldIntS] at h
 refine AC.enter Tryz.func19 rfl ?_
 refine cu Dk mix 1 100 (tl 21 [(0, .sl false false (a0.map encI)), (1, V.i a1)]) [] (by kernel_rfl) ?_
 refine CO.seq' ?_
 refine cu Dk mix 1 100 (tl 21 [(0, .sl false false (a0.map encI)), (1, V.i a1), (5, V.i 0)]) [] (by kernel_rfl) ?_
 refine CO.block' ?_
 refine CO.loopJ (fun (⟨a0, y37, y38⟩ : ((List Int) × Int × Int)) => ⟨tl 21 [(0, .sl false false (a0.map encI)), (1, V.i y37), (5, V.i y38)], []⟩) (fun n i => ml_heldIntS_l1 N n i = some r) (n0 := N) (i0 := (a0, a1, 0)) (Weak.sel [] [0, 1, 5] (by kernel_rfl) (by kernel_rfl) (by kernel_rfl)) h (fun i h => by simp [ml_heldIntS_l1] at h) ?_
 rintro n1 ⟨a0, y37, y38⟩ h73 ih74
 rw [ml_heldIntS_l1] at h73
 refine CO.seq' ?_
 refine CO.cutR (tl 21 [(0, .sl false false (a0.map encI)), (1, V.i y37), (5, V.i y38), (9, V.b (decide (y38 < (a0.length : Int))))]) [] mix (by
  refine W.run Dk 2 160 (by kernel_rfl) ?_
  refine W.len Dk encI a0 [] (by kernel_rfl) (by kernel_rfl) ?_
  refine W.run Dk 1 160 (by kernel_rfl) ?_
  exact W.fi (by kernel_rfl)
  ) ?_
 (revert h73; refine cR (fun hc76 h73 => ?_) (fun hc76 h73 => ?_))
 ·refine CO.ifT hc76 (by kernel_rfl) ?_
  refine CO.skip ?_
  refine CO.seq' ?_
  refine CO.block' ?_
  refine CO.seq' ?_
  (revert h73; refine bR fun e56 hx87 h73 => ?_)
  refine CO.cutR (tl 21 [(0, .sl false false (a0.map encI)), (1, V.i y37), (5, V.i y38), (17, V.b (e56 != y37))]) [] mix (by
   refine W.run Dk 2 160 (by kernel_rfl) ?_
   refine W.ixD Dk encI hx87 1 (by kernel_rfl) (by kernel_rfl) ?_
   refine W.run Dk 3 160 (by kernel_rfl) ?_
   exact W.fi (by kernel_rfl)
   ) ?_
  (revert h73; refine cR (fun hc88 h73 => ?_) (fun hc88 h73 => ?_))
  ·refine CO.ifT hc88 (by kernel_rfl) ?_
   refine cu Dk mix 1 160 (tl 21 [(4, V.i (-1))]) [] (by kernel_rfl) ?_
   refine CO.ret ?_
   have h73 := Option.some.inj h73
   subst h73
   exact Ends.gen [] (.inr rfl) (RetV.one rfl (OneR.t (t := 4) (r := V.i (-1)) (by kernel_rfl))) (by kernel_rfl) (by kernel_rfl) (by kernel_rfl)
  refine CO.ifF hc88 (by kernel_rfl) ?_
  refine CO.skip ?_
  refine ce Dk mix 3 160 (tl 21 [(0, .sl false false (a0.map encI)), (1, V.i (IntKind.wrap .i64 (y37 + 1))), (5, V.i y38)]) [] (by kernel_rfl) (fun st hw => ?_)
  refine CO.weak hw ?_
  refine ce Dk mix 3 160 (tl 21 [(0, .sl false false (a0.map encI)), (1, V.i (IntKind.wrap .i64 (y37 + 1))), (5, V.i (IntKind.wrap .i64 (y38 + 1)))]) [] (by kernel_rfl) (fun st hw => ?_)
  exact ih74 (a0, (IntKind.wrap .i64 (y37 + 1)), (IntKind.wrap .i64 (y38 + 1))) h73 _ (hw.trans (Weak.sel [] [0, 1, 5] (by kernel_rfl) (by kernel_rfl) (by kernel_rfl)))
 refine CO.ifF hc76 (by kernel_rfl) ?_
 refine CO.exit ?_
 refine cu Dk mix 2 160 (tl 21 [(4, V.i y37)]) [] (by kernel_rfl) ?_
 refine CO.ret ?_
 have h73 := Option.some.inj h73
 subst h73
 exact Ends.gen [] (.inr rfl) (RetV.one rfl (OneR.t (t := 4) (r := V.i y37) (by kernel_rfl))) (by kernel_rfl) (by kernel_rfl) (by kernel_rfl)

theorem ml_heldNodeS_ok (N : Nat) (a0 : List SNode) (a1 : Int) {r : Int} (h : ml_heldNodeS N a0 a1 = some r) :
    AC Tryz.prog (GS []) 12 [.sl false false (a0.map (eSN false)), V.i a1] [] (V.i r) [] := by
 rw [ml_heldNodeS] at h
 refine AC.enter Tryz.func12 rfl ?_
 refine cu Dk mix 1 100 (tl 60 [(0, .sl false false (a0.map (eSN false))), (1, V.i a1)]) [] (by kernel_rfl) ?_
 refine CO.seq' ?_
 refine cu Dk mix 1 100 (tl 60 [(0, .sl false false (a0.map (eSN false))), (1, V.i a1), (5, V.i 0)]) [] (by kernel_rfl) ?_
 refine CO.block' ?_
 refine CO.loopJ (fun (⟨a0, y229, y230⟩ : ((List SNode) × Int × Int)) => ⟨tl 60 [(0, .sl false false (a0.map (eSN false))), (1, V.i y229), (5, V.i y230)], []⟩) (fun n i => ml_heldNodeS_l1 N n i = some r) (n0 := N) (i0 := (a0, a1, 0)) (Weak.sel [] [0, 1, 5] (by kernel_rfl) (by kernel_rfl) (by kernel_rfl)) h (fun i h => by simp [ml_heldNodeS_l1] at h) ?_
 rintro n1 ⟨a0, y229, y230⟩ h383 ih384
 rw [ml_heldNodeS_l1] at h383
 refine CO.seq' ?_
 refine CO.cutR (tl 60 [(0, .sl false false (a0.map (eSN false))), (1, V.i y229), (5, V.i y230), (9, V.b (decide (y230 < (a0.length : Int))))]) [] mix (by
  refine W.run Dk 2 160 (by kernel_rfl) ?_
  refine W.len Dk (eSN false) a0 [] (by kernel_rfl) (by kernel_rfl) ?_
  refine W.run Dk 1 160 (by kernel_rfl) ?_
  exact W.fi (by kernel_rfl)
  ) ?_
 (revert h383; refine cR (fun hc386 h383 => ?_) (fun hc386 h383 => ?_))
 ·refine CO.ifT hc386 (by kernel_rfl) ?_
  refine CO.skip ?_
  refine CO.seq' ?_
  refine CO.block' ?_
  refine CO.seq' ?_
  (revert h383; refine bR fun e320 hx428 h383 => ?_)
  refine CO.cutR (tl 60 [(0, .sl false false (a0.map (eSN false))), (1, V.i y229), (5, V.i y230), (18, V.b (e320.Kind != y229))]) [] mix (by
   refine W.run Dk 2 160 (by kernel_rfl) ?_
   refine W.ixD Dk (eSN false) hx428 5 (by kernel_rfl) (by kernel_rfl) ?_
   refine W.run Dk 4 160 (by kernel_rfl) ?_
   exact W.fi (by kernel_rfl)
   ) ?_
  (revert h383; refine cR (fun hc429 h383 => ?_) (fun hc429 h383 => ?_))
  ·refine CO.ifT hc429 (by kernel_rfl) ?_
   refine cu Dk mix 1 160 (tl 60 [(4, V.i (-1))]) [] (by kernel_rfl) ?_
   refine CO.ret ?_
   have h383 := Option.some.inj h383
   subst h383
   exact Ends.gen [] (.inr rfl) (RetV.one rfl (OneR.t (t := 4) (r := V.i (-1)) (by kernel_rfl))) (by kernel_rfl) (by kernel_rfl) (by kernel_rfl)
  refine CO.ifF hc429 (by kernel_rfl) ?_
  refine CO.skip ?_
  refine cu Dk mix 3 160 (tl 60 [(0, .sl false false (a0.map (eSN false))), (1, V.i (IntKind.wrap .i64 (y229 + 1))), (5, V.i y230)]) [] (by kernel_rfl) ?_
  refine CO.seq' ?_
  (revert h383; refine bR fun e324 hx434 h383 => ?_)
  refine CO.cutR (tl 60 [(0, .sl false false (a0.map (eSN false))), (1, V.i (IntKind.wrap .i64 (y229 + 1))), (5, V.i y230), (27, V.b (e324.Op != (IntKind.wrap .i64 (y229 + 1))))]) [] mix (by
   refine W.run Dk 2 160 (by kernel_rfl) ?_
   refine W.ixD Dk (eSN false) hx434 5 (by kernel_rfl) (by kernel_rfl) ?_
   refine W.run Dk 4 160 (by kernel_rfl) ?_
   exact W.fi (by kernel_rfl)
   ) ?_
  (revert h383; refine cR (fun hc435 h383 => ?_) (fun hc435 h383 => ?_))
  ·refine CO.ifT hc435 (by kernel_rfl) ?_
   refine cu Dk mix 1 160 (tl 60 [(4, V.i (-1))]) [] (by kernel_rfl) ?_
   refine CO.ret ?_
   have h383 := Option.some.inj h383
   subst h383
   exact Ends.gen [] (.inr rfl) (RetV.one rfl (OneR.t (t := 4) (r := V.i (-1)) (by kernel_rfl))) (by kernel_rfl) (by kernel_rfl) (by kernel_rfl)
  refine CO.ifF hc435 (by kernel_rfl) ?_
  refine CO.skip ?_
  refine cu Dk mix 3 160 (tl 60 [(0, .sl false false (a0.map (eSN false))), (1, V.i (IntKind.wrap .i64 ((IntKind.wrap .i64 (y229 + 1)) + 1))), (5, V.i y230)]) [] (by kernel_rfl) ?_
  refine CO.seq' ?_
  (revert h383; refine bR fun e331 hx443 h383 => ?_)
  (revert h383; refine bR fun r332 hx444 h383 => ?_)
  refine CO.cutR (tl 60 [(0, .sl false false (a0.map (eSN false))), (1, V.i (IntKind.wrap .i64 ((IntKind.wrap .i64 (y229 + 1)) + 1))), (5, V.i y230), (37, V.b (!(e331.Text == r332)))]) [] mix (by
   refine W.run Dk 2 160 (by kernel_rfl) ?_
   refine W.ixD Dk (eSN false) hx443 5 (by kernel_rfl) (by kernel_rfl) ?_
   refine W.run Dk 3 160 (by kernel_rfl) ?_
   refine W.call0 (ml_markText_ok N (IntKind.wrap .i64 ((IntKind.wrap .i64 (y229 + 1)) + 1)) hx444) cok39 rfl (by kernel_rfl) ?_
   refine W.run Dk 1 160 (by kernel_rfl) ?_
   exact W.fi (by kernel_rfl)
   ) ?_
  (revert h383; refine cR (fun hc445 h383 => ?_) (fun hc445 h383 => ?_))
  ·refine CO.ifT hc445 (by kernel_rfl) ?_
   refine cu Dk mix 1 160 (tl 60 [(4, V.i (-1))]) [] (by kernel_rfl) ?_
   refine CO.ret ?_
   have h383 := Option.some.inj h383
   subst h383
   exact Ends.gen [] (.inr rfl) (RetV.one rfl (OneR.t (t := 4) (r := V.i (-1)) (by kernel_rfl))) (by kernel_rfl) (by kernel_rfl) (by kernel_rfl)
  refine CO.ifF hc445 (by kernel_rfl) ?_
  refine CO.skip ?_
  refine cu Dk mix 3 160 (tl 60 [(0, .sl false false (a0.map (eSN false))), (1, V.i (IntKind.wrap .i64 ((IntKind.wrap .i64 ((IntKind.wrap .i64 (y229 + 1)) + 1)) + 1))), (5, V.i y230)]) [] (by kernel_rfl) ?_
  refine CO.seq' ?_
  (revert h383; refine bR fun e339 hx453 h383 => ?_)
  (revert h383; refine bR fun r340 hx454 h383 => ?_)
  refine CO.cutR (tl 60 [(0, .sl false false (a0.map (eSN false))), (1, V.i (IntKind.wrap .i64 ((IntKind.wrap .i64 ((IntKind.wrap .i64 (y229 + 1)) + 1)) + 1))), (5, V.i y230), (47, V.b (!(e339.Other == r340)))]) [] mix (by
   refine W.run Dk 2 160 (by kernel_rfl) ?_
   refine W.ixD Dk (eSN false) hx453 5 (by kernel_rfl) (by kernel_rfl) ?_
   refine W.run Dk 3 160 (by kernel_rfl) ?_
   refine W.call0 (ml_markText_ok N (IntKind.wrap .i64 ((IntKind.wrap .i64 ((IntKind.wrap .i64 (y229 + 1)) + 1)) + 1)) hx454) cok39 rfl (by kernel_rfl) ?_
   refine W.run Dk 1 160 (by kernel_rfl) ?_
   exact W.fi (by kernel_rfl)
   ) ?_
  (revert h383; refine cR (fun hc455 h383 => ?_) (fun hc455 h383 => ?_))
  ·refine CO.ifT hc455 (by kernel_rfl) ?_
   refine cu Dk mix 1 160 (tl 60 [(4, V.i (-1))]) [] (by kernel_rfl) ?_
   refine CO.ret ?_
   have h383 := Option.some.inj h383
   subst h383
   exact Ends.gen [] (.inr rfl) (RetV.one rfl (OneR.t (t := 4) (r := V.i (-1)) (by kernel_rfl))) (by kernel_rfl) (by kernel_rfl) (by kernel_rfl)
  refine CO.ifF hc455 (by kernel_rfl) ?_
  refine CO.skip ?_
  refine cu Dk mix 3 160 (tl 60 [(0, .sl false false (a0.map (eSN false))), (1, V.i (IntKind.wrap .i64 ((IntKind.wrap .i64 ((IntKind.wrap .i64 ((IntKind.wrap .i64 (y229 + 1)) + 1)) + 1)) + 1))), (5, V.i y230)]) [] (by kernel_rfl) ?_
  (revert h383; refine bR fun e343 hx458 h383 => ?_)
  (revert h383; refine bR fun r344 hx459 h383 => ?_)
  refine CO.cutR (tl 60 [(0, .sl false false (a0.map (eSN false))), (1, V.i r344), (5, V.i y230)]) [] mix (by
   refine W.run Dk 2 160 (by kernel_rfl) ?_
   refine W.ixD Dk (eSN false) hx458 5 (by kernel_rfl) (by kernel_rfl) ?_
   refine W.run Dk 3 160 (by kernel_rfl) ?_
   refine W.call0 (ml_heldIntS_ok N e343.Kids (IntKind.wrap .i64 ((IntKind.wrap .i64 ((IntKind.wrap .i64 ((IntKind.wrap .i64 (y229 + 1)) + 1)) + 1)) + 1)) hx459) cok19 rfl (by kernel_rfl) ?_
   refine W.run Dk 1 160 (by kernel_rfl) ?_
   exact W.fi (by kernel_rfl)
   ) ?_
  refine cu Dk mix 2 160 (tl 60 [(0, .sl false false (a0.map (eSN false))), (1, V.i r344), (5, V.i y230), (58, V.b (decide (r344 < 0)))]) [] (by kernel_rfl) ?_
  (revert h383; refine cR (fun hc460 h383 => ?_) (fun hc460 h383 => ?_))
  ·refine CO.ifT hc460 (by kernel_rfl) ?_
   refine cu Dk mix 1 160 (tl 60 [(4, V.i (-1))]) [] (by kernel_rfl) ?_
   refine CO.ret ?_
   have h383 := Option.some.inj h383
   subst h383
   exact Ends.gen [] (.inr rfl) (RetV.one rfl (OneR.t (t := 4) (r := V.i (-1)) (by kernel_rfl))) (by kernel_rfl) (by kernel_rfl) (by kernel_rfl)
  refine CO.ifF hc460 (by kernel_rfl) ?_
  refine CO.skip ?_
  refine ce Dk mix 3 160 (tl 60 [(0, .sl false false (a0.map (eSN false))), (1, V.i r344), (5, V.i (IntKind.wrap .i64 (y230 + 1)))]) [] (by kernel_rfl) (fun st hw => ?_)
  exact ih384 (a0, r344, (IntKind.wrap .i64 (y230 + 1))) h383 _ (hw.trans (Weak.sel [] [0, 1, 5] (by kernel_rfl) (by kernel_rfl) (by kernel_rfl)))
 refine CO.ifF hc386 (by kernel_rfl) ?_
 refine CO.exit ?_
 refine cu Dk mix 2 160 (tl 60 [(4, V.i y229)]) [] (by kernel_rfl) ?_
 refine CO.ret ?_
 have h383 := Option.some.inj h383
 subst h383
 exact Ends.gen [] (.inr rfl) (RetV.one rfl (OneR.t (t := 4) (r := V.i y229) (by kernel_rfl))) (by kernel_rfl) (by kernel_rfl) (by kernel_rfl)

theorem ml_heldHoleS_ok (N : Nat) (a0 : List SHole) (a1 : Int) {r : Int} (h : ml_heldHoleS N a0 a1 = some r) :
    AC Tryz.prog (GS []) 24 [.sl false false (a0.map (encSHole false)), V.i a1] [] (V.i r) [] := by
 rw [ml_heldHoleS] at h
 refine AC.enter Tryz.func24 rfl ?_
 refine cu Dk mix 1 100 (tl 32 [(0, .sl false false (a0.map (encSHole false))), (1, V.i a1)]) [] (by kernel_rfl) ?_
 refine CO.seq' ?_
 refine cu Dk mix 1 100 (tl 32 [(0, .sl false false (a0.map (encSHole false))), (1, V.i a1), (5, V.i 0)]) [] (by kernel_rfl) ?_
 refine CO.block' ?_
 refine CO.loopJ (fun (⟨a0, y101, y102⟩ : ((List SHole) × Int × Int)) => ⟨tl 32 [(0, .sl false false (a0.map (encSHole false))), (1, V.i y101), (5, V.i y102)], []⟩) (fun n i => ml_heldHoleS_l1 N n i = some r) (n0 := N) (i0 := (a0, a1, 0)) (Weak.sel [] [0, 1, 5] (by kernel_rfl) (by kernel_rfl) (by kernel_rfl)) h (fun i h => by simp [ml_heldHoleS_l1] at h) ?_
 rintro n1 ⟨a0, y101, y102⟩ h163 ih164
 rw [ml_heldHoleS_l1] at h163
 refine CO.seq' ?_
 refine CO.cutR (tl 32 [(0, .sl false false (a0.map (encSHole false))), (1, V.i y101), (5, V.i y102), (9, V.b (decide (y102 < (a0.length : Int))))]) [] mix (by
  refine W.run Dk 2 160 (by kernel_rfl) ?_
  refine W.len Dk (encSHole false) a0 [] (by kernel_rfl) (by kernel_rfl) ?_
  refine W.run Dk 1 160 (by kernel_rfl) ?_
  exact W.fi (by kernel_rfl)
  ) ?_
 (revert h163; refine cR (fun hc166 h163 => ?_) (fun hc166 h163 => ?_))
 ·refine CO.ifT hc166 (by kernel_rfl) ?_
  refine CO.skip ?_
  refine CO.seq' ?_
  refine CO.block' ?_
  refine CO.seq' ?_
  (revert h163; refine bR fun e147 hx189 h163 => ?_)
  (revert h163; refine bR fun r148 hx190 h163 => ?_)
  refine CO.cutR (tl 32 [(0, .sl false false (a0.map (encSHole false))), (1, V.i y101), (5, V.i y102), (19, V.b (!(e147.Name == r148)))]) [] mix (by
   refine W.run Dk 2 160 (by kernel_rfl) ?_
   refine W.ixD Dk (encSHole false) hx189 2 (by kernel_rfl) (by kernel_rfl) ?_
   refine W.run Dk 3 160 (by kernel_rfl) ?_
   refine W.call0 (ml_markText_ok N y101 hx190) cok39 rfl (by kernel_rfl) ?_
   refine W.run Dk 1 160 (by kernel_rfl) ?_
   exact W.fi (by kernel_rfl)
   ) ?_
  (revert h163; refine cR (fun hc191 h163 => ?_) (fun hc191 h163 => ?_))
  ·refine CO.ifT hc191 (by kernel_rfl) ?_
   refine cu Dk mix 1 160 (tl 32 [(4, V.i (-1))]) [] (by kernel_rfl) ?_
   refine CO.ret ?_
   have h163 := Option.some.inj h163
   subst h163
   exact Ends.gen [] (.inr rfl) (RetV.one rfl (OneR.t (t := 4) (r := V.i (-1)) (by kernel_rfl))) (by kernel_rfl) (by kernel_rfl) (by kernel_rfl)
  refine CO.ifF hc191 (by kernel_rfl) ?_
  refine CO.skip ?_
  refine cu Dk mix 3 160 (tl 32 [(0, .sl false false (a0.map (encSHole false))), (1, V.i (IntKind.wrap .i64 (y101 + 1))), (5, V.i y102)]) [] (by kernel_rfl) ?_
  (revert h163; refine bR fun e151 hx194 h163 => ?_)
  (revert h163; refine bR fun r152 hx195 h163 => ?_)
  refine CO.cutR (tl 32 [(0, .sl false false (a0.map (encSHole false))), (1, V.i r152), (5, V.i y102)]) [] mix (by
   refine W.run Dk 2 160 (by kernel_rfl) ?_
   refine W.ixD Dk (encSHole false) hx194 2 (by kernel_rfl) (by kernel_rfl) ?_
   refine W.run Dk 3 160 (by kernel_rfl) ?_
   refine W.call0 (ml_heldNodeS_ok N e151.Part (IntKind.wrap .i64 (y101 + 1)) hx195) cok12 rfl (by kernel_rfl) ?_
   refine W.run Dk 1 160 (by kernel_rfl) ?_
   exact W.fi (by kernel_rfl)
   ) ?_
  refine cu Dk mix 2 160 (tl 32 [(0, .sl false false (a0.map (encSHole false))), (1, V.i r152), (5, V.i y102), (30, V.b (decide (r152 < 0)))]) [] (by kernel_rfl) ?_
  (revert h163; refine cR (fun hc196 h163 => ?_) (fun hc196 h163 => ?_))
  ·refine CO.ifT hc196 (by kernel_rfl) ?_
   refine cu Dk mix 1 160 (tl 32 [(4, V.i (-1))]) [] (by kernel_rfl) ?_
   refine CO.ret ?_
   have h163 := Option.some.inj h163
   subst h163
   exact Ends.gen [] (.inr rfl) (RetV.one rfl (OneR.t (t := 4) (r := V.i (-1)) (by kernel_rfl))) (by kernel_rfl) (by kernel_rfl) (by kernel_rfl)
  refine CO.ifF hc196 (by kernel_rfl) ?_
  refine CO.skip ?_
  refine ce Dk mix 3 160 (tl 32 [(0, .sl false false (a0.map (encSHole false))), (1, V.i r152), (5, V.i (IntKind.wrap .i64 (y102 + 1)))]) [] (by kernel_rfl) (fun st hw => ?_)
  exact ih164 (a0, r152, (IntKind.wrap .i64 (y102 + 1))) h163 _ (hw.trans (Weak.sel [] [0, 1, 5] (by kernel_rfl) (by kernel_rfl) (by kernel_rfl)))
 refine CO.ifF hc166 (by kernel_rfl) ?_
 refine CO.exit ?_
 refine cu Dk mix 2 160 (tl 32 [(4, V.i y101)]) [] (by kernel_rfl) ?_
 refine CO.ret ?_
 have h163 := Option.some.inj h163
 subst h163
 exact Ends.gen [] (.inr rfl) (RetV.one rfl (OneR.t (t := 4) (r := V.i y101) (by kernel_rfl))) (by kernel_rfl) (by kernel_rfl) (by kernel_rfl)

theorem ml_FnExactMatch_ok (N : Nat) (a0 : List SNode) (a1 : List SNode) {r : Bool} (h : ml_FnExactMatch N a0 a1 = some r) :
    AC Tryz.prog (GS [0, 1, 2]) 5 [.sl false false (a0.map (eSN false)), .sl false false (a1.map (eSN false))] [] (V.b r) [] := by
 rw [ml_FnExactMatch] at h
 refine AC.enter Tryz.func5 rfl ?_
 refine cu Dk mix 1 100 (tl 119 [(0, .sl false false (a0.map (eSN false))), (1, .sl false false (a1.map (eSN false)))]) [] (by kernel_rfl) ?_
 refine cu Dk mix 1 100 (tl 119 [(0, .sl false false (a0.map (eSN false))), (1, .sl false false (a1.map (eSN false))), (5, V.i 1048576)]) [] (by kernel_rfl) ?_
 (revert h; refine bR fun r2 hx2 h => ?_)
 refine CO.cutR (tl 119 [(0, .sl false false (a0.map (eSN false))), (1, .sl false false (a1.map (eSN false))), (5, V.i r2)]) [] mix (by
  refine W.run Dk 2 100 (by kernel_rfl) ?_
  refine W.call0 (AC.gs (ml_szNodeS_ok N a0 1048576 hx2) (by decide)) cok13 rfl (by kernel_rfl) ?_
  refine W.run Dk 1 100 (by kernel_rfl) ?_
  exact W.fi (by kernel_rfl)
  ) ?_
 refine CO.seq' ?_
 refine cu Dk mix 2 100 (tl 119 [(0, .sl false false (a0.map (eSN false))), (1, .sl false false (a1.map (eSN false))), (5, V.i r2), (21, V.b (decide (r2 < 0)))]) [] (by kernel_rfl) ?_
 (revert h; refine cR (fun hc4 h => ?_) (fun hc4 h => ?_))
 ·refine CO.ifT hc4 (by kernel_rfl) ?_
  refine cu Dk mix 1 100 (tl 119 [(4, V.b true)]) [] (by kernel_rfl) ?_
  refine CO.ret ?_
  have h := Option.some.inj h
  subst h
  exact Ends.gen [] (.inr rfl) (RetV.one rfl (OneR.t (t := 4) (r := V.b true) (by kernel_rfl))) (by kernel_rfl) (by kernel_rfl) (by kernel_rfl)
 refine CO.ifF hc4 (by kernel_rfl) ?_
 refine CO.skip ?_
 (revert h; refine bR fun r4 hx6 h => ?_)
 refine CO.cutR (tl 119 [(0, .sl false false (a0.map (eSN false))), (1, .sl false false (a1.map (eSN false))), (5, V.i r4)]) [] mix (by
  refine W.run Dk 2 100 (by kernel_rfl) ?_
  refine W.call0 (AC.gs (ml_szNodeS_ok N a1 r2 hx6) (by decide)) cok13 rfl (by kernel_rfl) ?_
  refine W.run Dk 1 100 (by kernel_rfl) ?_
  exact W.fi (by kernel_rfl)
  ) ?_
 refine CO.seq' ?_
 refine cu Dk mix 2 100 (tl 119 [(0, .sl false false (a0.map (eSN false))), (1, .sl false false (a1.map (eSN false))), (26, V.b (decide (r4 < 0)))]) [] (by kernel_rfl) ?_
 (revert h; refine cR (fun hc8 h => ?_) (fun hc8 h => ?_))
 ·refine CO.ifT hc8 (by kernel_rfl) ?_
  refine cu Dk mix 1 100 (tl 119 [(4, V.b true)]) [] (by kernel_rfl) ?_
  refine CO.ret ?_
  have h := Option.some.inj h
  subst h
  exact Ends.gen [] (.inr rfl) (RetV.one rfl (OneR.t (t := 4) (r := V.b true) (by kernel_rfl))) (by kernel_rfl) (by kernel_rfl) (by kernel_rfl)
 refine CO.ifF hc8 (by kernel_rfl) ?_
 refine CO.skip ?_
 (revert h; refine bR fun r8 hx12 h => ?_)
 (revert h; refine bR fun r9 hx13 h => ?_)
 (revert h; refine bR fun r10 hx14 h => ?_)
 refine CO.cutR (tl 119 [(0, .sl false false (a0.map (eSN false))), (1, .sl false false (a1.map (eSN false))), (6, .own 102), (7, V.b r10.2)]) [(102, .vec false 79 2 (r10.1.map (encSHole false)))] mix (by
  refine W.run Dk 1 100 (by kernel_rfl) ?_
  refine W.call (AC.gs (ml_toNodeS_ok N a0 hx12) (by decide)) cok15 [] [(100, 100)] [100] (show LayOk _ [] from trivial) (by kernel_rfl) (by kernel_rfl) ?_
  refine W.run Dk 1 101 (by kernel_rfl) ?_
  refine W.call (AC.gs (ml_toNodeS_ok N a1 hx13) (by decide)) cok15 [] [(100, 101)] [101] (show LayOk _ [] from trivial) (by kernel_rfl) (by kernel_rfl) ?_
  refine W.call (AC.gs (ms_Match_ok N r8 r9 hx14) (by decide)) cok20 [] [(100, 102)] [102] (LayOk.cons (j := 100) (eSN true) (eSN false) r8 (by kernel_rfl) (sh_eSN _) (LayOk.cons (j := 101) (eSN true) (eSN false) r9 (by kernel_rfl) (sh_eSN _) (show LayOk _ [] from trivial))) (by kernel_rfl) (by kernel_rfl) ?_
  refine W.run Dk 5 103 (by kernel_rfl) ?_
  exact W.fi (by kernel_rfl)
  ) ?_
 (revert h; refine bR fun r12 hx16 h => ?_)
 refine CO.cutR (tl 119 [(0, .sl false false (a0.map (eSN false))), (1, .sl false false (a1.map (eSN false))), (6, .own 102), (7, V.b r10.2), (8, .own 103)]) [(103, .vec false 48 5 (r12.map (eSN true))), (102, .vec false 79 2 (r10.1.map (encSHole false)))] mix (by
  refine W.run Dk 1 103 (by kernel_rfl) ?_
  refine W.call (AC.gs (ml_toNodeS_ok N a0 hx16) (by decide)) cok15 [] [(100, 103)] [103] (show LayOk _ [] from trivial) (by kernel_rfl) (by kernel_rfl) ?_
  refine W.run Dk 1 104 (by kernel_rfl) ?_
  exact W.fi (by kernel_rfl)
  ) ?_
 (revert h; refine bR fun r14 hx18 h => ?_)
 refine CO.cutR (tl 119 [(0, .sl false false (a0.map (eSN false))), (1, .sl false false (a1.map (eSN false))), (6, .own 102), (7, V.b r10.2), (8, .own 103), (9, .own 104)]) [(104, .vec false 48 5 (r14.map (eSN true))), (103, .vec false 48 5 (r12.map (eSN true))), (102, .vec false 79 2 (r10.1.map (encSHole false)))] mix (by
  refine W.run Dk 1 104 (by kernel_rfl) ?_
  refine W.call (AC.gs (ml_toNodeS_ok N a1 hx18) (by decide)) cok15 [] [(100, 104)] [104] (show LayOk _ [] from trivial) (by kernel_rfl) (by kernel_rfl) ?_
  refine W.run Dk 1 105 (by kernel_rfl) ?_
  exact W.fi (by kernel_rfl)
  ) ?_
 (revert h; refine bR fun r16 hx20 h => ?_)
 refine CO.cutR (tl 119 [(0, .sl false false (a0.map (eSN false))), (1, .sl false false (a1.map (eSN false))), (6, .own 102), (7, V.b r10.2), (8, .own 103), (9, .own 104), (10, .own 105), (11, V.b r16.2)]) [(105, .vec false 79 2 (r16.1.map (encSHole true))), (104, .vec false 48 5 (r14.map (eSN true))), (103, .vec false 48 5 (r12.map (eSN true))), (102, .vec false 79 2 (r10.1.map (encSHole false)))] mix (by
  refine W.run Dk 2 105 (by kernel_rfl) ?_
  refine W.lend (mi_Match_ok N r12 r14 hx20) cok21 [(100, 105)] [105] (LayOk.cons (j := 103) (eSN true) (eSN false) r12 (by kernel_rfl) (sh_eSN _) (LayOk.cons (j := 104) (eSN true) (eSN false) r14 (by kernel_rfl) (sh_eSN _) (show LayOk _ [] from trivial))) (.tup _ (.cons (.own _) (.cons (.c _) .nil))) (.cons (DeepR.map (fun _ => (.cons (.c _) (.cons (.sl _ _ (DeepR.map (fun _ => (.cons (.c _) (.cons (.c _) (.cons (.c _) (.cons (.c _) (.cons (.sl _ _ (DeepR.map (fun _ => (.cons (.c _) .nil)) _)) .nil)))))) _)) .nil))) _) .nil) (by kernel_rfl) (by kernel_rfl) ?_
  refine W.run Dk 5 106 (by kernel_rfl) ?_
  exact W.fi (by kernel_rfl)
  ) ?_
 refine CO.seq' ?_
 (revert h; refine bR fun y21 hv29 h => ?_)
 refine CO.cutR (tl 119 [(0, .sl false false (a0.map (eSN false))), (1, .sl false false (a1.map (eSN false))), (6, .own 100), (7, V.b r10.2), (8, .own 101), (9, .own 102), (10, .own 103), (11, V.b r16.2), (53, V.b y21)]) [(100, .vec false 79 2 (r10.1.map (encSHole false))), (101, .vec false 48 5 (r12.map (eSN true))), (102, .vec false 48 5 (r14.map (eSN true))), (103, .vec false 79 2 (r16.1.map (encSHole true)))] mix (by
  refine W.run Dk 2 106 (by kernel_rfl) ?_
  (revert hv29; refine bR fun r22 hx30 hv29 => ?_)
  refine W.lend (AC.gs (ml_eqHoleS_ok N r16.1 r10.1 hx30) (by decide)) cok22 [] [] (LayOk.cons (j := 105) (encSHole true) (encSHole false) r16.1 (by kernel_rfl) (share_encSHole _) (LayOk.cons (j := 102) (encSHole false) (encSHole false) r10.1 (by kernel_rfl) (share_encSHole _) (show LayOk _ [] from trivial))) (.c _) .nil (by kernel_rfl) (by kernel_rfl) ?_
  refine W.run Dk 2 106 (by kernel_rfl) ?_
  (revert hv29; refine cR (fun hc31 hv29 => ?_) (fun hc31 hv29 => ?_))
  ·refine W.is 49 hc31 (by kernel_rfl) ?_
   refine W.run Dk 4 106 (by kernel_rfl) ?_
   have hv29 := Option.some.inj hv29
   subst hv29
   exact W.fs [(102, 100), (103, 101), (104, 102), (105, 103)] [0, 1, 6, 7, 8, 9, 10, 11, 53] (by kernel_rfl)
  refine W.is 49 hc31 (by kernel_rfl) ?_
  refine W.run Dk 4 106 (by kernel_rfl) ?_
  have hv29 := Option.some.inj hv29
  subst hv29
  exact W.fs [(102, 100), (103, 101), (104, 102), (105, 103)] [0, 1, 6, 7, 8, 9, 10, 11, 53] (by kernel_rfl)
  ) ?_
 (revert h; refine cR (fun hc32 h => ?_) (fun hc32 h => ?_))
 ·refine CO.ifT hc32 (by kernel_rfl) ?_
  refine cu Dk mix 1 106 (tl 119 [(4, V.b false)]) [] (by kernel_rfl) ?_
  refine CO.ret ?_
  have h := Option.some.inj h
  subst h
  exact Ends.gen [] (.inr rfl) (RetV.one rfl (OneR.t (t := 4) (r := V.b false) (by kernel_rfl))) (by kernel_rfl) (by kernel_rfl) (by kernel_rfl)
 refine CO.ifF hc32 (by kernel_rfl) ?_
 refine CO.skip ?_
 refine CO.seq' ?_
 (revert h; refine bR fun r29 hx40 h => ?_)
 (revert h; refine bR fun r30 hx41 h => ?_)
 refine CO.cutR (tl 119 [(0, .sl false false (a0.map (eSN false))), (1, .sl false false (a1.map (eSN false))), (6, .own 100), (7, V.b r10.2), (8, .own 101), (9, .own 102), (10, .own 103), (11, V.b r16.2), (58, V.b (!r30))]) [(100, .vec false 79 2 (r10.1.map (encSHole false))), (101, .vec false 48 5 (r12.map (eSN true))), (102, .vec false 48 5 (r14.map (eSN true))), (103, .vec false 79 2 (r16.1.map (encSHole true)))] mix (by
  refine W.run Dk 2 106 (by kernel_rfl) ?_
  refine W.call (AC.gs (ml_toNodeS_ok N a0 hx40) (by decide)) cok15 [] [(100, 106)] [106] (show LayOk _ [] from trivial) (by kernel_rfl) (by kernel_rfl) ?_
  refine W.lend (AC.gs (ml_eqNodeS_ok N r12 r29 hx41) (by decide)) cok10 [] [] (LayOk.cons (j := 101) (eSN true) (eSN false) r12 (by kernel_rfl) (sh_eSN _) (LayOk.cons (j := 106) (eSN true) (eSN false) r29 (by kernel_rfl) (sh_eSN _) (show LayOk _ [] from trivial))) (.c _) .nil (by kernel_rfl) (by kernel_rfl) ?_
  refine W.run Dk 1 107 (by kernel_rfl) ?_
  exact W.fi (by kernel_rfl)
  ) ?_
 (revert h; refine cR (fun hc42 h => ?_) (fun hc42 h => ?_))
 ·refine CO.ifT hc42 (by kernel_rfl) ?_
  refine cu Dk mix 1 107 (tl 119 [(4, V.b false)]) [] (by kernel_rfl) ?_
  refine CO.ret ?_
  have h := Option.some.inj h
  subst h
  exact Ends.gen [] (.inr rfl) (RetV.one rfl (OneR.t (t := 4) (r := V.b false) (by kernel_rfl))) (by kernel_rfl) (by kernel_rfl) (by kernel_rfl)
 refine CO.ifF hc42 (by kernel_rfl) ?_
 refine CO.skip ?_
 refine CO.seq' ?_
 (revert h; refine bR fun r37 hx50 h => ?_)
 (revert h; refine bR fun r38 hx51 h => ?_)
 refine CO.cutR (tl 119 [(0, .sl false false (a0.map (eSN false))), (1, .sl false false (a1.map (eSN false))), (6, .own 100), (7, V.b r10.2), (8, .own 101), (9, .own 102), (10, .own 103), (11, V.b r16.2), (63, V.b (!r38))]) [(100, .vec false 79 2 (r10.1.map (encSHole false))), (101, .vec false 48 5 (r12.map (eSN true))), (102, .vec false 48 5 (r14.map (eSN true))), (103, .vec false 79 2 (r16.1.map (encSHole true)))] mix (by
  refine W.run Dk 2 107 (by kernel_rfl) ?_
  refine W.call (AC.gs (ml_toNodeS_ok N a1 hx50) (by decide)) cok15 [] [(100, 107)] [107] (show LayOk _ [] from trivial) (by kernel_rfl) (by kernel_rfl) ?_
  refine W.lend (AC.gs (ml_eqNodeS_ok N r14 r37 hx51) (by decide)) cok10 [] [] (LayOk.cons (j := 102) (eSN true) (eSN false) r14 (by kernel_rfl) (sh_eSN _) (LayOk.cons (j := 107) (eSN true) (eSN false) r37 (by kernel_rfl) (sh_eSN _) (show LayOk _ [] from trivial))) (.c _) .nil (by kernel_rfl) (by kernel_rfl) ?_
  refine W.run Dk 1 108 (by kernel_rfl) ?_
  exact W.fi (by kernel_rfl)
  ) ?_
 (revert h; refine cR (fun hc52 h => ?_) (fun hc52 h => ?_))
 ·refine CO.ifT hc52 (by kernel_rfl) ?_
  refine cu Dk mix 1 108 (tl 119 [(4, V.b false)]) [] (by kernel_rfl) ?_
  refine CO.ret ?_
  have h := Option.some.inj h
  subst h
  exact Ends.gen [] (.inr rfl) (RetV.one rfl (OneR.t (t := 4) (r := V.b false) (by kernel_rfl))) (by kernel_rfl) (by kernel_rfl) (by kernel_rfl)
 refine CO.ifF hc52 (by kernel_rfl) ?_
 refine CO.skip ?_
 refine cu Dk mix 1 108 (tl 119 [(0, .sl false false (a0.map (eSN false))), (1, .sl false false (a1.map (eSN false))), (6, .own 100), (7, V.b r10.2), (8, .own 101), (9, .own 102), (10, .own 103), (11, V.b r16.2), (12, V.i 1)]) [(100, .vec false 79 2 (r10.1.map (encSHole false))), (101, .vec false 48 5 (r12.map (eSN true))), (102, .vec false 48 5 (r14.map (eSN true))), (103, .vec false 79 2 (r16.1.map (encSHole true)))] (by kernel_rfl) ?_
 (revert h; refine bR fun r40 hx54 h => ?_)
 refine CO.cutR (tl 119 [(0, .sl false false (a0.map (eSN false))), (1, .sl false false (a1.map (eSN false))), (6, .own 100), (7, V.b r10.2), (9, .own 102), (10, .own 103), (11, V.b r16.2), (12, V.i r40.1)]) [(100, .vec false 79 2 (r10.1.map (encSHole false))), (102, .vec false 48 5 (r14.map (eSN true))), (103, .vec false 79 2 (r16.1.map (encSHole true)))] mix (by
  refine W.run Dk 2 108 (by kernel_rfl) ?_
  refine W.call (AC.gs (ml_markNodeS_ok 48 N 1 r12 hx54) (by decide)) cok11 [(101, 0)] [(0, 101)] [] (show LayOk _ [] from trivial) (by kernel_rfl) (by kernel_rfl) ?_
  refine W.run Dk 1 108 (by kernel_rfl) ?_
  exact W.fi (by kernel_rfl)
  ) ?_
 (revert h; refine bR fun r42 hx56 h => ?_)
 refine CO.cutR (tl 119 [(0, .sl false false (a0.map (eSN false))), (1, .sl false false (a1.map (eSN false))), (6, .own 100), (7, V.b r10.2), (10, .own 103), (11, V.b r16.2), (12, V.i r42.1)]) [(100, .vec false 79 2 (r10.1.map (encSHole false))), (103, .vec false 79 2 (r16.1.map (encSHole true)))] mix (by
  refine W.run Dk 2 108 (by kernel_rfl) ?_
  refine W.call (AC.gs (ml_markNodeS_ok 48 N r40.1 r14 hx56) (by decide)) cok11 [(102, 0)] [(0, 102)] [] (show LayOk _ [] from trivial) (by kernel_rfl) (by kernel_rfl) ?_
  refine W.run Dk 1 108 (by kernel_rfl) ?_
  exact W.fi (by kernel_rfl)
  ) ?_
 refine CO.seq' ?_
 (revert h; refine bR fun y47 hv68 h => ?_)
 refine CO.cutR (tl 119 [(0, .sl false false (a0.map (eSN false))), (1, .sl false false (a1.map (eSN false))), (6, .own 100), (7, V.b r10.2), (10, .own 101), (82, V.b y47)]) [(100, .vec false 79 2 (r10.1.map (encSHole false))), (101, .vec false 79 2 (r16.1.map (encSHole true)))] mix (by
  refine W.run Dk 3 108 (by kernel_rfl) ?_
  (revert hv68; refine cR (fun hc69 hv68 => ?_) (fun hc69 hv68 => ?_))
  ·refine W.is 72 hc69 (by kernel_rfl) ?_
   refine W.run Dk 10 108 (by kernel_rfl) ?_
   have hv68 := Option.some.inj hv68
   subst hv68
   exact W.fs [(100, 100), (103, 101)] [0, 1, 6, 7, 10, 82] (by kernel_rfl)
  refine W.is 72 hc69 (by kernel_rfl) ?_
  refine W.run Dk 2 108 (by kernel_rfl) ?_
  (revert hv68; refine bR fun r48 hx70 hv68 => ?_)
  refine W.lend (AC.gs (ml_eqHoleS_ok N r16.1 r10.1 hx70) (by decide)) cok22 [] [] (LayOk.cons (j := 103) (encSHole true) (encSHole false) r16.1 (by kernel_rfl) (share_encSHole _) (LayOk.cons (j := 100) (encSHole false) (encSHole false) r10.1 (by kernel_rfl) (share_encSHole _) (show LayOk _ [] from trivial))) (.c _) .nil (by kernel_rfl) (by kernel_rfl) ?_
  refine W.run Dk 3 108 (by kernel_rfl) ?_
  (revert hv68; refine cR (fun hc71 hv68 => ?_) (fun hc71 hv68 => ?_))
  ·refine W.is 78 hc71 (by kernel_rfl) ?_
   refine W.run Dk 4 108 (by kernel_rfl) ?_
   have hv68 := Option.some.inj hv68
   subst hv68
   exact W.fs [(100, 100), (103, 101)] [0, 1, 6, 7, 10, 82] (by kernel_rfl)
  refine W.is 78 hc71 (by kernel_rfl) ?_
  refine W.run Dk 4 108 (by kernel_rfl) ?_
  have hv68 := Option.some.inj hv68
  subst hv68
  exact W.fs [(100, 100), (103, 101)] [0, 1, 6, 7, 10, 82] (by kernel_rfl)
  ) ?_
 (revert h; refine cR (fun hc72 h => ?_) (fun hc72 h => ?_))
 ·refine CO.ifT hc72 (by kernel_rfl) ?_
  refine cu Dk mix 1 108 (tl 119 [(4, V.b false)]) [] (by kernel_rfl) ?_
  refine CO.ret ?_
  have h := Option.some.inj h
  subst h
  exact Ends.gen [] (.inr rfl) (RetV.one rfl (OneR.t (t := 4) (r := V.b false) (by kernel_rfl))) (by kernel_rfl) (by kernel_rfl) (by kernel_rfl)
 refine CO.ifF hc72 (by kernel_rfl) ?_
 refine CO.skip ?_
 refine cu Dk mix 1 108 (tl 119 [(0, .sl false false (a0.map (eSN false))), (1, .sl false false (a1.map (eSN false))), (6, .own 100), (7, V.b r10.2), (10, .own 101), (13, V.i 1)]) [(100, .vec false 79 2 (r10.1.map (encSHole false))), (101, .vec false 79 2 (r16.1.map (encSHole true)))] (by kernel_rfl) ?_
 (revert h; refine bR fun r50 hx74 h => ?_)
 refine CO.cutR (tl 119 [(0, .sl false false (a0.map (eSN false))), (1, .sl false false (a1.map (eSN false))), (6, .own 100), (7, V.b r10.2), (10, .own 101), (13, V.i r50.1)]) [(100, .vec false 79 2 (r10.1.map (encSHole false))), (101, .vec false 79 2 (r50.2.map (encSHole true)))] mix (by
  refine W.run Dk 2 108 (by kernel_rfl) ?_
  refine W.call (AC.gs (ml_markHoleS_ok 79 N 1 r16.1 hx74) (by decide)) cok23 [(101, 0)] [(0, 101)] [] (show LayOk _ [] from trivial) (by kernel_rfl) (by kernel_rfl) ?_
  refine W.run Dk 1 108 (by kernel_rfl) ?_
  exact W.fi (by kernel_rfl)
  ) ?_
 refine cu Dk mix 1 108 (tl 119 [(0, .sl false false (a0.map (eSN false))), (1, .sl false false (a1.map (eSN false))), (6, .own 100), (7, V.b r10.2), (10, .own 101), (13, V.i r50.1), (14, V.i 1)]) [(100, .vec false 79 2 (r10.1.map (encSHole false))), (101, .vec false 79 2 (r50.2.map (encSHole true)))] (by kernel_rfl) ?_
 (revert h; refine bR fun r52 hx76 h => ?_)
 refine CO.cutR (tl 119 [(0, .sl false false (a0.map (eSN false))), (1, .sl false false (a1.map (eSN false))), (6, .own 100), (7, V.b r10.2), (10, .own 101), (13, V.i r50.1), (14, V.i r52)]) [(100, .vec false 79 2 (r10.1.map (encSHole false))), (101, .vec false 79 2 (r50.2.map (encSHole true)))] mix (by
  refine W.run Dk 2 108 (by kernel_rfl) ?_
  refine W.lend (AC.gs (ml_heldHoleS_ok N r50.2 1 hx76) (by decide)) cok24 [] [] (LayOk.cons (j := 101) (encSHole true) (encSHole false) r50.2 (by kernel_rfl) (share_encSHole _) (show LayOk _ [] from trivial)) (.c _) .nil (by kernel_rfl) (by kernel_rfl) ?_
  refine W.run Dk 1 108 (by kernel_rfl) ?_
  exact W.fi (by kernel_rfl)
  ) ?_
 refine CO.seq' ?_
 refine cu Dk mix 2 108 (tl 119 [(0, .sl false false (a0.map (eSN false))), (1, .sl false false (a1.map (eSN false))), (6, .own 100), (7, V.b r10.2), (10, .own 101), (13, V.i r50.1), (14, V.i r52), (90, V.b (decide (r52 < 0)))]) [(100, .vec false 79 2 (r10.1.map (encSHole false))), (101, .vec false 79 2 (r50.2.map (encSHole true)))] (by kernel_rfl) ?_
 (revert h; refine cR (fun hc78 h => ?_) (fun hc78 h => ?_))
 ·refine CO.ifT hc78 (by kernel_rfl) ?_
  refine cu Dk mix 1 108 (tl 119 [(4, V.b false)]) [] (by kernel_rfl) ?_
  refine CO.ret ?_
  have h := Option.some.inj h
  subst h
  exact Ends.gen [] (.inr rfl) (RetV.one rfl (OneR.t (t := 4) (r := V.b false) (by kernel_rfl))) (by kernel_rfl) (by kernel_rfl) (by kernel_rfl)
 refine CO.ifF hc78 (by kernel_rfl) ?_
 refine CO.skip ?_
 refine CO.seq' ?_
 refine cu Dk mix 3 108 (tl 119 [(0, .sl false false (a0.map (eSN false))), (1, .sl false false (a1.map (eSN false))), (6, .own 100), (7, V.b r10.2), (10, .own 101), (13, V.i r50.1), (93, V.b (r52 != r50.1))]) [(100, .vec false 79 2 (r10.1.map (encSHole false))), (101, .vec false 79 2 (r50.2.map (encSHole true)))] (by kernel_rfl) ?_
 (revert h; refine cR (fun hc80 h => ?_) (fun hc80 h => ?_))
 ·refine CO.ifT hc80 (by kernel_rfl) ?_
  refine cu Dk mix 1 108 (tl 119 [(4, V.b false)]) [] (by kernel_rfl) ?_
  refine CO.ret ?_
  have h := Option.some.inj h
  subst h
  exact Ends.gen [] (.inr rfl) (RetV.one rfl (OneR.t (t := 4) (r := V.b false) (by kernel_rfl))) (by kernel_rfl) (by kernel_rfl) (by kernel_rfl)
 refine CO.ifF hc80 (by kernel_rfl) ?_
 refine CO.skip ?_
 (revert h; refine bR fun r56 hx84 h => ?_)
 (revert h; refine bR fun r57 hx85 h => ?_)
 (revert h; refine bR fun r58 hx86 h => ?_)
 refine CO.cutR (tl 119 [(6, .own 100), (7, V.b r10.2), (10, .own 101), (13, V.i r50.1), (15, .own 110), (16, V.b r58.2)]) [(110, .vec false 79 2 (r58.1.map (encSHole true))), (100, .vec false 79 2 (r10.1.map (encSHole false))), (101, .vec false 79 2 (r50.2.map (encSHole true)))] mix (by
  refine W.run Dk 1 108 (by kernel_rfl) ?_
  refine W.call (AC.gs (ml_toNodeS_ok N a0 hx84) (by decide)) cok15 [] [(100, 108)] [108] (show LayOk _ [] from trivial) (by kernel_rfl) (by kernel_rfl) ?_
  refine W.run Dk 1 109 (by kernel_rfl) ?_
  refine W.call (AC.gs (ml_toNodeS_ok N a1 hx85) (by decide)) cok15 [] [(100, 109)] [109] (show LayOk _ [] from trivial) (by kernel_rfl) (by kernel_rfl) ?_
  refine W.lend (mi_Match_ok N r56 r57 hx86) cok21 [(100, 110)] [110] (LayOk.cons (j := 108) (eSN true) (eSN false) r56 (by kernel_rfl) (sh_eSN _) (LayOk.cons (j := 109) (eSN true) (eSN false) r57 (by kernel_rfl) (sh_eSN _) (show LayOk _ [] from trivial))) (.tup _ (.cons (.own _) (.cons (.c _) .nil))) (.cons (DeepR.map (fun _ => (.cons (.c _) (.cons (.sl _ _ (DeepR.map (fun _ => (.cons (.c _) (.cons (.c _) (.cons (.c _) (.cons (.c _) (.cons (.sl _ _ (DeepR.map (fun _ => (.cons (.c _) .nil)) _)) .nil)))))) _)) .nil))) _) .nil) (by kernel_rfl) (by kernel_rfl) ?_
  refine W.run Dk 5 111 (by kernel_rfl) ?_
  exact W.fi (by kernel_rfl)
  ) ?_
 refine CO.seq' ?_
 (revert h; refine bR fun y63 hv95 h => ?_)
 refine CO.cutR (tl 119 [(10, .own 100), (13, V.i r50.1), (110, V.b y63)]) [(100, .vec false 79 2 (r50.2.map (encSHole true)))] mix (by
  refine W.run Dk 2 111 (by kernel_rfl) ?_
  (revert hv95; refine bR fun r64 hx96 hv95 => ?_)
  refine W.lend (AC.gs (ml_eqHoleS_ok N r58.1 r10.1 hx96) (by decide)) cok22 [] [] (LayOk.cons (j := 110) (encSHole true) (encSHole false) r58.1 (by kernel_rfl) (share_encSHole _) (LayOk.cons (j := 100) (encSHole false) (encSHole false) r10.1 (by kernel_rfl) (share_encSHole _) (show LayOk _ [] from trivial))) (.c _) .nil (by kernel_rfl) (by kernel_rfl) ?_
  refine W.run Dk 2 111 (by kernel_rfl) ?_
  (revert hv95; refine cR (fun hc97 hv95 => ?_) (fun hc97 hv95 => ?_))
  ·refine W.is 106 hc97 (by kernel_rfl) ?_
   refine W.run Dk 4 111 (by kernel_rfl) ?_
   have hv95 := Option.some.inj hv95
   subst hv95
   exact W.fs [(101, 100)] [10, 13, 110] (by kernel_rfl)
  refine W.is 106 hc97 (by kernel_rfl) ?_
  refine W.run Dk 4 111 (by kernel_rfl) ?_
  have hv95 := Option.some.inj hv95
  subst hv95
  exact W.fs [(101, 100)] [10, 13, 110] (by kernel_rfl)
  ) ?_
 (revert h; refine cR (fun hc98 h => ?_) (fun hc98 h => ?_))
 ·refine CO.ifT hc98 (by kernel_rfl) ?_
  refine cu Dk mix 1 111 (tl 119 [(4, V.b false)]) [] (by kernel_rfl) ?_
  refine CO.ret ?_
  have h := Option.some.inj h
  subst h
  exact Ends.gen [] (.inr rfl) (RetV.one rfl (OneR.t (t := 4) (r := V.b false) (by kernel_rfl))) (by kernel_rfl) (by kernel_rfl) (by kernel_rfl)
 refine CO.ifF hc98 (by kernel_rfl) ?_
 refine CO.skip ?_
 refine cu Dk mix 1 111 (tl 119 [(10, .own 100), (13, V.i r50.1), (14, V.i 1)]) [(100, .vec false 79 2 (r50.2.map (encSHole true)))] (by kernel_rfl) ?_
 (revert h; refine bR fun r66 hx100 h => ?_)
 refine CO.cutR (tl 119 [(13, V.i r50.1), (14, V.i r66)]) [] mix (by
  refine W.run Dk 2 111 (by kernel_rfl) ?_
  refine W.lend (AC.gs (ml_heldHoleS_ok N r50.2 1 hx100) (by decide)) cok24 [] [] (LayOk.cons (j := 100) (encSHole true) (encSHole false) r50.2 (by kernel_rfl) (share_encSHole _) (show LayOk _ [] from trivial)) (.c _) .nil (by kernel_rfl) (by kernel_rfl) ?_
  refine W.run Dk 1 111 (by kernel_rfl) ?_
  exact W.fi (by kernel_rfl)
  ) ?_
 refine CO.seq' ?_
 refine cu Dk mix 2 111 (tl 119 [(13, V.i r50.1), (14, V.i r66), (115, V.b (decide (r66 < 0)))]) [] (by kernel_rfl) ?_
 (revert h; refine cR (fun hc102 h => ?_) (fun hc102 h => ?_))
 ·refine CO.ifT hc102 (by kernel_rfl) ?_
  refine cu Dk mix 1 111 (tl 119 [(4, V.b false)]) [] (by kernel_rfl) ?_
  refine CO.ret ?_
  have h := Option.some.inj h
  subst h
  exact Ends.gen [] (.inr rfl) (RetV.one rfl (OneR.t (t := 4) (r := V.b false) (by kernel_rfl))) (by kernel_rfl) (by kernel_rfl) (by kernel_rfl)
 refine CO.ifF hc102 (by kernel_rfl) ?_
 refine CO.skip ?_
 refine CO.seq' ?_
 refine cu Dk mix 3 111 (tl 119 [(118, V.b (r66 != r50.1))]) [] (by kernel_rfl) ?_
 (revert h; refine cR (fun hc104 h => ?_) (fun hc104 h => ?_))
 ·refine CO.ifT hc104 (by kernel_rfl) ?_
  refine cu Dk mix 1 111 (tl 119 [(4, V.b false)]) [] (by kernel_rfl) ?_
  refine CO.ret ?_
  have h := Option.some.inj h
  subst h
  exact Ends.gen [] (.inr rfl) (RetV.one rfl (OneR.t (t := 4) (r := V.b false) (by kernel_rfl))) (by kernel_rfl) (by kernel_rfl) (by kernel_rfl)
 refine CO.ifF hc104 (by kernel_rfl) ?_
 refine CO.skip ?_
 refine cu Dk mix 1 111 (tl 119 [(4, V.b true)]) [] (by kernel_rfl) ?_
 refine CO.ret ?_
 have h := Option.some.inj h
 subst h
 exact Ends.gen [] (.inr rfl) (RetV.one rfl (OneR.t (t := 4) (r := V.b true) (by kernel_rfl))) (by kernel_rfl) (by kernel_rfl) (by kernel_rfl)

end Go.Proofs.Tryz
