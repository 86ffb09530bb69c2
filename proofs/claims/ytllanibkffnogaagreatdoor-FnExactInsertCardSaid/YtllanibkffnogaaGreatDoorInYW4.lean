/-
  The walks that show that the code computes the models, part 4.
-/
import Derived.Test.YtllanibkffnogaaGreatDoorInYW3
namespace Go.Proofs.Tryz
open Go.Av
set_option maxRecDepth 100000
set_option maxHeartbeats 8000000
set_option linter.unusedSimpArgs false
set_option linter.unusedVariables false

theorem ml_eqNodeS_ok (N : Nat) (a0 : List SNode) (a1 : List SNode) {r : Bool} (h : ml_eqNodeS N a0 a1 = some r) :
    AC Tryz.prog (GS []) 10 [.sl false false (a0.map (eSN false)), .sl false false (a1.map (eSN false))] [] (V.b r) [] := by
 rw [ml_eqNodeS] at h
 refine AC.enter Tryz.func10 rfl ?_
 refine cU 1 100 (tl 27 [(0, .sl false false (a0.map (eSN false))), (1, .sl false false (a1.map (eSN false)))]) [] ?_
 refine CO.seq' ?_
 refine CO.cutR (tl 27 [(0, .sl false false (a0.map (eSN false))), (1, .sl false false (a1.map (eSN false))), (10, V.b ((a0.length : Int) != (a1.length : Int)))]) [] mix (by
  refine wR 1 100 ?_
  refine W.len Dk (eSN false) a0 [] (by kernel_rfl) (by kernel_rfl) ?_
  refine wR 1 100 ?_
  refine W.len Dk (eSN false) a1 [] (by kernel_rfl) (by kernel_rfl) ?_
  refine wR 1 100 ?_
  exact fI
  ) ?_
 refine bC h (fun hc2 h => ?_) (fun hc2 h => ?_)
 ·refine iT hc2 ?_
  refine cU 1 100 (tl 27 [(4, V.b false)]) [] ?_
  refine CO.ret ?_
  have h := sI h
  subst h
  exact eG [] (.inr rfl) (RetV.one rfl (oT (t := 4) (r := V.b false)))
 refine iF hc2 ?_
 refine CO.skip ?_
 refine CO.seq' ?_
 refine cU 1 100 (tl 27 [(0, .sl false false (a0.map (eSN false))), (1, .sl false false (a1.map (eSN false))), (5, V.i 0)]) [] ?_
 refine CO.block' ?_
 refine CO.loopJ (fun (⟨a0, a1, y51⟩ : ((List SNode) × (List SNode) × Int)) => ⟨tl 27 [(0, .sl false false (a0.map (eSN false))), (1, .sl false false (a1.map (eSN false))), (5, V.i y51)], []⟩) (fun n i => ml_eqNodeS_l1 N n i = some r) (n0 := N) (i0 := (a0, a1, 0)) (wS [] [0, 1, 5]) h (fun i h => by simp [ml_eqNodeS_l1] at h) ?_
 rintro n1 ⟨a0, a1, y51⟩ h85 ih86
 rw [ml_eqNodeS_l1] at h85
 refine CO.seq' ?_
 refine CO.cutR (tl 27 [(0, .sl false false (a0.map (eSN false))), (1, .sl false false (a1.map (eSN false))), (5, V.i y51), (14, V.b (decide (y51 < (a0.length : Int))))]) [] mix (by
  refine wR 2 160 ?_
  refine W.len Dk (eSN false) a0 [] (by kernel_rfl) (by kernel_rfl) ?_
  refine wR 1 160 ?_
  exact fI
  ) ?_
 refine bC h85 (fun hc88 h85 => ?_) (fun hc88 h85 => ?_)
 ·refine iT hc88 ?_
  refine CO.skip ?_
  refine CO.seq' ?_
  refine CO.block' ?_
  refine bB h85 fun e74 hx99 h85 => ?_
  refine bB h85 fun e75 hx100 h85 => ?_
  refine bB h85 fun r76 hx101 h85 => ?_
  refine CO.cutR (tl 27 [(0, .sl false false (a0.map (eSN false))), (1, .sl false false (a1.map (eSN false))), (5, V.i y51), (26, V.b (!r76))]) [] mix (by
   refine wR 2 160 ?_
   refine W.ixD Dk (eSN false) hx99 5 (by kernel_rfl) (by kernel_rfl) ?_
   refine wR 3 160 ?_
   refine W.ixD Dk (eSN false) hx100 5 (by kernel_rfl) (by kernel_rfl) ?_
   refine wR 1 160 ?_
   refine W.call0 (ml_eqNode_ok N e74 e75 hx101) cok38 rfl (by kernel_rfl) ?_
   refine wR 1 160 ?_
   exact fI
   ) ?_
  refine bC h85 (fun hc102 h85 => ?_) (fun hc102 h85 => ?_)
  ·refine iT hc102 ?_
   refine cU 1 160 (tl 27 [(4, V.b false)]) [] ?_
   refine CO.ret ?_
   have h85 := sI h85
   subst h85
   exact eG [] (.inr rfl) (RetV.one rfl (oT (t := 4) (r := V.b false)))
  refine iF hc102 ?_
  refine CO.skip ?_
  refine cE 3 160 (tl 27 [(0, .sl false false (a0.map (eSN false))), (1, .sl false false (a1.map (eSN false))), (5, V.i (IntKind.wrap .i64 (y51 + 1)))]) [] (fun st hw => ?_)
  exact ih86 (a0, a1, (IntKind.wrap .i64 (y51 + 1))) h85 _ (hw.trans (wS [] [0, 1, 5]))
 refine iF hc88 ?_
 refine CO.exit ?_
 refine cU 1 160 (tl 27 [(4, V.b true)]) [] ?_
 refine CO.ret ?_
 have h85 := sI h85
 subst h85
 exact eG [] (.inr rfl) (RetV.one rfl (oT (t := 4) (r := V.b true)))

theorem ml_markText_ok (N : Nat) (a0 : Int) {r : (List UInt8)} (h : ml_markText N a0 = some r) :
    AC Tryz.prog (GS []) 39 [V.i a0] [] (V.s r) [] := by
 rw [ml_markText] at h
 refine AC.enter Tryz.func39 rfl ?_
 refine cU 1 100 (tl 20 [(0, V.i a0)]) [] ?_
 refine CO.seq' ?_
 refine cU 2 100 (tl 20 [(0, V.i a0), (5, V.b (decide (a0 ≤ 0)))]) [] ?_
 refine bC h (fun hc2 h => ?_) (fun hc2 h => ?_)
 ·refine iT hc2 ?_
  refine cU 1 100 (tl 20 [(2, V.s [109, 48])]) [] ?_
  refine CO.ret ?_
  have h := sI h
  subst h
  exact eG [] (.inr rfl) (RetV.one rfl (oT (t := 2) (r := V.s [109, 48])))
 refine iF hc2 ?_
 refine CO.skip ?_
 refine cU 1 100 (tl 20 [(0, V.i a0), (3, V.s [])]) [] ?_
 refine CO.seq' ?_
 refine CO.block' ?_
 refine CO.loopJ (fun (⟨y13, y14⟩ : (Int × (List UInt8))) => ⟨tl 20 [(0, V.i y13), (3, V.s y14)], []⟩) (fun n i => ml_markText_l1 N n i = some r) (n0 := N) (i0 := (a0, [])) (wS [] [0, 3]) h (fun i h => by simp [ml_markText_l1] at h) ?_
 rintro n1 ⟨y13, y14⟩ h25 ih26
 rw [ml_markText_l1] at h25
 refine CO.seq' ?_
 refine cU 2 162 (tl 20 [(0, V.i y13), (3, V.s y14), (7, V.b (decide (y13 > 0)))]) [] ?_
 refine bC h25 (fun hc28 h25 => ?_) (fun hc28 h25 => ?_)
 ·refine iT hc28 ?_
  refine CO.skip ?_
  refine CO.block' ?_
  refine bB h25 fun s20 hx30 h25 => ?_
  refine CO.cutR (tl 20 [(0, V.i y13), (3, V.s s20)]) [] mix (by
   refine wR 4 162 ?_
   refine wR 1 162 ?_
   refine W.vecEq 162 (nn := true) (e := 5) (k := 1) (rows := [[.c (.int .u8 (IntKind.wrap .u8 (IntKind.wrap .i64 (48 + (Int.tmod y13 10)))))]]) (rows' := [(bytI (IntKind.wrap .i64 (48 + (Int.tmod y13 10))))].map byteRow) (by kernel_rfl) (by first | (simp only [List.map_cons, List.map_nil, ← bytI_row]; done) | (simp only [List.map_cons, List.map_nil, ← bytI_row]; rfl)) ?_
   refine W.strO Dk ([(bytI (IntKind.wrap .i64 (48 + (Int.tmod y13 10))))] : List UInt8) (a := 162) (by kernel_rfl) ?_
   refine wR 1 163 ?_
   refine W.cat hx30 (by kernel_rfl) ?_
   refine wR 1 163 ?_
   exact fI
   ) ?_
  refine cE 3 163 (tl 20 [(0, V.i (IntKind.wrap .i64 (Int.tdiv y13 10))), (3, V.s s20)]) [] (fun st hw => ?_)
  exact ih26 ((IntKind.wrap .i64 (Int.tdiv y13 10)), s20) h25 _ (hw.trans (wS [] [0, 3]))
 refine iF hc28 ?_
 refine CO.exit ?_
 refine bB h25 fun s22 hx32 h25 => ?_
 refine CO.cutR (tl 20 [(2, V.s s22)]) [] mix (by
  refine wR 1 162 ?_
  refine W.cat hx32 (by kernel_rfl) ?_
  refine wR 1 162 ?_
  exact fI
  ) ?_
 refine CO.ret ?_
 have h25 := sI h25
 subst h25
 exact eG [] (.inr rfl) (RetV.one rfl (oT (t := 2) (r := V.s s22)))

theorem ml_markIntS_ok (e0 : TypeId) (N : Nat) (a1 : Int) (p0 : List Int) {r : (Int × (List Int))} (h : ml_markIntS N a1 p0 = some r) :
    AC Tryz.prog (GS []) 18 [.own 0, V.i a1] [(0, .vec false e0 1 (p0.map encI))] (V.i r.1) [(0, .vec false e0 1 (r.2.map encI))] := by
 rw [ml_markIntS] at h
 refine AC.enter Tryz.func18 rfl ?_
 refine cU 1 100 (tl 19 [(0, .own 0), (1, V.i a1)]) [(0, .vec false e0 1 (p0.map encI))] ?_
 refine CO.seq' ?_
 refine cU 1 100 (tl 19 [(0, .own 0), (1, V.i a1), (5, V.i 0)]) [(0, .vec false e0 1 (p0.map encI))] ?_
 refine CO.block' ?_
 refine CO.loopJ (fun (⟨y39, y40, y41⟩ : (Int × Int × (List Int))) => ⟨tl 19 [(0, .own 0), (1, V.i y39), (5, V.i y40)], [(0, .vec false e0 1 (y41.map encI))]⟩) (fun n i => ml_markIntS_l1 N n i = some r) (n0 := N) (i0 := (a1, 0, p0)) (wS [(0, 0)] [0, 1, 5]) h (fun i h => by simp [ml_markIntS_l1] at h) ?_
 rintro n1 ⟨y39, y40, y41⟩ h53 ih54
 rw [ml_markIntS_l1] at h53
 refine CO.seq' ?_
 refine CO.cutR (tl 19 [(0, .own 0), (1, V.i y39), (5, V.i y40), (9, V.b (decide (y40 < (y41.length : Int))))]) [(0, .vec false e0 1 (y41.map encI))] mix (by
  refine wR 2 160 ?_
  refine W.len Dk encI y41 [0] (by kernel_rfl) (by kernel_rfl) ?_
  refine wR 1 160 ?_
  exact fI
  ) ?_
 refine bC h53 (fun hc56 h53 => ?_) (fun hc56 h53 => ?_)
 ·refine iT hc56 ?_
  refine CO.skip ?_
  refine CO.seq' ?_
  refine CO.block' ?_
  refine bB h53 fun e59 hx63 h53 => ?_
  refine bB h53 fun x60 hu64 h53 => ?_
  refine CO.cutR (tl 19 [(0, .own 0), (1, V.i y39), (5, V.i y40)]) [(0, .vec false e0 1 (x60.map encI))] mix (by
   refine wR 3 160 ?_
   refine W.ixO Dk encI hx63 0 1 (by kernel_rfl) ?_
   refine W.stO Dk encI (x' := y39) hx63 hu64 (j := 0) (nn := false) (ety := e0) (sz := 1) (b := 0) (ys := [V.i y39]) (C := []) (R := []) (by kernel_rfl) (by kernel_rfl) ?_
   exact fI
   ) ?_
  refine cE 3 160 (tl 19 [(0, .own 0), (1, V.i (IntKind.wrap .i64 (y39 + 1))), (5, V.i y40)]) [(0, .vec false e0 1 (x60.map encI))] (fun st hw => ?_)
  refine CO.weak hw ?_
  refine cE 3 160 (tl 19 [(0, .own 0), (1, V.i (IntKind.wrap .i64 (y39 + 1))), (5, V.i (IntKind.wrap .i64 (y40 + 1)))]) [(0, .vec false e0 1 (x60.map encI))] (fun st hw => ?_)
  exact ih54 ((IntKind.wrap .i64 (y39 + 1)), (IntKind.wrap .i64 (y40 + 1)), x60) h53 _ (hw.trans (wS [(0, 0)] [0, 1, 5]))
 refine iF hc56 ?_
 refine CO.exit ?_
 refine cU 2 160 (tl 19 [(4, V.i y39)]) [(0, .vec false e0 1 (y41.map encI))] ?_
 refine CO.ret ?_
 have h53 := sI h53
 subst h53
 exact eG [(0, 0)] (.inr rfl) (RetV.one rfl (oT (t := 4) (r := V.i y39)))

theorem ml_markIntS_v2_ok (N : Nat) (a1 : Int) {r : Int} (h : ml_markIntS_v2 N a1 = some r) :
    AC Tryz.prog (GS []) 18 [.sl false false ([].map encI), V.i a1] [] (V.i r) [] := by
 rw [ml_markIntS_v2] at h
 refine AC.enter Tryz.func18 rfl ?_
 refine cU 1 100 (tl 19 [(0, .sl false false ([].map encI)), (1, V.i a1)]) [] ?_
 refine CO.seq' ?_
 refine cU 1 100 (tl 19 [(0, .sl false false ([].map encI)), (1, V.i a1), (5, V.i 0)]) [] ?_
 refine CO.block' ?_
 refine CO.loopJ (fun (a1 : Int) => ⟨tl 19 [(0, .sl false false ([].map encI)), (1, V.i a1), (5, V.i 0)], []⟩) (fun n i => ml_markIntS_v2_l1 N n i = some r) (n0 := N) (i0 := a1) (wS [] [0, 1, 5]) h (fun i h => by simp [ml_markIntS_v2_l1] at h) ?_
 rintro n1 a1 h3 ih4
 rw [ml_markIntS_v2_l1] at h3
 refine CO.seq' ?_
 refine CO.cutR (tl 19 [(0, .sl false false ([].map encI)), (1, V.i a1), (5, V.i 0), (9, V.b false)]) [] mix (by
  refine wR 2 120 ?_
  refine W.len Dk encI [] [] (by kernel_rfl) (by kernel_rfl) ?_
  refine wR 1 120 ?_
  exact fI
  ) ?_
 refine CO.ifF (c := false) rfl (by kernel_rfl) ?_
 refine CO.exit ?_
 refine cU 2 120 (tl 19 [(4, V.i a1)]) [] ?_
 refine CO.ret ?_
 have h3 := sI h3
 subst h3
 exact eG [] (.inr rfl) (RetV.one rfl (oT (t := 4) (r := V.i a1)))

theorem ml_markIntS_nil (N : Nat) (k : Int) (l : List Int) {r : (Int × (List Int))} (h : ml_markIntS N k l = some r) (hl : l = []) :
    r.2.map encI = [] ∧ AC Tryz.prog (GS []) 18 [.sl false false [], V.i k] [] (V.i r.1) [] := by
  subst hl
  have h2 : r.2 = [] ∧ ml_markIntS_v2 N k = some r.1 := by
    cases N with
    | zero => simp [ml_markIntS_l1, ml_markIntS] at h
    | succ N =>
      simp [ml_markIntS_l1, ml_markIntS] at h
      subst h
      simp [ml_markIntS_v2_l1, ml_markIntS_v2]
  exact ⟨by rw [h2.1]; rfl, ml_markIntS_v2_ok N k h2.2⟩

theorem ml_markNodeS_ok (e0 : TypeId) (N : Nat) (a1 : Int) (p0 : List SNode) {r : (Int × (List SNode))} (h : ml_markNodeS N a1 p0 = some r) :
    AC Tryz.prog (GS []) 11 [.own 0, V.i a1] [(0, .vec false e0 5 (p0.map (eSN true)))] (V.i r.1) [(0, .vec false e0 5 (r.2.map (eSN true)))] := by
 rw [ml_markNodeS] at h
 refine AC.enter Tryz.func11 rfl ?_
 refine cU 1 100 (tl 50 [(0, .own 0), (1, V.i a1)]) [(0, .vec false e0 5 (p0.map (eSN true)))] ?_
 refine CO.seq' ?_
 refine cU 1 100 (tl 50 [(0, .own 0), (1, V.i a1), (5, V.i 0)]) [(0, .vec false e0 5 (p0.map (eSN true)))] ?_
 refine CO.block' ?_
 refine CO.loopJ (fun (⟨y191, y192, y193⟩ : (Int × Int × (List SNode))) => ⟨tl 50 [(0, .own 0), (1, V.i y191), (5, V.i y192)], [(0, .vec false e0 5 (y193.map (eSN true)))]⟩) (fun n i => ml_markNodeS_l1 N n i = some r) (n0 := N) (i0 := (a1, 0, p0)) (wS [(0, 0)] [0, 1, 5]) h (fun i h => by simp [ml_markNodeS_l1] at h) ?_
 rintro n1 ⟨y191, y192, y193⟩ h243 ih244
 rw [ml_markNodeS_l1] at h243
 refine CO.seq' ?_
 refine CO.cutR (tl 50 [(0, .own 0), (1, V.i y191), (5, V.i y192), (9, V.b (decide (y192 < (y193.length : Int))))]) [(0, .vec false e0 5 (y193.map (eSN true)))] mix (by
  refine wR 2 160 ?_
  refine W.len Dk (eSN true) y193 [0] (by kernel_rfl) (by kernel_rfl) ?_
  refine wR 1 160 ?_
  exact fI
  ) ?_
 refine bC h243 (fun hc246 h243 => ?_) (fun hc246 h243 => ?_)
 ·refine iT hc246 ?_
  refine CO.skip ?_
  refine CO.seq' ?_
  refine CO.block' ?_
  refine bB h243 fun e268 hx272 h243 => ?_
  refine bB h243 fun x269 hu273 h243 => ?_
  refine CO.cutR (tl 50 [(0, .own 0), (1, V.i y191), (5, V.i y192)]) [(0, .vec false e0 5 (x269.map (eSN true)))] mix (by
   refine wR 3 160 ?_
   refine W.ixO Dk (eSN true) hx272 0 5 (by kernel_rfl) ?_
   refine wR 1 160 ?_
   refine W.stO Dk (eSN true) (x' := (⟨y191, e268.Op, e268.Text, e268.Other, e268.Kids⟩ : SNode)) hx272 hu273 (j := 0) (nn := false) (ety := e0) (sz := 5) (b := 0) (ys := [V.i y191]) (C := []) (R := []) (by kernel_rfl) (by kernel_rfl) ?_
   exact fI
   ) ?_
  refine cU 3 160 (tl 50 [(0, .own 0), (1, V.i (IntKind.wrap .i64 (y191 + 1))), (5, V.i y192)]) [(0, .vec false e0 5 (x269.map (eSN true)))] ?_
  refine bB h243 fun e272 hx276 h243 => ?_
  refine bB h243 fun x273 hu277 h243 => ?_
  refine CO.cutR (tl 50 [(0, .own 0), (1, V.i (IntKind.wrap .i64 (y191 + 1))), (5, V.i y192)]) [(0, .vec false e0 5 (x273.map (eSN true)))] mix (by
   refine wR 3 160 ?_
   refine W.ixO Dk (eSN true) hx276 0 5 (by kernel_rfl) ?_
   refine wR 1 160 ?_
   refine W.stO Dk (eSN true) (x' := (⟨e272.Kind, (IntKind.wrap .i64 (y191 + 1)), e272.Text, e272.Other, e272.Kids⟩ : SNode)) hx276 hu277 (j := 0) (nn := false) (ety := e0) (sz := 5) (b := 1) (ys := [V.i (IntKind.wrap .i64 (y191 + 1))]) (C := []) (R := []) (by kernel_rfl) (by kernel_rfl) ?_
   exact fI
   ) ?_
  refine cU 3 160 (tl 50 [(0, .own 0), (1, V.i (IntKind.wrap .i64 ((IntKind.wrap .i64 (y191 + 1)) + 1))), (5, V.i y192)]) [(0, .vec false e0 5 (x273.map (eSN true)))] ?_
  refine bB h243 fun r277 hx281 h243 => ?_
  refine bB h243 fun e278 hx282 h243 => ?_
  refine bB h243 fun x279 hu283 h243 => ?_
  refine CO.cutR (tl 50 [(0, .own 0), (1, V.i (IntKind.wrap .i64 ((IntKind.wrap .i64 (y191 + 1)) + 1))), (5, V.i y192)]) [(0, .vec false e0 5 (x279.map (eSN true)))] mix (by
   refine wR 3 160 ?_
   refine W.call0 (ml_markText_ok N (IntKind.wrap .i64 ((IntKind.wrap .i64 (y191 + 1)) + 1)) hx281) cok39 rfl (by kernel_rfl) ?_
   refine W.ixO Dk (eSN true) hx282 0 5 (by kernel_rfl) ?_
   refine wR 1 160 ?_
   refine W.stO Dk (eSN true) (x' := (⟨e278.Kind, e278.Op, r277, e278.Other, e278.Kids⟩ : SNode)) hx282 hu283 (j := 0) (nn := false) (ety := e0) (sz := 5) (b := 2) (ys := [V.s r277]) (C := []) (R := []) (by kernel_rfl) (by kernel_rfl) ?_
   exact fI
   ) ?_
  refine cU 3 160 (tl 50 [(0, .own 0), (1, V.i (IntKind.wrap .i64 ((IntKind.wrap .i64 ((IntKind.wrap .i64 (y191 + 1)) + 1)) + 1))), (5, V.i y192)]) [(0, .vec false e0 5 (x279.map (eSN true)))] ?_
  refine bB h243 fun r283 hx287 h243 => ?_
  refine bB h243 fun e284 hx288 h243 => ?_
  refine bB h243 fun x285 hu289 h243 => ?_
  refine CO.cutR (tl 50 [(0, .own 0), (1, V.i (IntKind.wrap .i64 ((IntKind.wrap .i64 ((IntKind.wrap .i64 (y191 + 1)) + 1)) + 1))), (5, V.i y192)]) [(0, .vec false e0 5 (x285.map (eSN true)))] mix (by
   refine wR 3 160 ?_
   refine W.call0 (ml_markText_ok N (IntKind.wrap .i64 ((IntKind.wrap .i64 ((IntKind.wrap .i64 (y191 + 1)) + 1)) + 1)) hx287) cok39 rfl (by kernel_rfl) ?_
   refine W.ixO Dk (eSN true) hx288 0 5 (by kernel_rfl) ?_
   refine wR 1 160 ?_
   refine W.stO Dk (eSN true) (x' := (⟨e284.Kind, e284.Op, e284.Text, r283, e284.Kids⟩ : SNode)) hx288 hu289 (j := 0) (nn := false) (ety := e0) (sz := 5) (b := 3) (ys := [V.s r283]) (C := []) (R := []) (by kernel_rfl) (by kernel_rfl) ?_
   exact fI
   ) ?_
  refine cU 3 160 (tl 50 [(0, .own 0), (1, V.i (IntKind.wrap .i64 ((IntKind.wrap .i64 ((IntKind.wrap .i64 ((IntKind.wrap .i64 (y191 + 1)) + 1)) + 1)) + 1))), (5, V.i y192)]) [(0, .vec false e0 5 (x285.map (eSN true)))] ?_
  refine bB h243 fun e286 hx290 h243 => ?_
  refine bB h243 fun r287 hx291 h243 => ?_
  refine bB h243 fun x288 hu292 h243 => ?_
  refine CO.nestEnd Dk 4 (tl 50 [(0, .own 0), (1, V.i (IntKind.wrap .i64 ((IntKind.wrap .i64 ((IntKind.wrap .i64 ((IntKind.wrap .i64 (y191 + 1)) + 1)) + 1)) + 1))), (5, V.i y192), (45, .vp 0 5 y192.toNat 4)]) [(0, .vec false e0 5 (x285.map (eSN true)))] (tl 50 [(0, .own 0), (1, V.i r287.1), (5, V.i y192)]) [(0, .vec false e0 5 (x288.map (eSN true)))] (by kernel_rfl) (by
      refine wR 2 160 ?_
      refine W.ixO Dk (eSN true) hx290 0 5 (by kernel_rfl) ?_
      refine wR 1 160 ?_
      exact W.fin (by decide) (by kernel_rfl) (wS [(0, 0)] [0, 1, 5, 45])
      ) ⟨_, rfl, rfl, rfl⟩ ⟨_, rfl, rfl, rfl⟩ ⟨_, rfl, rfl, rfl⟩ cok18 (by kernel_rfl) (by kernel_rfl) (i := 0) (k := 5) (m := y192.toNat) (b := 4) (u := .int .i64 (IntKind.wrap .i64 ((IntKind.wrap .i64 ((IntKind.wrap .i64 ((IntKind.wrap .i64 (y191 + 1)) + 1)) + 1)) + 1))) (by kernel_rfl) (by kernel_rfl) (nn := false) (nn2 := false) (ety := e0) (eSN true) (x' := (⟨e286.Kind, e286.Op, e286.Text, e286.Other, r287.2⟩ : SNode)) hx290 hu292 rfl (by kernel_rfl) (srows := e286.Kids.map encI) (srows' := r287.2.map encI) (by kernel_rfl) (by kernel_rfl) (u' := .int .i64 r287.1) (k2 := 1) (fun _ e => ml_markIntS_ok e N (IntKind.wrap .i64 ((IntKind.wrap .i64 ((IntKind.wrap .i64 ((IntKind.wrap .i64 (y191 + 1)) + 1)) + 1)) + 1)) e286.Kids hx291) (fun h0 => ml_markIntS_nil N (IntKind.wrap .i64 ((IntKind.wrap .i64 ((IntKind.wrap .i64 ((IntKind.wrap .i64 (y191 + 1)) + 1)) + 1)) + 1)) e286.Kids hx291 (List.map_eq_nil_iff.1 h0)) (fun r hr => by obtain ⟨a, _, rfl⟩ := List.mem_map.1 hr; rfl) (by
      refine wR 1 160 ?_
      exact W.fin (by decide) (by kernel_rfl) (wS [(0, 0)] [0, 1, 5])
   ) (fun st hw => ?_)
  refine CO.weak hw ?_
  refine cE 3 160 (tl 50 [(0, .own 0), (1, V.i r287.1), (5, V.i (IntKind.wrap .i64 (y192 + 1)))]) [(0, .vec false e0 5 (x288.map (eSN true)))] (fun st hw => ?_)
  exact ih244 (r287.1, (IntKind.wrap .i64 (y192 + 1)), x288) h243 _ (hw.trans (wS [(0, 0)] [0, 1, 5]))
 refine iF hc246 ?_
 refine CO.exit ?_
 refine cU 2 160 (tl 50 [(4, V.i y191)]) [(0, .vec false e0 5 (y193.map (eSN true)))] ?_
 refine CO.ret ?_
 have h243 := sI h243
 subst h243
 exact eG [(0, 0)] (.inr rfl) (RetV.one rfl (oT (t := 4) (r := V.i y191)))

theorem ml_heldIntS_ok (N : Nat) (a0 : List Int) (a1 : Int) {r : Int} (h : ml_heldIntS N a0 a1 = some r) :
    AC Tryz.prog (GS []) 19 [.sl false false (a0.map encI), V.i a1] [] (V.i r) [] := by
 rw [ml_heldIntS] at h
 refine AC.enter Tryz.func19 rfl ?_
 refine cU 1 100 (tl 21 [(0, .sl false false (a0.map encI)), (1, V.i a1)]) [] ?_
 refine CO.seq' ?_
 refine cU 1 100 (tl 21 [(0, .sl false false (a0.map encI)), (1, V.i a1), (5, V.i 0)]) [] ?_
 refine CO.block' ?_
 refine CO.loopJ (fun (⟨a0, y37, y38⟩ : ((List Int) × Int × Int)) => ⟨tl 21 [(0, .sl false false (a0.map encI)), (1, V.i y37), (5, V.i y38)], []⟩) (fun n i => ml_heldIntS_l1 N n i = some r) (n0 := N) (i0 := (a0, a1, 0)) (wS [] [0, 1, 5]) h (fun i h => by simp [ml_heldIntS_l1] at h) ?_
 rintro n1 ⟨a0, y37, y38⟩ h73 ih74
 rw [ml_heldIntS_l1] at h73
 refine CO.seq' ?_
 refine CO.cutR (tl 21 [(0, .sl false false (a0.map encI)), (1, V.i y37), (5, V.i y38), (9, V.b (decide (y38 < (a0.length : Int))))]) [] mix (by
  refine wR 2 160 ?_
  refine W.len Dk encI a0 [] (by kernel_rfl) (by kernel_rfl) ?_
  refine wR 1 160 ?_
  exact fI
  ) ?_
 refine bC h73 (fun hc76 h73 => ?_) (fun hc76 h73 => ?_)
 ·refine iT hc76 ?_
  refine CO.skip ?_
  refine CO.seq' ?_
  refine CO.block' ?_
  refine CO.seq' ?_
  refine bB h73 fun e56 hx87 h73 => ?_
  refine CO.cutR (tl 21 [(0, .sl false false (a0.map encI)), (1, V.i y37), (5, V.i y38), (17, V.b (e56 != y37))]) [] mix (by
   refine wR 2 160 ?_
   refine W.ixD Dk encI hx87 1 (by kernel_rfl) (by kernel_rfl) ?_
   refine wR 3 160 ?_
   exact fI
   ) ?_
  refine bC h73 (fun hc88 h73 => ?_) (fun hc88 h73 => ?_)
  ·refine iT hc88 ?_
   refine cU 1 160 (tl 21 [(4, V.i (-1))]) [] ?_
   refine CO.ret ?_
   have h73 := sI h73
   subst h73
   exact eG [] (.inr rfl) (RetV.one rfl (oT (t := 4) (r := V.i (-1))))
  refine iF hc88 ?_
  refine CO.skip ?_
  refine cE 3 160 (tl 21 [(0, .sl false false (a0.map encI)), (1, V.i (IntKind.wrap .i64 (y37 + 1))), (5, V.i y38)]) [] (fun st hw => ?_)
  refine CO.weak hw ?_
  refine cE 3 160 (tl 21 [(0, .sl false false (a0.map encI)), (1, V.i (IntKind.wrap .i64 (y37 + 1))), (5, V.i (IntKind.wrap .i64 (y38 + 1)))]) [] (fun st hw => ?_)
  exact ih74 (a0, (IntKind.wrap .i64 (y37 + 1)), (IntKind.wrap .i64 (y38 + 1))) h73 _ (hw.trans (wS [] [0, 1, 5]))
 refine iF hc76 ?_
 refine CO.exit ?_
 refine cU 2 160 (tl 21 [(4, V.i y37)]) [] ?_
 refine CO.ret ?_
 have h73 := sI h73
 subst h73
 exact eG [] (.inr rfl) (RetV.one rfl (oT (t := 4) (r := V.i y37)))

theorem ml_heldNodeS_ok (N : Nat) (a0 : List SNode) (a1 : Int) {r : Int} (h : ml_heldNodeS N a0 a1 = some r) :
    AC Tryz.prog (GS []) 12 [.sl false false (a0.map (eSN false)), V.i a1] [] (V.i r) [] := by
 rw [ml_heldNodeS] at h
 refine AC.enter Tryz.func12 rfl ?_
 refine cU 1 100 (tl 60 [(0, .sl false false (a0.map (eSN false))), (1, V.i a1)]) [] ?_
 refine CO.seq' ?_
 refine cU 1 100 (tl 60 [(0, .sl false false (a0.map (eSN false))), (1, V.i a1), (5, V.i 0)]) [] ?_
 refine CO.block' ?_
 refine CO.loopJ (fun (⟨a0, y229, y230⟩ : ((List SNode) × Int × Int)) => ⟨tl 60 [(0, .sl false false (a0.map (eSN false))), (1, V.i y229), (5, V.i y230)], []⟩) (fun n i => ml_heldNodeS_l1 N n i = some r) (n0 := N) (i0 := (a0, a1, 0)) (wS [] [0, 1, 5]) h (fun i h => by simp [ml_heldNodeS_l1] at h) ?_
 rintro n1 ⟨a0, y229, y230⟩ h383 ih384
 rw [ml_heldNodeS_l1] at h383
 refine CO.seq' ?_
 refine CO.cutR (tl 60 [(0, .sl false false (a0.map (eSN false))), (1, V.i y229), (5, V.i y230), (9, V.b (decide (y230 < (a0.length : Int))))]) [] mix (by
  refine wR 2 160 ?_
  refine W.len Dk (eSN false) a0 [] (by kernel_rfl) (by kernel_rfl) ?_
  refine wR 1 160 ?_
  exact fI
  ) ?_
 refine bC h383 (fun hc386 h383 => ?_) (fun hc386 h383 => ?_)
 ·refine iT hc386 ?_
  refine CO.skip ?_
  refine CO.seq' ?_
  refine CO.block' ?_
  refine CO.seq' ?_
  refine bB h383 fun e320 hx428 h383 => ?_
  refine CO.cutR (tl 60 [(0, .sl false false (a0.map (eSN false))), (1, V.i y229), (5, V.i y230), (18, V.b (e320.Kind != y229))]) [] mix (by
   refine wR 2 160 ?_
   refine W.ixD Dk (eSN false) hx428 5 (by kernel_rfl) (by kernel_rfl) ?_
   refine wR 4 160 ?_
   exact fI
   ) ?_
  refine bC h383 (fun hc429 h383 => ?_) (fun hc429 h383 => ?_)
  ·refine iT hc429 ?_
   refine cU 1 160 (tl 60 [(4, V.i (-1))]) [] ?_
   refine CO.ret ?_
   have h383 := sI h383
   subst h383
   exact eG [] (.inr rfl) (RetV.one rfl (oT (t := 4) (r := V.i (-1))))
  refine iF hc429 ?_
  refine CO.skip ?_
  refine cU 3 160 (tl 60 [(0, .sl false false (a0.map (eSN false))), (1, V.i (IntKind.wrap .i64 (y229 + 1))), (5, V.i y230)]) [] ?_
  refine CO.seq' ?_
  refine bB h383 fun e324 hx434 h383 => ?_
  refine CO.cutR (tl 60 [(0, .sl false false (a0.map (eSN false))), (1, V.i (IntKind.wrap .i64 (y229 + 1))), (5, V.i y230), (27, V.b (e324.Op != (IntKind.wrap .i64 (y229 + 1))))]) [] mix (by
   refine wR 2 160 ?_
   refine W.ixD Dk (eSN false) hx434 5 (by kernel_rfl) (by kernel_rfl) ?_
   refine wR 4 160 ?_
   exact fI
   ) ?_
  refine bC h383 (fun hc435 h383 => ?_) (fun hc435 h383 => ?_)
  ·refine iT hc435 ?_
   refine cU 1 160 (tl 60 [(4, V.i (-1))]) [] ?_
   refine CO.ret ?_
   have h383 := sI h383
   subst h383
   exact eG [] (.inr rfl) (RetV.one rfl (oT (t := 4) (r := V.i (-1))))
  refine iF hc435 ?_
  refine CO.skip ?_
  refine cU 3 160 (tl 60 [(0, .sl false false (a0.map (eSN false))), (1, V.i (IntKind.wrap .i64 ((IntKind.wrap .i64 (y229 + 1)) + 1))), (5, V.i y230)]) [] ?_
  refine CO.seq' ?_
  refine bB h383 fun e331 hx443 h383 => ?_
  refine bB h383 fun r332 hx444 h383 => ?_
  refine CO.cutR (tl 60 [(0, .sl false false (a0.map (eSN false))), (1, V.i (IntKind.wrap .i64 ((IntKind.wrap .i64 (y229 + 1)) + 1))), (5, V.i y230), (37, V.b (!(e331.Text == r332)))]) [] mix (by
   refine wR 2 160 ?_
   refine W.ixD Dk (eSN false) hx443 5 (by kernel_rfl) (by kernel_rfl) ?_
   refine wR 3 160 ?_
   refine W.call0 (ml_markText_ok N (IntKind.wrap .i64 ((IntKind.wrap .i64 (y229 + 1)) + 1)) hx444) cok39 rfl (by kernel_rfl) ?_
   refine wR 1 160 ?_
   exact fI
   ) ?_
  refine bC h383 (fun hc445 h383 => ?_) (fun hc445 h383 => ?_)
  ·refine iT hc445 ?_
   refine cU 1 160 (tl 60 [(4, V.i (-1))]) [] ?_
   refine CO.ret ?_
   have h383 := sI h383
   subst h383
   exact eG [] (.inr rfl) (RetV.one rfl (oT (t := 4) (r := V.i (-1))))
  refine iF hc445 ?_
  refine CO.skip ?_
  refine cU 3 160 (tl 60 [(0, .sl false false (a0.map (eSN false))), (1, V.i (IntKind.wrap .i64 ((IntKind.wrap .i64 ((IntKind.wrap .i64 (y229 + 1)) + 1)) + 1))), (5, V.i y230)]) [] ?_
  refine CO.seq' ?_
  refine bB h383 fun e339 hx453 h383 => ?_
  refine bB h383 fun r340 hx454 h383 => ?_
  refine CO.cutR (tl 60 [(0, .sl false false (a0.map (eSN false))), (1, V.i (IntKind.wrap .i64 ((IntKind.wrap .i64 ((IntKind.wrap .i64 (y229 + 1)) + 1)) + 1))), (5, V.i y230), (47, V.b (!(e339.Other == r340)))]) [] mix (by
   refine wR 2 160 ?_
   refine W.ixD Dk (eSN false) hx453 5 (by kernel_rfl) (by kernel_rfl) ?_
   refine wR 3 160 ?_
   refine W.call0 (ml_markText_ok N (IntKind.wrap .i64 ((IntKind.wrap .i64 ((IntKind.wrap .i64 (y229 + 1)) + 1)) + 1)) hx454) cok39 rfl (by kernel_rfl) ?_
   refine wR 1 160 ?_
   exact fI
   ) ?_
  refine bC h383 (fun hc455 h383 => ?_) (fun hc455 h383 => ?_)
  ·refine iT hc455 ?_
   refine cU 1 160 (tl 60 [(4, V.i (-1))]) [] ?_
   refine CO.ret ?_
   have h383 := sI h383
   subst h383
   exact eG [] (.inr rfl) (RetV.one rfl (oT (t := 4) (r := V.i (-1))))
  refine iF hc455 ?_
  refine CO.skip ?_
  refine cU 3 160 (tl 60 [(0, .sl false false (a0.map (eSN false))), (1, V.i (IntKind.wrap .i64 ((IntKind.wrap .i64 ((IntKind.wrap .i64 ((IntKind.wrap .i64 (y229 + 1)) + 1)) + 1)) + 1))), (5, V.i y230)]) [] ?_
  refine bB h383 fun e343 hx458 h383 => ?_
  refine bB h383 fun r344 hx459 h383 => ?_
  refine CO.cutR (tl 60 [(0, .sl false false (a0.map (eSN false))), (1, V.i r344), (5, V.i y230)]) [] mix (by
   refine wR 2 160 ?_
   refine W.ixD Dk (eSN false) hx458 5 (by kernel_rfl) (by kernel_rfl) ?_
   refine wR 3 160 ?_
   refine W.call0 (ml_heldIntS_ok N e343.Kids (IntKind.wrap .i64 ((IntKind.wrap .i64 ((IntKind.wrap .i64 ((IntKind.wrap .i64 (y229 + 1)) + 1)) + 1)) + 1)) hx459) cok19 rfl (by kernel_rfl) ?_
   refine wR 1 160 ?_
   exact fI
   ) ?_
  refine cU 2 160 (tl 60 [(0, .sl false false (a0.map (eSN false))), (1, V.i r344), (5, V.i y230), (58, V.b (decide (r344 < 0)))]) [] ?_
  refine bC h383 (fun hc460 h383 => ?_) (fun hc460 h383 => ?_)
  ·refine iT hc460 ?_
   refine cU 1 160 (tl 60 [(4, V.i (-1))]) [] ?_
   refine CO.ret ?_
   have h383 := sI h383
   subst h383
   exact eG [] (.inr rfl) (RetV.one rfl (oT (t := 4) (r := V.i (-1))))
  refine iF hc460 ?_
  refine CO.skip ?_
  refine cE 3 160 (tl 60 [(0, .sl false false (a0.map (eSN false))), (1, V.i r344), (5, V.i (IntKind.wrap .i64 (y230 + 1)))]) [] (fun st hw => ?_)
  exact ih384 (a0, r344, (IntKind.wrap .i64 (y230 + 1))) h383 _ (hw.trans (wS [] [0, 1, 5]))
 refine iF hc386 ?_
 refine CO.exit ?_
 refine cU 2 160 (tl 60 [(4, V.i y229)]) [] ?_
 refine CO.ret ?_
 have h383 := sI h383
 subst h383
 exact eG [] (.inr rfl) (RetV.one rfl (oT (t := 4) (r := V.i y229)))

theorem ml_FnExactInsert_ok (N : Nat) (a0 : List SNode) (a1 : Int) (a2 : Int) (a3 : List SNode) {r : Bool} (h : ml_FnExactInsert N a0 a1 a2 a3 = some r) :
    AC Tryz.prog (GS [0, 1, 2]) 6 [.sl false false (a0.map (eSN false)), V.i a1, V.i a2, .sl false false (a3.map (eSN false))] [] (V.b r) [] := by
 rw [ml_FnExactInsert] at h
 refine AC.enter Tryz.func6 rfl ?_
 refine cU 1 100 (tl 129 [(0, .sl false false (a0.map (eSN false))), (1, V.i a1), (2, V.i a2), (3, .sl false false (a3.map (eSN false)))]) [] ?_
 refine cU 1 100 (tl 129 [(0, .sl false false (a0.map (eSN false))), (1, V.i a1), (2, V.i a2), (3, .sl false false (a3.map (eSN false))), (9, V.i 1048576)]) [] ?_
 refine bB h fun r2 hx2 h => ?_
 refine CO.cutR (tl 129 [(0, .sl false false (a0.map (eSN false))), (1, V.i a1), (2, V.i a2), (3, .sl false false (a3.map (eSN false))), (9, V.i r2)]) [] mix (by
  refine wR 2 100 ?_
  refine W.call0 (AC.gs (ml_szNodeS_ok N a0 1048576 hx2) (by decide)) cok13 rfl (by kernel_rfl) ?_
  refine wR 1 100 ?_
  exact fI
  ) ?_
 refine CO.seq' ?_
 refine cU 2 100 (tl 129 [(0, .sl false false (a0.map (eSN false))), (1, V.i a1), (2, V.i a2), (3, .sl false false (a3.map (eSN false))), (9, V.i r2), (25, V.b (decide (r2 < 0)))]) [] ?_
 refine bC h (fun hc4 h => ?_) (fun hc4 h => ?_)
 ·refine iT hc4 ?_
  refine cU 1 100 (tl 129 [(8, V.b true)]) [] ?_
  refine CO.ret ?_
  have h := sI h
  subst h
  exact eG [] (.inr rfl) (RetV.one rfl (oT (t := 8) (r := V.b true)))
 refine iF hc4 ?_
 refine CO.skip ?_
 refine bB h fun r4 hx6 h => ?_
 refine CO.cutR (tl 129 [(0, .sl false false (a0.map (eSN false))), (1, V.i a1), (2, V.i a2), (3, .sl false false (a3.map (eSN false))), (9, V.i r4)]) [] mix (by
  refine wR 2 100 ?_
  refine W.call0 (AC.gs (ml_szNodeS_ok N a3 r2 hx6) (by decide)) cok13 rfl (by kernel_rfl) ?_
  refine wR 1 100 ?_
  exact fI
  ) ?_
 refine CO.seq' ?_
 refine cU 2 100 (tl 129 [(0, .sl false false (a0.map (eSN false))), (1, V.i a1), (2, V.i a2), (3, .sl false false (a3.map (eSN false))), (30, V.b (decide (r4 < 0)))]) [] ?_
 refine bC h (fun hc8 h => ?_) (fun hc8 h => ?_)
 ·refine iT hc8 ?_
  refine cU 1 100 (tl 129 [(8, V.b true)]) [] ?_
  refine CO.ret ?_
  have h := sI h
  subst h
  exact eG [] (.inr rfl) (RetV.one rfl (oT (t := 8) (r := V.b true)))
 refine iF hc8 ?_
 refine CO.skip ?_
 refine bB h fun r8 hx12 h => ?_
 refine bB h fun r9 hx13 h => ?_
 refine bB h fun r10 hx14 h => ?_
 refine CO.cutR (tl 129 [(0, .sl false false (a0.map (eSN false))), (1, V.i a1), (2, V.i a2), (3, .sl false false (a3.map (eSN false))), (10, .sl false false (r10.1.map (eSN false))), (11, V.b r10.2)]) [] mix (by
  refine wR 1 100 ?_
  refine W.call (AC.gs (ml_toNodeS_ok N a0 hx12) (by decide)) cok15 [] [(100, 100)] [100] (show LayOk _ [] from trivial) (by kernel_rfl) (by kernel_rfl) ?_
  refine wR 3 101 ?_
  refine W.call (AC.gs (ml_toNodeS_ok N a3 hx13) (by decide)) cok15 [] [(100, 101)] [101] (show LayOk _ [] from trivial) (by kernel_rfl) (by kernel_rfl) ?_
  refine W.call (AC.gs (ms_Insert_ok N r8 a1 a2 r9 hx14) (by decide)) cok25 [] [] [] (LayOk.cons (j := 100) (eSN true) (eSN false) r8 (by kernel_rfl) (sh_eSN _) (LayOk.cons (j := 101) (eSN true) (eSN false) r9 (by kernel_rfl) (sh_eSN _) (show LayOk _ [] from trivial))) (by kernel_rfl) (by kernel_rfl) ?_
  refine wR 5 102 ?_
  exact fI
  ) ?_
 refine bB h fun r12 hx16 h => ?_
 refine CO.cutR (tl 129 [(0, .sl false false (a0.map (eSN false))), (1, V.i a1), (2, V.i a2), (3, .sl false false (a3.map (eSN false))), (10, .sl false false (r10.1.map (eSN false))), (11, V.b r10.2), (12, .own 102)]) [(102, .vec false 48 5 (r12.map (eSN true)))] mix (by
  refine wR 1 102 ?_
  refine W.call (AC.gs (ml_toNodeS_ok N a0 hx16) (by decide)) cok15 [] [(100, 102)] [102] (show LayOk _ [] from trivial) (by kernel_rfl) (by kernel_rfl) ?_
  refine wR 1 103 ?_
  exact fI
  ) ?_
 refine bB h fun r14 hx18 h => ?_
 refine CO.cutR (tl 129 [(0, .sl false false (a0.map (eSN false))), (1, V.i a1), (2, V.i a2), (3, .sl false false (a3.map (eSN false))), (10, .sl false false (r10.1.map (eSN false))), (11, V.b r10.2), (12, .own 102), (13, .own 103)]) [(103, .vec false 48 5 (r14.map (eSN true))), (102, .vec false 48 5 (r12.map (eSN true)))] mix (by
  refine wR 1 103 ?_
  refine W.call (AC.gs (ml_toNodeS_ok N a3 hx18) (by decide)) cok15 [] [(100, 103)] [103] (show LayOk _ [] from trivial) (by kernel_rfl) (by kernel_rfl) ?_
  refine wR 1 104 ?_
  exact fI
  ) ?_
 refine bB h fun r16 hx20 h => ?_
 refine CO.cutR (tl 129 [(0, .sl false false (a0.map (eSN false))), (1, V.i a1), (2, V.i a2), (3, .sl false false (a3.map (eSN false))), (10, .sl false false (r10.1.map (eSN false))), (11, V.b r10.2), (12, .own 102), (13, .own 103), (14, .own 104), (15, V.b r16.2)]) [(104, .vec false 48 5 (r16.1.map (eSN true))), (103, .vec false 48 5 (r14.map (eSN true))), (102, .vec false 48 5 (r12.map (eSN true)))] mix (by
  refine wR 4 104 ?_
  refine W.lend (mi_Insert_ok N r12 a1 a2 r14 hx20) cok26 [(100, 104)] [104] (LayOk.cons (j := 102) (eSN true) (eSN false) r12 (by kernel_rfl) (sh_eSN _) (LayOk.cons (j := 103) (eSN true) (eSN false) r14 (by kernel_rfl) (sh_eSN _) (show LayOk _ [] from trivial))) (.tup _ (.cons (.own _) (.cons (.c _) .nil))) (.cons (DeepR.map (fun _ => (.cons (.c _) (.cons (.c _) (.cons (.c _) (.cons (.c _) (.cons (.sl _ _ (DeepR.map (fun _ => (.cons (.c _) .nil)) _)) .nil)))))) _) .nil) (by kernel_rfl) (by kernel_rfl) ?_
  refine wR 5 105 ?_
  exact fI
  ) ?_
 refine CO.seq' ?_
 refine bB h fun y21 hv29 h => ?_
 refine CO.cutR (tl 129 [(0, .sl false false (a0.map (eSN false))), (1, V.i a1), (2, V.i a2), (3, .sl false false (a3.map (eSN false))), (10, .sl false false (r10.1.map (eSN false))), (11, V.b r10.2), (12, .own 100), (13, .own 101), (14, .own 102), (15, V.b r16.2), (61, V.b y21)]) [(100, .vec false 48 5 (r12.map (eSN true))), (101, .vec false 48 5 (r14.map (eSN true))), (102, .vec false 48 5 (r16.1.map (eSN true)))] mix (by
  refine wR 2 105 ?_
  refine bB hv29 fun r22 hx30 hv29 => ?_
  refine W.lend (AC.gs (ml_eqNodeS_ok N r16.1 r10.1 hx30) (by decide)) cok10 [] [] (LayOk.cons (j := 104) (eSN true) (eSN false) r16.1 (by kernel_rfl) (sh_eSN _) (show LayOk _ [] from trivial)) (.c _) .nil (by kernel_rfl) (by kernel_rfl) ?_
  refine wR 2 105 ?_
  refine bC hv29 (fun hc31 hv29 => ?_) (fun hc31 hv29 => ?_)
  ·refine wI 57 hc31 ?_
   refine wR 4 105 ?_
   have hv29 := sI hv29
   subst hv29
   exact fS [(102, 100), (103, 101), (104, 102)] [0, 1, 2, 3, 10, 11, 12, 13, 14, 15, 61]
  refine wI 57 hc31 ?_
  refine wR 4 105 ?_
  have hv29 := sI hv29
  subst hv29
  exact fS [(102, 100), (103, 101), (104, 102)] [0, 1, 2, 3, 10, 11, 12, 13, 14, 15, 61]
  ) ?_
 refine bC h (fun hc32 h => ?_) (fun hc32 h => ?_)
 ·refine iT hc32 ?_
  refine cU 1 105 (tl 129 [(8, V.b false)]) [] ?_
  refine CO.ret ?_
  have h := sI h
  subst h
  exact eG [] (.inr rfl) (RetV.one rfl (oT (t := 8) (r := V.b false)))
 refine iF hc32 ?_
 refine CO.skip ?_
 refine CO.seq' ?_
 refine bB h fun r29 hx40 h => ?_
 refine bB h fun r30 hx41 h => ?_
 refine CO.cutR (tl 129 [(0, .sl false false (a0.map (eSN false))), (1, V.i a1), (2, V.i a2), (3, .sl false false (a3.map (eSN false))), (10, .sl false false (r10.1.map (eSN false))), (11, V.b r10.2), (12, .own 100), (13, .own 101), (14, .own 102), (15, V.b r16.2), (66, V.b (!r30))]) [(100, .vec false 48 5 (r12.map (eSN true))), (101, .vec false 48 5 (r14.map (eSN true))), (102, .vec false 48 5 (r16.1.map (eSN true)))] mix (by
  refine wR 2 105 ?_
  refine W.call (AC.gs (ml_toNodeS_ok N a0 hx40) (by decide)) cok15 [] [(100, 105)] [105] (show LayOk _ [] from trivial) (by kernel_rfl) (by kernel_rfl) ?_
  refine W.lend (AC.gs (ml_eqNodeS_ok N r12 r29 hx41) (by decide)) cok10 [] [] (LayOk.cons (j := 100) (eSN true) (eSN false) r12 (by kernel_rfl) (sh_eSN _) (LayOk.cons (j := 105) (eSN true) (eSN false) r29 (by kernel_rfl) (sh_eSN _) (show LayOk _ [] from trivial))) (.c _) .nil (by kernel_rfl) (by kernel_rfl) ?_
  refine wR 1 106 ?_
  exact fI
  ) ?_
 refine bC h (fun hc42 h => ?_) (fun hc42 h => ?_)
 ·refine iT hc42 ?_
  refine cU 1 106 (tl 129 [(8, V.b false)]) [] ?_
  refine CO.ret ?_
  have h := sI h
  subst h
  exact eG [] (.inr rfl) (RetV.one rfl (oT (t := 8) (r := V.b false)))
 refine iF hc42 ?_
 refine CO.skip ?_
 refine CO.seq' ?_
 refine bB h fun r37 hx50 h => ?_
 refine bB h fun r38 hx51 h => ?_
 refine CO.cutR (tl 129 [(0, .sl false false (a0.map (eSN false))), (1, V.i a1), (2, V.i a2), (3, .sl false false (a3.map (eSN false))), (10, .sl false false (r10.1.map (eSN false))), (11, V.b r10.2), (12, .own 100), (13, .own 101), (14, .own 102), (15, V.b r16.2), (71, V.b (!r38))]) [(100, .vec false 48 5 (r12.map (eSN true))), (101, .vec false 48 5 (r14.map (eSN true))), (102, .vec false 48 5 (r16.1.map (eSN true)))] mix (by
  refine wR 2 106 ?_
  refine W.call (AC.gs (ml_toNodeS_ok N a3 hx50) (by decide)) cok15 [] [(100, 106)] [106] (show LayOk _ [] from trivial) (by kernel_rfl) (by kernel_rfl) ?_
  refine W.lend (AC.gs (ml_eqNodeS_ok N r14 r37 hx51) (by decide)) cok10 [] [] (LayOk.cons (j := 101) (eSN true) (eSN false) r14 (by kernel_rfl) (sh_eSN _) (LayOk.cons (j := 106) (eSN true) (eSN false) r37 (by kernel_rfl) (sh_eSN _) (show LayOk _ [] from trivial))) (.c _) .nil (by kernel_rfl) (by kernel_rfl) ?_
  refine wR 1 107 ?_
  exact fI
  ) ?_
 refine bC h (fun hc52 h => ?_) (fun hc52 h => ?_)
 ·refine iT hc52 ?_
  refine cU 1 107 (tl 129 [(8, V.b false)]) [] ?_
  refine CO.ret ?_
  have h := sI h
  subst h
  exact eG [] (.inr rfl) (RetV.one rfl (oT (t := 8) (r := V.b false)))
 refine iF hc52 ?_
 refine CO.skip ?_
 refine cU 1 107 (tl 129 [(0, .sl false false (a0.map (eSN false))), (1, V.i a1), (2, V.i a2), (3, .sl false false (a3.map (eSN false))), (10, .sl false false (r10.1.map (eSN false))), (11, V.b r10.2), (12, .own 100), (13, .own 101), (14, .own 102), (15, V.b r16.2), (16, V.i 1)]) [(100, .vec false 48 5 (r12.map (eSN true))), (101, .vec false 48 5 (r14.map (eSN true))), (102, .vec false 48 5 (r16.1.map (eSN true)))] ?_
 refine bB h fun r40 hx54 h => ?_
 refine CO.cutR (tl 129 [(0, .sl false false (a0.map (eSN false))), (1, V.i a1), (2, V.i a2), (3, .sl false false (a3.map (eSN false))), (10, .sl false false (r10.1.map (eSN false))), (11, V.b r10.2), (13, .own 101), (14, .own 102), (15, V.b r16.2), (16, V.i r40.1)]) [(101, .vec false 48 5 (r14.map (eSN true))), (102, .vec false 48 5 (r16.1.map (eSN true)))] mix (by
  refine wR 2 107 ?_
  refine W.call (AC.gs (ml_markNodeS_ok 48 N 1 r12 hx54) (by decide)) cok11 [(100, 0)] [(0, 100)] [] (show LayOk _ [] from trivial) (by kernel_rfl) (by kernel_rfl) ?_
  refine wR 1 107 ?_
  exact fI
  ) ?_
 refine bB h fun r42 hx56 h => ?_
 refine CO.cutR (tl 129 [(0, .sl false false (a0.map (eSN false))), (1, V.i a1), (2, V.i a2), (3, .sl false false (a3.map (eSN false))), (10, .sl false false (r10.1.map (eSN false))), (11, V.b r10.2), (14, .own 102), (15, V.b r16.2), (16, V.i r42.1)]) [(102, .vec false 48 5 (r16.1.map (eSN true)))] mix (by
  refine wR 2 107 ?_
  refine W.call (AC.gs (ml_markNodeS_ok 48 N r40.1 r14 hx56) (by decide)) cok11 [(101, 0)] [(0, 101)] [] (show LayOk _ [] from trivial) (by kernel_rfl) (by kernel_rfl) ?_
  refine wR 1 107 ?_
  exact fI
  ) ?_
 refine CO.seq' ?_
 refine bB h fun y47 hv68 h => ?_
 refine CO.cutR (tl 129 [(0, .sl false false (a0.map (eSN false))), (1, V.i a1), (2, V.i a2), (3, .sl false false (a3.map (eSN false))), (10, .sl false false (r10.1.map (eSN false))), (11, V.b r10.2), (14, .own 100), (90, V.b y47)]) [(100, .vec false 48 5 (r16.1.map (eSN true)))] mix (by
  refine wR 3 107 ?_
  refine bC hv68 (fun hc69 hv68 => ?_) (fun hc69 hv68 => ?_)
  ·refine wI 80 hc69 ?_
   refine wR 10 107 ?_
   have hv68 := sI hv68
   subst hv68
   exact fS [(102, 100)] [0, 1, 2, 3, 10, 11, 14, 90]
  refine wI 80 hc69 ?_
  refine wR 2 107 ?_
  refine bB hv68 fun r48 hx70 hv68 => ?_
  refine W.lend (AC.gs (ml_eqNodeS_ok N r16.1 r10.1 hx70) (by decide)) cok10 [] [] (LayOk.cons (j := 102) (eSN true) (eSN false) r16.1 (by kernel_rfl) (sh_eSN _) (show LayOk _ [] from trivial)) (.c _) .nil (by kernel_rfl) (by kernel_rfl) ?_
  refine wR 3 107 ?_
  refine bC hv68 (fun hc71 hv68 => ?_) (fun hc71 hv68 => ?_)
  ·refine wI 86 hc71 ?_
   refine wR 4 107 ?_
   have hv68 := sI hv68
   subst hv68
   exact fS [(102, 100)] [0, 1, 2, 3, 10, 11, 14, 90]
  refine wI 86 hc71 ?_
  refine wR 4 107 ?_
  have hv68 := sI hv68
  subst hv68
  exact fS [(102, 100)] [0, 1, 2, 3, 10, 11, 14, 90]
  ) ?_
 refine bC h (fun hc72 h => ?_) (fun hc72 h => ?_)
 ·refine iT hc72 ?_
  refine cU 1 107 (tl 129 [(8, V.b false)]) [] ?_
  refine CO.ret ?_
  have h := sI h
  subst h
  exact eG [] (.inr rfl) (RetV.one rfl (oT (t := 8) (r := V.b false)))
 refine iF hc72 ?_
 refine CO.skip ?_
 refine cU 1 107 (tl 129 [(0, .sl false false (a0.map (eSN false))), (1, V.i a1), (2, V.i a2), (3, .sl false false (a3.map (eSN false))), (10, .sl false false (r10.1.map (eSN false))), (11, V.b r10.2), (14, .own 100), (17, V.i 1)]) [(100, .vec false 48 5 (r16.1.map (eSN true)))] ?_
 refine bB h fun r50 hx74 h => ?_
 refine CO.cutR (tl 129 [(0, .sl false false (a0.map (eSN false))), (1, V.i a1), (2, V.i a2), (3, .sl false false (a3.map (eSN false))), (10, .sl false false (r10.1.map (eSN false))), (11, V.b r10.2), (14, .own 100), (17, V.i r50.1)]) [(100, .vec false 48 5 (r50.2.map (eSN true)))] mix (by
  refine wR 2 107 ?_
  refine W.call (AC.gs (ml_markNodeS_ok 48 N 1 r16.1 hx74) (by decide)) cok11 [(100, 0)] [(0, 100)] [] (show LayOk _ [] from trivial) (by kernel_rfl) (by kernel_rfl) ?_
  refine wR 1 107 ?_
  exact fI
  ) ?_
 refine cU 1 107 (tl 129 [(0, .sl false false (a0.map (eSN false))), (1, V.i a1), (2, V.i a2), (3, .sl false false (a3.map (eSN false))), (10, .sl false false (r10.1.map (eSN false))), (11, V.b r10.2), (14, .own 100), (17, V.i r50.1), (18, V.i 1)]) [(100, .vec false 48 5 (r50.2.map (eSN true)))] ?_
 refine bB h fun r52 hx76 h => ?_
 refine CO.cutR (tl 129 [(0, .sl false false (a0.map (eSN false))), (1, V.i a1), (2, V.i a2), (3, .sl false false (a3.map (eSN false))), (10, .sl false false (r10.1.map (eSN false))), (11, V.b r10.2), (14, .own 100), (17, V.i r50.1), (18, V.i r52)]) [(100, .vec false 48 5 (r50.2.map (eSN true)))] mix (by
  refine wR 2 107 ?_
  refine W.lend (AC.gs (ml_heldNodeS_ok N r50.2 1 hx76) (by decide)) cok12 [] [] (LayOk.cons (j := 100) (eSN true) (eSN false) r50.2 (by kernel_rfl) (sh_eSN _) (show LayOk _ [] from trivial)) (.c _) .nil (by kernel_rfl) (by kernel_rfl) ?_
  refine wR 1 107 ?_
  exact fI
  ) ?_
 refine CO.seq' ?_
 refine cU 2 107 (tl 129 [(0, .sl false false (a0.map (eSN false))), (1, V.i a1), (2, V.i a2), (3, .sl false false (a3.map (eSN false))), (10, .sl false false (r10.1.map (eSN false))), (11, V.b r10.2), (14, .own 100), (17, V.i r50.1), (18, V.i r52), (98, V.b (decide (r52 < 0)))]) [(100, .vec false 48 5 (r50.2.map (eSN true)))] ?_
 refine bC h (fun hc78 h => ?_) (fun hc78 h => ?_)
 ·refine iT hc78 ?_
  refine cU 1 107 (tl 129 [(8, V.b false)]) [] ?_
  refine CO.ret ?_
  have h := sI h
  subst h
  exact eG [] (.inr rfl) (RetV.one rfl (oT (t := 8) (r := V.b false)))
 refine iF hc78 ?_
 refine CO.skip ?_
 refine CO.seq' ?_
 refine cU 3 107 (tl 129 [(0, .sl false false (a0.map (eSN false))), (1, V.i a1), (2, V.i a2), (3, .sl false false (a3.map (eSN false))), (10, .sl false false (r10.1.map (eSN false))), (11, V.b r10.2), (14, .own 100), (17, V.i r50.1), (101, V.b (r52 != r50.1))]) [(100, .vec false 48 5 (r50.2.map (eSN true)))] ?_
 refine bC h (fun hc80 h => ?_) (fun hc80 h => ?_)
 ·refine iT hc80 ?_
  refine cU 1 107 (tl 129 [(8, V.b false)]) [] ?_
  refine CO.ret ?_
  have h := sI h
  subst h
  exact eG [] (.inr rfl) (RetV.one rfl (oT (t := 8) (r := V.b false)))
 refine iF hc80 ?_
 refine CO.skip ?_
 refine bB h fun r56 hx84 h => ?_
 refine bB h fun r57 hx85 h => ?_
 refine bB h fun r58 hx86 h => ?_
 refine CO.cutR (tl 129 [(10, .sl false false (r10.1.map (eSN false))), (11, V.b r10.2), (14, .own 100), (17, V.i r50.1), (19, .own 109), (20, V.b r58.2)]) [(109, .vec false 48 5 (r58.1.map (eSN true))), (100, .vec false 48 5 (r50.2.map (eSN true)))] mix (by
  refine wR 1 107 ?_
  refine W.call (AC.gs (ml_toNodeS_ok N a0 hx84) (by decide)) cok15 [] [(100, 107)] [107] (show LayOk _ [] from trivial) (by kernel_rfl) (by kernel_rfl) ?_
  refine wR 3 108 ?_
  refine W.call (AC.gs (ml_toNodeS_ok N a3 hx85) (by decide)) cok15 [] [(100, 108)] [108] (show LayOk _ [] from trivial) (by kernel_rfl) (by kernel_rfl) ?_
  refine W.lend (mi_Insert_ok N r56 a1 a2 r57 hx86) cok26 [(100, 109)] [109] (LayOk.cons (j := 107) (eSN true) (eSN false) r56 (by kernel_rfl) (sh_eSN _) (LayOk.cons (j := 108) (eSN true) (eSN false) r57 (by kernel_rfl) (sh_eSN _) (show LayOk _ [] from trivial))) (.tup _ (.cons (.own _) (.cons (.c _) .nil))) (.cons (DeepR.map (fun _ => (.cons (.c _) (.cons (.c _) (.cons (.c _) (.cons (.c _) (.cons (.sl _ _ (DeepR.map (fun _ => (.cons (.c _) .nil)) _)) .nil)))))) _) .nil) (by kernel_rfl) (by kernel_rfl) ?_
  refine wR 5 110 ?_
  exact fI
  ) ?_
 refine CO.seq' ?_
 refine bB h fun y63 hv95 h => ?_
 refine CO.cutR (tl 129 [(14, .own 100), (17, V.i r50.1), (120, V.b y63)]) [(100, .vec false 48 5 (r50.2.map (eSN true)))] mix (by
  refine wR 2 110 ?_
  refine bB hv95 fun r64 hx96 hv95 => ?_
  refine W.lend (AC.gs (ml_eqNodeS_ok N r58.1 r10.1 hx96) (by decide)) cok10 [] [] (LayOk.cons (j := 109) (eSN true) (eSN false) r58.1 (by kernel_rfl) (sh_eSN _) (show LayOk _ [] from trivial)) (.c _) .nil (by kernel_rfl) (by kernel_rfl) ?_
  refine wR 2 110 ?_
  refine bC hv95 (fun hc97 hv95 => ?_) (fun hc97 hv95 => ?_)
  ·refine wI 116 hc97 ?_
   refine wR 4 110 ?_
   have hv95 := sI hv95
   subst hv95
   exact fS [(100, 100)] [14, 17, 120]
  refine wI 116 hc97 ?_
  refine wR 4 110 ?_
  have hv95 := sI hv95
  subst hv95
  exact fS [(100, 100)] [14, 17, 120]
  ) ?_
 refine bC h (fun hc98 h => ?_) (fun hc98 h => ?_)
 ·refine iT hc98 ?_
  refine cU 1 110 (tl 129 [(8, V.b false)]) [] ?_
  refine CO.ret ?_
  have h := sI h
  subst h
  exact eG [] (.inr rfl) (RetV.one rfl (oT (t := 8) (r := V.b false)))
 refine iF hc98 ?_
 refine CO.skip ?_
 refine cU 1 110 (tl 129 [(14, .own 100), (17, V.i r50.1), (18, V.i 1)]) [(100, .vec false 48 5 (r50.2.map (eSN true)))] ?_
 refine bB h fun r66 hx100 h => ?_
 refine CO.cutR (tl 129 [(17, V.i r50.1), (18, V.i r66)]) [] mix (by
  refine wR 2 110 ?_
  refine W.lend (AC.gs (ml_heldNodeS_ok N r50.2 1 hx100) (by decide)) cok12 [] [] (LayOk.cons (j := 100) (eSN true) (eSN false) r50.2 (by kernel_rfl) (sh_eSN _) (show LayOk _ [] from trivial)) (.c _) .nil (by kernel_rfl) (by kernel_rfl) ?_
  refine wR 1 110 ?_
  exact fI
  ) ?_
 refine CO.seq' ?_
 refine cU 2 110 (tl 129 [(17, V.i r50.1), (18, V.i r66), (125, V.b (decide (r66 < 0)))]) [] ?_
 refine bC h (fun hc102 h => ?_) (fun hc102 h => ?_)
 ·refine iT hc102 ?_
  refine cU 1 110 (tl 129 [(8, V.b false)]) [] ?_
  refine CO.ret ?_
  have h := sI h
  subst h
  exact eG [] (.inr rfl) (RetV.one rfl (oT (t := 8) (r := V.b false)))
 refine iF hc102 ?_
 refine CO.skip ?_
 refine CO.seq' ?_
 refine cU 3 110 (tl 129 [(128, V.b (r66 != r50.1))]) [] ?_
 refine bC h (fun hc104 h => ?_) (fun hc104 h => ?_)
 ·refine iT hc104 ?_
  refine cU 1 110 (tl 129 [(8, V.b false)]) [] ?_
  refine CO.ret ?_
  have h := sI h
  subst h
  exact eG [] (.inr rfl) (RetV.one rfl (oT (t := 8) (r := V.b false)))
 refine iF hc104 ?_
 refine CO.skip ?_
 refine cU 1 110 (tl 129 [(8, V.b true)]) [] ?_
 refine CO.ret ?_
 have h := sI h
 subst h
 exact eG [] (.inr rfl) (RetV.one rfl (oT (t := 8) (r := V.b true)))

end Go.Proofs.Tryz
