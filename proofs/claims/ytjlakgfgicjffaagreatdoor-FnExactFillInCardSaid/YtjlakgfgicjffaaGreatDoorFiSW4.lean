/-
 The walks that show that the code computes the models, part 4.
-/
import Derived.Test.YtjlakgfgicjffaaGreatDoorFiSW3
namespace Go.Proofs.Tryz
open Go.Av
set_option maxRecDepth 100000
set_option maxHeartbeats 8000000
set_option linter.unusedSimpArgs false
set_option linter.unusedVariables false

theorem ml_eqNode_ok (N : Nat) (a0 : SNode) (a1 : SNode) {r : Bool} (h : ml_eqNode N a0 a1 = some r) :
    AC Tryz.prog (GS []) 31 [.agg [V.i a0.Kind, V.i a0.Op, V.s a0.Text, V.s a0.Other, .sl false false (a0.Kids.map eNI)], .agg [V.i a1.Kind, V.i a1.Op, V.s a1.Text, V.s a1.Other, .sl false false (a1.Kids.map eNI)]] [] (V.b r) [] := by
 rw [ml_eqNode] at h
 refine AC.enter Tryz.func31 rfl (cV 100 (CO.seq' (cV 102 ?_)))
 refine cI h (fun _ h => ?_) (fun _ h => ?_)
 ·refine cV 102 ?_
  cases h
  exact e1 4 id
 refine CO.skip (CO.seq' (cV 102 ?_))
 refine cI h (fun _ h => ?_) (fun _ h => ?_)
 ·refine cV 102 ?_
  cases h
  exact e1 4 id
 refine CO.skip (CO.seq' (cV 102 ?_))
 refine cI h (fun _ h => ?_) (fun _ h => ?_)
 ·refine cV 102 ?_
  cases h
  exact e1 4 id
 refine CO.skip (CO.seq' (cV 102 ?_))
 refine cI h (fun _ h => ?_) (fun _ h => ?_)
 ·refine cV 102 ?_
  cases h
  exact e1 4 id
 refine CO.skip (CO.seq' (bB h fun r4 hx13 h => (cC 4 102 (ml_eqIntS_ok N a0.Kids a1.Kids hx13) cok63 ?_)))
 refine cI h (fun _ h => ?_) (fun _ h => ?_)
 ·refine cV 102 ?_
  cases h
  exact e1 4 id
 refine CO.skip (cV 102 ?_)
 cases h
 exact e1 4 id

theorem ml_eqNodeS_ok (N : Nat) (a0 : List SNode) (a1 : List SNode) {r : Bool} (h : ml_eqNodeS N a0 a1 = some r) :
    AC Tryz.prog (GS []) 10 [.sl false false (a0.map (eSN false)), .sl false false (a1.map (eSN false))] [] (V.b r) [] := by
 rw [ml_eqNodeS] at h
 refine AC.enter Tryz.func10 rfl (cV 100 (CO.seq' (CO.sw mix (wR 1 100 (W.len Dk (eSN false) a0 [] (by kernel_rfl) (by kernel_rfl) (wR 1 100 (W.len Dk (eSN false) a1 [] (by kernel_rfl) (by kernel_rfl) (wR 1 100 ?_))))))))
 refine wF ?_
 refine cI h (fun _ h => ?_) (fun _ h => ?_)
 ·refine cV 100 ?_
  cases h
  exact e1 4 id
 refine CO.skip (CO.seq' (cV 100 (CO.block' (CO.loopJ (fun (⟨a0, a1, y51⟩ : ((List SNode) × (List SNode) × Int)) => ⟨tl 27 [(0, .sl false false (a0.map (eSN false))), (1, .sl false false (a1.map (eSN false))), (5, V.i y51)], []⟩) (fun n i => ml_eqNodeS_l1 N n i = some r) (n0 := N) (i0 := (a0, a1, 0)) (wS [] [0, 1, 5]) h (fun i h => by simp [ml_eqNodeS_l1] at h) ?_))))
 rintro n1 ⟨a0, a1, y51⟩ h85 ih86
 rw [ml_eqNodeS_l1] at h85
 refine CO.seq' (CO.sw mix (wR 2 160 (W.len Dk (eSN false) a0 [] (by kernel_rfl) (by kernel_rfl) (wR 1 160 (wF ?_)))))
 refine cI h85 (fun _ h85 => ?_) (fun _ h85 => ?_)
 ·refine CO.skip (CO.seq' (CO.block' (bB h85 fun e74 hx99 h85 => (bB h85 fun e75 hx100 h85 => (bB h85 fun r76 hx101 h85 => (CO.sw mix (wR 2 160 (W.ixD Dk (eSN false) hx99 5 (by kernel_rfl) (by kernel_rfl) ?_))))))))
  refine wR 3 160 (W.ixD Dk (eSN false) hx100 5 (by kernel_rfl) (by kernel_rfl) (wR 1 160 (W.call0 (ml_eqNode_ok N e74 e75 hx101) cok31 rfl (by kernel_rfl) (wR 1 160 (wF ?_)))))
  refine cI h85 (fun _ h85 => ?_) (fun _ h85 => ?_)
  ·refine cV 160 ?_
   cases h85
   exact e1 4 id
  refine CO.skip ?_
  exact cK 160 ih86 (a0, a1, (IntKind.wrap .i64 (y51 + 1))) h85 [] [0, 1, 5]
 refine CO.exit (cV 160 ?_)
 cases h85
 exact e1 4 id

theorem ml_eqHole_ok (N : Nat) (a0 : SHole) (a1 : SHole) {r : Bool} (h : ml_eqHole N a0 a1 = some r) :
    AC Tryz.prog (GS []) 32 [.agg [V.s a0.Name, .sl false false (a0.Part.map (eSN false))], .agg [V.s a1.Name, .sl false false (a1.Part.map (eSN false))]] [] (V.b r) [] := by
 rw [ml_eqHole] at h
 refine AC.enter Tryz.func32 rfl (cV 100 (CO.seq' (cV 102 ?_)))
 refine cI h (fun _ h => ?_) (fun _ h => ?_)
 ·refine cV 102 ?_
  cases h
  exact e1 4 id
 refine CO.skip (CO.seq' (bB h fun r4 hx7 h => (cC 4 102 (ml_eqNodeS_ok N a0.Part a1.Part hx7) cok10 ?_)))
 refine cI h (fun _ h => ?_) (fun _ h => ?_)
 ·refine cV 102 ?_
  cases h
  exact e1 4 id
 refine CO.skip (cV 102 ?_)
 cases h
 exact e1 4 id

theorem ml_eqHoleS_ok (N : Nat) (a0 : List SHole) (a1 : List SHole) {r : Bool} (h : ml_eqHoleS N a0 a1 = some r) :
    AC Tryz.prog (GS []) 11 [.sl false false (a0.map (encSHole false)), .sl false false (a1.map (encSHole false))] [] (V.b r) [] := by
 rw [ml_eqHoleS] at h
 refine AC.enter Tryz.func11 rfl (cV 100 (CO.seq' (CO.sw mix (wR 1 100 (W.len Dk (encSHole false) a0 [] (by kernel_rfl) (by kernel_rfl) (wR 1 100 (W.len Dk (encSHole false) a1 [] (by kernel_rfl) (by kernel_rfl) (wR 1 100 ?_))))))))
 refine wF ?_
 refine cI h (fun _ h => ?_) (fun _ h => ?_)
 ·refine cV 100 ?_
  cases h
  exact e1 4 id
 refine CO.skip (CO.seq' (cV 100 (CO.block' (CO.loopJ (fun (⟨a0, a1, y51⟩ : ((List SHole) × (List SHole) × Int)) => ⟨tl 27 [(0, .sl false false (a0.map (encSHole false))), (1, .sl false false (a1.map (encSHole false))), (5, V.i y51)], []⟩) (fun n i => ml_eqHoleS_l1 N n i = some r) (n0 := N) (i0 := (a0, a1, 0)) (wS [] [0, 1, 5]) h (fun i h => by simp [ml_eqHoleS_l1] at h) ?_))))
 rintro n1 ⟨a0, a1, y51⟩ h85 ih86
 rw [ml_eqHoleS_l1] at h85
 refine CO.seq' (CO.sw mix (wR 2 160 (W.len Dk (encSHole false) a0 [] (by kernel_rfl) (by kernel_rfl) (wR 1 160 (wF ?_)))))
 refine cI h85 (fun _ h85 => ?_) (fun _ h85 => ?_)
 ·refine CO.skip (CO.seq' (CO.block' (bB h85 fun e74 hx99 h85 => (bB h85 fun e75 hx100 h85 => (bB h85 fun r76 hx101 h85 => (CO.sw mix (wR 2 160 (W.ixD Dk (encSHole false) hx99 2 (by kernel_rfl) (by kernel_rfl) ?_))))))))
  refine wR 3 160 (W.ixD Dk (encSHole false) hx100 2 (by kernel_rfl) (by kernel_rfl) (wR 1 160 (W.call0 (ml_eqHole_ok N e74 e75 hx101) cok32 rfl (by kernel_rfl) (wR 1 160 (wF ?_)))))
  refine cI h85 (fun _ h85 => ?_) (fun _ h85 => ?_)
  ·refine cV 160 ?_
   cases h85
   exact e1 4 id
  refine CO.skip ?_
  exact cK 160 ih86 (a0, a1, (IntKind.wrap .i64 (y51 + 1))) h85 [] [0, 1, 5]
 refine CO.exit (cV 160 ?_)
 cases h85
 exact e1 4 id

theorem ml_markText_ok (N : Nat) (a0 : Int) {r : (List UInt8)} (h : ml_markText N a0 = some r) :
    AC Tryz.prog (GS []) 33 [V.i a0] [] (V.s r) [] := by
 rw [ml_markText] at h
 refine AC.enter Tryz.func33 rfl (cV 100 (CO.seq' (cV 100 ?_)))
 refine cI h (fun _ h => ?_) (fun _ h => ?_)
 ·refine cV 100 ?_
  cases h
  exact e1 2 id
 refine CO.skip (cV 100 (CO.seq' (CO.block' (CO.loopJ (fun (⟨y13, y14⟩ : (Int × (List UInt8))) => ⟨tl 20 [(0, V.i y13), (3, V.s y14)], []⟩) (fun n i => ml_markText_l1 N n i = some r) (n0 := N) (i0 := (a0, [])) (wS [] [0, 3]) h (fun i h => by simp [ml_markText_l1] at h) ?_))))
 rintro n1 ⟨y13, y14⟩ h25 ih26
 rw [ml_markText_l1] at h25
 refine CO.seq' (cV 162 ?_)
 refine cI h25 (fun _ h25 => ?_) (fun _ h25 => ?_)
 ·refine CO.skip (CO.block' (bB h25 fun s20 hx30 h25 => (CO.sw mix (wR 4 162 (wR 1 162 (W.vecEq 162 (nn := true) (e := 5) (k := 1) (rows := [[.c (.int .u8 (IntKind.wrap .u8 (IntKind.wrap .i64 (48 + (Int.tmod y13 10)))))]]) (rows' := [(bytI (IntKind.wrap .i64 (48 + (Int.tmod y13 10))))].map byteRow) (by kernel_rfl) (by first | (simp only [List.map_cons, List.map_nil, ← bytI_row]; done) | (simp only [List.map_cons, List.map_nil, ← bytI_row]; rfl)) (W.strO Dk ([(bytI (IntKind.wrap .i64 (48 + (Int.tmod y13 10))))] : List UInt8) (a := 162) (by kernel_rfl) (wR 1 163 ?_))))))))
  refine W.cat hx30 (by kernel_rfl) (wR 1 163 (wF ?_))
  exact cK 163 ih26 ((IntKind.wrap .i64 (Int.tdiv y13 10)), s20) h25 [] [0, 3]
 refine CO.exit (bB h25 fun s22 hx32 h25 => (CO.sw mix (wR 1 162 (W.cat hx32 (by kernel_rfl) (wR 1 162 (wF ?_))))))
 cases h25
 exact e1 2 id

theorem ml_markIntS_ok (e0 : TypeId) (N : Nat) (a1 : Int) (p0 : List Int) {r : (Int × (List Int))} (h : ml_markIntS N a1 p0 = some r) :
    AC Tryz.prog (GS []) 34 [.own 0, V.i a1] [(0, .vec false e0 1 (p0.map eNI))] (V.i r.1) [(0, .vec false e0 1 (r.2.map eNI))] := by
 rw [ml_markIntS] at h
 refine AC.enter Tryz.func34 rfl (cV 100 (CO.seq' (cV 100 (CO.block' (CO.loopJ (fun (⟨y39, y40, y41⟩ : (Int × Int × (List Int))) => ⟨tl 19 [(0, .own 0), (1, V.i y39), (5, V.i y40)], [(0, .vec false e0 1 (y41.map eNI))]⟩) (fun n i => ml_markIntS_l1 N n i = some r) (n0 := N) (i0 := (a1, 0, p0)) (wS [(0, 0)] [0, 1, 5]) h (fun i h => by simp [ml_markIntS_l1] at h) ?_)))))
 rintro n1 ⟨y39, y40, y41⟩ h53 ih54
 rw [ml_markIntS_l1] at h53
 refine CO.seq' (CO.sw mix (wR 2 160 (W.len Dk eNI y41 [0] (by kernel_rfl) (by kernel_rfl) (wR 1 160 (wF ?_)))))
 refine cI h53 (fun _ h53 => ?_) (fun _ h53 => ?_)
 ·refine CO.skip (CO.seq' (CO.block' (bB h53 fun e59 hx63 h53 => (bB h53 fun x60 hu64 h53 => (CO.sw mix (wR 3 160 (W.ixO Dk eNI hx63 0 1 (by kernel_rfl) (W.stO Dk eNI (x' := y39) hx63 hu64 (j := 0) (nn := false) (ety := e0) (sz := 1) (b := 0) (ys := [V.i y39]) (C := []) (R := []) (by kernel_rfl) (by kernel_rfl) ?_))))))))
  refine wF ?_
  refine cE 3 160 (tl 19 [(0, .own 0), (1, V.i (IntKind.wrap .i64 (y39 + 1))), (5, V.i y40)]) [(0, .vec false e0 1 (x60.map eNI))] (fun st hw => ?_)
  refine CO.weak hw ?_
  exact cK 160 ih54 ((IntKind.wrap .i64 (y39 + 1)), (IntKind.wrap .i64 (y40 + 1)), x60) h53 [(0, 0)] [0, 1, 5]
 refine CO.exit (cV 160 (CO.ret ?_))
 have h53 := sI h53
 subst h53
 exact eG [(0, 0)] (.inr rfl) (RetV.one rfl (oT (t := 4) (r := V.i y39)))

theorem ml_markIntS_v2_ok (N : Nat) (a1 : Int) {r : Int} (h : ml_markIntS_v2 N a1 = some r) :
    AC Tryz.prog (GS []) 34 [.sl false false ([].map eNI), V.i a1] [] (V.i r) [] := by
 rw [ml_markIntS_v2] at h
 refine AC.enter Tryz.func34 rfl (cV 100 (CO.seq' (cV 100 (CO.block' (CO.loopJ (fun (a1 : Int) => ⟨tl 19 [(0, .sl false false ([].map eNI)), (1, V.i a1), (5, V.i 0)], []⟩) (fun n i => ml_markIntS_v2_l1 N n i = some r) (n0 := N) (i0 := a1) (wS [] [0, 1, 5]) h (fun i h => by simp [ml_markIntS_v2_l1] at h) ?_)))))
 rintro n1 a1 h3 ih4
 rw [ml_markIntS_v2_l1] at h3
 refine CO.seq' (CO.sw mix (wR 2 120 (W.len Dk eNI [] [] (by kernel_rfl) (by kernel_rfl) (wR 1 120 (wF (CO.ifF (c := false) rfl (by kernel_rfl) (CO.exit (cV 120 ?_))))))))
 cases h3
 exact e1 4 id

theorem ml_markIntS_nil (N : Nat) (k : Int) (l : List Int) {r : (Int × (List Int))} (h : ml_markIntS N k l = some r) (hl : l = []) :
  r.2.map eNI = [] ∧ AC Tryz.prog (GS []) 34 [.sl false false [], V.i k] [] (V.i r.1) [] := by
 subst hl
 have h2 : r.2 = [] ∧ ml_markIntS_v2 N k = some r.1 := by
  cases N with
  | zero => simp [ml_markIntS_l1, ml_markIntS] at h
  | succ N =>
   simp [ml_markIntS_l1, ml_markIntS] at h
   subst h
   simp [ml_markIntS_v2_l1, ml_markIntS_v2]
 exact ⟨by rw [h2.1]; rfl, ml_markIntS_v2_ok N k h2.2⟩

theorem ml_markNodeS_ok (e0 : TypeId) (N : Nat) (a1 : Int) (p0 : List SNode) {r : (Int × (List SNode))} (h : ml_markNodeS N a1 p0 = some r) :
    AC Tryz.prog (GS []) 12 [.own 0, V.i a1] [(0, .vec false e0 5 (p0.map (eSN true)))] (V.i r.1) [(0, .vec false e0 5 (r.2.map (eSN true)))] := by
 rw [ml_markNodeS] at h
 refine AC.enter Tryz.func12 rfl (cV 100 (CO.seq' (cV 100 (CO.block' (CO.loopJ (fun (⟨y191, y192, y193⟩ : (Int × Int × (List SNode))) => ⟨tl 50 [(0, .own 0), (1, V.i y191), (5, V.i y192)], [(0, .vec false e0 5 (y193.map (eSN true)))]⟩) (fun n i => ml_markNodeS_l1 N n i = some r) (n0 := N) (i0 := (a1, 0, p0)) (wS [(0, 0)] [0, 1, 5]) h (fun i h => by simp [ml_markNodeS_l1] at h) ?_)))))
 rintro n1 ⟨y191, y192, y193⟩ h243 ih244
 rw [ml_markNodeS_l1] at h243
 refine CO.seq' (CO.sw mix (wR 2 160 (W.len Dk (eSN true) y193 [0] (by kernel_rfl) (by kernel_rfl) (wR 1 160 (wF ?_)))))
 refine cI h243 (fun _ h243 => ?_) (fun _ h243 => ?_)
 ·refine CO.skip (CO.seq' (CO.block' (bB h243 fun e268 hx272 h243 => (bB h243 fun x269 hu273 h243 => (CO.sw mix (wR 3 160 (W.ixO Dk (eSN true) hx272 0 5 (by kernel_rfl) (wR 1 160 ?_))))))))
  refine W.stO Dk (eSN true) (x' := (⟨y191, e268.Op, e268.Text, e268.Other, e268.Kids⟩ : SNode)) hx272 hu273 (j := 0) (nn := false) (ety := e0) (sz := 5) (b := 0) (ys := [V.i y191]) (C := []) (R := []) (by kernel_rfl) (by kernel_rfl) (wF (cV 160 (bB h243 fun e272 hx276 h243 => (bB h243 fun x273 hu277 h243 => (CO.sw mix (wR 3 160 (W.ixO Dk (eSN true) hx276 0 5 (by kernel_rfl) (wR 1 160 ?_))))))))
  refine W.stO Dk (eSN true) (x' := (⟨e272.Kind, (IntKind.wrap .i64 (y191 + 1)), e272.Text, e272.Other, e272.Kids⟩ : SNode)) hx276 hu277 (j := 0) (nn := false) (ety := e0) (sz := 5) (b := 1) (ys := [V.i (IntKind.wrap .i64 (y191 + 1))]) (C := []) (R := []) (by kernel_rfl) (by kernel_rfl) (wF (cV 160 (bB h243 fun r277 hx281 h243 => (bB h243 fun e278 hx282 h243 => (bB h243 fun x279 hu283 h243 => (CO.sw mix (wR 3 160 (W.call0 (ml_markText_ok N (IntKind.wrap .i64 ((IntKind.wrap .i64 (y191 + 1)) + 1)) hx281) cok33 rfl (by kernel_rfl) ?_))))))))
  refine W.ixO Dk (eSN true) hx282 0 5 (by kernel_rfl) (wR 1 160 (W.stO Dk (eSN true) (x' := (⟨e278.Kind, e278.Op, r277, e278.Other, e278.Kids⟩ : SNode)) hx282 hu283 (j := 0) (nn := false) (ety := e0) (sz := 5) (b := 2) (ys := [V.s r277]) (C := []) (R := []) (by kernel_rfl) (by kernel_rfl) (wF (cV 160 (bB h243 fun r283 hx287 h243 => (bB h243 fun e284 hx288 h243 => (bB h243 fun x285 hu289 h243 => (CO.sw mix ?_))))))))
  refine wR 3 160 (W.call0 (ml_markText_ok N (IntKind.wrap .i64 ((IntKind.wrap .i64 ((IntKind.wrap .i64 (y191 + 1)) + 1)) + 1)) hx287) cok33 rfl (by kernel_rfl) (W.ixO Dk (eSN true) hx288 0 5 (by kernel_rfl) (wR 1 160 (W.stO Dk (eSN true) (x' := (⟨e284.Kind, e284.Op, e284.Text, r283, e284.Kids⟩ : SNode)) hx288 hu289 (j := 0) (nn := false) (ety := e0) (sz := 5) (b := 3) (ys := [V.s r283]) (C := []) (R := []) (by kernel_rfl) (by kernel_rfl) (wF (cV 160 (bB h243 fun e286 hx290 h243 => (bB h243 fun r287 hx291 h243 => ?_))))))))
  refine bB h243 fun x288 hu292 h243 => ?_
  refine CO.nestEnd Dk 4 (tl 50 [(0, .own 0), (1, V.i (IntKind.wrap .i64 ((IntKind.wrap .i64 ((IntKind.wrap .i64 ((IntKind.wrap .i64 (y191 + 1)) + 1)) + 1)) + 1))), (5, V.i y192), (45, .vp 0 5 y192.toNat 4)]) [(0, .vec false e0 5 (x285.map (eSN true)))] (tl 50 [(0, .own 0), (1, V.i r287.1), (5, V.i y192)]) [(0, .vec false e0 5 (x288.map (eSN true)))] (by kernel_rfl) (by
      refine wR 2 160 (W.ixO Dk (eSN true) hx290 0 5 (by kernel_rfl) (wR 1 160 ?_))
      exact W.fin (by decide) (by kernel_rfl) (wS [(0, 0)] [0, 1, 5, 45])
      ) ⟨_, rfl, rfl, rfl⟩ ⟨_, rfl, rfl, rfl⟩ ⟨_, rfl, rfl, rfl⟩ cok34 (by kernel_rfl) (by kernel_rfl) (i := 0) (k := 5) (m := y192.toNat) (b := 4) (u := .int .i64 (IntKind.wrap .i64 ((IntKind.wrap .i64 ((IntKind.wrap .i64 ((IntKind.wrap .i64 (y191 + 1)) + 1)) + 1)) + 1))) (by kernel_rfl) (by kernel_rfl) (nn := false) (nn2 := false) (ety := e0) (eSN true) (x' := (⟨e286.Kind, e286.Op, e286.Text, e286.Other, r287.2⟩ : SNode)) hx290 hu292 rfl (by kernel_rfl) (srows := e286.Kids.map eNI) (srows' := r287.2.map eNI) (by kernel_rfl) (by kernel_rfl) (u' := .int .i64 r287.1) (k2 := 1) (fun _ e => ml_markIntS_ok e N (IntKind.wrap .i64 ((IntKind.wrap .i64 ((IntKind.wrap .i64 ((IntKind.wrap .i64 (y191 + 1)) + 1)) + 1)) + 1)) e286.Kids hx291) (fun h0 => ml_markIntS_nil N (IntKind.wrap .i64 ((IntKind.wrap .i64 ((IntKind.wrap .i64 ((IntKind.wrap .i64 (y191 + 1)) + 1)) + 1)) + 1)) e286.Kids hx291 (List.map_eq_nil_iff.1 h0)) (fun r hr => by obtain ⟨a, _, rfl⟩ := List.mem_map.1 hr; rfl) (by
      refine wR 1 160 ?_
      exact W.fin (by decide) (by kernel_rfl) (wS [(0, 0)] [0, 1, 5])
   ) (fun st hw => ?_)
  refine CO.weak hw ?_
  exact cK 160 ih244 (r287.1, (IntKind.wrap .i64 (y192 + 1)), x288) h243 [(0, 0)] [0, 1, 5]
 refine CO.exit (cV 160 (CO.ret ?_))
 have h243 := sI h243
 subst h243
 exact eG [(0, 0)] (.inr rfl) (RetV.one rfl (oT (t := 4) (r := V.i y191)))

theorem ml_markNodeS_v2_ok (N : Nat) (a1 : Int) {r : Int} (h : ml_markNodeS_v2 N a1 = some r) :
    AC Tryz.prog (GS []) 12 [.sl false false ([].map (eSN false)), V.i a1] [] (V.i r) [] := by
 rw [ml_markNodeS_v2] at h
 refine AC.enter Tryz.func12 rfl (cV 100 (CO.seq' (cV 100 (CO.block' (CO.loopJ (fun (a1 : Int) => ⟨tl 50 [(0, .sl false false ([].map (eSN false))), (1, V.i a1), (5, V.i 0)], []⟩) (fun n i => ml_markNodeS_v2_l1 N n i = some r) (n0 := N) (i0 := a1) (wS [] [0, 1, 5]) h (fun i h => by simp [ml_markNodeS_v2_l1] at h) ?_)))))
 rintro n1 a1 h3 ih4
 rw [ml_markNodeS_v2_l1] at h3
 refine CO.seq' (CO.sw mix (wR 2 120 (W.len Dk (eSN false) [] [] (by kernel_rfl) (by kernel_rfl) (wR 1 120 (wF (CO.ifF (c := false) rfl (by kernel_rfl) (CO.exit (cV 120 ?_))))))))
 cases h3
 exact e1 4 id

theorem ml_markNodeS_nil (N : Nat) (k : Int) (l : List SNode) {r : (Int × (List SNode))} (h : ml_markNodeS N k l = some r) (hl : l = []) :
  r.2.map (eSN true) = [] ∧ AC Tryz.prog (GS []) 12 [.sl false false [], V.i k] [] (V.i r.1) [] := by
 subst hl
 have h2 : r.2 = [] ∧ ml_markNodeS_v2 N k = some r.1 := by
  cases N with
  | zero => simp [ml_markNodeS_l1, ml_markNodeS] at h
  | succ N =>
   simp [ml_markNodeS_l1, ml_markNodeS] at h
   subst h
   simp [ml_markNodeS_v2_l1, ml_markNodeS_v2]
 exact ⟨by rw [h2.1]; rfl, ml_markNodeS_v2_ok N k h2.2⟩

theorem ml_markHoleS_ok (e0 : TypeId) (N : Nat) (a1 : Int) (p0 : List SHole) {r : (Int × (List SHole))} (h : ml_markHoleS N a1 p0 = some r) :
    AC Tryz.prog (GS []) 13 [.own 0, V.i a1] [(0, .vec false e0 2 (p0.map (encSHole true)))] (V.i r.1) [(0, .vec false e0 2 (r.2.map (encSHole true)))] := by
 rw [ml_markHoleS] at h
 refine AC.enter Tryz.func13 rfl (cV 100 (CO.seq' (cV 100 (CO.block' (CO.loopJ (fun (⟨y79, y80, y81⟩ : (Int × Int × (List SHole))) => ⟨tl 28 [(0, .own 0), (1, V.i y79), (5, V.i y80)], [(0, .vec false e0 2 (y81.map (encSHole true)))]⟩) (fun n i => ml_markHoleS_l1 N n i = some r) (n0 := N) (i0 := (a1, 0, p0)) (wS [(0, 0)] [0, 1, 5]) h (fun i h => by simp [ml_markHoleS_l1] at h) ?_)))))
 rintro n1 ⟨y79, y80, y81⟩ h103 ih104
 rw [ml_markHoleS_l1] at h103
 refine CO.seq' (CO.sw mix (wR 2 160 (W.len Dk (encSHole true) y81 [0] (by kernel_rfl) (by kernel_rfl) (wR 1 160 (wF ?_)))))
 refine cI h103 (fun _ h103 => ?_) (fun _ h103 => ?_)
 ·refine CO.skip (CO.seq' (CO.block' (bB h103 fun r115 hx119 h103 => (bB h103 fun e116 hx120 h103 => (bB h103 fun x117 hu121 h103 => (CO.sw mix (wR 3 160 (W.call0 (ml_markText_ok N y79 hx119) cok33 rfl (by kernel_rfl) ?_))))))))
  refine W.ixO Dk (encSHole true) hx120 0 2 (by kernel_rfl) (wR 1 160 (W.stO Dk (encSHole true) (x' := (⟨r115, e116.Part⟩ : SHole)) hx120 hu121 (j := 0) (nn := false) (ety := e0) (sz := 2) (b := 0) (ys := [V.s r115]) (C := []) (R := []) (by kernel_rfl) (by kernel_rfl) (wF (cV 160 (bB h103 fun e118 hx122 h103 => (bB h103 fun r119 hx123 h103 => (bB h103 fun x120 hu124 h103 => ?_)))))))
  refine CO.nestEnd Dk 4 (tl 28 [(0, .own 0), (1, V.i (IntKind.wrap .i64 (y79 + 1))), (5, V.i y80), (23, .vp 0 2 y80.toNat 1)]) [(0, .vec false e0 2 (x117.map (encSHole true)))] (tl 28 [(0, .own 0), (1, V.i r119.1), (5, V.i y80)]) [(0, .vec false e0 2 (x120.map (encSHole true)))] (by kernel_rfl) (by
      refine wR 2 160 (W.ixO Dk (encSHole true) hx122 0 2 (by kernel_rfl) (wR 1 160 ?_))
      exact W.fin (by decide) (by kernel_rfl) (wS [(0, 0)] [0, 1, 5, 23])
      ) ⟨_, rfl, rfl, rfl⟩ ⟨_, rfl, rfl, rfl⟩ ⟨_, rfl, rfl, rfl⟩ cok12 (by kernel_rfl) (by kernel_rfl) (i := 0) (k := 2) (m := y80.toNat) (b := 1) (u := .int .i64 (IntKind.wrap .i64 (y79 + 1))) (by kernel_rfl) (by kernel_rfl) (nn := false) (nn2 := false) (ety := e0) (encSHole true) (x' := (⟨e118.Name, r119.2⟩ : SHole)) hx122 hu124 rfl (by kernel_rfl) (srows := e118.Part.map (eSN true)) (srows' := r119.2.map (eSN true)) (by kernel_rfl) (by kernel_rfl) (u' := .int .i64 r119.1) (k2 := 5) (fun _ e => ml_markNodeS_ok e N (IntKind.wrap .i64 (y79 + 1)) e118.Part hx123) (fun h0 => ml_markNodeS_nil N (IntKind.wrap .i64 (y79 + 1)) e118.Part hx123 (List.map_eq_nil_iff.1 h0)) (fun r hr => by obtain ⟨a, _, rfl⟩ := List.mem_map.1 hr; rfl) (by
      refine wR 1 160 ?_
      exact W.fin (by decide) (by kernel_rfl) (wS [(0, 0)] [0, 1, 5])
   ) (fun st hw => ?_)
  refine CO.weak hw ?_
  exact cK 160 ih104 (r119.1, (IntKind.wrap .i64 (y80 + 1)), x120) h103 [(0, 0)] [0, 1, 5]
 refine CO.exit (cV 160 (CO.ret ?_))
 have h103 := sI h103
 subst h103
 exact eG [(0, 0)] (.inr rfl) (RetV.one rfl (oT (t := 4) (r := V.i y79)))

theorem ml_heldIntS_ok (N : Nat) (a0 : List Int) (a1 : Int) {r : Int} (h : ml_heldIntS N a0 a1 = some r) :
    AC Tryz.prog (GS []) 35 [.sl false false (a0.map eNI), V.i a1] [] (V.i r) [] := by
 rw [ml_heldIntS] at h
 refine AC.enter Tryz.func35 rfl (cV 100 (CO.seq' (cV 100 (CO.block' (CO.loopJ (fun (⟨a0, y37, y38⟩ : ((List Int) × Int × Int)) => ⟨tl 21 [(0, .sl false false (a0.map eNI)), (1, V.i y37), (5, V.i y38)], []⟩) (fun n i => ml_heldIntS_l1 N n i = some r) (n0 := N) (i0 := (a0, a1, 0)) (wS [] [0, 1, 5]) h (fun i h => by simp [ml_heldIntS_l1] at h) ?_)))))
 rintro n1 ⟨a0, y37, y38⟩ h73 ih74
 rw [ml_heldIntS_l1] at h73
 refine CO.seq' (CO.sw mix (wR 2 160 (W.len Dk eNI a0 [] (by kernel_rfl) (by kernel_rfl) (wR 1 160 (wF ?_)))))
 refine cI h73 (fun _ h73 => ?_) (fun _ h73 => ?_)
 ·refine CO.skip (CO.seq' (CO.block' (CO.seq' (bB h73 fun e56 hx87 h73 => (CO.sw mix (wR 2 160 (W.ixD Dk eNI hx87 1 (by kernel_rfl) (by kernel_rfl) (wR 3 160 ?_))))))))
  refine wF ?_
  refine cI h73 (fun _ h73 => ?_) (fun _ h73 => ?_)
  ·refine cV 160 ?_
   cases h73
   exact e1 4 id
  refine CO.skip ?_
  refine cE 3 160 (tl 21 [(0, .sl false false (a0.map eNI)), (1, V.i (IntKind.wrap .i64 (y37 + 1))), (5, V.i y38)]) [] (fun st hw => ?_)
  refine CO.weak hw ?_
  exact cK 160 ih74 (a0, (IntKind.wrap .i64 (y37 + 1)), (IntKind.wrap .i64 (y38 + 1))) h73 [] [0, 1, 5]
 refine CO.exit (cV 160 ?_)
 cases h73
 exact e1 4 id

theorem ml_heldNodeS_ok (N : Nat) (a0 : List SNode) (a1 : Int) {r : Int} (h : ml_heldNodeS N a0 a1 = some r) :
    AC Tryz.prog (GS []) 14 [.sl false false (a0.map (eSN false)), V.i a1] [] (V.i r) [] := by
 rw [ml_heldNodeS] at h
 refine AC.enter Tryz.func14 rfl (cV 100 (CO.seq' (cV 100 (CO.block' (CO.loopJ (fun (⟨a0, y229, y230⟩ : ((List SNode) × Int × Int)) => ⟨tl 60 [(0, .sl false false (a0.map (eSN false))), (1, V.i y229), (5, V.i y230)], []⟩) (fun n i => ml_heldNodeS_l1 N n i = some r) (n0 := N) (i0 := (a0, a1, 0)) (wS [] [0, 1, 5]) h (fun i h => by simp [ml_heldNodeS_l1] at h) ?_)))))
 rintro n1 ⟨a0, y229, y230⟩ h383 ih384
 rw [ml_heldNodeS_l1] at h383
 refine CO.seq' (CO.sw mix (wR 2 160 (W.len Dk (eSN false) a0 [] (by kernel_rfl) (by kernel_rfl) (wR 1 160 (wF ?_)))))
 refine cI h383 (fun _ h383 => ?_) (fun _ h383 => ?_)
 ·refine CO.skip (CO.seq' (CO.block' (CO.seq' (bB h383 fun e320 hx428 h383 => (CO.sw mix (wR 2 160 (W.ixD Dk (eSN false) hx428 5 (by kernel_rfl) (by kernel_rfl) (wR 4 160 ?_))))))))
  refine wF ?_
  refine cI h383 (fun _ h383 => ?_) (fun _ h383 => ?_)
  ·refine cV 160 ?_
   cases h383
   exact e1 4 id
  refine CO.skip (cV 160 (CO.seq' (bB h383 fun e324 hx434 h383 => (CO.sw mix (wR 2 160 (W.ixD Dk (eSN false) hx434 5 (by kernel_rfl) (by kernel_rfl) (wR 4 160 (wF ?_))))))))
  refine cI h383 (fun _ h383 => ?_) (fun _ h383 => ?_)
  ·refine cV 160 ?_
   cases h383
   exact e1 4 id
  refine CO.skip (cV 160 (CO.seq' (bB h383 fun e331 hx443 h383 => (bB h383 fun r332 hx444 h383 => (CO.sw mix (wR 2 160 (W.ixD Dk (eSN false) hx443 5 (by kernel_rfl) (by kernel_rfl) (wR 3 160 ?_))))))))
  refine W.call0 (ml_markText_ok N (IntKind.wrap .i64 ((IntKind.wrap .i64 (y229 + 1)) + 1)) hx444) cok33 rfl (by kernel_rfl) (wR 1 160 (wF ?_))
  refine cI h383 (fun _ h383 => ?_) (fun _ h383 => ?_)
  ·refine cV 160 ?_
   cases h383
   exact e1 4 id
  refine CO.skip (cV 160 (CO.seq' (bB h383 fun e339 hx453 h383 => (bB h383 fun r340 hx454 h383 => (CO.sw mix (wR 2 160 (W.ixD Dk (eSN false) hx453 5 (by kernel_rfl) (by kernel_rfl) (wR 3 160 ?_))))))))
  refine W.call0 (ml_markText_ok N (IntKind.wrap .i64 ((IntKind.wrap .i64 ((IntKind.wrap .i64 (y229 + 1)) + 1)) + 1)) hx454) cok33 rfl (by kernel_rfl) (wR 1 160 (wF ?_))
  refine cI h383 (fun _ h383 => ?_) (fun _ h383 => ?_)
  ·refine cV 160 ?_
   cases h383
   exact e1 4 id
  refine CO.skip (cV 160 (bB h383 fun e343 hx458 h383 => (bB h383 fun r344 hx459 h383 => (CO.sw mix (wR 2 160 (W.ixD Dk (eSN false) hx458 5 (by kernel_rfl) (by kernel_rfl) (wR 3 160 (W.call0 (ml_heldIntS_ok N e343.Kids (IntKind.wrap .i64 ((IntKind.wrap .i64 ((IntKind.wrap .i64 ((IntKind.wrap .i64 (y229 + 1)) + 1)) + 1)) + 1)) hx459) cok35 rfl (by kernel_rfl) ?_))))))))
  refine wR 1 160 (wF (cV 160 ?_))
  refine cI h383 (fun _ h383 => ?_) (fun _ h383 => ?_)
  ·refine cV 160 ?_
   cases h383
   exact e1 4 id
  refine CO.skip ?_
  exact cK 160 ih384 (a0, r344, (IntKind.wrap .i64 (y230 + 1))) h383 [] [0, 1, 5]
 refine CO.exit (cV 160 ?_)
 cases h383
 exact e1 4 id

theorem ml_FnExactFillIn_ok (N : Nat) (a0 : List SNode) (a1 : List SHole) {r : Bool} (h : ml_FnExactFillIn N a0 a1 = some r) :
    AC Tryz.prog (GS [0, 1, 2]) 3 [.sl false false (a0.map (eSN false)), .sl false false (a1.map (encSHole false))] [] (V.b r) [] := by
 rw [ml_FnExactFillIn] at h
 refine AC.enter Tryz.func3 rfl (cV 100 (cV 100 (bB h fun r2 hx2 h => (cC 2 100 (AC.gs (ml_szNodeS_ok N a0 1048576 hx2) (by decide)) cok4 (CO.seq' (cV 100 ?_))))))
 refine cI h (fun _ h => ?_) (fun _ h => ?_)
 ·refine cV 100 ?_
  cases h
  exact e1 4 id
 refine CO.skip (bB h fun r4 hx6 h => (cC 2 100 (AC.gs (ml_szHoleS_ok N a1 r2 hx6) (by decide)) cok5 (CO.seq' (cV 100 ?_))))
 refine cI h (fun _ h => ?_) (fun _ h => ?_)
 ·refine cV 100 ?_
  cases h
  exact e1 4 id
 refine CO.skip (bB h fun r8 hx12 h => (bB h fun r9 hx13 h => (bB h fun r10 hx14 h => (CO.sw mix (wR 1 100 (W.call (AC.gs (ml_toNodeS_ok N a0 hx12) (by decide)) cok7 [] [(100, 100)] [100] (show LayOk _ [] from trivial) (by kernel_rfl) (by kernel_rfl) (wR 1 101 (W.call (AC.gs (ml_toHoleS_ok N a1 hx13) (by decide)) cok8 [] [(100, 101)] [101] (show LayOk _ [] from trivial) (by kernel_rfl) (by kernel_rfl) ?_))))))))
 refine W.lend (AC.gs (ms_FillIn_ok N r8 r9 hx14) (by decide)) cok6 [(100, 102)] [102] (LayOk.cons (j := 100) (eSN true) (eSN false) r8 (by kernel_rfl) (sh_eSN _) (LayOk.cons (j := 101) (encSHole true) (encSHole false) r9 (by kernel_rfl) (share_encSHole _) (show LayOk _ [] from trivial))) (.own _) (.cons (DeepR.map (fun _ => (.cons (.c _) (.cons (.c _) (.cons (.c _) (.cons (.c _) (.cons (.sl _ _ (DeepR.map (fun _ => (.cons (.c _) .nil)) _)) .nil)))))) _) .nil) (by kernel_rfl) (by kernel_rfl) (wR 1 103 (wF (bB h fun r12 hx16 h => (CO.sw mix (wR 1 103 (W.call (AC.gs (ml_toNodeS_ok N a0 hx16) (by decide)) cok7 [] [(100, 103)] [103] (show LayOk _ [] from trivial) (by kernel_rfl) (by kernel_rfl) (wR 1 104 (wF ?_))))))))
 refine bB h fun r14 hx18 h => (CO.sw mix (wR 1 104 (W.call (AC.gs (ml_toHoleS_ok N a1 hx18) (by decide)) cok8 [] [(100, 104)] [104] (show LayOk _ [] from trivial) (by kernel_rfl) (by kernel_rfl) (wR 1 105 (wF (bB h fun r16 hx20 h => (CO.sw mix (wR 2 105 ?_))))))))
 refine W.lend (mi_FillIn_ok N r12 r14 hx20) cok9 [(100, 105)] [105] (LayOk.cons (j := 103) (eSN true) (eSN false) r12 (by kernel_rfl) (sh_eSN _) (LayOk.cons (j := 104) (encSHole true) (encSHole false) r14 (by kernel_rfl) (share_encSHole _) (show LayOk _ [] from trivial))) (.own _) (.cons (DeepR.map (fun _ => (.cons (.c _) (.cons (.c _) (.cons (.c _) (.cons (.c _) (.cons (.sl _ _ (DeepR.map (fun _ => (.cons (.c _) .nil)) _)) .nil)))))) _) .nil) (by kernel_rfl) (by kernel_rfl) (wR 1 106 (wF (CO.seq' (bB h fun r20 hx25 h => (CO.sw mix (wR 2 106 (W.lend (AC.gs (ml_eqNodeS_ok N r16 r10 hx25) (by decide)) cok10 [] [] (LayOk.cons (j := 105) (eSN true) (eSN false) r16 (by kernel_rfl) (sh_eSN _) (LayOk.cons (j := 102) (eSN true) (eSN false) r10 (by kernel_rfl) (sh_eSN _) (show LayOk _ [] from trivial))) (.c _) .nil (by kernel_rfl) (by kernel_rfl) (wR 1 106 ?_))))))))
 refine wF ?_
 refine cI h (fun _ h => ?_) (fun _ h => ?_)
 ·refine cV 106 ?_
  cases h
  exact e1 4 id
 refine CO.skip (CO.seq' (bB h fun r27 hx34 h => (bB h fun r28 hx35 h => (CO.sw mix (wR 2 106 (W.call (AC.gs (ml_toNodeS_ok N a0 hx34) (by decide)) cok7 [] [(100, 106)] [106] (show LayOk _ [] from trivial) (by kernel_rfl) (by kernel_rfl) (W.lend (AC.gs (ml_eqNodeS_ok N r12 r27 hx35) (by decide)) cok10 [] [] (LayOk.cons (j := 103) (eSN true) (eSN false) r12 (by kernel_rfl) (sh_eSN _) (LayOk.cons (j := 106) (eSN true) (eSN false) r27 (by kernel_rfl) (sh_eSN _) (show LayOk _ [] from trivial))) (.c _) .nil (by kernel_rfl) (by kernel_rfl) (wR 1 107 ?_))))))))
 refine wF ?_
 refine cI h (fun _ h => ?_) (fun _ h => ?_)
 ·refine cV 107 ?_
  cases h
  exact e1 4 id
 refine CO.skip (CO.seq' (bB h fun r35 hx44 h => (bB h fun r36 hx45 h => (CO.sw mix (wR 2 107 (W.call (AC.gs (ml_toHoleS_ok N a1 hx44) (by decide)) cok8 [] [(100, 107)] [107] (show LayOk _ [] from trivial) (by kernel_rfl) (by kernel_rfl) (W.lend (AC.gs (ml_eqHoleS_ok N r14 r35 hx45) (by decide)) cok11 [] [] (LayOk.cons (j := 104) (encSHole true) (encSHole false) r14 (by kernel_rfl) (share_encSHole _) (LayOk.cons (j := 107) (encSHole true) (encSHole false) r35 (by kernel_rfl) (share_encSHole _) (show LayOk _ [] from trivial))) (.c _) .nil (by kernel_rfl) (by kernel_rfl) (wR 1 108 ?_))))))))
 refine wF ?_
 refine cI h (fun _ h => ?_) (fun _ h => ?_)
 ·refine cV 108 ?_
  cases h
  exact e1 4 id
 refine CO.skip (cV 108 (bB h fun r38 hx48 h => (CO.sw mix (wR 2 108 (W.call (AC.gs (ml_markNodeS_ok 45 N 1 r12 hx48) (by decide)) cok12 [(103, 0)] [(0, 103)] [] (show LayOk _ [] from trivial) (by kernel_rfl) (by kernel_rfl) (wR 1 108 (wF (bB h fun r40 hx50 h => ?_))))))))
 refine CO.sw mix (wR 2 108 (W.call (AC.gs (ml_markHoleS_ok 48 N r38.1 r14 hx50) (by decide)) cok13 [(104, 0)] [(0, 104)] [] (show LayOk _ [] from trivial) (by kernel_rfl) (by kernel_rfl) (wR 1 108 (wF (CO.seq' (bB h fun y45 hv59 h => ?_))))))
 refine CO.cutR (tl 92 [(0, .sl false false (a0.map (eSN false))), (1, .sl false false (a1.map (encSHole false))), (6, .own 100), (9, .own 101), (63, V.b y45)]) [(100, .vec false 45 5 (r10.map (eSN true))), (101, .vec false 45 5 (r16.map (eSN true)))] mix (by
  refine wR 3 108 ?_
  refine wJ 58 hv59 (fun hv59 => ?_) (fun hv59 => ?_)
  ·refine wR 5 108 ?_
   cases hv59
   exact fS [(102, 100), (105, 101)] [0, 1, 6, 9, 63]
  refine wR 2 108 (bB hv59 fun r46 hx61 hv59 => (W.lend (AC.gs (ml_eqNodeS_ok N r16 r10 hx61) (by decide)) cok10 [] [] (LayOk.cons (j := 105) (eSN true) (eSN false) r16 (by kernel_rfl) (sh_eSN _) (LayOk.cons (j := 102) (eSN true) (eSN false) r10 (by kernel_rfl) (sh_eSN _) (show LayOk _ [] from trivial))) (.c _) .nil (by kernel_rfl) (by kernel_rfl) (wR 2 108 ?_)))
  cases hv59
  exact fS [(102, 100), (105, 101)] [0, 1, 6, 9, 63]
  ) ?_
 refine cI h (fun _ h => ?_) (fun _ h => ?_)
 ·refine cV 108 ?_
  cases h
  exact e1 4 id
 refine CO.skip (cV 108 (bB h fun r48 hx64 h => (CO.sw mix (wR 2 108 (W.call (AC.gs (ml_markNodeS_ok 45 N 1 r16 hx64) (by decide)) cok12 [(101, 0)] [(0, 101)] [] (show LayOk _ [] from trivial) (by kernel_rfl) (by kernel_rfl) (wR 1 108 (wF (cV 108 ?_))))))))
 refine bB h fun r50 hx66 h => (CO.sw mix (wR 2 108 (W.lend (AC.gs (ml_heldNodeS_ok N r48.2 1 hx66) (by decide)) cok14 [] [] (LayOk.cons (j := 101) (eSN true) (eSN false) r48.2 (by kernel_rfl) (sh_eSN _) (show LayOk _ [] from trivial)) (.c _) .nil (by kernel_rfl) (by kernel_rfl) (wR 1 108 (wF (CO.seq' (cV 108 ?_)))))))
 refine cI h (fun _ h => ?_) (fun _ h => ?_)
 ·refine cV 108 ?_
  cases h
  exact e1 4 id
 refine CO.skip (CO.seq' (cV 108 ?_))
 refine cI h (fun _ h => ?_) (fun _ h => ?_)
 ·refine cV 108 ?_
  cases h
  exact e1 4 id
 refine CO.skip (bB h fun r54 hx74 h => (bB h fun r55 hx75 h => (bB h fun r56 hx76 h => (CO.sw mix (wR 1 108 (W.call (AC.gs (ml_toNodeS_ok N a0 hx74) (by decide)) cok7 [] [(100, 108)] [108] (show LayOk _ [] from trivial) (by kernel_rfl) (by kernel_rfl) (wR 1 109 (W.call (AC.gs (ml_toHoleS_ok N a1 hx75) (by decide)) cok8 [] [(100, 109)] [109] (show LayOk _ [] from trivial) (by kernel_rfl) (by kernel_rfl) ?_))))))))
 refine W.lend (mi_FillIn_ok N r54 r55 hx76) cok9 [(100, 110)] [110] (LayOk.cons (j := 108) (eSN true) (eSN false) r54 (by kernel_rfl) (sh_eSN _) (LayOk.cons (j := 109) (encSHole true) (encSHole false) r55 (by kernel_rfl) (share_encSHole _) (show LayOk _ [] from trivial))) (.own _) (.cons (DeepR.map (fun _ => (.cons (.c _) (.cons (.c _) (.cons (.c _) (.cons (.c _) (.cons (.sl _ _ (DeepR.map (fun _ => (.cons (.c _) .nil)) _)) .nil)))))) _) .nil) (by kernel_rfl) (by kernel_rfl) (wR 1 111 (wF (CO.seq' (bB h fun r60 hx81 h => (CO.sw mix (wR 2 111 (W.lend (AC.gs (ml_eqNodeS_ok N r56 r10 hx81) (by decide)) cok10 [] [] (LayOk.cons (j := 110) (eSN true) (eSN false) r56 (by kernel_rfl) (sh_eSN _) (LayOk.cons (j := 100) (eSN true) (eSN false) r10 (by kernel_rfl) (sh_eSN _) (show LayOk _ [] from trivial))) (.c _) .nil (by kernel_rfl) (by kernel_rfl) (wR 1 111 ?_))))))))
 refine wF ?_
 refine cI h (fun _ h => ?_) (fun _ h => ?_)
 ·refine cV 111 ?_
  cases h
  exact e1 4 id
 refine CO.skip (cV 111 (bB h fun r62 hx84 h => (CO.sw mix (wR 2 111 (W.lend (AC.gs (ml_heldNodeS_ok N r48.2 1 hx84) (by decide)) cok14 [] [] (LayOk.cons (j := 101) (eSN true) (eSN false) r48.2 (by kernel_rfl) (sh_eSN _) (show LayOk _ [] from trivial)) (.c _) .nil (by kernel_rfl) (by kernel_rfl) (wR 1 111 (wF (CO.seq' ?_))))))))
 refine cV 111 ?_
 refine cI h (fun _ h => ?_) (fun _ h => ?_)
 ·refine cV 111 ?_
  cases h
  exact e1 4 id
 refine CO.skip (CO.seq' (cV 111 ?_))
 refine cI h (fun _ h => ?_) (fun _ h => ?_)
 ·refine cV 111 ?_
  cases h
  exact e1 4 id
 refine CO.skip (cV 111 ?_)
 cases h
 exact e1 4 id

end Go.Proofs.Tryz
