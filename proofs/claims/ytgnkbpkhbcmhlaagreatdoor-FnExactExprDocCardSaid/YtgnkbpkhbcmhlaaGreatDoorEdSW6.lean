/-
 The walks that show that the code computes the models, part 6.
-/
import Derived.Test.YtgnkbpkhbcmhlaaGreatDoorEdSW5
namespace Go.Proofs.Tryz
open Go.Av
set_option maxRecDepth 100000
set_option maxHeartbeats 8000000
set_option linter.unusedSimpArgs false
set_option linter.unusedVariables false

theorem ml_eqIntS_ok (N : Nat) (a0 : List Int) (a1 : List Int) {r : Bool} (h : ml_eqIntS N a0 a1 = some r) :
    AC Tryz.prog (GS []) 63 [sL eNI a0, sL eNI a1] [] (V.b r) [] := by
 rw [ml_eqIntS] at h
 refine AC.enter Tryz.func63 rfl (cV 100 (CO.seq' (CO.sw mix (wR 1 100 (wN eNI a0 [] (wR 1 100 (wN eNI a1 [] (wR 1 100 ?_))))))))
 refine wF ?_
 refine cI h (fun _ h => ?_) (fun _ h => ?_)
 ·refine cV 100 ?_
  cases h
  exact e1 4 id
 refine CO.skip (CO.seq' (cV 100 (CO.block' (CO.loopJ (fun (⟨a0, a1, y35⟩ : ((List Int) × (List Int) × Int)) => ⟨tl 26 [(0, sL eNI a0), (1, sL eNI a1), (5, V.i y35)], []⟩) (fun n i => ml_eqIntS_l1 N n i = some r) (n0 := N) (i0 := (a0, a1, 0)) (wS [] [0, 1, 5]) h (fun i h => by simp [ml_eqIntS_l1] at h) ?_))))
 rintro n1 ⟨a0, a1, y35⟩ h65 ih66
 rw [ml_eqIntS_l1] at h65
 refine CO.seq' (CO.sw mix (wR 2 160 (wN eNI a0 [] (wR 1 160 (wF ?_)))))
 refine cI h65 (fun _ h65 => ?_) (fun _ h65 => ?_)
 ·refine CO.skip (CO.seq' (CO.block' (bB h65 fun e51 hx76 h65 => (bB h65 fun e52 hx77 h65 => (CO.sw mix (wR 2 160 (wX eNI hx76 1 (wR 3 160 ?_))))))))
  refine wX eNI hx77 1 (wR 2 160 (wF ?_))
  refine cI h65 (fun _ h65 => ?_) (fun _ h65 => ?_)
  ·refine cV 160 ?_
   cases h65
   exact e1 4 id
  refine CO.skip ?_
  exact cK 160 ih66 (a0, a1, (wr (y35 + 1))) h65 [] [0, 1, 5]
 refine CO.exit (cV 160 ?_)
 cases h65
 exact e1 4 id

theorem ml_eqDNode_ok (N : Nat) (a0 : SDNode) (a1 : SDNode) {r : Bool} (h : ml_eqDNode N a0 a1 = some r) :
    AC Tryz.prog (GS []) 30 [.agg [V.i a0.Kind, V.i a0.N, V.s a0.Text, sL eNI a0.Kids], .agg [V.i a1.Kind, V.i a1.N, V.s a1.Text, sL eNI a1.Kids]] [] (V.b r) [] := by
 rw [ml_eqDNode] at h
 refine AC.enter Tryz.func30 rfl (cV 100 (CO.seq' (cV 102 ?_)))
 refine cI h (fun _ h => ?_) (fun _ h => ?_)
 ·refine cV 102 ?_
  cases h
  exact e1 4 id
 refine CO.skip (CO.seq' (cV 102 ?_))
 refine cI h (fun _ h => ?_) (fun _ h => ?_)
 ·refine cV 102 ?_
  cases h
  exact e1 4 id
 refine CO.skip (CO.seq' (cV 102 ?_))
 refine cI h (fun _ h => ?_) (fun _ h => ?_)
 ·refine cV 102 ?_
  cases h
  exact e1 4 id
 refine CO.skip (CO.seq' (bB h fun r4 hx11 h => (cC 4 102 (ml_eqIntS_ok N a0.Kids a1.Kids hx11) cok63 ?_)))
 refine cI h (fun _ h => ?_) (fun _ h => ?_)
 ·refine cV 102 ?_
  cases h
  exact e1 4 id
 refine CO.skip (cV 102 ?_)
 cases h
 exact e1 4 id

theorem ml_eqDNodeS_ok (N : Nat) (a0 : LD) (a1 : LD) {r : Bool} (h : ml_eqDNodeS N a0 a1 = some r) :
    AC Tryz.prog (GS []) 11 [.sl false false (a0.map (encSDNode false)), .sl false false (a1.map (encSDNode false))] [] (V.b r) [] := by
 rw [ml_eqDNodeS] at h
 refine AC.enter Tryz.func11 rfl (cV 100 (CO.seq' (CO.sw mix (wR 1 100 (wN (encSDNode false) a0 [] (wR 1 100 (wN (encSDNode false) a1 [] (wR 1 100 ?_))))))))
 refine wF ?_
 refine cI h (fun _ h => ?_) (fun _ h => ?_)
 ·refine cV 100 ?_
  cases h
  exact e1 4 id
 refine CO.skip (CO.seq' (cV 100 (CO.block' (CO.loopJ (fun (⟨a0, a1, y51⟩ : (LD × LD × Int)) => ⟨tl 27 [(0, .sl false false (a0.map (encSDNode false))), (1, .sl false false (a1.map (encSDNode false))), (5, V.i y51)], []⟩) (fun n i => ml_eqDNodeS_l1 N n i = some r) (n0 := N) (i0 := (a0, a1, 0)) (wS [] [0, 1, 5]) h (fun i h => by simp [ml_eqDNodeS_l1] at h) ?_))))
 rintro n1 ⟨a0, a1, y51⟩ h85 ih86
 rw [ml_eqDNodeS_l1] at h85
 refine CO.seq' (CO.sw mix (wR 2 160 (wN (encSDNode false) a0 [] (wR 1 160 (wF ?_)))))
 refine cI h85 (fun _ h85 => ?_) (fun _ h85 => ?_)
 ·refine CO.skip (CO.seq' (CO.block' (bB h85 fun e74 hx99 h85 => (bB h85 fun e75 hx100 h85 => (bB h85 fun r76 hx101 h85 => (CO.sw mix (wR 2 160 (wX (encSDNode false) hx99 4 ?_))))))))
  refine wR 3 160 (wX (encSDNode false) hx100 4 (wR 1 160 (w0 (ml_eqDNode_ok N e74 e75 hx101) cok30 (wR 1 160 (wF ?_)))))
  refine cI h85 (fun _ h85 => ?_) (fun _ h85 => ?_)
  ·refine cV 160 ?_
   cases h85
   exact e1 4 id
  refine CO.skip ?_
  exact cK 160 ih86 (a0, a1, (wr (y51 + 1))) h85 [] [0, 1, 5]
 refine CO.exit (cV 160 ?_)
 cases h85
 exact e1 4 id

theorem ml_eqNode_ok (N : Nat) (a0 : SNode) (a1 : SNode) {r : Bool} (h : ml_eqNode N a0 a1 = some r) :
    AC Tryz.prog (GS []) 31 [.agg [V.i a0.Kind, V.i a0.Op, V.s a0.Text, V.s a0.Other, sL eNI a0.Kids], .agg [V.i a1.Kind, V.i a1.Op, V.s a1.Text, V.s a1.Other, sL eNI a1.Kids]] [] (V.b r) [] := by
 rw [ml_eqNode] at h
 refine AC.enter Tryz.func31 rfl (cV 100 (CO.seq' (cV 102 ?_)))
 refine cI h (fun _ h => ?_) (fun _ h => ?_)
 ·refine cV 102 ?_
  cases h
  exact e1 4 id
 refine CO.skip (CO.seq' (cV 102 ?_))
 refine cI h (fun _ h => ?_) (fun _ h => ?_)
 ·refine cV 102 ?_
  cases h
  exact e1 4 id
 refine CO.skip (CO.seq' (cV 102 ?_))
 refine cI h (fun _ h => ?_) (fun _ h => ?_)
 ·refine cV 102 ?_
  cases h
  exact e1 4 id
 refine CO.skip (CO.seq' (cV 102 ?_))
 refine cI h (fun _ h => ?_) (fun _ h => ?_)
 ·refine cV 102 ?_
  cases h
  exact e1 4 id
 refine CO.skip (CO.seq' (bB h fun r4 hx13 h => (cC 4 102 (ml_eqIntS_ok N a0.Kids a1.Kids hx13) cok63 ?_)))
 refine cI h (fun _ h => ?_) (fun _ h => ?_)
 ·refine cV 102 ?_
  cases h
  exact e1 4 id
 refine CO.skip (cV 102 ?_)
 cases h
 exact e1 4 id

theorem ml_eqNodeS_ok (N : Nat) (a0 : LN) (a1 : LN) {r : Bool} (h : ml_eqNodeS N a0 a1 = some r) :
    AC Tryz.prog (GS []) 12 [.sl false false (a0.map (eSN false)), .sl false false (a1.map (eSN false))] [] (V.b r) [] := by
 rw [ml_eqNodeS] at h
 refine AC.enter Tryz.func12 rfl (cV 100 (CO.seq' (CO.sw mix (wR 1 100 (wN (eSN false) a0 [] (wR 1 100 (wN (eSN false) a1 [] (wR 1 100 ?_))))))))
 refine wF ?_
 refine cI h (fun _ h => ?_) (fun _ h => ?_)
 ·refine cV 100 ?_
  cases h
  exact e1 4 id
 refine CO.skip (CO.seq' (cV 100 (CO.block' (CO.loopJ (fun (⟨a0, a1, y51⟩ : (LN × LN × Int)) => ⟨tl 27 [(0, .sl false false (a0.map (eSN false))), (1, .sl false false (a1.map (eSN false))), (5, V.i y51)], []⟩) (fun n i => ml_eqNodeS_l1 N n i = some r) (n0 := N) (i0 := (a0, a1, 0)) (wS [] [0, 1, 5]) h (fun i h => by simp [ml_eqNodeS_l1] at h) ?_))))
 rintro n1 ⟨a0, a1, y51⟩ h85 ih86
 rw [ml_eqNodeS_l1] at h85
 refine CO.seq' (CO.sw mix (wR 2 160 (wN (eSN false) a0 [] (wR 1 160 (wF ?_)))))
 refine cI h85 (fun _ h85 => ?_) (fun _ h85 => ?_)
 ·refine CO.skip (CO.seq' (CO.block' (bB h85 fun e74 hx99 h85 => (bB h85 fun e75 hx100 h85 => (bB h85 fun r76 hx101 h85 => (CO.sw mix (wR 2 160 (wX (eSN false) hx99 5 ?_))))))))
  refine wR 3 160 (wX (eSN false) hx100 5 (wR 1 160 (w0 (ml_eqNode_ok N e74 e75 hx101) cok31 (wR 1 160 (wF ?_)))))
  refine cI h85 (fun _ h85 => ?_) (fun _ h85 => ?_)
  ·refine cV 160 ?_
   cases h85
   exact e1 4 id
  refine CO.skip ?_
  exact cK 160 ih86 (a0, a1, (wr (y51 + 1))) h85 [] [0, 1, 5]
 refine CO.exit (cV 160 ?_)
 cases h85
 exact e1 4 id

theorem ml_markText_ok (N : Nat) (a0 : Int) {r : LU} (h : ml_markText N a0 = some r) :
    AC Tryz.prog (GS []) 32 [V.i a0] [] (V.s r) [] := by
 rw [ml_markText] at h
 refine AC.enter Tryz.func32 rfl (cV 100 (CO.seq' (cV 100 ?_)))
 refine cI h (fun _ h => ?_) (fun _ h => ?_)
 ·refine cV 100 ?_
  cases h
  exact e1 2 id
 refine CO.skip (cV 100 (CO.seq' (CO.block' (CO.loopJ (fun (⟨y13, y14⟩ : (Int × LU)) => ⟨tl 20 [(0, V.i y13), (3, V.s y14)], []⟩) (fun n i => ml_markText_l1 N n i = some r) (n0 := N) (i0 := (a0, [])) (wS [] [0, 3]) h (fun i h => by simp [ml_markText_l1] at h) ?_))))
 rintro n1 ⟨y13, y14⟩ h25 ih26
 rw [ml_markText_l1] at h25
 refine CO.seq' (cV 162 ?_)
 refine cI h25 (fun _ h25 => ?_) (fun _ h25 => ?_)
 ·refine CO.skip (CO.block' (bB h25 fun s20 hx30 h25 => (CO.sw mix (wR 4 162 (wR 1 162 (W.vecEq 162 (nn := true) (e := 5) (k := 1) (rows := [[.c (.int .u8 (IntKind.wrap .u8 (wr (48 + (Int.tmod y13 10)))))]]) (rows' := [(bytI (wr (48 + (Int.tmod y13 10))))].map byteRow) (by kernel_rfl) (by first | (simp only [List.map_cons, List.map_nil, ← bytI_row]; done) | (simp only [List.map_cons, List.map_nil, ← bytI_row]; rfl)) (W.strO Dk ([(bytI (wr (48 + (Int.tmod y13 10))))] : LU) (a := 162) (by kernel_rfl) (wR 1 163 ?_))))))))
  refine W.cat hx30 (by kernel_rfl) (wR 1 163 (wF ?_))
  exact cK 163 ih26 ((wr (Int.tdiv y13 10)), s20) h25 [] [0, 3]
 refine CO.exit (bB h25 fun s22 hx32 h25 => (CO.sw mix (wR 1 162 (W.cat hx32 (by kernel_rfl) (wR 1 162 (wF ?_))))))
 cases h25
 exact e1 2 id

theorem ml_markIntS_ok (e0 : TypeId) (N : Nat) (a1 : Int) (p0 : List Int) {r : (Int × (List Int))} (h : ml_markIntS N a1 p0 = some r) :
    AC Tryz.prog (GS []) 33 [.own 0, V.i a1] [(0, .vec false e0 1 (p0.map eNI))] (V.i r.1) [(0, .vec false e0 1 (r.2.map eNI))] := by
 rw [ml_markIntS] at h
 refine AC.enter Tryz.func33 rfl (cV 100 (CO.seq' (cV 100 (CO.block' (CO.loopJ (fun (⟨y39, y40, y41⟩ : (Int × Int × (List Int))) => ⟨tl 19 [(0, .own 0), (1, V.i y39), (5, V.i y40)], [(0, .vec false e0 1 (y41.map eNI))]⟩) (fun n i => ml_markIntS_l1 N n i = some r) (n0 := N) (i0 := (a1, 0, p0)) (wS [(0, 0)] [0, 1, 5]) h (fun i h => by simp [ml_markIntS_l1] at h) ?_)))))
 rintro n1 ⟨y39, y40, y41⟩ h53 ih54
 rw [ml_markIntS_l1] at h53
 refine CO.seq' (CO.sw mix (wR 2 160 (wN eNI y41 [0] (wR 1 160 (wF ?_)))))
 refine cI h53 (fun _ h53 => ?_) (fun _ h53 => ?_)
 ·refine CO.skip (CO.seq' (CO.block' (bB h53 fun e59 hx63 h53 => (bB h53 fun x60 hu64 h53 => (CO.sw mix (wR 3 160 (W.ixO Dk eNI hx63 0 1 (by kernel_rfl) (W.stO Dk eNI (x' := y39) hx63 hu64 (j := 0) (nn := false) (ety := e0) (sz := 1) (b := 0) (ys := [V.i y39]) (C := []) (R := []) (by kernel_rfl) (by kernel_rfl) ?_))))))))
  refine wF ?_
  refine cE 3 160 (tl 19 [(0, .own 0), (1, V.i (wr (y39 + 1))), (5, V.i y40)]) [(0, .vec false e0 1 (x60.map eNI))] (fun st hw => ?_)
  refine CO.weak hw ?_
  exact cK 160 ih54 ((wr (y39 + 1)), (wr (y40 + 1)), x60) h53 [(0, 0)] [0, 1, 5]
 refine CO.exit (cV 160 (CO.ret ?_))
 have h53 := sI h53
 subst h53
 exact eG [(0, 0)] (.inr rfl) (RetV.one rfl (oT (t := 4) (r := V.i y39)))

theorem ml_markIntS_v2_ok (N : Nat) (a1 : Int) {r : Int} (h : ml_markIntS_v2 N a1 = some r) :
    AC Tryz.prog (GS []) 33 [sL eNI [], V.i a1] [] (V.i r) [] := by
 rw [ml_markIntS_v2] at h
 refine AC.enter Tryz.func33 rfl (cV 100 (CO.seq' (cV 100 (CO.block' (CO.loopJ (fun (a1 : Int) => ⟨tl 19 [(0, sL eNI []), (1, V.i a1), (5, V.i 0)], []⟩) (fun n i => ml_markIntS_v2_l1 N n i = some r) (n0 := N) (i0 := a1) (wS [] [0, 1, 5]) h (fun i h => by simp [ml_markIntS_v2_l1] at h) ?_)))))
 rintro n1 a1 h3 ih4
 rw [ml_markIntS_v2_l1] at h3
 refine CO.seq' (CO.sw mix (wR 2 120 (wN eNI [] [] (wR 1 120 (wF (CO.ifF (c := false) rfl (by kernel_rfl) (CO.exit (cV 120 ?_))))))))
 cases h3
 exact e1 4 id

theorem ml_markIntS_nil (N : Nat) (k : Int) (l : List Int) {r : (Int × (List Int))} (h : ml_markIntS N k l = some r) (hl : l = []) :
  r.2.map eNI = [] ∧ AC Tryz.prog (GS []) 33 [.sl false false [], V.i k] [] (V.i r.1) [] := by
 subst hl
 have h2 : r.2 = [] ∧ ml_markIntS_v2 N k = some r.1 := by
  cases N with
  | zero => simp [ml_markIntS_l1, ml_markIntS] at h
  | succ N =>
   simp [ml_markIntS_l1, ml_markIntS] at h
   subst h
   simp [ml_markIntS_v2_l1, ml_markIntS_v2]
 exact ⟨by rw [h2.1]; rfl, ml_markIntS_v2_ok N k h2.2⟩

theorem ml_markNodeS_ok (e0 : TypeId) (N : Nat) (a1 : Int) (p0 : LN) {r : (Int × LN)} (h : ml_markNodeS N a1 p0 = some r) :
    AC Tryz.prog (GS []) 13 [.own 0, V.i a1] [(0, .vec false e0 5 (p0.map (eSN true)))] (V.i r.1) [(0, .vec false e0 5 (r.2.map (eSN true)))] := by
 rw [ml_markNodeS] at h
 refine AC.enter Tryz.func13 rfl (cV 100 (CO.seq' (cV 100 (CO.block' (CO.loopJ (fun (⟨y191, y192, y193⟩ : (Int × Int × LN)) => ⟨tl 50 [(0, .own 0), (1, V.i y191), (5, V.i y192)], [(0, .vec false e0 5 (y193.map (eSN true)))]⟩) (fun n i => ml_markNodeS_l1 N n i = some r) (n0 := N) (i0 := (a1, 0, p0)) (wS [(0, 0)] [0, 1, 5]) h (fun i h => by simp [ml_markNodeS_l1] at h) ?_)))))
 rintro n1 ⟨y191, y192, y193⟩ h243 ih244
 rw [ml_markNodeS_l1] at h243
 refine CO.seq' (CO.sw mix (wR 2 160 (wN (eSN true) y193 [0] (wR 1 160 (wF ?_)))))
 refine cI h243 (fun _ h243 => ?_) (fun _ h243 => ?_)
 ·refine CO.skip (CO.seq' (CO.block' (bB h243 fun e268 hx272 h243 => (bB h243 fun x269 hu273 h243 => (CO.sw mix (wR 3 160 (W.ixO Dk (eSN true) hx272 0 5 (by kernel_rfl) (wR 1 160 ?_))))))))
  refine W.stO Dk (eSN true) (x' := (⟨y191, e268.Op, e268.Text, e268.Other, e268.Kids⟩ : SNode)) hx272 hu273 (j := 0) (nn := false) (ety := e0) (sz := 5) (b := 0) (ys := [V.i y191]) (C := []) (R := []) (by kernel_rfl) (by kernel_rfl) (wF (cV 160 (bB h243 fun e272 hx276 h243 => (bB h243 fun x273 hu277 h243 => (CO.sw mix (wR 3 160 (W.ixO Dk (eSN true) hx276 0 5 (by kernel_rfl) (wR 1 160 ?_))))))))
  refine W.stO Dk (eSN true) (x' := (⟨e272.Kind, (wr (y191 + 1)), e272.Text, e272.Other, e272.Kids⟩ : SNode)) hx276 hu277 (j := 0) (nn := false) (ety := e0) (sz := 5) (b := 1) (ys := [V.i (wr (y191 + 1))]) (C := []) (R := []) (by kernel_rfl) (by kernel_rfl) (wF (cV 160 (bB h243 fun r277 hx281 h243 => (bB h243 fun e278 hx282 h243 => (bB h243 fun x279 hu283 h243 => (CO.sw mix (wR 3 160 (w0 (ml_markText_ok N (wr ((wr (y191 + 1)) + 1)) hx281) cok32 ?_))))))))
  refine W.ixO Dk (eSN true) hx282 0 5 (by kernel_rfl) (wR 1 160 (W.stO Dk (eSN true) (x' := (⟨e278.Kind, e278.Op, r277, e278.Other, e278.Kids⟩ : SNode)) hx282 hu283 (j := 0) (nn := false) (ety := e0) (sz := 5) (b := 2) (ys := [V.s r277]) (C := []) (R := []) (by kernel_rfl) (by kernel_rfl) (wF (cV 160 (bB h243 fun r283 hx287 h243 => (bB h243 fun e284 hx288 h243 => (bB h243 fun x285 hu289 h243 => (CO.sw mix ?_))))))))
  refine wR 3 160 (w0 (ml_markText_ok N (wr ((wr ((wr (y191 + 1)) + 1)) + 1)) hx287) cok32 (W.ixO Dk (eSN true) hx288 0 5 (by kernel_rfl) (wR 1 160 (W.stO Dk (eSN true) (x' := (⟨e284.Kind, e284.Op, e284.Text, r283, e284.Kids⟩ : SNode)) hx288 hu289 (j := 0) (nn := false) (ety := e0) (sz := 5) (b := 3) (ys := [V.s r283]) (C := []) (R := []) (by kernel_rfl) (by kernel_rfl) (wF (cV 160 (bB h243 fun e286 hx290 h243 => (bB h243 fun r287 hx291 h243 => ?_))))))))
  refine bB h243 fun x288 hu292 h243 => ?_
  refine CO.nestEnd Dk 4 (tl 50 [(0, .own 0), (1, V.i (wr ((wr ((wr ((wr (y191 + 1)) + 1)) + 1)) + 1))), (5, V.i y192), (45, .vp 0 5 y192.toNat 4)]) [(0, .vec false e0 5 (x285.map (eSN true)))] (tl 50 [(0, .own 0), (1, V.i r287.1), (5, V.i y192)]) [(0, .vec false e0 5 (x288.map (eSN true)))] (by kernel_rfl) (by
      refine wR 2 160 (W.ixO Dk (eSN true) hx290 0 5 (by kernel_rfl) (wR 1 160 ?_))
      exact W.fin (by decide) (by kernel_rfl) (wS [(0, 0)] [0, 1, 5, 45])
      ) ⟨_, rfl, rfl, rfl⟩ ⟨_, rfl, rfl, rfl⟩ ⟨_, rfl, rfl, rfl⟩ cok33 (by kernel_rfl) (by kernel_rfl) (i := 0) (k := 5) (m := y192.toNat) (b := 4) (u := .int .i64 (wr ((wr ((wr ((wr (y191 + 1)) + 1)) + 1)) + 1))) (by kernel_rfl) (by kernel_rfl) (nn := false) (nn2 := false) (ety := e0) (eSN true) (x' := (⟨e286.Kind, e286.Op, e286.Text, e286.Other, r287.2⟩ : SNode)) hx290 hu292 rfl (by kernel_rfl) (srows := e286.Kids.map eNI) (srows' := r287.2.map eNI) (by kernel_rfl) (by kernel_rfl) (u' := .int .i64 r287.1) (k2 := 1) (fun _ e => ml_markIntS_ok e N (wr ((wr ((wr ((wr (y191 + 1)) + 1)) + 1)) + 1)) e286.Kids hx291) (fun h0 => ml_markIntS_nil N (wr ((wr ((wr ((wr (y191 + 1)) + 1)) + 1)) + 1)) e286.Kids hx291 (List.map_eq_nil_iff.1 h0)) (fun r hr => by obtain ⟨a, _, rfl⟩ := List.mem_map.1 hr; rfl) (by
      refine wR 1 160 ?_
      exact W.fin (by decide) (by kernel_rfl) (wS [(0, 0)] [0, 1, 5])
   ) (fun st hw => ?_)
  refine CO.weak hw ?_
  exact cK 160 ih244 (r287.1, (wr (y192 + 1)), x288) h243 [(0, 0)] [0, 1, 5]
 refine CO.exit (cV 160 (CO.ret ?_))
 have h243 := sI h243
 subst h243
 exact eG [(0, 0)] (.inr rfl) (RetV.one rfl (oT (t := 4) (r := V.i y191)))

theorem ml_markDNodeS_ok (e0 : TypeId) (N : Nat) (a1 : Int) (p0 : LD) {r : (Int × LD)} (h : ml_markDNodeS N a1 p0 = some r) :
    AC Tryz.prog (GS []) 14 [.own 0, V.i a1] [(0, .vec false e0 4 (p0.map (encSDNode true)))] (V.i r.1) [(0, .vec false e0 4 (r.2.map (encSDNode true)))] := by
 rw [ml_markDNodeS] at h
 refine AC.enter Tryz.func14 rfl (cV 100 (CO.seq' (cV 100 (CO.block' (CO.loopJ (fun (⟨y143, y144, y145⟩ : (Int × Int × LD)) => ⟨tl 42 [(0, .own 0), (1, V.i y143), (5, V.i y144)], [(0, .vec false e0 4 (y145.map (encSDNode true)))]⟩) (fun n i => ml_markDNodeS_l1 N n i = some r) (n0 := N) (i0 := (a1, 0, p0)) (wS [(0, 0)] [0, 1, 5]) h (fun i h => by simp [ml_markDNodeS_l1] at h) ?_)))))
 rintro n1 ⟨y143, y144, y145⟩ h183 ih184
 rw [ml_markDNodeS_l1] at h183
 refine CO.seq' (CO.sw mix (wR 2 160 (wN (encSDNode true) y145 [0] (wR 1 160 (wF ?_)))))
 refine cI h183 (fun _ h183 => ?_) (fun _ h183 => ?_)
 ·refine CO.skip (CO.seq' (CO.block' (bB h183 fun e202 hx206 h183 => (bB h183 fun x203 hu207 h183 => (CO.sw mix (wR 3 160 (W.ixO Dk (encSDNode true) hx206 0 4 (by kernel_rfl) (wR 1 160 ?_))))))))
  refine W.stO Dk (encSDNode true) (x' := (⟨y143, e202.N, e202.Text, e202.Kids⟩ : SDNode)) hx206 hu207 (j := 0) (nn := false) (ety := e0) (sz := 4) (b := 0) (ys := [V.i y143]) (C := []) (R := []) (by kernel_rfl) (by kernel_rfl) (wF (cV 160 (bB h183 fun e206 hx210 h183 => (bB h183 fun x207 hu211 h183 => (CO.sw mix (wR 3 160 (W.ixO Dk (encSDNode true) hx210 0 4 (by kernel_rfl) (wR 1 160 ?_))))))))
  refine W.stO Dk (encSDNode true) (x' := (⟨e206.Kind, (wr (y143 + 1)), e206.Text, e206.Kids⟩ : SDNode)) hx210 hu211 (j := 0) (nn := false) (ety := e0) (sz := 4) (b := 1) (ys := [V.i (wr (y143 + 1))]) (C := []) (R := []) (by kernel_rfl) (by kernel_rfl) (wF (cV 160 (bB h183 fun r211 hx215 h183 => (bB h183 fun e212 hx216 h183 => (bB h183 fun x213 hu217 h183 => (CO.sw mix (wR 3 160 (w0 (ml_markText_ok N (wr ((wr (y143 + 1)) + 1)) hx215) cok32 ?_))))))))
  refine W.ixO Dk (encSDNode true) hx216 0 4 (by kernel_rfl) (wR 1 160 (W.stO Dk (encSDNode true) (x' := (⟨e212.Kind, e212.N, r211, e212.Kids⟩ : SDNode)) hx216 hu217 (j := 0) (nn := false) (ety := e0) (sz := 4) (b := 2) (ys := [V.s r211]) (C := []) (R := []) (by kernel_rfl) (by kernel_rfl) (wF (cV 160 (bB h183 fun e214 hx218 h183 => (bB h183 fun r215 hx219 h183 => (bB h183 fun x216 hu220 h183 => ?_)))))))
  refine CO.nestEnd Dk 4 (tl 42 [(0, .own 0), (1, V.i (wr ((wr ((wr (y143 + 1)) + 1)) + 1))), (5, V.i y144), (37, .vp 0 4 y144.toNat 3)]) [(0, .vec false e0 4 (x213.map (encSDNode true)))] (tl 42 [(0, .own 0), (1, V.i r215.1), (5, V.i y144)]) [(0, .vec false e0 4 (x216.map (encSDNode true)))] (by kernel_rfl) (by
      refine wR 2 160 (W.ixO Dk (encSDNode true) hx218 0 4 (by kernel_rfl) (wR 1 160 ?_))
      exact W.fin (by decide) (by kernel_rfl) (wS [(0, 0)] [0, 1, 5, 37])
      ) ⟨_, rfl, rfl, rfl⟩ ⟨_, rfl, rfl, rfl⟩ ⟨_, rfl, rfl, rfl⟩ cok33 (by kernel_rfl) (by kernel_rfl) (i := 0) (k := 4) (m := y144.toNat) (b := 3) (u := .int .i64 (wr ((wr ((wr (y143 + 1)) + 1)) + 1))) (by kernel_rfl) (by kernel_rfl) (nn := false) (nn2 := false) (ety := e0) (encSDNode true) (x' := (⟨e214.Kind, e214.N, e214.Text, r215.2⟩ : SDNode)) hx218 hu220 rfl (by kernel_rfl) (srows := e214.Kids.map eNI) (srows' := r215.2.map eNI) (by kernel_rfl) (by kernel_rfl) (u' := .int .i64 r215.1) (k2 := 1) (fun _ e => ml_markIntS_ok e N (wr ((wr ((wr (y143 + 1)) + 1)) + 1)) e214.Kids hx219) (fun h0 => ml_markIntS_nil N (wr ((wr ((wr (y143 + 1)) + 1)) + 1)) e214.Kids hx219 (List.map_eq_nil_iff.1 h0)) (fun r hr => by obtain ⟨a, _, rfl⟩ := List.mem_map.1 hr; rfl) (by
      refine wR 1 160 ?_
      exact W.fin (by decide) (by kernel_rfl) (wS [(0, 0)] [0, 1, 5])
   ) (fun st hw => ?_)
  refine CO.weak hw ?_
  exact cK 160 ih184 (r215.1, (wr (y144 + 1)), x216) h183 [(0, 0)] [0, 1, 5]
 refine CO.exit (cV 160 (CO.ret ?_))
 have h183 := sI h183
 subst h183
 exact eG [(0, 0)] (.inr rfl) (RetV.one rfl (oT (t := 4) (r := V.i y143)))

theorem ml_heldIntS_ok (N : Nat) (a0 : List Int) (a1 : Int) {r : Int} (h : ml_heldIntS N a0 a1 = some r) :
    AC Tryz.prog (GS []) 34 [sL eNI a0, V.i a1] [] (V.i r) [] := by
 rw [ml_heldIntS] at h
 refine AC.enter Tryz.func34 rfl (cV 100 (CO.seq' (cV 100 (CO.block' (CO.loopJ (fun (⟨a0, y37, y38⟩ : ((List Int) × Int × Int)) => ⟨tl 21 [(0, sL eNI a0), (1, V.i y37), (5, V.i y38)], []⟩) (fun n i => ml_heldIntS_l1 N n i = some r) (n0 := N) (i0 := (a0, a1, 0)) (wS [] [0, 1, 5]) h (fun i h => by simp [ml_heldIntS_l1] at h) ?_)))))
 rintro n1 ⟨a0, y37, y38⟩ h73 ih74
 rw [ml_heldIntS_l1] at h73
 refine CO.seq' (CO.sw mix (wR 2 160 (wN eNI a0 [] (wR 1 160 (wF ?_)))))
 refine cI h73 (fun _ h73 => ?_) (fun _ h73 => ?_)
 ·refine CO.skip (CO.seq' (CO.block' (CO.seq' (bB h73 fun e56 hx87 h73 => (CO.sw mix (wR 2 160 (wX eNI hx87 1 (wR 3 160 ?_))))))))
  refine wF ?_
  refine cI h73 (fun _ h73 => ?_) (fun _ h73 => ?_)
  ·refine cV 160 ?_
   cases h73
   exact e1 4 id
  refine CO.skip ?_
  refine cE 3 160 (tl 21 [(0, sL eNI a0), (1, V.i (wr (y37 + 1))), (5, V.i y38)]) [] (fun st hw => ?_)
  refine CO.weak hw ?_
  exact cK 160 ih74 (a0, (wr (y37 + 1)), (wr (y38 + 1))) h73 [] [0, 1, 5]
 refine CO.exit (cV 160 ?_)
 cases h73
 exact e1 4 id

theorem ml_heldDNodeS_ok (N : Nat) (a0 : LD) (a1 : Int) {r : Int} (h : ml_heldDNodeS N a0 a1 = some r) :
    AC Tryz.prog (GS []) 15 [.sl false false (a0.map (encSDNode false)), V.i a1] [] (V.i r) [] := by
 rw [ml_heldDNodeS] at h
 refine AC.enter Tryz.func15 rfl (cV 100 (CO.seq' (cV 100 (CO.block' (CO.loopJ (fun (⟨a0, y165, y166⟩ : (LD × Int × Int)) => ⟨tl 50 [(0, .sl false false (a0.map (encSDNode false))), (1, V.i y165), (5, V.i y166)], []⟩) (fun n i => ml_heldDNodeS_l1 N n i = some r) (n0 := N) (i0 := (a0, a1, 0)) (wS [] [0, 1, 5]) h (fun i h => by simp [ml_heldDNodeS_l1] at h) ?_)))))
 rintro n1 ⟨a0, y165, y166⟩ h283 ih284
 rw [ml_heldDNodeS_l1] at h283
 refine CO.seq' (CO.sw mix (wR 2 160 (wN (encSDNode false) a0 [] (wR 1 160 (wF ?_)))))
 refine cI h283 (fun _ h283 => ?_) (fun _ h283 => ?_)
 ·refine CO.skip (CO.seq' (CO.block' (CO.seq' (bB h283 fun e232 hx318 h283 => (CO.sw mix (wR 2 160 (wX (encSDNode false) hx318 4 (wR 4 160 ?_))))))))
  refine wF ?_
  refine cI h283 (fun _ h283 => ?_) (fun _ h283 => ?_)
  ·refine cV 160 ?_
   cases h283
   exact e1 4 id
  refine CO.skip (cV 160 (CO.seq' (bB h283 fun e236 hx324 h283 => (CO.sw mix (wR 2 160 (wX (encSDNode false) hx324 4 (wR 4 160 (wF ?_))))))))
  refine cI h283 (fun _ h283 => ?_) (fun _ h283 => ?_)
  ·refine cV 160 ?_
   cases h283
   exact e1 4 id
  refine CO.skip (cV 160 (CO.seq' (bB h283 fun e243 hx333 h283 => (bB h283 fun r244 hx334 h283 => (CO.sw mix (wR 2 160 (wX (encSDNode false) hx333 4 (wR 3 160 ?_))))))))
  refine w0 (ml_markText_ok N (wr ((wr (y165 + 1)) + 1)) hx334) cok32 (wR 1 160 (wF ?_))
  refine cI h283 (fun _ h283 => ?_) (fun _ h283 => ?_)
  ·refine cV 160 ?_
   cases h283
   exact e1 4 id
  refine CO.skip (cV 160 (bB h283 fun e247 hx338 h283 => (bB h283 fun r248 hx339 h283 => (CO.sw mix (wR 2 160 (wX (encSDNode false) hx338 4 (wR 3 160 (w0 (ml_heldIntS_ok N e247.Kids (wr ((wr ((wr (y165 + 1)) + 1)) + 1)) hx339) cok34 ?_))))))))
  refine wR 1 160 (wF (cV 160 ?_))
  refine cI h283 (fun _ h283 => ?_) (fun _ h283 => ?_)
  ·refine cV 160 ?_
   cases h283
   exact e1 4 id
  refine CO.skip ?_
  exact cK 160 ih284 (a0, r248, (wr (y166 + 1))) h283 [] [0, 1, 5]
 refine CO.exit (cV 160 ?_)
 cases h283
 exact e1 4 id

theorem ml_FnExactExprDoc_ok (N : Nat) (a0 : LN) (a1 : SPos) {r : Bool} (h : ml_FnExactExprDoc N a0 a1 = some r) :
    AC Tryz.prog (GS [0, 1, 2]) 3 [.sl false false (a0.map (eSN false)), .agg [V.i a1.Level, V.b a1.Dollar, V.b a1.NoIn, V.b a1.NoGt, V.b a1.NoSign]] [] (V.b r) [] := by
 rw [ml_FnExactExprDoc] at h
 refine AC.enter Tryz.func3 rfl (cV 100 (cV 101 (bB h fun r2 hx2 h => (cC 2 101 (AC.gs (ml_szNodeS_ok N a0 1048576 hx2) (by decide)) cok6 (CO.seq' (cV 101 ?_))))))
 refine cI h (fun _ h => ?_) (fun _ h => ?_)
 ·refine cV 101 ?_
  cases h
  exact e1 4 id
 refine CO.skip (bB h fun r6 hx8 h => (bB h fun r7 hx9 h => (bB h fun r8 hx10 h => (CO.sw mix (wR 1 101 (wC (AC.gs (ml_toNodeS_ok N a0 hx8) (by decide)) cok8 [] [(100, 101)] [101] (wR 1 102 (w0 (AC.gs (ml_toPos_ok a1 hx9) (by decide)) cok9 ?_))))))))
 refine W.lend (AC.gs (ms_ExprDoc_ok N r6 r7 hx10) (by decide)) cok7 [(100, 102)] [102] (LayOk.cons (j := 101) (eSN true) (eSN false) r6 (by kernel_rfl) (sh_eSN _) lO) (.own _) (.cons (DeepR.map (fun _ => (.cons (.c _) (.cons (.c _) (.cons (.c _) (.cons (.sl _ _ (DeepR.map (fun _ => (.cons (.c _) .nil)) _)) .nil))))) _) .nil) (by kernel_rfl) (by kernel_rfl) (wR 1 103 (wF (bB h fun r10 hx12 h => (CO.sw mix (wR 1 103 (wC (AC.gs (ml_toNodeS_ok N a0 hx12) (by decide)) cok8 [] [(100, 103)] [103] (wR 1 104 (wF ?_))))))))
 refine bB h fun r13 hx15 h => (bB h fun r14 hx16 h => (CO.sw mix (wR 2 104 (w0 (AC.gs (ml_toPos_ok a1 hx15) (by decide)) cok9 (W.lend (mi_ExprDoc_ok N r10 r13 hx16) cok10 [(100, 104)] [104] (LayOk.cons (j := 103) (eSN true) (eSN false) r10 (by kernel_rfl) (sh_eSN _) lO) (.own _) (.cons (DeepR.map (fun _ => (.cons (.c _) (.cons (.c _) (.cons (.c _) (.cons (.sl _ _ (DeepR.map (fun _ => (.cons (.c _) .nil)) _)) .nil))))) _) .nil) (by kernel_rfl) (by kernel_rfl) (wR 1 105 (wF (CO.seq' ?_))))))))
 refine bB h fun r18 hx21 h => (CO.sw mix (wR 2 105 (W.lend (AC.gs (ml_eqDNodeS_ok N r14 r8 hx21) (by decide)) cok11 [] [] (LayOk.cons (j := 104) (encSDNode true) (encSDNode false) r14 (by kernel_rfl) (share_encSDNode _) (LayOk.cons (j := 102) (encSDNode true) (encSDNode false) r8 (by kernel_rfl) (share_encSDNode _) lO)) (.c _) .nil (by kernel_rfl) (by kernel_rfl) (wR 1 105 (wF ?_)))))
 refine cI h (fun _ h => ?_) (fun _ h => ?_)
 ·refine cV 105 ?_
  cases h
  exact e1 4 id
 refine CO.skip (CO.seq' (bB h fun r25 hx30 h => (bB h fun r26 hx31 h => (CO.sw mix (wR 2 105 (wC (AC.gs (ml_toNodeS_ok N a0 hx30) (by decide)) cok8 [] [(100, 105)] [105] (W.lend (AC.gs (ml_eqNodeS_ok N r10 r25 hx31) (by decide)) cok12 [] [] (LayOk.cons (j := 103) (eSN true) (eSN false) r10 (by kernel_rfl) (sh_eSN _) (LayOk.cons (j := 105) (eSN true) (eSN false) r25 (by kernel_rfl) (sh_eSN _) lO)) (.c _) .nil (by kernel_rfl) (by kernel_rfl) (wR 1 106 ?_))))))))
 refine wF ?_
 refine cI h (fun _ h => ?_) (fun _ h => ?_)
 ·refine cV 106 ?_
  cases h
  exact e1 4 id
 refine CO.skip (cV 106 (bB h fun r28 hx34 h => (CO.sw mix (wR 2 106 (wC (AC.gs (ml_markNodeS_ok 49 N 1 r10 hx34) (by decide)) cok13 [(103, 0)] [(0, 103)] [] (wR 1 106 (wF (CO.seq' ?_))))))))
 refine bB h fun y33 hv43 h => ?_
 refine CO.cutR (tl 77 [(0, .sl false false (a0.map (eSN false))), (3, .loc 100 0), (6, .own 101), (8, .own 102), (48, V.b y33)]) [(100, .cells 24 [V.i a1.Level, V.b a1.Dollar, V.b a1.NoIn, V.b a1.NoGt, V.b a1.NoSign]), (101, .vec false 62 4 (r8.map (encSDNode true))), (102, .vec false 62 4 (r14.map (encSDNode true)))] mix (by
  refine wR 3 106 ?_
  refine wJ 43 hv43 (fun hv43 => ?_) (fun hv43 => ?_)
  ·refine wR 5 106 ?_
   cases hv43
   exact fS [(100, 100), (102, 101), (104, 102)] [0, 3, 6, 8, 48]
  refine wR 2 106 (bB hv43 fun r34 hx45 hv43 => (W.lend (AC.gs (ml_eqDNodeS_ok N r14 r8 hx45) (by decide)) cok11 [] [] (LayOk.cons (j := 104) (encSDNode true) (encSDNode false) r14 (by kernel_rfl) (share_encSDNode _) (LayOk.cons (j := 102) (encSDNode true) (encSDNode false) r8 (by kernel_rfl) (share_encSDNode _) lO)) (.c _) .nil (by kernel_rfl) (by kernel_rfl) (wR 2 106 ?_)))
  cases hv43
  exact fS [(100, 100), (102, 101), (104, 102)] [0, 3, 6, 8, 48]
  ) ?_
 refine cI h (fun _ h => ?_) (fun _ h => ?_)
 ·refine cV 106 ?_
  cases h
  exact e1 4 id
 refine CO.skip (cV 106 (bB h fun r36 hx48 h => (CO.sw mix (wR 2 106 (wC (AC.gs (ml_markDNodeS_ok 62 N 1 r14 hx48) (by decide)) cok14 [(102, 0)] [(0, 102)] [] (wR 1 106 (wF (cV 106 ?_))))))))
 refine bB h fun r38 hx50 h => (CO.sw mix (wR 2 106 (W.lend (AC.gs (ml_heldDNodeS_ok N r36.2 1 hx50) (by decide)) cok15 [] [] (LayOk.cons (j := 102) (encSDNode true) (encSDNode false) r36.2 (by kernel_rfl) (share_encSDNode _) lO) (.c _) .nil (by kernel_rfl) (by kernel_rfl) (wR 1 106 (wF (CO.seq' (cV 106 ?_)))))))
 refine cI h (fun _ h => ?_) (fun _ h => ?_)
 ·refine cV 106 ?_
  cases h
  exact e1 4 id
 refine CO.skip (CO.seq' (cV 106 ?_))
 refine cI h (fun _ h => ?_) (fun _ h => ?_)
 ·refine cV 106 ?_
  cases h
  exact e1 4 id
 refine CO.skip (bB h fun r42 hx58 h => (bB h fun r43 hx59 h => (bB h fun r44 hx60 h => (CO.sw mix (wR 1 106 (wC (AC.gs (ml_toNodeS_ok N a0 hx58) (by decide)) cok8 [] [(100, 106)] [106] (wR 1 107 (w0 (AC.gs (ml_toPos_ok a1 hx59) (by decide)) cok9 ?_))))))))
 refine W.lend (mi_ExprDoc_ok N r42 r43 hx60) cok10 [(100, 107)] [107] (LayOk.cons (j := 106) (eSN true) (eSN false) r42 (by kernel_rfl) (sh_eSN _) lO) (.own _) (.cons (DeepR.map (fun _ => (.cons (.c _) (.cons (.c _) (.cons (.c _) (.cons (.sl _ _ (DeepR.map (fun _ => (.cons (.c _) .nil)) _)) .nil))))) _) .nil) (by kernel_rfl) (by kernel_rfl) (wR 1 108 (wF (CO.seq' (bB h fun r48 hx65 h => (CO.sw mix (wR 2 108 (W.lend (AC.gs (ml_eqDNodeS_ok N r44 r8 hx65) (by decide)) cok11 [] [] (LayOk.cons (j := 107) (encSDNode true) (encSDNode false) r44 (by kernel_rfl) (share_encSDNode _) (LayOk.cons (j := 101) (encSDNode true) (encSDNode false) r8 (by kernel_rfl) (share_encSDNode _) lO)) (.c _) .nil (by kernel_rfl) (by kernel_rfl) (wR 1 108 ?_))))))))
 refine wF ?_
 refine cI h (fun _ h => ?_) (fun _ h => ?_)
 ·refine cV 108 ?_
  cases h
  exact e1 4 id
 refine CO.skip (cV 108 (bB h fun r50 hx68 h => (CO.sw mix (wR 2 108 (W.lend (AC.gs (ml_heldDNodeS_ok N r36.2 1 hx68) (by decide)) cok15 [] [] (LayOk.cons (j := 102) (encSDNode true) (encSDNode false) r36.2 (by kernel_rfl) (share_encSDNode _) lO) (.c _) .nil (by kernel_rfl) (by kernel_rfl) (wR 1 108 (wF (CO.seq' ?_))))))))
 refine cV 108 ?_
 refine cI h (fun _ h => ?_) (fun _ h => ?_)
 ·refine cV 108 ?_
  cases h
  exact e1 4 id
 refine CO.skip (CO.seq' (cV 108 ?_))
 refine cI h (fun _ h => ?_) (fun _ h => ?_)
 ·refine cV 108 ?_
  cases h
  exact e1 4 id
 refine CO.skip (cV 108 ?_)
 cases h
 exact e1 4 id

end Go.Proofs.Tryz
