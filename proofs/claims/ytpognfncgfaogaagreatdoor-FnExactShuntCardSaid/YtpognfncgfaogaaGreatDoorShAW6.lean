/-
 The walks that show that the code computes the models, part 6.
-/
import Derived.Test.YtpognfncgfaogaaGreatDoorShAW5
namespace Go.Proofs.Tryz
open Go.Av
set_option maxRecDepth 100000
set_option maxHeartbeats 8000000
set_option linter.unusedSimpArgs false
set_option linter.unusedVariables false

theorem mi_TreeOk_ok (N : Nat) (a0 : LN) {r : Bool} (h : mi_TreeOk N a0 = some r) :
    AC Tryz.prog (GS [0, 1, 2]) 30 [.sl false false (a0.map (eSN false))] [] (V.b r) [] := by
 rw [mi_TreeOk] at h
 refine AC.enter Tryz.func30 rfl (cV 100 (CO.seq' (bB h fun r4 hx5 h => (cC 1 100 (AC.gs (mi_ShapeOk_ok N a0 hx5) (by decide)) cok58 ?_))))
 refine cI h (fun _ h => ?_) (fun _ h => ?_)
 ·refine cV 100 ?_
  cases h
  exact e1 2 id
 refine CO.skip (CO.seq' (CO.sw mix (wR 1 100 (wN (eSN false) a0 [] (wR 1 100 (wF (CO.block' (CO.loopJ (fun (⟨a0, y359⟩ : (LN × Int)) => ⟨tl 42 [(0, .sl false false (a0.map (eSN false))), (10, .sl false false (a0.map (eSN false))), (11, V.i (a0.length : Int)), (12, V.i y359)], []⟩) (fun n i => mi_TreeOk_l1 N n i = some r) (n0 := N) (i0 := (a0, 0)) (wS [] [0, 10, 11, 12]) h (fun i h => by simp [mi_TreeOk_l1] at h) ?_))))))))
 rintro n1 ⟨a0, y359⟩ h599 ih600
 rw [mi_TreeOk_l1] at h599
 refine cV 282 (CO.seq' ?_)
 refine cI h599 (fun _ h599 => ?_) (fun _ h599 => ?_)
 ·refine CO.skip (CO.seq' (CO.block' (bB h599 fun e494 hx662 h599 => (CO.sw mix (wX (eSN false) hx662 5 (wR 3 282 (wF (CO.seq' ?_))))))))
  refine bB h599 fun r498 hx667 h599 => (cC 1 283 (mi_FieldsOk_ok N e494 hx667) cok59 ?_)
  refine cI h599 (fun _ h599 => ?_) (fun _ h599 => ?_)
  ·refine cV 283 ?_
   cases h599
   exact e1 2 id
  refine CO.skip (CO.sw mix (wR 2 283 (wN eNI e494.Kids [] (wR 1 283 (wF (CO.block' (CO.loopJ (fun (⟨a0, y359, e494, y511⟩ : (LN × Int × SNode × Int)) => ⟨tl 42 [(0, .sl false false (a0.map (eSN false))), (4, .loc 100 0), (10, .sl false false (a0.map (eSN false))), (11, V.i (a0.length : Int)), (12, V.i y359), (20, sL eNI e494.Kids), (21, V.i (e494.Kids.length : Int)), (22, V.i y511)], [(100, .cells 54 [V.i e494.Kind, V.i e494.Op, V.s e494.Text, V.s e494.Other, sL eNI e494.Kids])]⟩) (fun n i => mi_TreeOk_l2 N (mi_TreeOk_l1 N n1) n i = some r) (n0 := N) (i0 := (a0, y359, e494, 0)) (wS [(282, 100)] [0, 4, 10, 11, 12, 20, 21, 22]) h599 (fun i h => by simp [mi_TreeOk_l2] at h) ?_)))))))
  rintro n2 ⟨a0, y359, e494, y511⟩ h701 ih702
  rw [mi_TreeOk_l2] at h701
  refine cV 343 (CO.seq' ?_)
  refine cI h701 (fun _ h701 => ?_) (fun _ h701 => ?_)
  ·refine CO.skip (CO.seq' (CO.block' (bB h701 fun e532 hx713 h701 => (CO.sw mix (wR 1 343 (wX eNI hx713 1 (wR 3 343 (wF ?_))))))))
   refine bB h701 fun e535 hx716 h701 => (bB h701 fun r536 hx717 h701 => (CO.sw mix (wR 4 343 (wX (eSN false) hx716 5 (wR 2 343 (w0 (AC.gs (mi_kidOk_ok e494 y511 e535.Kind hx717) (by decide)) cok60 (wR 1 343 (wF ?_))))))))
   refine cI h701 (fun _ h701 => ?_) (fun _ h701 => ?_)
   ·refine cV 343 ?_
    cases h701
    exact e1 2 id
   refine CO.skip ?_
   exact cK 343 ih702 (a0, y359, e494, (wr (y511 + 1))) h701 [(100, 100)] [0, 4, 10, 11, 12, 20, 21, 22]
  refine CO.exit ?_
  exact cK 343 ih600 (a0, (wr (y359 + 1))) h701 [] [0, 10, 11, 12]
 refine CO.exit (bB h599 fun r539 hx721 h599 => (bB h599 fun r540 hx722 h599 => (CO.sw mix (wR 1 282 (w0 (AC.gs (mi_rootOf_ok N a0 hx721) (by decide)) cok61 (w0 (AC.gs (mi_tree__depth_ok N r539 hx722) (by decide)) cok62 (wR 2 282 (wF ?_))))))))
 cases h599
 exact e1 2 id

theorem mi_Shunt_ok (N : Nat) (a0 : LT) {r : (LN × Bool)} (h : mi_Shunt N a0 = some r) :
    AC Tryz.prog (GS [0, 1, 2]) 8 [sL eTk a0] [] (.tup [.own 100, V.b r.2]) [(100, .vec false 54 5 (r.1.map (eSN true)))] := by
 rw [mi_Shunt] at h
 refine AC.enter Tryz.func8 rfl (cV 100 (CO.seq' (bB h fun r4 hx5 h => (cC 1 100 (mi_Shunts_ok N a0 hx5) cok27 ?_))))
 refine cI h (fun _ h => ?_) (fun _ h => ?_)
 ·refine cV 100 (CO.weak (Weak.nil 2 100 54 5 (by kernel_rfl) (by kernel_rfl)) (CO.ret ?_))
  cases h
  exact eG [(100, 100)] (.inr rfl) (RetV.two rfl (oT (t := 2) (r := .own 100)) (oT (t := 3) (r := V.b false)))
 refine CO.skip (bB h fun r7 hx9 h => (bB h fun r8 hx10 h => (CO.sw mix (wR 1 100 (w0 (AC.gs (mi_Top_ok  hx9) (by decide)) cok29 (wC (mi_whole_ok N a0 r7 hx10) cok28 [] [(100, 100)] [100] (wR 5 101 (wF ?_))))))))
 refine CO.seq' (bB h fun y13 hv19 h => ?_)
 refine CO.cutR (tl 23 [(4, .own 100), (21, V.b y13)]) [(100, .vec false 54 5 (r8.1.map (eSN true)))] mix (by
  refine wR 3 101 ?_
  refine wJ 17 hv19 (fun hv19 => ?_) (fun hv19 => ?_)
  ·refine wR 4 101 ?_
   cases hv19
   exact fS [(100, 100)] [4, 21]
  refine wR 1 101 (bB hv19 fun r14 hx21 hv19 => (W.lend (mi_TreeOk_ok N r8.1 hx21) cok30 [] [] (LayOk.cons (j := 100) (eSN true) (eSN false) r8.1 (by kernel_rfl) (sh_eSN _) lO) (.c _) .nil (by kernel_rfl) (by kernel_rfl) (wR 2 101 ?_)))
  cases hv19
  exact fS [(100, 100)] [4, 21]
  ) ?_
 refine cI h (fun _ h => ?_) (fun _ h => ?_)
 ·refine cV 101 (CO.weak (Weak.nil 2 101 54 5 (by kernel_rfl) (by kernel_rfl)) (CO.ret ?_))
  cases h
  exact eG [(101, 100)] (.inr rfl) (RetV.two rfl (oT (t := 2) (r := .own 101)) (oT (t := 3) (r := V.b false)))
 refine CO.skip (cV 101 (CO.ret ?_))
 cases h
 exact eG [(100, 100)] (.inr rfl) (RetV.two rfl (oT (t := 2) (r := .own 100)) (oT (t := 3) (r := V.b true)))

theorem ml_eqIntS_ok (N : Nat) (a0 : List Int) (a1 : List Int) {r : Bool} (h : ml_eqIntS N a0 a1 = some r) :
    AC0 63 [sL eNI a0, sL eNI a1] [] (V.b r) [] := by
 rw [ml_eqIntS] at h
 refine AC.enter Tryz.func63 rfl (cV 100 (CO.seq' (CO.sw mix (wR 1 100 (wN eNI a0 [] (wR 1 100 (wN eNI a1 [] (wR 1 100 ?_))))))))
 refine wF ?_
 refine cI h (fun _ h => ?_) (fun _ h => ?_)
 ·refine cV 100 ?_
  cases h
  exact e1 4 id
 refine CO.skip (CO.seq' (cV 100 (CO.block' (CO.loopJ (fun (⟨a0, a1, y35⟩ : ((List Int) × (List Int) × Int)) => ⟨tl 26 [(0, sL eNI a0), (1, sL eNI a1), (5, V.i y35)], []⟩) (fun n i => ml_eqIntS_l1 N n i = some r) (n0 := N) (i0 := (a0, a1, 0)) (wS [] [0, 1, 5]) h (fun i h => by simp [ml_eqIntS_l1] at h) ?_))))
 rintro n1 ⟨a0, a1, y35⟩ h65 ih66
 rw [ml_eqIntS_l1] at h65
 refine CO.seq' (CO.sw mix (wR 2 160 (wN eNI a0 [] (wR 1 160 (wF ?_)))))
 refine cI h65 (fun _ h65 => ?_) (fun _ h65 => ?_)
 ·refine CO.skip (CO.seq' (CO.block' (bB h65 fun e51 hx76 h65 => (bB h65 fun e52 hx77 h65 => (CO.sw mix (wR 2 160 (wX eNI hx76 1 (wR 3 160 ?_))))))))
  refine wX eNI hx77 1 (wR 2 160 (wF ?_))
  refine cI h65 (fun _ h65 => ?_) (fun _ h65 => ?_)
  ·refine cV 160 ?_
   cases h65
   exact e1 4 id
  refine CO.skip ?_
  exact cK 160 ih66 (a0, a1, (wr (y35 + 1))) h65 [] [0, 1, 5]
 refine CO.exit (cV 160 ?_)
 cases h65
 exact e1 4 id

theorem ml_eqNode_ok (N : Nat) (a0 : SNode) (a1 : SNode) {r : Bool} (h : ml_eqNode N a0 a1 = some r) :
    AC0 31 [.agg [V.i a0.Kind, V.i a0.Op, V.s a0.Text, V.s a0.Other, sL eNI a0.Kids], .agg [V.i a1.Kind, V.i a1.Op, V.s a1.Text, V.s a1.Other, sL eNI a1.Kids]] [] (V.b r) [] := by
 rw [ml_eqNode] at h
 refine AC.enter Tryz.func31 rfl (cV 100 (CO.seq' (cV 102 ?_)))
 refine cI h (fun _ h => ?_) (fun _ h => ?_)
 ·refine cV 102 ?_
  cases h
  exact e1 4 id
 refine CO.skip (CO.seq' (cV 102 ?_))
 refine cI h (fun _ h => ?_) (fun _ h => ?_)
 ·refine cV 102 ?_
  cases h
  exact e1 4 id
 refine CO.skip (CO.seq' (cV 102 ?_))
 refine cI h (fun _ h => ?_) (fun _ h => ?_)
 ·refine cV 102 ?_
  cases h
  exact e1 4 id
 refine CO.skip (CO.seq' (cV 102 ?_))
 refine cI h (fun _ h => ?_) (fun _ h => ?_)
 ·refine cV 102 ?_
  cases h
  exact e1 4 id
 refine CO.skip (CO.seq' (bB h fun r4 hx13 h => (cC 4 102 (ml_eqIntS_ok N a0.Kids a1.Kids hx13) cok63 ?_)))
 refine cI h (fun _ h => ?_) (fun _ h => ?_)
 ·refine cV 102 ?_
  cases h
  exact e1 4 id
 refine CO.skip (cV 102 ?_)
 cases h
 exact e1 4 id

theorem ml_eqNodeS_ok (N : Nat) (a0 : LN) (a1 : LN) {r : Bool} (h : ml_eqNodeS N a0 a1 = some r) :
    AC0 9 [.sl false false (a0.map (eSN false)), .sl false false (a1.map (eSN false))] [] (V.b r) [] := by
 rw [ml_eqNodeS] at h
 refine AC.enter Tryz.func9 rfl (cV 100 (CO.seq' (CO.sw mix (wR 1 100 (wN (eSN false) a0 [] (wR 1 100 (wN (eSN false) a1 [] (wR 1 100 ?_))))))))
 refine wF ?_
 refine cI h (fun _ h => ?_) (fun _ h => ?_)
 ·refine cV 100 ?_
  cases h
  exact e1 4 id
 refine CO.skip (CO.seq' (cV 100 (CO.block' (CO.loopJ (fun (⟨a0, a1, y51⟩ : (LN × LN × Int)) => ⟨tl 27 [(0, .sl false false (a0.map (eSN false))), (1, .sl false false (a1.map (eSN false))), (5, V.i y51)], []⟩) (fun n i => ml_eqNodeS_l1 N n i = some r) (n0 := N) (i0 := (a0, a1, 0)) (wS [] [0, 1, 5]) h (fun i h => by simp [ml_eqNodeS_l1] at h) ?_))))
 rintro n1 ⟨a0, a1, y51⟩ h85 ih86
 rw [ml_eqNodeS_l1] at h85
 refine CO.seq' (CO.sw mix (wR 2 160 (wN (eSN false) a0 [] (wR 1 160 (wF ?_)))))
 refine cI h85 (fun _ h85 => ?_) (fun _ h85 => ?_)
 ·refine CO.skip (CO.seq' (CO.block' (bB h85 fun e74 hx99 h85 => (bB h85 fun e75 hx100 h85 => (bB h85 fun r76 hx101 h85 => (CO.sw mix (wR 2 160 (wX (eSN false) hx99 5 ?_))))))))
  refine wR 3 160 (wX (eSN false) hx100 5 (wR 1 160 (w0 (ml_eqNode_ok N e74 e75 hx101) cok31 (wR 1 160 (wF ?_)))))
  refine cI h85 (fun _ h85 => ?_) (fun _ h85 => ?_)
  ·refine cV 160 ?_
   cases h85
   exact e1 4 id
  refine CO.skip ?_
  exact cK 160 ih86 (a0, a1, (wr (y51 + 1))) h85 [] [0, 1, 5]
 refine CO.exit (cV 160 ?_)
 cases h85
 exact e1 4 id

theorem ml_eqToken_ok (a0 : SToken) (a1 : SToken) {r : Bool} (h : ml_eqToken a0 a1 = some r) :
    AC0 32 [.agg [V.i a0.Kind, V.s a0.Text, V.i a0.At], .agg [V.i a1.Kind, V.s a1.Text, V.i a1.At]] [] (V.b r) [] := by
 rw [ml_eqToken] at h
 refine AC.enter Tryz.func32 rfl (cV 100 (CO.seq' (cV 102 ?_)))
 refine cI h (fun _ h => ?_) (fun _ h => ?_)
 ·refine cV 102 ?_
  cases h
  exact e1 4 id
 refine CO.skip (CO.seq' (cV 102 ?_))
 refine cI h (fun _ h => ?_) (fun _ h => ?_)
 ·refine cV 102 ?_
  cases h
  exact e1 4 id
 refine CO.skip (CO.seq' (cV 102 ?_))
 refine cI h (fun _ h => ?_) (fun _ h => ?_)
 ·refine cV 102 ?_
  cases h
  exact e1 4 id
 refine CO.skip (cV 102 ?_)
 cases h
 exact e1 4 id

theorem ml_eqTokenS_ok (N : Nat) (a0 : LT) (a1 : LT) {r : Bool} (h : ml_eqTokenS N a0 a1 = some r) :
    AC0 10 [sL eTk a0, sL eTk a1] [] (V.b r) [] := by
 rw [ml_eqTokenS] at h
 refine AC.enter Tryz.func10 rfl (cV 100 (CO.seq' (CO.sw mix (wR 1 100 (wN eTk a0 [] (wR 1 100 (wN eTk a1 [] (wR 1 100 ?_))))))))
 refine wF ?_
 refine cI h (fun _ h => ?_) (fun _ h => ?_)
 ·refine cV 100 ?_
  cases h
  exact e1 4 id
 refine CO.skip (CO.seq' (cV 100 (CO.block' (CO.loopJ (fun (⟨a0, a1, y51⟩ : (LT × LT × Int)) => ⟨tl 27 [(0, sL eTk a0), (1, sL eTk a1), (5, V.i y51)], []⟩) (fun n i => ml_eqTokenS_l1 N n i = some r) (n0 := N) (i0 := (a0, a1, 0)) (wS [] [0, 1, 5]) h (fun i h => by simp [ml_eqTokenS_l1] at h) ?_))))
 rintro n1 ⟨a0, a1, y51⟩ h85 ih86
 rw [ml_eqTokenS_l1] at h85
 refine CO.seq' (CO.sw mix (wR 2 160 (wN eTk a0 [] (wR 1 160 (wF ?_)))))
 refine cI h85 (fun _ h85 => ?_) (fun _ h85 => ?_)
 ·refine CO.skip (CO.seq' (CO.block' (bB h85 fun e74 hx99 h85 => (bB h85 fun e75 hx100 h85 => (bB h85 fun r76 hx101 h85 => (CO.sw mix (wR 2 160 (wX eTk hx99 3 ?_))))))))
  refine wR 3 160 (wX eTk hx100 3 (wR 1 160 (w0 (ml_eqToken_ok e74 e75 hx101) cok32 (wR 1 160 (wF ?_)))))
  refine cI h85 (fun _ h85 => ?_) (fun _ h85 => ?_)
  ·refine cV 160 ?_
   cases h85
   exact e1 4 id
  refine CO.skip ?_
  exact cK 160 ih86 (a0, a1, (wr (y51 + 1))) h85 [] [0, 1, 5]
 refine CO.exit (cV 160 ?_)
 cases h85
 exact e1 4 id

theorem ml_markText_ok (N : Nat) (a0 : Int) {r : LU} (h : ml_markText N a0 = some r) :
    AC0 33 [V.i a0] [] (V.s r) [] := by
 rw [ml_markText] at h
 refine AC.enter Tryz.func33 rfl (cV 100 (CO.seq' (cV 100 ?_)))
 refine cI h (fun _ h => ?_) (fun _ h => ?_)
 ·refine cV 100 ?_
  cases h
  exact e1 2 id
 refine CO.skip (cV 100 (CO.seq' (CO.block' (CO.loopJ (fun (⟨y13, y14⟩ : (Int × LU)) => ⟨tl 20 [(0, V.i y13), (3, V.s y14)], []⟩) (fun n i => ml_markText_l1 N n i = some r) (n0 := N) (i0 := (a0, [])) (wS [] [0, 3]) h (fun i h => by simp [ml_markText_l1] at h) ?_))))
 rintro n1 ⟨y13, y14⟩ h25 ih26
 rw [ml_markText_l1] at h25
 refine CO.seq' (cV 162 ?_)
 refine cI h25 (fun _ h25 => ?_) (fun _ h25 => ?_)
 ·refine CO.skip (CO.block' (bB h25 fun s20 hx30 h25 => (CO.sw mix (wR 4 162 (wR 1 162 (W.vecEq 162 (nn := true) (e := 5) (k := 1) (rows := [[.c (.int .u8 (IntKind.wrap .u8 (wr (48 + (Int.tmod y13 10)))))]]) (rows' := [(bytI (wr (48 + (Int.tmod y13 10))))].map byteRow) (by kernel_rfl) (by first | (simp only [List.map_cons, List.map_nil, ← bytI_row]; done) | (simp only [List.map_cons, List.map_nil, ← bytI_row]; rfl)) (W.strO Dk ([(bytI (wr (48 + (Int.tmod y13 10))))] : LU) (a := 162) (by kernel_rfl) (wR 1 163 ?_))))))))
  refine W.cat hx30 (by kernel_rfl) (wR 1 163 (wF ?_))
  exact cK 163 ih26 ((wr (Int.tdiv y13 10)), s20) h25 [] [0, 3]
 refine CO.exit (bB h25 fun s22 hx32 h25 => (CO.sw mix (wR 1 162 (W.cat hx32 (by kernel_rfl) (wR 1 162 (wF ?_))))))
 cases h25
 exact e1 2 id

theorem ml_markTokenS_ok (e0 : Tg) (N : Nat) (a1 : Int) (p0 : LT) {r : (Int × LT)} (h : ml_markTokenS N a1 p0 = some r) :
    AC0 11 [.own 0, V.i a1] [(0, .vec false e0 3 (p0.map eTk))] (V.i r.1) [(0, .vec false e0 3 (r.2.map eTk))] := by
 rw [ml_markTokenS] at h
 refine AC.enter Tryz.func11 rfl (cV 100 (CO.seq' (cV 100 (CO.block' (CO.loopJ (fun (⟨y119, y120, y121⟩ : (Int × Int × LT)) => ⟨tl 35 [(0, .own 0), (1, V.i y119), (5, V.i y120)], [(0, .vec false e0 3 (y121.map eTk))]⟩) (fun n i => ml_markTokenS_l1 N n i = some r) (n0 := N) (i0 := (a1, 0, p0)) (wS [(0, 0)] [0, 1, 5]) h (fun i h => by simp [ml_markTokenS_l1] at h) ?_)))))
 rintro n1 ⟨y119, y120, y121⟩ h153 ih154
 rw [ml_markTokenS_l1] at h153
 refine CO.seq' (CO.sw mix (wR 2 160 (wN eTk y121 [0] (wR 1 160 (wF ?_)))))
 refine cI h153 (fun _ h153 => ?_) (fun _ h153 => ?_)
 ·refine CO.skip (CO.seq' (CO.block' (bB h153 fun e169 hx173 h153 => (bB h153 fun x170 hu174 h153 => (CO.sw mix (wR 3 160 (W.ixO Dk eTk hx173 0 3 (by kernel_rfl) (wR 1 160 ?_))))))))
  refine W.stO Dk eTk (x' := (⟨y119, e169.Text, e169.At⟩ : SToken)) hx173 hu174 (j := 0) (nn := false) (ety := e0) (sz := 3) (b := 0) (ys := [V.i y119]) (C := []) (R := []) (by kernel_rfl) (by kernel_rfl) (wF (cV 160 (bB h153 fun r174 hx178 h153 => (bB h153 fun e175 hx179 h153 => (bB h153 fun x176 hu180 h153 => (CO.sw mix (wR 3 160 (w0 (ml_markText_ok N (wr (y119 + 1)) hx178) cok33 ?_))))))))
  refine W.ixO Dk eTk hx179 0 3 (by kernel_rfl) (wR 1 160 (W.stO Dk eTk (x' := (⟨e175.Kind, r174, e175.At⟩ : SToken)) hx179 hu180 (j := 0) (nn := false) (ety := e0) (sz := 3) (b := 1) (ys := [V.s r174]) (C := []) (R := []) (by kernel_rfl) (by kernel_rfl) (wF (cV 160 (bB h153 fun e179 hx183 h153 => (bB h153 fun x180 hu184 h153 => (CO.sw mix (wR 3 160 ?_))))))))
  refine W.ixO Dk eTk hx183 0 3 (by kernel_rfl) (wR 1 160 (W.stO Dk eTk (x' := (⟨e179.Kind, e179.Text, (wr ((wr (y119 + 1)) + 1))⟩ : SToken)) hx183 hu184 (j := 0) (nn := false) (ety := e0) (sz := 3) (b := 2) (ys := [V.i (wr ((wr (y119 + 1)) + 1))]) (C := []) (R := []) (by kernel_rfl) (by kernel_rfl) (wF ?_)))
  refine cE 3 160 (tl 35 [(0, .own 0), (1, V.i (wr ((wr ((wr (y119 + 1)) + 1)) + 1))), (5, V.i y120)]) [(0, .vec false e0 3 (x180.map eTk))] (fun st hw => ?_)
  refine CO.weak hw ?_
  exact cK 160 ih154 ((wr ((wr ((wr (y119 + 1)) + 1)) + 1)), (wr (y120 + 1)), x180) h153 [(0, 0)] [0, 1, 5]
 refine CO.exit (cV 160 (CO.ret ?_))
 have h153 := sI h153
 subst h153
 exact eG [(0, 0)] (.inr rfl) (RetV.one rfl (oT (t := 4) (r := V.i y119)))

theorem ml_markIntS_ok (e0 : Tg) (N : Nat) (a1 : Int) (p0 : List Int) {r : (Int × (List Int))} (h : ml_markIntS N a1 p0 = some r) :
    AC0 34 [.own 0, V.i a1] [(0, .vec false e0 1 (p0.map eNI))] (V.i r.1) [(0, .vec false e0 1 (r.2.map eNI))] := by
 rw [ml_markIntS] at h
 refine AC.enter Tryz.func34 rfl (cV 100 (CO.seq' (cV 100 (CO.block' (CO.loopJ (fun (⟨y39, y40, y41⟩ : (Int × Int × (List Int))) => ⟨tl 19 [(0, .own 0), (1, V.i y39), (5, V.i y40)], [(0, .vec false e0 1 (y41.map eNI))]⟩) (fun n i => ml_markIntS_l1 N n i = some r) (n0 := N) (i0 := (a1, 0, p0)) (wS [(0, 0)] [0, 1, 5]) h (fun i h => by simp [ml_markIntS_l1] at h) ?_)))))
 rintro n1 ⟨y39, y40, y41⟩ h53 ih54
 rw [ml_markIntS_l1] at h53
 refine CO.seq' (CO.sw mix (wR 2 160 (wN eNI y41 [0] (wR 1 160 (wF ?_)))))
 refine cI h53 (fun _ h53 => ?_) (fun _ h53 => ?_)
 ·refine CO.skip (CO.seq' (CO.block' (bB h53 fun e59 hx63 h53 => (bB h53 fun x60 hu64 h53 => (CO.sw mix (wR 3 160 (W.ixO Dk eNI hx63 0 1 (by kernel_rfl) (W.stO Dk eNI (x' := y39) hx63 hu64 (j := 0) (nn := false) (ety := e0) (sz := 1) (b := 0) (ys := [V.i y39]) (C := []) (R := []) (by kernel_rfl) (by kernel_rfl) ?_))))))))
  refine wF ?_
  refine cE 3 160 (tl 19 [(0, .own 0), (1, V.i (wr (y39 + 1))), (5, V.i y40)]) [(0, .vec false e0 1 (x60.map eNI))] (fun st hw => ?_)
  refine CO.weak hw ?_
  exact cK 160 ih54 ((wr (y39 + 1)), (wr (y40 + 1)), x60) h53 [(0, 0)] [0, 1, 5]
 refine CO.exit (cV 160 (CO.ret ?_))
 have h53 := sI h53
 subst h53
 exact eG [(0, 0)] (.inr rfl) (RetV.one rfl (oT (t := 4) (r := V.i y39)))

theorem ml_markIntS_v2_ok (N : Nat) (a1 : Int) {r : Int} (h : ml_markIntS_v2 N a1 = some r) :
    AC0 34 [sL eNI [], V.i a1] [] (V.i r) [] := by
 rw [ml_markIntS_v2] at h
 refine AC.enter Tryz.func34 rfl (cV 100 (CO.seq' (cV 100 (CO.block' (CO.loopJ (fun (a1 : Int) => ⟨tl 19 [(0, sL eNI []), (1, V.i a1), (5, V.i 0)], []⟩) (fun n i => ml_markIntS_v2_l1 N n i = some r) (n0 := N) (i0 := a1) (wS [] [0, 1, 5]) h (fun i h => by simp [ml_markIntS_v2_l1] at h) ?_)))))
 rintro n1 a1 h3 ih4
 rw [ml_markIntS_v2_l1] at h3
 refine CO.seq' (CO.sw mix (wR 2 120 (wN eNI [] [] (wR 1 120 (wF (CO.ifF (c := false) rfl (by kernel_rfl) (CO.exit (cV 120 ?_))))))))
 cases h3
 exact e1 4 id

theorem ml_markIntS_nil (N : Nat) (k : Int) (l : List Int) {r : (Int × (List Int))} (h : ml_markIntS N k l = some r) (hl : l = []) :
  r.2.map eNI = [] ∧ AC0 34 [.sl false false [], V.i k] [] (V.i r.1) [] := by
 subst hl
 have h2 : r.2 = [] ∧ ml_markIntS_v2 N k = some r.1 := by
  cases N with
  | zero => simp [ml_markIntS_l1, ml_markIntS] at h
  | succ N =>
   simp [ml_markIntS_l1, ml_markIntS] at h
   subst h
   simp [ml_markIntS_v2_l1, ml_markIntS_v2]
 exact ⟨by rw [h2.1]; rfl, ml_markIntS_v2_ok N k h2.2⟩

theorem ml_markNodeS_ok (e0 : Tg) (N : Nat) (a1 : Int) (p0 : LN) {r : (Int × LN)} (h : ml_markNodeS N a1 p0 = some r) :
    AC0 12 [.own 0, V.i a1] [(0, .vec false e0 5 (p0.map (eSN true)))] (V.i r.1) [(0, .vec false e0 5 (r.2.map (eSN true)))] := by
 rw [ml_markNodeS] at h
 refine AC.enter Tryz.func12 rfl (cV 100 (CO.seq' (cV 100 (CO.block' (CO.loopJ (fun (⟨y191, y192, y193⟩ : (Int × Int × LN)) => ⟨tl 50 [(0, .own 0), (1, V.i y191), (5, V.i y192)], [(0, .vec false e0 5 (y193.map (eSN true)))]⟩) (fun n i => ml_markNodeS_l1 N n i = some r) (n0 := N) (i0 := (a1, 0, p0)) (wS [(0, 0)] [0, 1, 5]) h (fun i h => by simp [ml_markNodeS_l1] at h) ?_)))))
 rintro n1 ⟨y191, y192, y193⟩ h243 ih244
 rw [ml_markNodeS_l1] at h243
 refine CO.seq' (CO.sw mix (wR 2 160 (wN (eSN true) y193 [0] (wR 1 160 (wF ?_)))))
 refine cI h243 (fun _ h243 => ?_) (fun _ h243 => ?_)
 ·refine CO.skip (CO.seq' (CO.block' (bB h243 fun e268 hx272 h243 => (bB h243 fun x269 hu273 h243 => (CO.sw mix (wR 3 160 (W.ixO Dk (eSN true) hx272 0 5 (by kernel_rfl) (wR 1 160 ?_))))))))
  refine W.stO Dk (eSN true) (x' := (⟨y191, e268.Op, e268.Text, e268.Other, e268.Kids⟩ : SNode)) hx272 hu273 (j := 0) (nn := false) (ety := e0) (sz := 5) (b := 0) (ys := [V.i y191]) (C := []) (R := []) (by kernel_rfl) (by kernel_rfl) (wF (cV 160 (bB h243 fun e272 hx276 h243 => (bB h243 fun x273 hu277 h243 => (CO.sw mix (wR 3 160 (W.ixO Dk (eSN true) hx276 0 5 (by kernel_rfl) (wR 1 160 ?_))))))))
  refine W.stO Dk (eSN true) (x' := (⟨e272.Kind, (wr (y191 + 1)), e272.Text, e272.Other, e272.Kids⟩ : SNode)) hx276 hu277 (j := 0) (nn := false) (ety := e0) (sz := 5) (b := 1) (ys := [V.i (wr (y191 + 1))]) (C := []) (R := []) (by kernel_rfl) (by kernel_rfl) (wF (cV 160 (bB h243 fun r277 hx281 h243 => (bB h243 fun e278 hx282 h243 => (bB h243 fun x279 hu283 h243 => (CO.sw mix (wR 3 160 (w0 (ml_markText_ok N (wr ((wr (y191 + 1)) + 1)) hx281) cok33 ?_))))))))
  refine W.ixO Dk (eSN true) hx282 0 5 (by kernel_rfl) (wR 1 160 (W.stO Dk (eSN true) (x' := (⟨e278.Kind, e278.Op, r277, e278.Other, e278.Kids⟩ : SNode)) hx282 hu283 (j := 0) (nn := false) (ety := e0) (sz := 5) (b := 2) (ys := [V.s r277]) (C := []) (R := []) (by kernel_rfl) (by kernel_rfl) (wF (cV 160 (bB h243 fun r283 hx287 h243 => (bB h243 fun e284 hx288 h243 => (bB h243 fun x285 hu289 h243 => (CO.sw mix ?_))))))))
  refine wR 3 160 (w0 (ml_markText_ok N (wr ((wr ((wr (y191 + 1)) + 1)) + 1)) hx287) cok33 (W.ixO Dk (eSN true) hx288 0 5 (by kernel_rfl) (wR 1 160 (W.stO Dk (eSN true) (x' := (⟨e284.Kind, e284.Op, e284.Text, r283, e284.Kids⟩ : SNode)) hx288 hu289 (j := 0) (nn := false) (ety := e0) (sz := 5) (b := 3) (ys := [V.s r283]) (C := []) (R := []) (by kernel_rfl) (by kernel_rfl) (wF (cV 160 (bB h243 fun e286 hx290 h243 => (bB h243 fun r287 hx291 h243 => ?_))))))))
  refine bB h243 fun x288 hu292 h243 => ?_
  refine CO.nestEnd Dk 4 (tl 50 [(0, .own 0), (1, V.i (wr ((wr ((wr ((wr (y191 + 1)) + 1)) + 1)) + 1))), (5, V.i y192), (45, .vp 0 5 y192.toNat 4)]) [(0, .vec false e0 5 (x285.map (eSN true)))] (tl 50 [(0, .own 0), (1, V.i r287.1), (5, V.i y192)]) [(0, .vec false e0 5 (x288.map (eSN true)))] (by kernel_rfl) (by
      refine wR 2 160 (W.ixO Dk (eSN true) hx290 0 5 (by kernel_rfl) (wR 1 160 ?_))
      exact W.fin (by decide) (by kernel_rfl) (wS [(0, 0)] [0, 1, 5, 45])
      ) ⟨_, rfl, rfl, rfl⟩ ⟨_, rfl, rfl, rfl⟩ ⟨_, rfl, rfl, rfl⟩ cok34 (by kernel_rfl) (by kernel_rfl) (i := 0) (k := 5) (m := y192.toNat) (b := 4) (u := .int .i64 (wr ((wr ((wr ((wr (y191 + 1)) + 1)) + 1)) + 1))) (by kernel_rfl) (by kernel_rfl) (nn := false) (nn2 := false) (ety := e0) (eSN true) (x' := (⟨e286.Kind, e286.Op, e286.Text, e286.Other, r287.2⟩ : SNode)) hx290 hu292 rfl (by kernel_rfl) (srows := e286.Kids.map eNI) (srows' := r287.2.map eNI) (by kernel_rfl) (by kernel_rfl) (u' := .int .i64 r287.1) (k2 := 1) (fun _ e => ml_markIntS_ok e N (wr ((wr ((wr ((wr (y191 + 1)) + 1)) + 1)) + 1)) e286.Kids hx291) (fun h0 => ml_markIntS_nil N (wr ((wr ((wr ((wr (y191 + 1)) + 1)) + 1)) + 1)) e286.Kids hx291 (List.map_eq_nil_iff.1 h0)) (fun r hr => by obtain ⟨a, _, rfl⟩ := List.mem_map.1 hr; rfl) (by
      refine wR 1 160 ?_
      exact W.fin (by decide) (by kernel_rfl) (wS [(0, 0)] [0, 1, 5])
   ) (fun st hw => ?_)
  refine CO.weak hw ?_
  exact cK 160 ih244 (r287.1, (wr (y192 + 1)), x288) h243 [(0, 0)] [0, 1, 5]
 refine CO.exit (cV 160 (CO.ret ?_))
 have h243 := sI h243
 subst h243
 exact eG [(0, 0)] (.inr rfl) (RetV.one rfl (oT (t := 4) (r := V.i y191)))

theorem ml_heldIntS_ok (N : Nat) (a0 : List Int) (a1 : Int) {r : Int} (h : ml_heldIntS N a0 a1 = some r) :
    AC0 35 [sL eNI a0, V.i a1] [] (V.i r) [] := by
 rw [ml_heldIntS] at h
 refine AC.enter Tryz.func35 rfl (cV 100 (CO.seq' (cV 100 (CO.block' (CO.loopJ (fun (⟨a0, y37, y38⟩ : ((List Int) × Int × Int)) => ⟨tl 21 [(0, sL eNI a0), (1, V.i y37), (5, V.i y38)], []⟩) (fun n i => ml_heldIntS_l1 N n i = some r) (n0 := N) (i0 := (a0, a1, 0)) (wS [] [0, 1, 5]) h (fun i h => by simp [ml_heldIntS_l1] at h) ?_)))))
 rintro n1 ⟨a0, y37, y38⟩ h73 ih74
 rw [ml_heldIntS_l1] at h73
 refine CO.seq' (CO.sw mix (wR 2 160 (wN eNI a0 [] (wR 1 160 (wF ?_)))))
 refine cI h73 (fun _ h73 => ?_) (fun _ h73 => ?_)
 ·refine CO.skip (CO.seq' (CO.block' (CO.seq' (bB h73 fun e56 hx87 h73 => (CO.sw mix (wR 2 160 (wX eNI hx87 1 (wR 3 160 ?_))))))))
  refine wF ?_
  refine cI h73 (fun _ h73 => ?_) (fun _ h73 => ?_)
  ·refine cV 160 ?_
   cases h73
   exact e1 4 id
  refine CO.skip ?_
  refine cE 3 160 (tl 21 [(0, sL eNI a0), (1, V.i (wr (y37 + 1))), (5, V.i y38)]) [] (fun st hw => ?_)
  refine CO.weak hw ?_
  exact cK 160 ih74 (a0, (wr (y37 + 1)), (wr (y38 + 1))) h73 [] [0, 1, 5]
 refine CO.exit (cV 160 ?_)
 cases h73
 exact e1 4 id

theorem ml_heldNodeS_ok (N : Nat) (a0 : LN) (a1 : Int) {r : Int} (h : ml_heldNodeS N a0 a1 = some r) :
    AC0 13 [.sl false false (a0.map (eSN false)), V.i a1] [] (V.i r) [] := by
 rw [ml_heldNodeS] at h
 refine AC.enter Tryz.func13 rfl (cV 100 (CO.seq' (cV 100 (CO.block' (CO.loopJ (fun (⟨a0, y229, y230⟩ : (LN × Int × Int)) => ⟨tl 60 [(0, .sl false false (a0.map (eSN false))), (1, V.i y229), (5, V.i y230)], []⟩) (fun n i => ml_heldNodeS_l1 N n i = some r) (n0 := N) (i0 := (a0, a1, 0)) (wS [] [0, 1, 5]) h (fun i h => by simp [ml_heldNodeS_l1] at h) ?_)))))
 rintro n1 ⟨a0, y229, y230⟩ h383 ih384
 rw [ml_heldNodeS_l1] at h383
 refine CO.seq' (CO.sw mix (wR 2 160 (wN (eSN false) a0 [] (wR 1 160 (wF ?_)))))
 refine cI h383 (fun _ h383 => ?_) (fun _ h383 => ?_)
 ·refine CO.skip (CO.seq' (CO.block' (CO.seq' (bB h383 fun e320 hx428 h383 => (CO.sw mix (wR 2 160 (wX (eSN false) hx428 5 (wR 4 160 ?_))))))))
  refine wF ?_
  refine cI h383 (fun _ h383 => ?_) (fun _ h383 => ?_)
  ·refine cV 160 ?_
   cases h383
   exact e1 4 id
  refine CO.skip (cV 160 (CO.seq' (bB h383 fun e324 hx434 h383 => (CO.sw mix (wR 2 160 (wX (eSN false) hx434 5 (wR 4 160 (wF ?_))))))))
  refine cI h383 (fun _ h383 => ?_) (fun _ h383 => ?_)
  ·refine cV 160 ?_
   cases h383
   exact e1 4 id
  refine CO.skip (cV 160 (CO.seq' (bB h383 fun e331 hx443 h383 => (bB h383 fun r332 hx444 h383 => (CO.sw mix (wR 2 160 (wX (eSN false) hx443 5 (wR 3 160 ?_))))))))
  refine w0 (ml_markText_ok N (wr ((wr (y229 + 1)) + 1)) hx444) cok33 (wR 1 160 (wF ?_))
  refine cI h383 (fun _ h383 => ?_) (fun _ h383 => ?_)
  ·refine cV 160 ?_
   cases h383
   exact e1 4 id
  refine CO.skip (cV 160 (CO.seq' (bB h383 fun e339 hx453 h383 => (bB h383 fun r340 hx454 h383 => (CO.sw mix (wR 2 160 (wX (eSN false) hx453 5 (wR 3 160 ?_))))))))
  refine w0 (ml_markText_ok N (wr ((wr ((wr (y229 + 1)) + 1)) + 1)) hx454) cok33 (wR 1 160 (wF ?_))
  refine cI h383 (fun _ h383 => ?_) (fun _ h383 => ?_)
  ·refine cV 160 ?_
   cases h383
   exact e1 4 id
  refine CO.skip (cV 160 (bB h383 fun e343 hx458 h383 => (bB h383 fun r344 hx459 h383 => (CO.sw mix (wR 2 160 (wX (eSN false) hx458 5 (wR 3 160 (w0 (ml_heldIntS_ok N e343.Kids (wr ((wr ((wr ((wr (y229 + 1)) + 1)) + 1)) + 1)) hx459) cok35 ?_))))))))
  refine wR 1 160 (wF (cV 160 ?_))
  refine cI h383 (fun _ h383 => ?_) (fun _ h383 => ?_)
  ·refine cV 160 ?_
   cases h383
   exact e1 4 id
  refine CO.skip ?_
  exact cK 160 ih384 (a0, r344, (wr (y230 + 1))) h383 [] [0, 1, 5]
 refine CO.exit (cV 160 ?_)
 cases h383
 exact e1 4 id

theorem ml_FnExactShunt_ok (N : Nat) (a0 : LT) {r : Bool} (h : ml_FnExactShunt N a0 = some r) :
    AC Tryz.prog (GS [0, 1, 2]) 3 [sL eTk a0] [] (V.b r) [] := by
 rw [ml_FnExactShunt] at h
 refine AC.enter Tryz.func3 rfl (cV 100 (cV 100 (bB h fun r2 hx2 h => (cC 2 100 (AC.gs (ml_szTokenS_ok N a0 1048576 hx2) (by decide)) cok5 (CO.seq' (cV 100 ?_))))))
 refine cI h (fun _ h => ?_) (fun _ h => ?_)
 ·refine cV 100 ?_
  cases h
  exact e1 2 id
 refine CO.skip (bB h fun r5 hx7 h => (bB h fun r6 hx8 h => (CO.sw mix (wR 1 100 (wC (AC.gs (ml_toTokenS_ok N a0 hx7) (by decide)) cok7 [] [(100, 100)] [100] (wD (AC.gs (ms_Shunt_ok N r5 hx8) (by decide)) cok6 [] [] [] (LayOk.cons (j := 100) eTk eTk r5 (by kernel_rfl) (fun _ => rfl) lO) (wR 5 101 (wF ?_))))))))
 refine bB h fun r8 hx10 h => (CO.sw mix (wR 1 101 (wC (AC.gs (ml_toTokenS_ok N a0 hx10) (by decide)) cok7 [] [(100, 101)] [101] (wR 1 102 (wF (bB h fun r10 hx12 h => (CO.sw mix (wR 1 102 ?_))))))))
 refine W.lend (mi_Shunt_ok N r8 hx12) cok8 [(100, 102)] [102] (LayOk.cons (j := 101) eTk eTk r8 (by kernel_rfl) (fun _ => rfl) lO) (.tup _ (.cons (.own _) (.cons (.c _) .nil))) (.cons (DeepR.map (fun _ => (.cons (.c _) (.cons (.c _) (.cons (.c _) (.cons (.c _) (.cons (.sl _ _ (DeepR.map (fun _ => (.cons (.c _) .nil)) _)) .nil)))))) _) .nil) (by kernel_rfl) (by kernel_rfl) (wR 5 103 (wF (CO.seq' (bB h fun y15 hv21 h => ?_))))
 refine CO.cutR (tl 96 [(0, sL eTk a0), (4, .sl false false (r6.1.map (eSN false))), (5, V.b r6.2), (6, .own 100), (7, .own 101), (8, V.b r10.2), (40, V.b y15)]) [(100, vX 52 3 eTk r8), (101, .vec false 54 5 (r10.1.map (eSN true)))] mix (by
  refine wR 2 103 (bB hv21 fun r16 hx22 hv21 => (W.lend (AC.gs (ml_eqNodeS_ok N r10.1 r6.1 hx22) (by decide)) cok9 [] [] (LayOk.cons (j := 102) (eSN true) (eSN false) r10.1 (by kernel_rfl) (sh_eSN _) lO) (.c _) .nil (by kernel_rfl) (by kernel_rfl) (wR 2 103 ?_)))
  refine wJ 36 hv21 (fun hv21 => ?_) (fun hv21 => ?_)
  ·refine wR 4 103 ?_
   cases hv21
   exact fS [(101, 100), (102, 101)] [0, 4, 5, 6, 7, 8, 40]
  refine wR 4 103 ?_
  cases hv21
  exact fS [(101, 100), (102, 101)] [0, 4, 5, 6, 7, 8, 40]
  ) ?_
 refine cI h (fun _ h => ?_) (fun _ h => ?_)
 ·refine cV 103 ?_
  cases h
  exact e1 2 id
 refine CO.skip (CO.seq' (bB h fun r23 hx32 h => (bB h fun r24 hx33 h => (CO.sw mix (wR 2 103 (wC (AC.gs (ml_toTokenS_ok N a0 hx32) (by decide)) cok7 [] [(100, 103)] [103] (W.lend (AC.gs (ml_eqTokenS_ok N r8 r23 hx33) (by decide)) cok10 [] [] (LayOk.cons (j := 100) eTk eTk r8 (by kernel_rfl) (fun _ => rfl) (LayOk.cons (j := 103) eTk eTk r23 (by kernel_rfl) (fun _ => rfl) lO)) (.c _) .nil (by kernel_rfl) (by kernel_rfl) (wR 1 104 ?_))))))))
 refine wF ?_
 refine cI h (fun _ h => ?_) (fun _ h => ?_)
 ·refine cV 104 ?_
  cases h
  exact e1 2 id
 refine CO.skip (cV 104 (bB h fun r26 hx36 h => (CO.sw mix (wR 2 104 (wC (AC.gs (ml_markTokenS_ok 52 N 1 r8 hx36) (by decide)) cok11 [(100, 0)] [(0, 100)] [] (wR 1 104 (wF (CO.seq' ?_))))))))
 refine bB h fun y31 hv48 h => ?_
 refine CO.cutR (tl 96 [(0, sL eTk a0), (4, .sl false false (r6.1.map (eSN false))), (5, V.b r6.2), (7, .own 100), (61, V.b y31)]) [(100, .vec false 54 5 (r10.1.map (eSN true)))] mix (by
  refine wR 3 104 ?_
  refine wJ 51 hv48 (fun hv48 => ?_) (fun hv48 => ?_)
  ·refine wR 10 104 ?_
   cases hv48
   exact fS [(101, 100)] [0, 4, 5, 7, 61]
  refine wR 2 104 (bB hv48 fun r32 hx50 hv48 => (W.lend (AC.gs (ml_eqNodeS_ok N r10.1 r6.1 hx50) (by decide)) cok9 [] [] (LayOk.cons (j := 101) (eSN true) (eSN false) r10.1 (by kernel_rfl) (sh_eSN _) lO) (.c _) .nil (by kernel_rfl) (by kernel_rfl) (wR 3 104 ?_)))
  refine wJ 57 hv48 (fun hv48 => ?_) (fun hv48 => ?_)
  ·refine wR 4 104 ?_
   cases hv48
   exact fS [(101, 100)] [0, 4, 5, 7, 61]
  refine wR 4 104 ?_
  cases hv48
  exact fS [(101, 100)] [0, 4, 5, 7, 61]
  ) ?_
 refine cI h (fun _ h => ?_) (fun _ h => ?_)
 ·refine cV 104 ?_
  cases h
  exact e1 2 id
 refine CO.skip (cV 104 (bB h fun r34 hx54 h => (CO.sw mix (wR 2 104 (wC (AC.gs (ml_markNodeS_ok 54 N 1 r10.1 hx54) (by decide)) cok12 [(100, 0)] [(0, 100)] [] (wR 1 104 (wF (cV 104 ?_))))))))
 refine bB h fun r36 hx56 h => (CO.sw mix (wR 2 104 (W.lend (AC.gs (ml_heldNodeS_ok N r34.2 1 hx56) (by decide)) cok13 [] [] (LayOk.cons (j := 100) (eSN true) (eSN false) r34.2 (by kernel_rfl) (sh_eSN _) lO) (.c _) .nil (by kernel_rfl) (by kernel_rfl) (wR 1 104 (wF (CO.seq' (cV 104 ?_)))))))
 refine cI h (fun _ h => ?_) (fun _ h => ?_)
 ·refine cV 104 ?_
  cases h
  exact e1 2 id
 refine CO.skip (CO.seq' (cV 104 ?_))
 refine cI h (fun _ h => ?_) (fun _ h => ?_)
 ·refine cV 104 ?_
  cases h
  exact e1 2 id
 refine CO.skip (bB h fun r39 hx63 h => (bB h fun r40 hx64 h => (CO.sw mix (wR 1 104 (wC (AC.gs (ml_toTokenS_ok N a0 hx63) (by decide)) cok7 [] [(100, 104)] [104] (W.lend (mi_Shunt_ok N r39 hx64) cok8 [(100, 105)] [105] (LayOk.cons (j := 104) eTk eTk r39 (by kernel_rfl) (fun _ => rfl) lO) (.tup _ (.cons (.own _) (.cons (.c _) .nil))) (.cons (DeepR.map (fun _ => (.cons (.c _) (.cons (.c _) (.cons (.c _) (.cons (.c _) (.cons (.sl _ _ (DeepR.map (fun _ => (.cons (.c _) .nil)) _)) .nil)))))) _) .nil) (by kernel_rfl) (by kernel_rfl) (wR 5 106 (wF ?_))))))))
 refine CO.seq' (bB h fun y45 hv73 h => ?_)
 refine CO.cutR (tl 96 [(7, .own 100), (10, V.i r34.1), (87, V.b y45)]) [(100, .vec false 54 5 (r34.2.map (eSN true)))] mix (by
  refine wR 2 106 (bB hv73 fun r46 hx74 hv73 => (W.lend (AC.gs (ml_eqNodeS_ok N r40.1 r6.1 hx74) (by decide)) cok9 [] [] (LayOk.cons (j := 105) (eSN true) (eSN false) r40.1 (by kernel_rfl) (sh_eSN _) lO) (.c _) .nil (by kernel_rfl) (by kernel_rfl) (wR 2 106 ?_)))
  refine wJ 83 hv73 (fun hv73 => ?_) (fun hv73 => ?_)
  ·refine wR 4 106 ?_
   cases hv73
   exact fS [(100, 100)] [7, 10, 87]
  refine wR 4 106 ?_
  cases hv73
  exact fS [(100, 100)] [7, 10, 87]
  ) ?_
 refine cI h (fun _ h => ?_) (fun _ h => ?_)
 ·refine cV 106 ?_
  cases h
  exact e1 2 id
 refine CO.skip (cV 106 (bB h fun r48 hx78 h => (CO.sw mix (wR 2 106 (W.lend (AC.gs (ml_heldNodeS_ok N r34.2 1 hx78) (by decide)) cok13 [] [] (LayOk.cons (j := 100) (eSN true) (eSN false) r34.2 (by kernel_rfl) (sh_eSN _) lO) (.c _) .nil (by kernel_rfl) (by kernel_rfl) (wR 1 106 (wF (CO.seq' ?_))))))))
 refine cV 106 ?_
 refine cI h (fun _ h => ?_) (fun _ h => ?_)
 ·refine cV 106 ?_
  cases h
  exact e1 2 id
 refine CO.skip (CO.seq' (cV 106 ?_))
 refine cI h (fun _ h => ?_) (fun _ h => ?_)
 ·refine cV 106 ?_
  cases h
  exact e1 2 id
 refine CO.skip (cV 106 ?_)
 cases h
 exact e1 2 id

end Go.Proofs.Tryz
