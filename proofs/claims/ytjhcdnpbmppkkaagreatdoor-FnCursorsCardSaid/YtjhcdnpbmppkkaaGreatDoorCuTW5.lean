/-
 The walks that show that the code computes the models, part 5.
-/
import Derived.Test.YtjhcdnpbmppkkaaGreatDoorCuTW4
import Derived.Shelf.Strconv.Itoa3
namespace Go.Proofs.Tryz
open Go.Av
set_option maxRecDepth 100000
set_option maxHeartbeats 8000000
set_option linter.unusedSimpArgs false
set_option linter.unusedVariables false

def layItoa_ren : Go.Shelf.Ren := ⟨fun | 171 => 71 | 243 => 95 | 246 => 116 | 283 => 136 | 284 => 137 | 285 => 138 | 286 => 139 | 129 => 146 | 317 => 145 | 318 => 147 | 319 => 148 | 320 => 149 | 337 => 158 | 338 => 159 | n => n, fun | 3 => 3 | 9 => 9 | 2 => 2 | 4 => 4 | 171 => 114 | 0 => 0 | 53 => 63 | 37 => 22 | 5 => 5 | 173 => 117 | 212 => 133 | 51 => 111 | 20 => 20 | 213 => 134 | 46 => 82 | 232 => 157 | 233 => 158 | n => n, fun | 17 => 6 | 18 => 7 | 19 => 8 | n => n⟩
theorem layItoa : Go.Proofs.LaysM.n171 Tryz.prog layItoa_ren where
 mixed := by kernel_rfl
 f129 := Tryz.func146.trans (congrArg some (by kernel_rfl))
 f171 := Tryz.func71.trans (congrArg some (by kernel_rfl))
 f243 := Tryz.func95.trans (congrArg some (by kernel_rfl))
 f246 := Tryz.func116.trans (congrArg some (by kernel_rfl))
 f283 := Tryz.func136.trans (congrArg some (by kernel_rfl))
 f284 := Tryz.func137.trans (congrArg some (by kernel_rfl))
 f285 := Tryz.func138.trans (congrArg some (by kernel_rfl))
 f286 := Tryz.func139.trans (congrArg some (by kernel_rfl))
 f317 := Tryz.func145.trans (congrArg some (by kernel_rfl))
 f318 := Tryz.func147.trans (congrArg some (by kernel_rfl))
 f319 := Tryz.func148.trans (congrArg some (by kernel_rfl))
 f320 := Tryz.func149.trans (congrArg some (by kernel_rfl))
 f337 := Tryz.func158.trans (congrArg some (by kernel_rfl))
 f338 := Tryz.func159.trans (congrArg some (by kernel_rfl))
 t0 := Tryz.underlying0
 a0 := Tryz.isAgg0
 z0 := Tryz.sizeOf0
 v0 := Tryz.zeroValue0
 t2 := Tryz.underlying2
 a2 := Tryz.isAgg2
 z2 := Tryz.sizeOf2
 v2 := Tryz.zeroValue2
 t3 := Tryz.underlying3
 a3 := Tryz.isAgg3
 z3 := Tryz.sizeOf3
 v3 := Tryz.zeroValue3
 t4 := Tryz.underlying4
 a4 := Tryz.isAgg4
 z4 := Tryz.sizeOf4
 v4 := Tryz.zeroValue4
 t5 := Tryz.underlying5
 a5 := Tryz.isAgg5
 z5 := Tryz.sizeOf5
 v5 := Tryz.zeroValue5
 t9 := Tryz.underlying9
 a9 := Tryz.isAgg9
 z9 := Tryz.sizeOf9
 v9 := Tryz.zeroValue9
 t20 := Tryz.underlying20
 a20 := Tryz.isAgg20
 z20 := Tryz.sizeOf20
 v20 := Tryz.zeroValue20
 t37 := Tryz.underlying22
 a37 := Tryz.isAgg22
 z37 := Tryz.sizeOf22
 v37 := Tryz.zeroValue22
 t46 := Tryz.underlying82
 a46 := Tryz.isAgg82
 z46 := Tryz.sizeOf82
 v46 := Tryz.zeroValue82
 t51 := Tryz.underlying111
 a51 := Tryz.isAgg111
 z51 := Tryz.sizeOf111
 v51 := Tryz.zeroValue111
 t53 := Tryz.underlying63
 a53 := Tryz.isAgg63
 z53 := Tryz.sizeOf63
 v53 := Tryz.zeroValue63
 t171 := Tryz.underlying114
 a171 := Tryz.isAgg114
 z171 := Tryz.sizeOf114
 v171 := Tryz.zeroValue114
 t173 := Tryz.underlying117
 a173 := Tryz.isAgg117
 z173 := Tryz.sizeOf117
 v173 := Tryz.zeroValue117
 t212 := Tryz.underlying133
 a212 := Tryz.isAgg133
 z212 := Tryz.sizeOf133
 v212 := Tryz.zeroValue133
 t213 := Tryz.underlying134
 a213 := Tryz.isAgg134
 z213 := Tryz.sizeOf134
 t232 := Tryz.underlying157
 a232 := Tryz.isAgg157
 z232 := Tryz.sizeOf157
 v232 := Tryz.zeroValue157
 t233 := Tryz.underlying158
 a233 := Tryz.isAgg158
 z233 := Tryz.sizeOf158
 v233 := Tryz.zeroValue158
 g17 := by kernel_rfl
 g18 := by kernel_rfl
 g19 := by kernel_rfl
 i0 := by kernel_rfl
 i2 := by kernel_rfl
 i3 := by kernel_rfl
 i4 := by kernel_rfl
 i5 := by kernel_rfl
 i9 := by kernel_rfl
 i20 := by kernel_rfl
 i37 := by kernel_rfl
 i46 := by kernel_rfl
 i51 := by kernel_rfl
 i53 := by kernel_rfl
 i171 := by kernel_rfl
 i173 := by kernel_rfl
 i212 := by kernel_rfl
 i232 := by kernel_rfl
 i233 := by kernel_rfl
 m17 := by kernel_rfl
 m18 := by kernel_rfl
 m19 := by kernel_rfl


theorem m_strconv_Itoa_mem : ItoaMem Tryz.prog 71 := fun n h0 h1 w ht => Any.strconv_Itoa layItoa n h0 h1 w ht

theorem m_strconv_Itoa_ok (a0 : Int) {r : LU} (h : m_strconv_Itoa a0 = some r) :
  AC Tryz.prog (GS [6]) 71 [V.i a0] [] (V.s r) [] := AC.itoaO (g := 6) m_strconv_Itoa_mem (by kernel_rfl) (by kernel_rfl) h


theorem mi_Dec_ok (a0 : Int) {r : LU} (h : mi_Dec a0 = some r) :
    AC Tryz.prog (GS [6]) 42 [V.i a0] [] (V.s r) [] := by
 rw [mi_Dec] at h
 refine AC.enter Tryz.func42 rfl (cV 100 (bB h fun r2 hx2 h => (cC 1 100 (m_strconv_Itoa_ok a0 hx2) cok71 ?_)))
 cases h
 exact e1 2 id

theorem mi_FaultText_ok (N : Nat) (a0 : LU) (a1 : SFault) {r : LU} (h : mi_FaultText N a0 a1 = some r) :
    AC Tryz.prog (GS [6]) 20 [V.s a0, .agg [V.i a1.Kind, V.i a1.At]] [] (V.s r) [] := by
 rw [mi_FaultText] at h
 refine AC.enter Tryz.func20 rfl (cV 100 (bB h fun r2 hx2 h => (cC 3 101 (AC.gs (mi_LineCol_ok N a0 a1.At hx2) (by decide)) cok17 (CO.seq' (bB h fun y7 hv14 h => ?_)))))
 refine CO.cutR (tl 38 [(3, .loc 100 0), (5, V.i r2.1), (6, V.i r2.2), (26, V.b y7)]) [(100, .cells 30 [V.i a1.Kind, V.i a1.At])] mix (by
  refine wR 4 101 ?_
  refine wJ 17 hv14 (fun hv14 => ?_) (fun hv14 => ?_)
  ·refine wR 9 101 ?_
   cases hv14
   exact fS [(100, 100)] [3, 5, 6, 26]
  refine wR 2 101 (bB hv14 fun r8 hx16 hv14 => (w0 (AC.gs (mi_FaultWord_ok a1.Kind hx16) (by decide)) cok41 (wR 3 101 ?_)))
  refine wJ 23 hv14 (fun hv14 => ?_) (fun hv14 => ?_)
  ·refine wR 3 101 ?_
   cases hv14
   exact fS [(100, 100)] [3, 5, 6, 26]
  refine wR 3 101 ?_
  cases hv14
  exact fS [(100, 100)] [3, 5, 6, 26]
  ) ?_
 refine cI h (fun _ h => ?_) (fun _ h => ?_)
 ·refine cV 101 ?_
  cases h
  exact e1 4 id
 refine CO.skip (bB h fun r16 hx26 h => (bB h fun s17 hx27 h => (bB h fun r18 hx28 h => (bB h fun s19 hx29 h => (bB h fun s20 hx30 h => (bB h fun r21 hx31 h => (bB h fun s22 hx32 h => (CO.sw mix ?_))))))))
 refine wR 1 101 (w0 (mi_Dec_ok r2.1 hx26) cok42 (W.cat hx27 (by kernel_rfl) (wR 1 101 (w0 (mi_Dec_ok r2.2 hx28) cok42 (W.cat hx29 (by kernel_rfl) (W.cat hx30 (by kernel_rfl) (wR 2 101 (w0 (AC.gs (mi_FaultWord_ok a1.Kind hx31) (by decide)) cok41 ?_))))))))
 refine W.cat hx32 (by kernel_rfl) (wR 1 101 (wF ?_))
 cases h
 exact e1 4 id

theorem ms_LineCol_ok (N : Nat) (a0 : LU) (a1 : Int) {r : (Int × Int)} (h : ms_LineCol N a0 a1 = some r) :
    AC Tryz.prog (GS []) 43 [V.s a0, V.i a1] [] (.tup [V.i r.1, V.i r.2]) [] := by
 rw [ms_LineCol] at h
 refine AC.enter Tryz.func43 rfl (cV 100 (CO.seq' (bB h fun r4 hx5 h => (cC 3 100 (ms_l1In_ok a1 0 (a0.length : Int) hx5) cok27 ?_))))
 refine cI h (fun _ h => ?_) (fun _ h => ?_)
 ·refine cV 100 (CO.ret ?_)
  cases h
  exact eG [] (.inr rfl) (RetV.two rfl (oT (t := 4) (r := V.i 0)) (oT (t := 5) (r := V.i 0)))
 refine CO.skip (cV 100 (cV 100 (CO.seq' (cV 100 (CO.block' (CO.loopJ (fun (⟨a0, a1, y35, y36, y37⟩ : (LU × Int × Int × Int × Int)) => ⟨tl 32 [(0, V.s a0), (1, V.i a1), (6, V.i y35), (7, V.i y36), (8, V.i y37)], []⟩) (fun n i => ms_LineCol_l1 N n i = some r) (n0 := N) (i0 := (a0, a1, 1, 0, 0)) (wS [] [0, 1, 6, 7, 8]) h (fun i h => by simp [ms_LineCol_l1] at h) ?_))))))
 rintro n1 ⟨a0, a1, y35, y36, y37⟩ h59 ih60
 rw [ms_LineCol_l1] at h59
 refine CO.seq' (cV 160 ?_)
 refine cI h59 (fun _ h59 => ?_) (fun _ h59 => ?_)
 ·refine CO.skip ?_
  refine CO.join (fun (⟨a0, a1, y37, y49, y50⟩ : (LU × Int × Int × Int × Int)) => ⟨tl 32 [(0, V.s a0), (1, V.i a1), (6, V.i y49), (7, V.i y50), (8, V.i y37)], []⟩) (fun i => ms_LineCol_k2 N (ms_LineCol_l1 N n1) i = some r) ?_ ?_
  · rintro ⟨a0, a1, y37, y49, y50⟩ h66
    rw [ms_LineCol_k2] at h66
    exact cK 160 ih60 (a0, a1, y49, y50, (wr (y37 + 1))) h66 [] [0, 1, 6, 7, 8]
  intro hk67
  refine CO.block' (bB h59 fun b52 hx69 h59 => (CO.sw mix (wR 2 160 (W.ixS Dk hx69 (by kernel_rfl) (wR 1 160 (wF ?_))))))
  refine cI h59 (fun _ h59 => ?_) (fun _ h59 => ?_)
  ·refine cV 160 ?_
   exact cK 160 hk67 (a0, a1, y37, (wr (y35 + 1)), (wr (y37 + 1))) h59 [] [0, 1, 6, 7, 8]
  exact sK hk67 (a0, a1, y37, y35, y36) h59 [] [0, 1, 6, 7, 8]
 refine CO.exit (cV 160 (CO.ret ?_))
 have h59 := sI h59
 subst h59
 exact eG [] (.inr rfl) (RetV.two rfl (oT (t := 4) (r := V.i y35)) (oT (t := 5) (r := V.i (wr ((wr (a1 - y36)) + 1)))))

theorem ms_FaultWord_ok (a0 : Int) {r : LU} (h : ms_FaultWord a0 = some r) :
    AC Tryz.prog (GS []) 44 [V.i a0] [] (V.s r) [] := by
 rw [ms_FaultWord] at h
 refine AC.enter Tryz.func44 rfl (cV 100 (CO.seq' (bB h fun r4 hx5 h => (cC 1 100 (ms_l1In_ok a0 0 4 hx5) cok27 ?_))))
 refine cI h (fun _ h => ?_) (fun _ h => ?_)
 ·refine cV 100 ?_
  cases h
  exact e1 2 id
 refine CO.skip (bB h fun e6 hx8 h => (CO.sw mix (wR 2 100 (W.ixO Dk eNS hx8 100 1 (by kernel_rfl) (W.ldO Dk eNS hx8 9 100 0 (V.s e6) (by kernel_rfl) (by kernel_rfl) (wR 1 101 (wF ?_)))))))
 cases h
 exact e1 2 id

theorem ms_Dec_ok (N : Nat) (a0 : Int) {r : LU} (h : ms_Dec N a0 = some r) :
    AC Tryz.prog (GS []) 45 [V.i a0] [] (V.s r) [] := by
 rw [ms_Dec] at h
 refine AC.enter Tryz.func45 rfl (cV 100 (CO.seq' (cV 100 ?_)))
 refine cI h (fun _ h => ?_) (fun _ h => ?_)
 ·refine cV 100 ?_
  cases h
  exact e1 2 id
 refine CO.skip (cV 100 (cV 100 (CO.seq' (CO.block' (CO.loopJ (fun (⟨a0, y17, y18⟩ : (Int × Int × LU)) => ⟨tl 31 [(0, V.i y17), (3, V.s y18), (4, V.b (decide (a0 < 0)))], []⟩) (fun n i => ms_Dec_l1 N n i = some r) (n0 := N) (i0 := (a0, a0, [])) (wS [] [0, 3, 4]) h (fun i h => by simp [ms_Dec_l1] at h) ?_)))))
 rintro n1 ⟨a0, y17, y18⟩ h45 ih46
 rw [ms_Dec_l1] at h45
 refine CO.seq' (cV 162 ?_)
 refine cI h45 (fun _ h45 => ?_) (fun _ h45 => ?_)
 ·refine CO.skip (CO.block' (cV 162 ?_))
  refine CO.join (fun (⟨y17, y18, a0, y24⟩ : (Int × LU × Int × Int)) => ⟨tl 31 [(0, V.i y17), (3, V.s y18), (4, V.b (decide (a0 < 0))), (5, V.i y24)], []⟩) (fun i => ms_Dec_k2 N (ms_Dec_l1 N n1) i = some r) ?_ ?_
  · rintro ⟨y17, y18, a0, y24⟩ h50
    rw [ms_Dec_k2] at h50
    refine bB h50 fun s26 hx52 h50 => (CO.sw mix (wR 3 162 (wR 1 162 (W.vecEq 162 (nn := true) (e := 5) (k := 1) (rows := [[.c (.int .u8 (IntKind.wrap .u8 (wr (48 + y24))))]]) (rows' := [(bytI (wr (48 + y24)))].map byteRow) (by kernel_rfl) (by first | (simp only [List.map_cons, List.map_nil, ← bytI_row]; done) | (simp only [List.map_cons, List.map_nil, ← bytI_row]; rfl)) (W.strO Dk ([(bytI (wr (48 + y24)))] : LU) (a := 162) (by kernel_rfl) (wR 1 163 (W.cat hx52 (by kernel_rfl) (wR 1 163 ?_))))))))
    refine wF ?_
    exact cK 163 ih46 (a0, (wr (Int.tdiv y17 10)), s26) h50 [] [0, 3, 4]
  intro hk53
  refine cV 162 ?_
  refine cI h45 (fun _ h45 => ?_) (fun _ h45 => ?_)
  ·exact cK 162 hk53 (y17, y18, a0, (wr (0 - (Int.tmod y17 10)))) h45 [] [0, 3, 4, 5]
  exact sK hk53 (y17, y18, a0, (Int.tmod y17 10)) h45 [] [0, 3, 4, 5]
 refine CO.exit (CO.seq' (cV 162 ?_))
 refine cI h45 (fun _ h45 => ?_) (fun _ h45 => ?_)
 ·refine bB h45 fun s30 hx60 h45 => (CO.sw mix (wR 1 162 (W.cat hx60 (by kernel_rfl) (wR 1 162 (wF ?_)))))
  cases h45
  exact e1 2 id
 refine CO.skip (cV 162 ?_)
 cases h45
 exact e1 2 id

theorem ms_FaultText_ok (N : Nat) (a0 : LU) (a1 : SFault) {r : LU} (h : ms_FaultText N a0 a1 = some r) :
    AC Tryz.prog (GS []) 21 [V.s a0, .agg [V.i a1.Kind, V.i a1.At]] [] (V.s r) [] := by
 rw [ms_FaultText] at h
 refine AC.enter Tryz.func21 rfl (cV 100 (bB h fun r2 hx2 h => (cC 3 101 (ms_LineCol_ok N a0 a1.At hx2) cok43 (CO.seq' (bB h fun y7 hv14 h => ?_)))))
 refine CO.cutR (tl 38 [(3, .loc 100 0), (5, V.i r2.1), (6, V.i r2.2), (26, V.b y7)]) [(100, .cells 30 [V.i a1.Kind, V.i a1.At])] mix (by
  refine wR 4 101 ?_
  refine wJ 17 hv14 (fun hv14 => ?_) (fun hv14 => ?_)
  ·refine wR 9 101 ?_
   cases hv14
   exact fS [(100, 100)] [3, 5, 6, 26]
  refine wR 2 101 (bB hv14 fun r8 hx16 hv14 => (w0 (ms_FaultWord_ok a1.Kind hx16) cok44 (wR 3 101 ?_)))
  refine wJ 23 hv14 (fun hv14 => ?_) (fun hv14 => ?_)
  ·refine wR 3 101 ?_
   cases hv14
   exact fS [(100, 100)] [3, 5, 6, 26]
  refine wR 3 101 ?_
  cases hv14
  exact fS [(100, 100)] [3, 5, 6, 26]
  ) ?_
 refine cI h (fun _ h => ?_) (fun _ h => ?_)
 ·refine cV 101 ?_
  cases h
  exact e1 4 id
 refine CO.skip (bB h fun r16 hx26 h => (bB h fun s17 hx27 h => (bB h fun r18 hx28 h => (bB h fun s19 hx29 h => (bB h fun s20 hx30 h => (bB h fun r21 hx31 h => (bB h fun s22 hx32 h => (CO.sw mix ?_))))))))
 refine wR 1 101 (w0 (ms_Dec_ok N r2.1 hx26) cok45 (W.cat hx27 (by kernel_rfl) (wR 1 101 (w0 (ms_Dec_ok N r2.2 hx28) cok45 (W.cat hx29 (by kernel_rfl) (W.cat hx30 (by kernel_rfl) (wR 2 101 (w0 (ms_FaultWord_ok a1.Kind hx31) cok44 ?_))))))))
 refine W.cat hx32 (by kernel_rfl) (wR 1 101 (wF ?_))
 cases h
 exact e1 4 id

theorem ml_FnCursors_ok (N : Nat) (a0 : LU) {r : Bool} (h : ml_FnCursors N a0 = some r) :
    AC Tryz.prog (GS [6]) 5 [sL byteRow a0] [] (V.b r) [] := by
 rw [ml_FnCursors] at h
 refine AC.enter Tryz.func5 rfl (cV 100 (CO.seq' (bB h fun r4 hx5 h => (cC 1 100 (AC.gs (ml_big_ok a0 hx5) (by decide)) cok6 ?_))))
 refine cI h (fun _ h => ?_) (fun _ h => ?_)
 ·refine cV 100 ?_
  cases h
  exact e1 2 id
 refine CO.skip (bB h fun r6 hx8 h => (cC 1 100 (AC.gs (ms_DrawLineCol_ok N a0 hx8) (by decide)) cok16 (bB h fun r8 hx10 h => (cC 2 100 (AC.gs (mi_LineCol_ok N r6.1 r6.2 hx10) (by decide)) cok17 (CO.seq' (bB h fun y11 hv19 h => ?_))))))
 refine CO.cutR (tl 117 [(3, V.s r6.1), (4, V.i r6.2), (5, V.i r8.1), (6, V.i r8.2), (33, V.b y11)]) [] mix (by
  refine wR 3 100 ?_
  refine wJ 28 hv19 (fun hv19 => ?_) (fun hv19 => ?_)
  ·refine wR 5 100 ?_
   cases hv19
   exact fS [] [3, 4, 5, 6, 33]
  refine wR 5 100 ?_
  cases hv19
  exact fS [] [3, 4, 5, 6, 33]
  ) ?_
 refine cI h (fun _ h => ?_) (fun _ h => ?_)
 ·refine bB h fun y12 hv23 h => ?_
  refine CO.cutR (tl 117 [(2, V.b y12)]) [] mix (by
   refine wR 3 100 ?_
   refine wJ 36 hv23 (fun hv23 => ?_) (fun hv23 => ?_)
   ·refine wR 4 100 ?_
    cases hv23
    exact fS [] [2]
   refine wR 4 100 ?_
   cases hv23
   exact fS [] [2]
   ) ?_
  cases h
  exact e1 2 id
 refine CO.skip (bB h fun r14 hx26 h => (cC 3 100 (AC.gs (mi_OffsetOf_ok N r6.1 r8.1 r8.2 hx26) (by decide)) cok18 (CO.seq' (bB h fun y16 hv38 h => ?_))))
 refine CO.cutR (tl 117 [(3, V.s r6.1), (61, V.b y16)]) [] mix (by
  refine wR 3 100 ?_
  refine wJ 49 hv38 (fun hv38 => ?_) (fun hv38 => ?_)
  ·refine wR 12 100 ?_
   cases hv38
   exact fS [] [3, 61]
  refine wR 5 100 ?_
  refine wJ 54 hv38 (fun hv38 => ?_) (fun hv38 => ?_)
  ·refine wR 7 100 ?_
   cases hv38
   exact fS [] [3, 61]
  refine wR 4 100 ?_
  refine wJ 58 hv38 (fun hv38 => ?_) (fun hv38 => ?_)
  ·refine wR 3 100 ?_
   cases hv38
   exact fS [] [3, 61]
  refine wR 3 100 ?_
  cases hv38
  exact fS [] [3, 61]
  ) ?_
 refine cI h (fun _ h => ?_) (fun _ h => ?_)
 ·refine cV 100 ?_
  cases h
  exact e1 2 id
 refine CO.skip (bB h fun r18 hx44 h => (CO.sw mix (wR 1 100 (wC (AC.gs (ms_Lex_ok N r6.1 hx44) (by decide)) cok11 [] [(100, 100)] [100] (wR 6 101 (wF (CO.seq' (cV 102 ?_))))))))
 refine CO.block' (CO.loopJ (fun (⟨r6, r18, y109⟩ : ((LU × Int) × (LT × SFault) × Int)) => ⟨tl 117 [(3, V.s r6.1), (9, .own 100), (10, .loc 101 0), (11, V.i y109)], [(100, vX 36 3 eTk r18.1), (101, .cells 30 [V.i r18.2.Kind, V.i r18.2.At])]⟩) (fun n i => ml_FnCursors_l1 N n i = some r) (n0 := N) (i0 := (r6, r18, 0)) (wS [(100, 100), (101, 101)] [3, 9, 10, 11]) h (fun i h => by simp [ml_FnCursors_l1] at h) ?_)
 rintro n1 ⟨r6, r18, y109⟩ h197 ih198
 rw [ml_FnCursors_l1] at h197
 refine CO.seq' (CO.sw mix (wR 2 162 (wN eTk r18.1 [100] (wR 1 162 (wF ?_)))))
 refine cI h197 (fun _ h197 => ?_) (fun _ h197 => ?_)
 ·refine CO.skip (CO.seq' (CO.block' (bB h197 fun y149 hv221 h197 => ?_)))
  refine CO.cutR (tl 117 [(3, V.s r6.1), (9, .own 100), (10, .loc 101 0), (11, V.i y109), (100, V.b y149)]) [(100, vX 36 3 eTk r18.1), (101, .cells 30 [V.i r18.2.Kind, V.i r18.2.At])] mix (by
   refine wR 3 162 (bB hv221 fun e150 hx222 hv221 => (W.ixO Dk eTk hx222 100 3 (by kernel_rfl) (wR 1 162 (W.ldO Dk eTk hx222 3 100 2 (V.i e150.At) (by kernel_rfl) (by kernel_rfl) (bB hv221 fun r151 hx223 hv221 => (W.lend (AC.gs (mi_TokenAt_ok N r18.1 e150.At hx223) (by decide)) cok19 [] [] (LayOk.cons (j := 100) eTk eTk r18.1 (by kernel_rfl) (fun _ => rfl) lO) (.c _) .nil (by kernel_rfl) (by kernel_rfl) (wR 3 162 ?_)))))))
   refine wJ 82 hv221 (fun hv221 => ?_) (fun hv221 => ?_)
   ·refine wR 18 162 ?_
    cases hv221
    exact fS [(100, 100), (101, 101)] [3, 9, 10, 11, 100]
   refine wR 3 162 (bB hv221 fun e152 hx225 hv221 => (W.ixO Dk eTk hx225 100 3 (by kernel_rfl) (wR 1 162 (W.ldO Dk eTk hx225 3 100 2 (V.i e152.At) (by kernel_rfl) (by kernel_rfl) (wR 2 162 (bB hv221 fun e153 hx226 hv221 => (W.ixO Dk eTk hx226 100 3 (by kernel_rfl) (wR 1 162 ?_))))))))
   refine W.ldO Dk eTk hx226 9 100 1 (V.s e153.Text) (by kernel_rfl) (by kernel_rfl) (wR 3 162 (bB hv221 fun r154 hx227 hv221 => (W.lend (AC.gs (mi_TokenAt_ok N r18.1 (wr ((wr (e152.At + (e153.Text.length : Int))) - 1)) hx227) (by decide)) cok19 [] [] (LayOk.cons (j := 100) eTk eTk r18.1 (by kernel_rfl) (fun _ => rfl) lO) (.c _) .nil (by kernel_rfl) (by kernel_rfl) (wR 3 162 ?_))))
   cases hv221
   exact fS [(100, 100), (101, 101)] [3, 9, 10, 11, 100]
   ) ?_
  refine cI h197 (fun _ h197 => ?_) (fun _ h197 => ?_)
  ·refine cV 162 ?_
   cases h197
   exact e1 2 id
  refine CO.skip ?_
  exact cK 162 ih198 (r6, r18, (wr (y109 + 1))) h197 [(100, 100), (101, 101)] [3, 9, 10, 11]
 refine CO.exit (bB h197 fun r156 hx230 h197 => (cC 2 162 (mi_FaultText_ok N r6.1 r18.2 hx230) cok20 (bB h197 fun y158 hv233 h197 => ?_)))
 refine CO.cutR (tl 117 [(2, V.b y158)]) [] mix (by
  refine wR 7 162 ?_
  refine wJ 110 hv233 (fun hv233 => ?_) (fun hv233 => ?_)
  ·refine wR 3 162 (bB hv233 fun r159 hx235 hv233 => (w0 (AC.gs (ms_FaultText_ok N r6.1 r18.2 hx235) (by decide)) cok21 (wR 3 162 ?_)))
   cases hv233
   exact fS [] [2]
  refine wR 7 162 ?_
  cases hv233
  exact fS [] [2]
  ) ?_
 cases h197
 exact e1 2 id

end Go.Proofs.Tryz
