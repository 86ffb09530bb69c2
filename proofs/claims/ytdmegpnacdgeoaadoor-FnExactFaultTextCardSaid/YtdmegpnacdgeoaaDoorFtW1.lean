/-
  The walks that show that the code computes the models, part 1.
-/
import Derived.Test.YtdmegpnacdgeoaaDoorFtM1
import Derived.Shelf.Strconv.Itoa3
namespace Go.Proofs.Tryd
open Go.Av
set_option maxRecDepth 100000
set_option maxHeartbeats 8000000
set_option linter.unusedSimpArgs false
set_option linter.unusedVariables false

theorem ext69 (s : List UInt8) (c : Int) (w : World) : (callFunc 69 #[.string ⟨⟨s⟩⟩, .int .u8 c]).run Tryd.prog w = .ok (.value (.int .i64 (Go.Lib.countByte s c.toNat.toUInt8))) w := by
  rw [run_callFunc_extern Tryd.func69 (by kernel_rfl) rfl (by kernel_rfl) (by kernel_rfl)]
  rw [show _ = _ from Go.Lib.run_countString ⟨⟨s⟩⟩ c w]
  rfl

theorem cok4 : callOk Tryd.prog 4 := fun _ _ => Tryd.call4 _ _
theorem cok18 : callOk Tryd.prog 18 := fun _ _ => Tryd.call18 _ _
theorem cok19 : callOk Tryd.prog 19 := fun _ _ => Tryd.call19 _ _
theorem cok20 : callOk Tryd.prog 20 := fun _ _ => Tryd.call20 _ _
theorem cok27 : callOk Tryd.prog 27 := fun _ _ => Tryd.call27 _ _
theorem cok31 : callOk Tryd.prog 31 := fun _ _ => Tryd.call31 _ _
theorem cok37 : callOk Tryd.prog 37 := fun _ _ => Tryd.call37 _ _
theorem cok38 : callOk Tryd.prog 38 := fun _ _ => Tryd.call38 _ _
theorem cok39 : callOk Tryd.prog 39 := fun _ _ => Tryd.call39 _ _
theorem cok40 : callOk Tryd.prog 40 := fun _ _ => Tryd.call40 _ _
theorem cok41 : callOk Tryd.prog 41 := fun _ _ => Tryd.call41 _ _
theorem cok42 : callOk Tryd.prog 42 := fun _ _ => Tryd.call42 _ _
theorem cok54 : callOk Tryd.prog 54 := fun _ _ => Tryd.call54 _ _
theorem cok55 : callOk Tryd.prog 55 := fun _ _ => Tryd.call55 _ _
theorem cok56 : callOk Tryd.prog 56 := fun _ _ => Tryd.call56 _ _
theorem cok70 : callOk Tryd.prog 70 := fun _ _ => Tryd.call70 _ _

theorem m_laws_toFault_ok (a0 : SFault) {r : SFault} (h : m_laws_toFault a0 = some r) :
    AC Tryd.prog (GS []) 19 [.agg [V.int a0.Kind, V.int a0.At]] [] (.agg [V.int r.Kind, V.int r.At]) [] := by
 rw [m_laws_toFault] at h
 refine AC.enter Tryd.func19 rfl ?_
 refine cu D_ok mix 2 100 (tl 11 [(1, .loc 100 0), (2, .loc 101 0)]) [(101, .cells 41 [V.int 0, V.int 0]), (100, .cells 39 [V.int a0.Kind, V.int a0.At])] (by kernel_rfl) ?_
 refine cu D_ok mix 1 102 (tl 11 [(1, .loc 100 0), (2, .loc 101 0), (3, .loc 102 0)]) [(102, .cells 41 [V.int 0, V.int 0]), (101, .cells 41 [V.int 0, V.int 0]), (100, .cells 39 [V.int a0.Kind, V.int a0.At])] (by kernel_rfl) ?_
 refine cu D_ok mix 4 103 (tl 11 [(1, .loc 100 0), (2, .loc 101 0), (3, .loc 102 0)]) [(102, .cells 41 [V.int a0.Kind, V.int 0]), (101, .cells 41 [V.int 0, V.int 0]), (100, .cells 39 [V.int a0.Kind, V.int a0.At])] (by kernel_rfl) ?_
 refine cu D_ok mix 4 103 (tl 11 [(2, .loc 101 0), (3, .loc 102 0)]) [(102, .cells 41 [V.int a0.Kind, V.int a0.At]), (101, .cells 41 [V.int 0, V.int 0])] (by kernel_rfl) ?_
 refine cu D_ok mix 2 103 (tl 11 [(2, .loc 101 0)]) [(101, .cells 41 [V.int a0.Kind, V.int a0.At])] (by kernel_rfl) ?_
 refine CodeOk.ret ?_
 have h := Option.some.inj h
 subst h
 exact Ends.gen [] (.inr rfl) (RetV.one rfl (OneR.cell D_ok (r := .agg [V.int a0.Kind, V.int a0.At]) (i := 101) (ety := 41) (cs := [V.int a0.Kind, V.int a0.At]) (by kernel_rfl) (by kernel_rfl) (by kernel_rfl))) (by kernel_rfl) (by kernel_rfl) (by kernel_rfl)

theorem m_spec_l1In_ok (a0 : Int) (a1 : Int) (a2 : Int) {r : Bool} (h : m_spec_l1In a0 a1 a2 = some r) :
    AC Tryd.prog (GS []) 27 [V.int a0, V.int a1, V.int a2] [] (V.bool r) [] := by
 rw [m_spec_l1In] at h
 refine AC.enter Tryd.func27 rfl ?_
 refine cu D_ok mix 1 100 (tl 15 [(0, V.int a0), (1, V.int a1), (2, V.int a2)]) [] (by kernel_rfl) ?_
 (revert h; refine bind_rev fun y1 hv2 h => ?_)
 refine CodeOk.cutR (tl 15 [(6, V.bool y1)]) [] mix (by
  refine W.run D_ok 4 100 (by kernel_rfl) ?_
  (revert hv2; refine cond_rev (fun hc3 hv2 => ?_) (fun hc3 hv2 => ?_))
  ·refine W.is 10 hc3 (by kernel_rfl) ?_
   refine W.run D_ok 5 100 (by kernel_rfl) ?_
   have hv2 := Option.some.inj hv2
   subst hv2
   exact W.fs [] [6] (by kernel_rfl)
  refine W.is 10 hc3 (by kernel_rfl) ?_
  refine W.run D_ok 5 100 (by kernel_rfl) ?_
  have hv2 := Option.some.inj hv2
  subst hv2
  exact W.fs [] [6] (by kernel_rfl)
  ) ?_
 refine CodeOk.ret ?_
 have h := Option.some.inj h
 subst h
 exact Ends.gen [] (.inr rfl) (RetV.one rfl (OneR.tmp (t := 6) (r := V.bool y1) (by kernel_rfl))) (by kernel_rfl) (by kernel_rfl) (by kernel_rfl)

theorem m_spec_LineCol_ok (N : Nat) (a0 : List UInt8) (a1 : Int) {r : (Int × Int)} (h : m_spec_LineCol N a0 a1 = some r) :
    AC Tryd.prog (GS []) 37 [V.str a0, V.int a1] [] (.tup [V.int r.1, V.int r.2]) [] := by
 rw [m_spec_LineCol] at h
 refine AC.enter Tryd.func37 rfl ?_
 refine cu D_ok mix 2 100 (tl 32 [(0, V.str a0), (1, V.int a1)]) [] (by kernel_rfl) ?_
 refine CodeOk.seq' ?_
 (revert h; refine bind_rev fun r4 hx5 h => ?_)
 refine CodeOk.cutR (tl 32 [(0, V.str a0), (1, V.int a1), (13, V.bool (!r4))]) [] mix (by
  refine W.run D_ok 3 100 (by kernel_rfl) ?_
  refine W.call0 (m_spec_l1In_ok a1 0 (a0.length : Int) hx5) cok27 rfl (by kernel_rfl) ?_
  refine W.run D_ok 1 100 (by kernel_rfl) ?_
  exact W.fi (by kernel_rfl)
  ) ?_
 (revert h; refine cond_rev (fun hc6 h => ?_) (fun hc6 h => ?_))
 ·refine CodeOk.ifT hc6 (by kernel_rfl) ?_
  refine cu D_ok mix 2 100 (tl 32 [(4, V.int 0), (5, V.int 0)]) [] (by kernel_rfl) ?_
  refine CodeOk.ret ?_
  have h := Option.some.inj h
  subst h
  exact Ends.gen [] (.inr rfl) (RetV.two rfl (OneR.tmp (t := 4) (r := V.int 0) (by kernel_rfl)) (OneR.tmp (t := 5) (r := V.int 0) (by kernel_rfl))) (by kernel_rfl) (by kernel_rfl) (by kernel_rfl)
 refine CodeOk.ifF hc6 (by kernel_rfl) ?_
 refine CodeOk.skip ?_
 refine cu D_ok mix 1 100 (tl 32 [(0, V.str a0), (1, V.int a1), (6, V.int 1)]) [] (by kernel_rfl) ?_
 refine cu D_ok mix 1 100 (tl 32 [(0, V.str a0), (1, V.int a1), (6, V.int 1), (7, V.int 0)]) [] (by kernel_rfl) ?_
 refine CodeOk.seq' ?_
 refine cu D_ok mix 1 100 (tl 32 [(0, V.str a0), (1, V.int a1), (6, V.int 1), (7, V.int 0), (8, V.int 0)]) [] (by kernel_rfl) ?_
 refine CodeOk.block' ?_
 refine CodeOk.loopJ (fun (⟨a0, a1, y35, y36, y37⟩ : ((List UInt8) × Int × Int × Int × Int)) => ⟨tl 32 [(0, V.str a0), (1, V.int a1), (6, V.int y35), (7, V.int y36), (8, V.int y37)], []⟩) (fun n i => m_spec_LineCol_l1 N n i = some r) (n0 := N) (i0 := (a0, a1, 1, 0, 0)) (Weak.sel [] [0, 1, 6, 7, 8] (by kernel_rfl) (by kernel_rfl) (by kernel_rfl)) h (fun i h => by simp [m_spec_LineCol_l1] at h) ?_
 rintro n1 ⟨a0, a1, y35, y36, y37⟩ h59 ih60
 rw [m_spec_LineCol_l1] at h59
 refine CodeOk.seq' ?_
 refine cu D_ok mix 3 160 (tl 32 [(0, V.str a0), (1, V.int a1), (6, V.int y35), (7, V.int y36), (8, V.int y37), (16, V.bool (decide (y37 < a1)))]) [] (by kernel_rfl) ?_
 (revert h59; refine cond_rev (fun hc62 h59 => ?_) (fun hc62 h59 => ?_))
 ·refine CodeOk.ifT hc62 (by kernel_rfl) ?_
  refine CodeOk.skip ?_
  refine CodeOk.join (fun (⟨a0, a1, y37, y49, y50⟩ : ((List UInt8) × Int × Int × Int × Int)) => ⟨tl 32 [(0, V.str a0), (1, V.int a1), (6, V.int y49), (7, V.int y50), (8, V.int y37)], []⟩) (fun i => m_spec_LineCol_k2 N (m_spec_LineCol_l1 N n1) i = some r) ?_ ?_
  · rintro ⟨a0, a1, y37, y49, y50⟩ h66
    rw [m_spec_LineCol_k2] at h66
    refine ce D_ok mix 3 160 (tl 32 [(0, V.str a0), (1, V.int a1), (6, V.int y49), (7, V.int y50), (8, V.int (IntKind.wrap .i64 (y37 + 1)))]) [] (by kernel_rfl) (fun st hw => ?_)
    exact ih60 (a0, a1, y49, y50, (IntKind.wrap .i64 (y37 + 1))) h66 _ (hw.trans (Weak.sel [] [0, 1, 6, 7, 8] (by kernel_rfl) (by kernel_rfl) (by kernel_rfl)))
  intro hk67
  refine CodeOk.block' ?_
  (revert h59; refine bind_rev fun b52 hx69 h59 => ?_)
  refine CodeOk.cutR (tl 32 [(0, V.str a0), (1, V.int a1), (6, V.int y35), (7, V.int y36), (8, V.int y37), (22, V.bool (((b52).toNat : Int) == 10))]) [] mix (by
   refine W.run D_ok 2 160 (by kernel_rfl) ?_
   refine W.ixS D_ok hx69 (by kernel_rfl) ?_
   refine W.run D_ok 1 160 (by kernel_rfl) ?_
   exact W.fi (by kernel_rfl)
   ) ?_
  (revert h59; refine cond_rev (fun hc70 h59 => ?_) (fun hc70 h59 => ?_))
  ·refine CodeOk.ifT hc70 (by kernel_rfl) ?_
   refine cu D_ok mix 3 160 (tl 32 [(0, V.str a0), (1, V.int a1), (6, V.int (IntKind.wrap .i64 (y35 + 1))), (8, V.int y37)]) [] (by kernel_rfl) ?_
   refine ce D_ok mix 3 160 (tl 32 [(0, V.str a0), (1, V.int a1), (6, V.int (IntKind.wrap .i64 (y35 + 1))), (7, V.int (IntKind.wrap .i64 (y37 + 1))), (8, V.int y37)]) [] (by kernel_rfl) (fun st hw => ?_)
   exact hk67 (a0, a1, y37, (IntKind.wrap .i64 (y35 + 1)), (IntKind.wrap .i64 (y37 + 1))) h59 _ (hw.trans (Weak.sel [] [0, 1, 6, 7, 8] (by kernel_rfl) (by kernel_rfl) (by kernel_rfl)))
  refine CodeOk.ifF hc70 (by kernel_rfl) ?_
  refine CodeOk.skip ?_
  exact hk67 (a0, a1, y37, y35, y36) h59 _ (Weak.sel [] [0, 1, 6, 7, 8] (by kernel_rfl) (by kernel_rfl) (by kernel_rfl))
 refine CodeOk.ifF hc62 (by kernel_rfl) ?_
 refine CodeOk.exit ?_
 refine cu D_ok mix 7 160 (tl 32 [(4, V.int y35), (5, V.int (IntKind.wrap .i64 ((IntKind.wrap .i64 (a1 - y36)) + 1)))]) [] (by kernel_rfl) ?_
 refine CodeOk.ret ?_
 have h59 := Option.some.inj h59
 subst h59
 exact Ends.gen [] (.inr rfl) (RetV.two rfl (OneR.tmp (t := 4) (r := V.int y35) (by kernel_rfl)) (OneR.tmp (t := 5) (r := V.int (IntKind.wrap .i64 ((IntKind.wrap .i64 (a1 - y36)) + 1))) (by kernel_rfl))) (by kernel_rfl) (by kernel_rfl) (by kernel_rfl)

theorem m_spec_FaultWord_ok (a0 : Int) {r : (List UInt8)} (h : m_spec_FaultWord a0 = some r) :
    AC Tryd.prog (GS []) 38 [V.int a0] [] (V.str r) [] := by
 rw [m_spec_FaultWord] at h
 refine AC.enter Tryd.func38 rfl ?_
 refine cu D_ok mix 1 100 (tl 10 [(0, V.int a0)]) [] (by kernel_rfl) ?_
 refine CodeOk.seq' ?_
 (revert h; refine bind_rev fun r4 hx5 h => ?_)
 refine CodeOk.cutR (tl 10 [(0, V.int a0), (5, V.bool (!r4))]) [] mix (by
  refine W.run D_ok 1 100 (by kernel_rfl) ?_
  refine W.call0 (m_spec_l1In_ok a0 0 4 hx5) cok27 rfl (by kernel_rfl) ?_
  refine W.run D_ok 1 100 (by kernel_rfl) ?_
  exact W.fi (by kernel_rfl)
  ) ?_
 (revert h; refine cond_rev (fun hc6 h => ?_) (fun hc6 h => ?_))
 ·refine CodeOk.ifT hc6 (by kernel_rfl) ?_
  refine cu D_ok mix 1 100 (tl 10 [(2, V.str [])]) [] (by kernel_rfl) ?_
  refine CodeOk.ret ?_
  have h := Option.some.inj h
  subst h
  exact Ends.gen [] (.inr rfl) (RetV.one rfl (OneR.tmp (t := 2) (r := V.str []) (by kernel_rfl))) (by kernel_rfl) (by kernel_rfl) (by kernel_rfl)
 refine CodeOk.ifF hc6 (by kernel_rfl) ?_
 refine CodeOk.skip ?_
 (revert h; refine bind_rev fun e6 hx8 h => ?_)
 refine CodeOk.cutR (tl 10 [(2, V.str e6)]) [] mix (by
  refine W.run D_ok 2 100 (by kernel_rfl) ?_
  refine W.ixO D_ok encS hx8 100 1 (by kernel_rfl) ?_
  refine W.ldO D_ok encS hx8 9 100 0 (V.str e6) (by kernel_rfl) (by kernel_rfl) ?_
  refine W.run D_ok 1 101 (by kernel_rfl) ?_
  exact W.fi (by kernel_rfl)
  ) ?_
 refine CodeOk.ret ?_
 have h := Option.some.inj h
 subst h
 exact Ends.gen [] (.inr rfl) (RetV.one rfl (OneR.tmp (t := 2) (r := V.str e6) (by kernel_rfl))) (by kernel_rfl) (by kernel_rfl) (by kernel_rfl)

theorem m_spec_Dec_ok (N : Nat) (a0 : Int) {r : (List UInt8)} (h : m_spec_Dec N a0 = some r) :
    AC Tryd.prog (GS []) 39 [V.int a0] [] (V.str r) [] := by
 rw [m_spec_Dec] at h
 refine AC.enter Tryd.func39 rfl ?_
 refine cu D_ok mix 1 100 (tl 31 [(0, V.int a0)]) [] (by kernel_rfl) ?_
 refine CodeOk.seq' ?_
 refine cu D_ok mix 2 100 (tl 31 [(0, V.int a0), (7, V.bool (a0 == 0))]) [] (by kernel_rfl) ?_
 (revert h; refine cond_rev (fun hc2 h => ?_) (fun hc2 h => ?_))
 ·refine CodeOk.ifT hc2 (by kernel_rfl) ?_
  refine cu D_ok mix 1 100 (tl 31 [(2, V.str [48])]) [] (by kernel_rfl) ?_
  refine CodeOk.ret ?_
  have h := Option.some.inj h
  subst h
  exact Ends.gen [] (.inr rfl) (RetV.one rfl (OneR.tmp (t := 2) (r := V.str [48]) (by kernel_rfl))) (by kernel_rfl) (by kernel_rfl) (by kernel_rfl)
 refine CodeOk.ifF hc2 (by kernel_rfl) ?_
 refine CodeOk.skip ?_
 refine cu D_ok mix 1 100 (tl 31 [(0, V.int a0), (3, V.str [])]) [] (by kernel_rfl) ?_
 refine cu D_ok mix 3 100 (tl 31 [(0, V.int a0), (3, V.str []), (4, V.bool (decide (a0 < 0)))]) [] (by kernel_rfl) ?_
 refine CodeOk.seq' ?_
 refine CodeOk.block' ?_
 refine CodeOk.loopJ (fun (⟨a0, y17, y18⟩ : (Int × Int × (List UInt8))) => ⟨tl 31 [(0, V.int y17), (3, V.str y18), (4, V.bool (decide (a0 < 0)))], []⟩) (fun n i => m_spec_Dec_l1 N n i = some r) (n0 := N) (i0 := (a0, a0, [])) (Weak.sel [] [0, 3, 4] (by kernel_rfl) (by kernel_rfl) (by kernel_rfl)) h (fun i h => by simp [m_spec_Dec_l1] at h) ?_
 rintro n1 ⟨a0, y17, y18⟩ h45 ih46
 rw [m_spec_Dec_l1] at h45
 refine CodeOk.seq' ?_
 refine cu D_ok mix 2 162 (tl 31 [(0, V.int y17), (3, V.str y18), (4, V.bool (decide (a0 < 0))), (11, V.bool (y17 != 0))]) [] (by kernel_rfl) ?_
 (revert h45; refine cond_rev (fun hc48 h45 => ?_) (fun hc48 h45 => ?_))
 ·refine CodeOk.ifT hc48 (by kernel_rfl) ?_
  refine CodeOk.skip ?_
  refine CodeOk.block' ?_
  refine cu D_ok mix 3 162 (tl 31 [(0, V.int y17), (3, V.str y18), (4, V.bool (decide (a0 < 0))), (5, V.int (Int.tmod y17 10))]) [] (by kernel_rfl) ?_
  refine CodeOk.join (fun (⟨y17, y18, a0, y24⟩ : (Int × (List UInt8) × Int × Int)) => ⟨tl 31 [(0, V.int y17), (3, V.str y18), (4, V.bool (decide (a0 < 0))), (5, V.int y24)], []⟩) (fun i => m_spec_Dec_k2 N (m_spec_Dec_l1 N n1) i = some r) ?_ ?_
  · rintro ⟨y17, y18, a0, y24⟩ h50
    rw [m_spec_Dec_k2] at h50
    (revert h50; refine bind_rev fun s26 hx52 h50 => ?_)
    refine CodeOk.cutR (tl 31 [(0, V.int y17), (3, V.str s26), (4, V.bool (decide (a0 < 0)))]) [] mix (by
     refine W.run D_ok 3 162 (by kernel_rfl) ?_
     refine W.run D_ok 1 162 (by kernel_rfl) ?_
     refine W.vecEq 162 (nn := true) (e := 5) (k := 1) (rows := [[.c (.int .u8 (IntKind.wrap .u8 (IntKind.wrap .i64 (48 + y24))))]]) (rows' := [(bytI (IntKind.wrap .i64 (48 + y24)))].map byteRow) (by kernel_rfl) (by first | (simp only [List.map_cons, List.map_nil, ← bytI_row]; done) | (simp only [List.map_cons, List.map_nil, ← bytI_row]; rfl)) ?_
     refine W.strO D_ok ([(bytI (IntKind.wrap .i64 (48 + y24)))] : List UInt8) (a := 162) (by kernel_rfl) ?_
     refine W.run D_ok 1 163 (by kernel_rfl) ?_
     refine W.cat hx52 (by kernel_rfl) ?_
     refine W.run D_ok 1 163 (by kernel_rfl) ?_
     exact W.fi (by kernel_rfl)
     ) ?_
    refine ce D_ok mix 3 163 (tl 31 [(0, V.int (IntKind.wrap .i64 (Int.tdiv y17 10))), (3, V.str s26), (4, V.bool (decide (a0 < 0)))]) [] (by kernel_rfl) (fun st hw => ?_)
    exact ih46 (a0, (IntKind.wrap .i64 (Int.tdiv y17 10)), s26) h50 _ (hw.trans (Weak.sel [] [0, 3, 4] (by kernel_rfl) (by kernel_rfl) (by kernel_rfl)))
  intro hk53
  refine cu D_ok mix 2 162 (tl 31 [(0, V.int y17), (3, V.str y18), (4, V.bool (decide (a0 < 0))), (5, V.int (Int.tmod y17 10)), (15, V.bool (decide ((Int.tmod y17 10) < 0)))]) [] (by kernel_rfl) ?_
  (revert h45; refine cond_rev (fun hc54 h45 => ?_) (fun hc54 h45 => ?_))
  ·refine CodeOk.ifT hc54 (by kernel_rfl) ?_
   refine ce D_ok mix 3 162 (tl 31 [(0, V.int y17), (3, V.str y18), (4, V.bool (decide (a0 < 0))), (5, V.int (IntKind.wrap .i64 (0 - (Int.tmod y17 10))))]) [] (by kernel_rfl) (fun st hw => ?_)
   exact hk53 (y17, y18, a0, (IntKind.wrap .i64 (0 - (Int.tmod y17 10)))) h45 _ (hw.trans (Weak.sel [] [0, 3, 4, 5] (by kernel_rfl) (by kernel_rfl) (by kernel_rfl)))
  refine CodeOk.ifF hc54 (by kernel_rfl) ?_
  refine CodeOk.skip ?_
  exact hk53 (y17, y18, a0, (Int.tmod y17 10)) h45 _ (Weak.sel [] [0, 3, 4, 5] (by kernel_rfl) (by kernel_rfl) (by kernel_rfl))
 refine CodeOk.ifF hc48 (by kernel_rfl) ?_
 refine CodeOk.exit ?_
 refine CodeOk.seq' ?_
 refine cu D_ok mix 1 162 (tl 31 [(3, V.str y18), (27, V.bool (decide (a0 < 0)))]) [] (by kernel_rfl) ?_
 (revert h45; refine cond_rev (fun hc58 h45 => ?_) (fun hc58 h45 => ?_))
 ·refine CodeOk.ifT hc58 (by kernel_rfl) ?_
  (revert h45; refine bind_rev fun s30 hx60 h45 => ?_)
  refine CodeOk.cutR (tl 31 [(2, V.str s30)]) [] mix (by
   refine W.run D_ok 1 162 (by kernel_rfl) ?_
   refine W.cat hx60 (by kernel_rfl) ?_
   refine W.run D_ok 1 162 (by kernel_rfl) ?_
   exact W.fi (by kernel_rfl)
   ) ?_
  refine CodeOk.ret ?_
  have h45 := Option.some.inj h45
  subst h45
  exact Ends.gen [] (.inr rfl) (RetV.one rfl (OneR.tmp (t := 2) (r := V.str s30) (by kernel_rfl))) (by kernel_rfl) (by kernel_rfl) (by kernel_rfl)
 refine CodeOk.ifF hc58 (by kernel_rfl) ?_
 refine CodeOk.skip ?_
 refine cu D_ok mix 2 162 (tl 31 [(2, V.str y18)]) [] (by kernel_rfl) ?_
 refine CodeOk.ret ?_
 have h45 := Option.some.inj h45
 subst h45
 exact Ends.gen [] (.inr rfl) (RetV.one rfl (OneR.tmp (t := 2) (r := V.str y18) (by kernel_rfl))) (by kernel_rfl) (by kernel_rfl) (by kernel_rfl)

theorem m_spec_FaultText_ok (N : Nat) (a0 : List UInt8) (a1 : SFault) {r : (List UInt8)} (h : m_spec_FaultText N a0 a1 = some r) :
    AC Tryd.prog (GS []) 18 [V.str a0, .agg [V.int a1.Kind, V.int a1.At]] [] (V.str r) [] := by
 rw [m_spec_FaultText] at h
 refine AC.enter Tryd.func18 rfl ?_
 refine cu D_ok mix 2 100 (tl 38 [(0, V.str a0), (3, .loc 100 0)]) [(100, .cells 41 [V.int a1.Kind, V.int a1.At])] (by kernel_rfl) ?_
 (revert h; refine bind_rev fun r2 hx2 h => ?_)
 refine CodeOk.cutR (tl 38 [(3, .loc 100 0), (5, V.int r2.1), (6, V.int r2.2)]) [(100, .cells 41 [V.int a1.Kind, V.int a1.At])] mix (by
  refine W.run D_ok 3 101 (by kernel_rfl) ?_
  refine W.call0 (m_spec_LineCol_ok N a0 a1.At hx2) cok37 rfl (by kernel_rfl) ?_
  refine W.run D_ok 5 101 (by kernel_rfl) ?_
  exact W.fi (by kernel_rfl)
  ) ?_
 refine CodeOk.seq' ?_
 (revert h; refine bind_rev fun y7 hv14 h => ?_)
 refine CodeOk.cutR (tl 38 [(3, .loc 100 0), (5, V.int r2.1), (6, V.int r2.2), (26, V.bool y7)]) [(100, .cells 41 [V.int a1.Kind, V.int a1.At])] mix (by
  refine W.run D_ok 4 101 (by kernel_rfl) ?_
  (revert hv14; refine cond_rev (fun hc15 hv14 => ?_) (fun hc15 hv14 => ?_))
  ·refine W.is 17 hc15 (by kernel_rfl) ?_
   refine W.run D_ok 9 101 (by kernel_rfl) ?_
   have hv14 := Option.some.inj hv14
   subst hv14
   exact W.fs [(100, 100)] [3, 5, 6, 26] (by kernel_rfl)
  refine W.is 17 hc15 (by kernel_rfl) ?_
  refine W.run D_ok 2 101 (by kernel_rfl) ?_
  (revert hv14; refine bind_rev fun r8 hx16 hv14 => ?_)
  refine W.call0 (m_spec_FaultWord_ok a1.Kind hx16) cok38 rfl (by kernel_rfl) ?_
  refine W.run D_ok 3 101 (by kernel_rfl) ?_
  (revert hv14; refine cond_rev (fun hc17 hv14 => ?_) (fun hc17 hv14 => ?_))
  ·refine W.is 23 hc17 (by kernel_rfl) ?_
   refine W.run D_ok 3 101 (by kernel_rfl) ?_
   have hv14 := Option.some.inj hv14
   subst hv14
   exact W.fs [(100, 100)] [3, 5, 6, 26] (by kernel_rfl)
  refine W.is 23 hc17 (by kernel_rfl) ?_
  refine W.run D_ok 3 101 (by kernel_rfl) ?_
  have hv14 := Option.some.inj hv14
  subst hv14
  exact W.fs [(100, 100)] [3, 5, 6, 26] (by kernel_rfl)
  ) ?_
 (revert h; refine cond_rev (fun hc18 h => ?_) (fun hc18 h => ?_))
 ·refine CodeOk.ifT hc18 (by kernel_rfl) ?_
  refine cu D_ok mix 1 101 (tl 38 [(4, V.str [])]) [] (by kernel_rfl) ?_
  refine CodeOk.ret ?_
  have h := Option.some.inj h
  subst h
  exact Ends.gen [] (.inr rfl) (RetV.one rfl (OneR.tmp (t := 4) (r := V.str []) (by kernel_rfl))) (by kernel_rfl) (by kernel_rfl) (by kernel_rfl)
 refine CodeOk.ifF hc18 (by kernel_rfl) ?_
 refine CodeOk.skip ?_
 (revert h; refine bind_rev fun r16 hx26 h => ?_)
 (revert h; refine bind_rev fun s17 hx27 h => ?_)
 (revert h; refine bind_rev fun r18 hx28 h => ?_)
 (revert h; refine bind_rev fun s19 hx29 h => ?_)
 (revert h; refine bind_rev fun s20 hx30 h => ?_)
 (revert h; refine bind_rev fun r21 hx31 h => ?_)
 (revert h; refine bind_rev fun s22 hx32 h => ?_)
 refine CodeOk.cutR (tl 38 [(4, V.str s22)]) [] mix (by
  refine W.run D_ok 1 101 (by kernel_rfl) ?_
  refine W.call0 (m_spec_Dec_ok N r2.1 hx26) cok39 rfl (by kernel_rfl) ?_
  refine W.cat hx27 (by kernel_rfl) ?_
  refine W.run D_ok 1 101 (by kernel_rfl) ?_
  refine W.call0 (m_spec_Dec_ok N r2.2 hx28) cok39 rfl (by kernel_rfl) ?_
  refine W.cat hx29 (by kernel_rfl) ?_
  refine W.cat hx30 (by kernel_rfl) ?_
  refine W.run D_ok 2 101 (by kernel_rfl) ?_
  refine W.call0 (m_spec_FaultWord_ok a1.Kind hx31) cok38 rfl (by kernel_rfl) ?_
  refine W.cat hx32 (by kernel_rfl) ?_
  refine W.run D_ok 1 101 (by kernel_rfl) ?_
  exact W.fi (by kernel_rfl)
  ) ?_
 refine CodeOk.ret ?_
 have h := Option.some.inj h
 subst h
 exact Ends.gen [] (.inr rfl) (RetV.one rfl (OneR.tmp (t := 4) (r := V.str s22) (by kernel_rfl))) (by kernel_rfl) (by kernel_rfl) (by kernel_rfl)

theorem m_impl_within_ok (a0 : Int) (a1 : Int) (a2 : Int) {r : Bool} (h : m_impl_within a0 a1 a2 = some r) :
    AC Tryd.prog (GS []) 31 [V.int a0, V.int a1, V.int a2] [] (V.bool r) [] := by
 rw [m_impl_within] at h
 refine AC.enter Tryd.func31 rfl ?_
 refine cu D_ok mix 1 100 (tl 15 [(0, V.int a0), (1, V.int a1), (2, V.int a2)]) [] (by kernel_rfl) ?_
 (revert h; refine bind_rev fun y1 hv2 h => ?_)
 refine CodeOk.cutR (tl 15 [(6, V.bool y1)]) [] mix (by
  refine W.run D_ok 4 100 (by kernel_rfl) ?_
  (revert hv2; refine cond_rev (fun hc3 hv2 => ?_) (fun hc3 hv2 => ?_))
  ·refine W.is 10 hc3 (by kernel_rfl) ?_
   refine W.run D_ok 5 100 (by kernel_rfl) ?_
   have hv2 := Option.some.inj hv2
   subst hv2
   exact W.fs [] [6] (by kernel_rfl)
  refine W.is 10 hc3 (by kernel_rfl) ?_
  refine W.run D_ok 5 100 (by kernel_rfl) ?_
  have hv2 := Option.some.inj hv2
  subst hv2
  exact W.fs [] [6] (by kernel_rfl)
  ) ?_
 refine CodeOk.ret ?_
 have h := Option.some.inj h
 subst h
 exact Ends.gen [] (.inr rfl) (RetV.one rfl (OneR.tmp (t := 6) (r := V.bool y1) (by kernel_rfl))) (by kernel_rfl) (by kernel_rfl) (by kernel_rfl)

theorem m_strings_Count_ok (a0 : List UInt8) {r : Int} (h : m_strings_Count a0 = some r) :
    AC Tryd.prog (GS []) 54 [V.str a0, V.str [10]] [] (V.int r) [] := by
 rw [m_strings_Count] at h
 refine AC.enter Tryd.func54 rfl ?_
 refine cu D_ok mix 1 100 (tl 34 [(0, V.str a0), (1, V.str [10])]) [] (by kernel_rfl) ?_
 refine CodeOk.seq' ?_
 refine cu D_ok mix 3 100 (tl 34 [(0, V.str a0), (1, V.str [10]), (9, V.bool false)]) [] (by kernel_rfl) ?_
 refine CodeOk.ifF (c := false) rfl (by kernel_rfl) ?_
 refine CodeOk.skip ?_
 refine CodeOk.seq' ?_
 refine cu D_ok mix 3 100 (tl 34 [(0, V.str a0), (1, V.str [10]), (15, V.bool true)]) [] (by kernel_rfl) ?_
 refine CodeOk.ifT (c := true) rfl (by kernel_rfl) ?_
 (revert h; refine bind_rev fun b4 hx4 h => ?_)
 refine CodeOk.cutR (tl 34 [(4, V.int ((Go.Lib.countByte a0 (Int.toNat ((b4).toNat : Int)).toUInt8) : Int))]) [] mix (by
  refine W.run D_ok 2 100 (by kernel_rfl) ?_
  refine W.ixS D_ok hx4 (by kernel_rfl) ?_
  refine W.ext (vs := [.string ⟨⟨a0⟩⟩, .int .u8 ((b4).toNat : Int)]) (ext69 _ _) (by kernel_rfl) ?_
  refine W.run D_ok 1 100 (by kernel_rfl) ?_
  exact W.fi (by kernel_rfl)
  ) ?_
 refine CodeOk.ret ?_
 have h := Option.some.inj h
 subst h
 exact Ends.gen [] (.inr rfl) (RetV.one rfl (OneR.tmp (t := 4) (r := V.int ((Go.Lib.countByte a0 (Int.toNat ((b4).toNat : Int)).toUInt8) : Int)) (by kernel_rfl))) (by kernel_rfl) (by kernel_rfl) (by kernel_rfl)

theorem m_bytealg_LastIndexByteString_ok (N : Nat) (a0 : List UInt8) (a1 : Int) {r : Int} (h : m_bytealg_LastIndexByteString N a0 a1 = some r) :
    AC Tryd.prog (GS []) 70 [V.str a0, .c (.int .u8 a1)] [] (V.int r) [] := by
 rw [m_bytealg_LastIndexByteString] at h
 refine AC.enter Tryd.func70 rfl ?_
 refine cu D_ok mix 1 100 (tl 19 [(0, V.str a0), (1, .c (.int .u8 a1))]) [] (by kernel_rfl) ?_
 refine CodeOk.seq' ?_
 refine cu D_ok mix 4 100 (tl 19 [(0, V.str a0), (1, .c (.int .u8 a1)), (5, V.int (IntKind.wrap .i64 ((a0.length : Int) - 1)))]) [] (by kernel_rfl) ?_
 refine CodeOk.block' ?_
 refine CodeOk.loopJ (fun (⟨a0, a1, y19⟩ : ((List UInt8) × Int × Int)) => ⟨tl 19 [(0, V.str a0), (1, .c (.int .u8 a1)), (5, V.int y19)], []⟩) (fun n i => m_bytealg_LastIndexByteString_l1 N n i = some r) (n0 := N) (i0 := (a0, a1, (IntKind.wrap .i64 ((a0.length : Int) - 1)))) (Weak.sel [] [0, 1, 5] (by kernel_rfl) (by kernel_rfl) (by kernel_rfl)) h (fun i h => by simp [m_bytealg_LastIndexByteString_l1] at h) ?_
 rintro n1 ⟨a0, a1, y19⟩ h43 ih44
 rw [m_bytealg_LastIndexByteString_l1] at h43
 refine CodeOk.seq' ?_
 refine cu D_ok mix 2 160 (tl 19 [(0, V.str a0), (1, .c (.int .u8 a1)), (5, V.int y19), (10, V.bool (decide (y19 ≥ 0)))]) [] (by kernel_rfl) ?_
 (revert h43; refine cond_rev (fun hc46 h43 => ?_) (fun hc46 h43 => ?_))
 ·refine CodeOk.ifT hc46 (by kernel_rfl) ?_
  refine CodeOk.skip ?_
  refine CodeOk.seq' ?_
  refine CodeOk.block' ?_
  (revert h43; refine bind_rev fun b28 hx51 h43 => ?_)
  refine CodeOk.cutR (tl 19 [(0, V.str a0), (1, .c (.int .u8 a1)), (5, V.int y19), (17, V.bool (((b28).toNat : Int) == a1))]) [] mix (by
   refine W.run D_ok 2 160 (by kernel_rfl) ?_
   refine W.ixS D_ok hx51 (by kernel_rfl) ?_
   refine W.run D_ok 2 160 (by kernel_rfl) ?_
   exact W.fi (by kernel_rfl)
   ) ?_
  (revert h43; refine cond_rev (fun hc52 h43 => ?_) (fun hc52 h43 => ?_))
  ·refine CodeOk.ifT hc52 (by kernel_rfl) ?_
   refine cu D_ok mix 2 160 (tl 19 [(4, V.int y19)]) [] (by kernel_rfl) ?_
   refine CodeOk.ret ?_
   have h43 := Option.some.inj h43
   subst h43
   exact Ends.gen [] (.inr rfl) (RetV.one rfl (OneR.tmp (t := 4) (r := V.int y19) (by kernel_rfl))) (by kernel_rfl) (by kernel_rfl) (by kernel_rfl)
  refine CodeOk.ifF hc52 (by kernel_rfl) ?_
  refine CodeOk.skip ?_
  refine ce D_ok mix 3 160 (tl 19 [(0, V.str a0), (1, .c (.int .u8 a1)), (5, V.int (IntKind.wrap .i64 (y19 - 1)))]) [] (by kernel_rfl) (fun st hw => ?_)
  exact ih44 (a0, a1, (IntKind.wrap .i64 (y19 - 1))) h43 _ (hw.trans (Weak.sel [] [0, 1, 5] (by kernel_rfl) (by kernel_rfl) (by kernel_rfl)))
 refine CodeOk.ifF hc46 (by kernel_rfl) ?_
 refine CodeOk.exit ?_
 refine cu D_ok mix 1 160 (tl 19 [(4, V.int (-1))]) [] (by kernel_rfl) ?_
 refine CodeOk.ret ?_
 have h43 := Option.some.inj h43
 subst h43
 exact Ends.gen [] (.inr rfl) (RetV.one rfl (OneR.tmp (t := 4) (r := V.int (-1)) (by kernel_rfl))) (by kernel_rfl) (by kernel_rfl) (by kernel_rfl)

theorem m_strings_LastIndexByte_ok (N : Nat) (a0 : List UInt8) (a1 : Int) {r : Int} (h : m_strings_LastIndexByte N a0 a1 = some r) :
    AC Tryd.prog (GS []) 55 [V.str a0, .c (.int .u8 a1)] [] (V.int r) [] := by
 rw [m_strings_LastIndexByte] at h
 refine AC.enter Tryd.func55 rfl ?_
 refine cu D_ok mix 1 100 (tl 8 [(0, V.str a0), (1, .c (.int .u8 a1))]) [] (by kernel_rfl) ?_
 (revert h; refine bind_rev fun r2 hx2 h => ?_)
 refine CodeOk.cutR (tl 8 [(4, V.int r2)]) [] mix (by
  refine W.run D_ok 2 100 (by kernel_rfl) ?_
  refine W.call0 (m_bytealg_LastIndexByteString_ok N a0 a1 hx2) cok70 rfl (by kernel_rfl) ?_
  refine W.run D_ok 1 100 (by kernel_rfl) ?_
  exact W.fi (by kernel_rfl)
  ) ?_
 refine CodeOk.ret ?_
 have h := Option.some.inj h
 subst h
 exact Ends.gen [] (.inr rfl) (RetV.one rfl (OneR.tmp (t := 4) (r := V.int r2) (by kernel_rfl))) (by kernel_rfl) (by kernel_rfl) (by kernel_rfl)

theorem m_impl_LineCol_ok (N : Nat) (a0 : List UInt8) (a1 : Int) {r : (Int × Int)} (h : m_impl_LineCol N a0 a1 = some r) :
    AC Tryd.prog (GS []) 40 [V.str a0, V.int a1] [] (.tup [V.int r.1, V.int r.2]) [] := by
 rw [m_impl_LineCol] at h
 refine AC.enter Tryd.func40 rfl ?_
 refine cu D_ok mix 2 100 (tl 22 [(0, V.str a0), (1, V.int a1)]) [] (by kernel_rfl) ?_
 refine CodeOk.seq' ?_
 (revert h; refine bind_rev fun r4 hx5 h => ?_)
 refine CodeOk.cutR (tl 22 [(0, V.str a0), (1, V.int a1), (10, V.bool (!r4))]) [] mix (by
  refine W.run D_ok 3 100 (by kernel_rfl) ?_
  refine W.call0 (m_impl_within_ok a1 0 (a0.length : Int) hx5) cok31 rfl (by kernel_rfl) ?_
  refine W.run D_ok 1 100 (by kernel_rfl) ?_
  exact W.fi (by kernel_rfl)
  ) ?_
 (revert h; refine cond_rev (fun hc6 h => ?_) (fun hc6 h => ?_))
 ·refine CodeOk.ifT hc6 (by kernel_rfl) ?_
  refine cu D_ok mix 2 100 (tl 22 [(4, V.int 0), (5, V.int 0)]) [] (by kernel_rfl) ?_
  refine CodeOk.ret ?_
  have h := Option.some.inj h
  subst h
  exact Ends.gen [] (.inr rfl) (RetV.two rfl (OneR.tmp (t := 4) (r := V.int 0) (by kernel_rfl)) (OneR.tmp (t := 5) (r := V.int 0) (by kernel_rfl))) (by kernel_rfl) (by kernel_rfl) (by kernel_rfl)
 refine CodeOk.ifF hc6 (by kernel_rfl) ?_
 refine CodeOk.skip ?_
 (revert h; refine bind_rev fun s9 hx11 h => ?_)
 (revert h; refine bind_rev fun r10 hx12 h => ?_)
 (revert h; refine bind_rev fun s11 hx13 h => ?_)
 (revert h; refine bind_rev fun r12 hx14 h => ?_)
 refine CodeOk.cutR (tl 22 [(4, V.int (IntKind.wrap .i64 (r10 + 1))), (5, V.int (IntKind.wrap .i64 (a1 - r12)))]) [] mix (by
  refine W.run D_ok 2 100 (by kernel_rfl) ?_
  refine W.cutS D_ok hx11 (by kernel_rfl) ?_
  refine W.call0 (m_strings_Count_ok s9 hx12) cok54 rfl (by kernel_rfl) ?_
  refine W.run D_ok 4 100 (by kernel_rfl) ?_
  refine W.cutS D_ok hx13 (by kernel_rfl) ?_
  refine W.call0 (m_strings_LastIndexByte_ok N s11 10 hx14) cok55 rfl (by kernel_rfl) ?_
  refine W.run D_ok 3 100 (by kernel_rfl) ?_
  exact W.fi (by kernel_rfl)
  ) ?_
 refine CodeOk.ret ?_
 have h := Option.some.inj h
 subst h
 exact Ends.gen [] (.inr rfl) (RetV.two rfl (OneR.tmp (t := 4) (r := V.int (IntKind.wrap .i64 (r10 + 1))) (by kernel_rfl)) (OneR.tmp (t := 5) (r := V.int (IntKind.wrap .i64 (a1 - r12))) (by kernel_rfl))) (by kernel_rfl) (by kernel_rfl) (by kernel_rfl)

theorem m_impl_FaultWord_ok (a0 : Int) {r : (List UInt8)} (h : m_impl_FaultWord a0 = some r) :
    AC Tryd.prog (GS []) 41 [V.int a0] [] (V.str r) [] := by
 rw [m_impl_FaultWord] at h
 refine AC.enter Tryd.func41 rfl ?_
 refine cu D_ok mix 1 100 (tl 9 [(0, V.int a0)]) [] (by kernel_rfl) ?_
 refine CodeOk.seq' ?_
 (revert h; refine bind_rev fun r4 hx5 h => ?_)
 refine CodeOk.cutR (tl 9 [(0, V.int a0), (5, V.bool (!r4))]) [] mix (by
  refine W.run D_ok 1 100 (by kernel_rfl) ?_
  refine W.call0 (m_impl_within_ok a0 0 4 hx5) cok31 rfl (by kernel_rfl) ?_
  refine W.run D_ok 1 100 (by kernel_rfl) ?_
  exact W.fi (by kernel_rfl)
  ) ?_
 (revert h; refine cond_rev (fun hc6 h => ?_) (fun hc6 h => ?_))
 ·refine CodeOk.ifT hc6 (by kernel_rfl) ?_
  refine cu D_ok mix 1 100 (tl 9 [(2, V.str [])]) [] (by kernel_rfl) ?_
  refine CodeOk.ret ?_
  have h := Option.some.inj h
  subst h
  exact Ends.gen [] (.inr rfl) (RetV.one rfl (OneR.tmp (t := 2) (r := V.str []) (by kernel_rfl))) (by kernel_rfl) (by kernel_rfl) (by kernel_rfl)
 refine CodeOk.ifF hc6 (by kernel_rfl) ?_
 refine CodeOk.skip ?_
 (revert h; refine bind_rev fun e6 hx8 h => ?_)
 refine CodeOk.cutR (tl 9 [(2, V.str e6)]) [] mix (by
  refine W.run D_ok 2 100 (by kernel_rfl) ?_
  refine W.ixA D_ok V.str hx8 (by kernel_rfl) ?_
  refine W.run D_ok 1 100 (by kernel_rfl) ?_
  exact W.fi (by kernel_rfl)
  ) ?_
 refine CodeOk.ret ?_
 have h := Option.some.inj h
 subst h
 exact Ends.gen [] (.inr rfl) (RetV.one rfl (OneR.tmp (t := 2) (r := V.str e6) (by kernel_rfl))) (by kernel_rfl) (by kernel_rfl) (by kernel_rfl)

def layItoa_ren : Go.Shelf.Ren := ⟨fun | 171 => 56 | 243 => 71 | 246 => 81 | 283 => 92 | 284 => 93 | 285 => 94 | 286 => 95 | 129 => 101 | 317 => 100 | 318 => 102 | 319 => 103 | 320 => 104 | 337 => 105 | 338 => 106 | n => n, fun | 3 => 3 | 9 => 9 | 2 => 2 | 4 => 4 | 171 => 120 | 0 => 0 | 53 => 115 | 37 => 22 | 5 => 5 | 173 => 123 | 212 => 134 | 51 => 112 | 20 => 20 | 213 => 135 | 46 => 98 | 232 => 139 | 233 => 140 | n => n, fun | 17 => 3 | 18 => 4 | 19 => 5 | n => n⟩
theorem layItoa : Go.Proofs.LaysM.n171 Tryd.prog layItoa_ren where
  mixed := by kernel_rfl
  f129 := Tryd.func101.trans (congrArg some (by kernel_rfl))
  f171 := Tryd.func56.trans (congrArg some (by kernel_rfl))
  f243 := Tryd.func71.trans (congrArg some (by kernel_rfl))
  f246 := Tryd.func81.trans (congrArg some (by kernel_rfl))
  f283 := Tryd.func92.trans (congrArg some (by kernel_rfl))
  f284 := Tryd.func93.trans (congrArg some (by kernel_rfl))
  f285 := Tryd.func94.trans (congrArg some (by kernel_rfl))
  f286 := Tryd.func95.trans (congrArg some (by kernel_rfl))
  f317 := Tryd.func100.trans (congrArg some (by kernel_rfl))
  f318 := Tryd.func102.trans (congrArg some (by kernel_rfl))
  f319 := Tryd.func103.trans (congrArg some (by kernel_rfl))
  f320 := Tryd.func104.trans (congrArg some (by kernel_rfl))
  f337 := Tryd.func105.trans (congrArg some (by kernel_rfl))
  f338 := Tryd.func106.trans (congrArg some (by kernel_rfl))
  t0 := Tryd.underlying0
  a0 := Tryd.isAgg0
  z0 := Tryd.sizeOf0
  v0 := Tryd.zeroValue0
  t2 := Tryd.underlying2
  a2 := Tryd.isAgg2
  z2 := Tryd.sizeOf2
  v2 := Tryd.zeroValue2
  t3 := Tryd.underlying3
  a3 := Tryd.isAgg3
  z3 := Tryd.sizeOf3
  v3 := Tryd.zeroValue3
  t4 := Tryd.underlying4
  a4 := Tryd.isAgg4
  z4 := Tryd.sizeOf4
  v4 := Tryd.zeroValue4
  t5 := Tryd.underlying5
  a5 := Tryd.isAgg5
  z5 := Tryd.sizeOf5
  v5 := Tryd.zeroValue5
  t9 := Tryd.underlying9
  a9 := Tryd.isAgg9
  z9 := Tryd.sizeOf9
  v9 := Tryd.zeroValue9
  t20 := Tryd.underlying20
  a20 := Tryd.isAgg20
  z20 := Tryd.sizeOf20
  v20 := Tryd.zeroValue20
  t37 := Tryd.underlying22
  a37 := Tryd.isAgg22
  z37 := Tryd.sizeOf22
  v37 := Tryd.zeroValue22
  t46 := Tryd.underlying98
  a46 := Tryd.isAgg98
  z46 := Tryd.sizeOf98
  v46 := Tryd.zeroValue98
  t51 := Tryd.underlying112
  a51 := Tryd.isAgg112
  z51 := Tryd.sizeOf112
  v51 := Tryd.zeroValue112
  t53 := Tryd.underlying115
  a53 := Tryd.isAgg115
  z53 := Tryd.sizeOf115
  v53 := Tryd.zeroValue115
  t171 := Tryd.underlying120
  a171 := Tryd.isAgg120
  z171 := Tryd.sizeOf120
  v171 := Tryd.zeroValue120
  t173 := Tryd.underlying123
  a173 := Tryd.isAgg123
  z173 := Tryd.sizeOf123
  v173 := Tryd.zeroValue123
  t212 := Tryd.underlying134
  a212 := Tryd.isAgg134
  z212 := Tryd.sizeOf134
  v212 := Tryd.zeroValue134
  t213 := Tryd.underlying135
  a213 := Tryd.isAgg135
  z213 := Tryd.sizeOf135
  t232 := Tryd.underlying139
  a232 := Tryd.isAgg139
  z232 := Tryd.sizeOf139
  v232 := Tryd.zeroValue139
  t233 := Tryd.underlying140
  a233 := Tryd.isAgg140
  z233 := Tryd.sizeOf140
  v233 := Tryd.zeroValue140
  g17 := by kernel_rfl
  g18 := by kernel_rfl
  g19 := by kernel_rfl
  i0 := by kernel_rfl
  i2 := by kernel_rfl
  i3 := by kernel_rfl
  i4 := by kernel_rfl
  i5 := by kernel_rfl
  i9 := by kernel_rfl
  i20 := by kernel_rfl
  i37 := by kernel_rfl
  i46 := by kernel_rfl
  i51 := by kernel_rfl
  i53 := by kernel_rfl
  i171 := by kernel_rfl
  i173 := by kernel_rfl
  i212 := by kernel_rfl
  i232 := by kernel_rfl
  i233 := by kernel_rfl
  m17 := by kernel_rfl
  m18 := by kernel_rfl
  m19 := by kernel_rfl


theorem m_strconv_Itoa_mem : ItoaMem Tryd.prog 56 := fun n h0 h1 w ht => Any.strconv_Itoa layItoa n h0 h1 w ht

theorem m_strconv_Itoa_ok (a0 : Int) {r : List UInt8} (h : m_strconv_Itoa a0 = some r) :
    AC Tryd.prog (GS [3]) 56 [V.int a0] [] (V.str r) [] := AC.itoaO (g := 3) m_strconv_Itoa_mem (by kernel_rfl) (by kernel_rfl) h


theorem m_impl_Dec_ok (a0 : Int) {r : (List UInt8)} (h : m_impl_Dec a0 = some r) :
    AC Tryd.prog (GS [3]) 42 [V.int a0] [] (V.str r) [] := by
 rw [m_impl_Dec] at h
 refine AC.enter Tryd.func42 rfl ?_
 refine cu D_ok mix 1 100 (tl 5 [(0, V.int a0)]) [] (by kernel_rfl) ?_
 (revert h; refine bind_rev fun r2 hx2 h => ?_)
 refine CodeOk.cutR (tl 5 [(2, V.str r2)]) [] mix (by
  refine W.run D_ok 1 100 (by kernel_rfl) ?_
  refine W.call0 (m_strconv_Itoa_ok a0 hx2) cok56 rfl (by kernel_rfl) ?_
  refine W.run D_ok 1 100 (by kernel_rfl) ?_
  exact W.fi (by kernel_rfl)
  ) ?_
 refine CodeOk.ret ?_
 have h := Option.some.inj h
 subst h
 exact Ends.gen [] (.inr rfl) (RetV.one rfl (OneR.tmp (t := 2) (r := V.str r2) (by kernel_rfl))) (by kernel_rfl) (by kernel_rfl) (by kernel_rfl)

theorem m_impl_FaultText_ok (N : Nat) (a0 : List UInt8) (a1 : SFault) {r : (List UInt8)} (h : m_impl_FaultText N a0 a1 = some r) :
    AC Tryd.prog (GS [3]) 20 [V.str a0, .agg [V.int a1.Kind, V.int a1.At]] [] (V.str r) [] := by
 rw [m_impl_FaultText] at h
 refine AC.enter Tryd.func20 rfl ?_
 refine cu D_ok mix 2 100 (tl 38 [(0, V.str a0), (3, .loc 100 0)]) [(100, .cells 41 [V.int a1.Kind, V.int a1.At])] (by kernel_rfl) ?_
 (revert h; refine bind_rev fun r2 hx2 h => ?_)
 refine CodeOk.cutR (tl 38 [(3, .loc 100 0), (5, V.int r2.1), (6, V.int r2.2)]) [(100, .cells 41 [V.int a1.Kind, V.int a1.At])] mix (by
  refine W.run D_ok 3 101 (by kernel_rfl) ?_
  refine W.call0 (AC.gs (m_impl_LineCol_ok N a0 a1.At hx2) (by decide)) cok40 rfl (by kernel_rfl) ?_
  refine W.run D_ok 5 101 (by kernel_rfl) ?_
  exact W.fi (by kernel_rfl)
  ) ?_
 refine CodeOk.seq' ?_
 (revert h; refine bind_rev fun y7 hv14 h => ?_)
 refine CodeOk.cutR (tl 38 [(3, .loc 100 0), (5, V.int r2.1), (6, V.int r2.2), (26, V.bool y7)]) [(100, .cells 41 [V.int a1.Kind, V.int a1.At])] mix (by
  refine W.run D_ok 4 101 (by kernel_rfl) ?_
  (revert hv14; refine cond_rev (fun hc15 hv14 => ?_) (fun hc15 hv14 => ?_))
  ·refine W.is 17 hc15 (by kernel_rfl) ?_
   refine W.run D_ok 9 101 (by kernel_rfl) ?_
   have hv14 := Option.some.inj hv14
   subst hv14
   exact W.fs [(100, 100)] [3, 5, 6, 26] (by kernel_rfl)
  refine W.is 17 hc15 (by kernel_rfl) ?_
  refine W.run D_ok 2 101 (by kernel_rfl) ?_
  (revert hv14; refine bind_rev fun r8 hx16 hv14 => ?_)
  refine W.call0 (AC.gs (m_impl_FaultWord_ok a1.Kind hx16) (by decide)) cok41 rfl (by kernel_rfl) ?_
  refine W.run D_ok 3 101 (by kernel_rfl) ?_
  (revert hv14; refine cond_rev (fun hc17 hv14 => ?_) (fun hc17 hv14 => ?_))
  ·refine W.is 23 hc17 (by kernel_rfl) ?_
   refine W.run D_ok 3 101 (by kernel_rfl) ?_
   have hv14 := Option.some.inj hv14
   subst hv14
   exact W.fs [(100, 100)] [3, 5, 6, 26] (by kernel_rfl)
  refine W.is 23 hc17 (by kernel_rfl) ?_
  refine W.run D_ok 3 101 (by kernel_rfl) ?_
  have hv14 := Option.some.inj hv14
  subst hv14
  exact W.fs [(100, 100)] [3, 5, 6, 26] (by kernel_rfl)
  ) ?_
 (revert h; refine cond_rev (fun hc18 h => ?_) (fun hc18 h => ?_))
 ·refine CodeOk.ifT hc18 (by kernel_rfl) ?_
  refine cu D_ok mix 1 101 (tl 38 [(4, V.str [])]) [] (by kernel_rfl) ?_
  refine CodeOk.ret ?_
  have h := Option.some.inj h
  subst h
  exact Ends.gen [] (.inr rfl) (RetV.one rfl (OneR.tmp (t := 4) (r := V.str []) (by kernel_rfl))) (by kernel_rfl) (by kernel_rfl) (by kernel_rfl)
 refine CodeOk.ifF hc18 (by kernel_rfl) ?_
 refine CodeOk.skip ?_
 (revert h; refine bind_rev fun r16 hx26 h => ?_)
 (revert h; refine bind_rev fun s17 hx27 h => ?_)
 (revert h; refine bind_rev fun r18 hx28 h => ?_)
 (revert h; refine bind_rev fun s19 hx29 h => ?_)
 (revert h; refine bind_rev fun s20 hx30 h => ?_)
 (revert h; refine bind_rev fun r21 hx31 h => ?_)
 (revert h; refine bind_rev fun s22 hx32 h => ?_)
 refine CodeOk.cutR (tl 38 [(4, V.str s22)]) [] mix (by
  refine W.run D_ok 1 101 (by kernel_rfl) ?_
  refine W.call0 (m_impl_Dec_ok r2.1 hx26) cok42 rfl (by kernel_rfl) ?_
  refine W.cat hx27 (by kernel_rfl) ?_
  refine W.run D_ok 1 101 (by kernel_rfl) ?_
  refine W.call0 (m_impl_Dec_ok r2.2 hx28) cok42 rfl (by kernel_rfl) ?_
  refine W.cat hx29 (by kernel_rfl) ?_
  refine W.cat hx30 (by kernel_rfl) ?_
  refine W.run D_ok 2 101 (by kernel_rfl) ?_
  refine W.call0 (AC.gs (m_impl_FaultWord_ok a1.Kind hx31) (by decide)) cok41 rfl (by kernel_rfl) ?_
  refine W.cat hx32 (by kernel_rfl) ?_
  refine W.run D_ok 1 101 (by kernel_rfl) ?_
  exact W.fi (by kernel_rfl)
  ) ?_
 refine CodeOk.ret ?_
 have h := Option.some.inj h
 subst h
 exact Ends.gen [] (.inr rfl) (RetV.one rfl (OneR.tmp (t := 4) (r := V.str s22) (by kernel_rfl))) (by kernel_rfl) (by kernel_rfl) (by kernel_rfl)

theorem m_laws_FnExactFaultText_ok (N : Nat) (a0 : List UInt8) (a1 : SFault) {r : Bool} (h : m_laws_FnExactFaultText N a0 a1 = some r) :
    AC Tryd.prog (GS [3]) 4 [V.str a0, .agg [V.int a1.Kind, V.int a1.At]] [] (V.bool r) [] := by
 rw [m_laws_FnExactFaultText] at h
 refine AC.enter Tryd.func4 rfl ?_
 refine cu D_ok mix 2 100 (tl 21 [(0, V.str a0), (3, .loc 100 0)]) [(100, .cells 39 [V.int a1.Kind, V.int a1.At])] (by kernel_rfl) ?_
 refine CodeOk.seq' ?_
 refine cu D_ok mix 3 101 (tl 21 [(0, V.str a0), (3, .loc 100 0), (9, V.bool (decide ((a0.length : Int) > 1048576)))]) [(100, .cells 39 [V.int a1.Kind, V.int a1.At])] (by kernel_rfl) ?_
 (revert h; refine cond_rev (fun hc2 h => ?_) (fun hc2 h => ?_))
 ·refine CodeOk.ifT hc2 (by kernel_rfl) ?_
  refine cu D_ok mix 1 101 (tl 21 [(4, V.bool true)]) [] (by kernel_rfl) ?_
  refine CodeOk.ret ?_
  have h := Option.some.inj h
  subst h
  exact Ends.gen [] (.inr rfl) (RetV.one rfl (OneR.tmp (t := 4) (r := V.bool true) (by kernel_rfl))) (by kernel_rfl) (by kernel_rfl) (by kernel_rfl)
 refine CodeOk.ifF hc2 (by kernel_rfl) ?_
 refine CodeOk.skip ?_
 (revert h; refine bind_rev fun r3 hx5 h => ?_)
 (revert h; refine bind_rev fun r4 hx6 h => ?_)
 refine CodeOk.cutR (tl 21 [(0, V.str a0), (3, .loc 100 0), (5, V.str r4)]) [(100, .cells 39 [V.int a1.Kind, V.int a1.At])] mix (by
  refine W.run D_ok 2 101 (by kernel_rfl) ?_
  refine W.call0 (AC.gs (m_laws_toFault_ok a1 hx5) (by decide)) cok19 rfl (by kernel_rfl) ?_
  refine W.call0 (AC.gs (m_spec_FaultText_ok N a0 r3 hx6) (by decide)) cok18 rfl (by kernel_rfl) ?_
  refine W.run D_ok 1 101 (by kernel_rfl) ?_
  exact W.fi (by kernel_rfl)
  ) ?_
 (revert h; refine bind_rev fun r7 hx9 h => ?_)
 (revert h; refine bind_rev fun r8 hx10 h => ?_)
 refine CodeOk.cutR (tl 21 [(5, V.str r4), (6, V.str r8)]) [] mix (by
  refine W.run D_ok 2 101 (by kernel_rfl) ?_
  refine W.call0 (AC.gs (m_laws_toFault_ok a1 hx9) (by decide)) cok19 rfl (by kernel_rfl) ?_
  refine W.call0 (m_impl_FaultText_ok N a0 r7 hx10) cok20 rfl (by kernel_rfl) ?_
  refine W.run D_ok 1 101 (by kernel_rfl) ?_
  exact W.fi (by kernel_rfl)
  ) ?_
 refine CodeOk.seq' ?_
 refine cu D_ok mix 3 101 (tl 21 [(20, V.bool (!(r8 == r4)))]) [] (by kernel_rfl) ?_
 (revert h; refine cond_rev (fun hc12 h => ?_) (fun hc12 h => ?_))
 ·refine CodeOk.ifT hc12 (by kernel_rfl) ?_
  refine cu D_ok mix 1 101 (tl 21 [(4, V.bool false)]) [] (by kernel_rfl) ?_
  refine CodeOk.ret ?_
  have h := Option.some.inj h
  subst h
  exact Ends.gen [] (.inr rfl) (RetV.one rfl (OneR.tmp (t := 4) (r := V.bool false) (by kernel_rfl))) (by kernel_rfl) (by kernel_rfl) (by kernel_rfl)
 refine CodeOk.ifF hc12 (by kernel_rfl) ?_
 refine CodeOk.skip ?_
 refine cu D_ok mix 1 101 (tl 21 [(4, V.bool true)]) [] (by kernel_rfl) ?_
 refine CodeOk.ret ?_
 have h := Option.some.inj h
 subst h
 exact Ends.gen [] (.inr rfl) (RetV.one rfl (OneR.tmp (t := 4) (r := V.bool true) (by kernel_rfl))) (by kernel_rfl) (by kernel_rfl) (by kernel_rfl)

end Go.Proofs.Tryd
