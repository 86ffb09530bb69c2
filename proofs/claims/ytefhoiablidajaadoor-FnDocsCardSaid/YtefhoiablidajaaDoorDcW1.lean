/-
  The walks that show that the code computes the models, part 1.
-/
import Derived.Test.YtefhoiablidajaaDoorDcM1
import Derived.Shelf.Strings.Repeat
import Derived.Shelf.Strings.OnBuilder
namespace Go.Proofs.Tryd
open Go.Av
set_option maxRecDepth 100000
set_option maxHeartbeats 8000000
set_option linter.unusedSimpArgs false
set_option linter.unusedVariables false

theorem ext65 (s : List UInt8) (c : Int) (w : World) : (callFunc 65 #[.string ⟨⟨s⟩⟩, .int .u8 c]).run Tryd.prog w = .ok (.value (.int .i64 (Go.Lib.countByte s c.toNat.toUInt8))) w := by
  rw [run_callFunc_extern Tryd.func65 (by kernel_rfl) rfl (by kernel_rfl) (by kernel_rfl)]
  rw [show _ = _ from Go.Lib.run_countString ⟨⟨s⟩⟩ c w]
  rfl

theorem ext79 (s : List UInt8) (c : Int) (w : World) : (callFunc 79 #[.string ⟨⟨s⟩⟩, .int .u8 c]).run Tryd.prog w = .ok (.value (.int .i64 (Go.Lib.indexByte s c.toNat.toUInt8))) w := by
  rw [run_callFunc_extern Tryd.func79 (by kernel_rfl) rfl (by kernel_rfl) (by kernel_rfl)]
  rw [show _ = _ from Go.Lib.run_indexByteString ⟨⟨s⟩⟩ c w]
  rfl

theorem cok3 : callOk Tryd.prog 3 := fun _ _ => Tryd.call3 _ _
theorem cok4 : callOk Tryd.prog 4 := fun _ _ => Tryd.call4 _ _
theorem cok5 : callOk Tryd.prog 5 := fun _ _ => Tryd.call5 _ _
theorem cok6 : callOk Tryd.prog 6 := fun _ _ => Tryd.call6 _ _
theorem cok7 : callOk Tryd.prog 7 := fun _ _ => Tryd.call7 _ _
theorem cok8 : callOk Tryd.prog 8 := fun _ _ => Tryd.call8 _ _
theorem cok9 : callOk Tryd.prog 9 := fun _ _ => Tryd.call9 _ _
theorem cok10 : callOk Tryd.prog 10 := fun _ _ => Tryd.call10 _ _
theorem cok11 : callOk Tryd.prog 11 := fun _ _ => Tryd.call11 _ _
theorem cok12 : callOk Tryd.prog 12 := fun _ _ => Tryd.call12 _ _
theorem cok13 : callOk Tryd.prog 13 := fun _ _ => Tryd.call13 _ _
theorem cok14 : callOk Tryd.prog 14 := fun _ _ => Tryd.call14 _ _
theorem cok15 : callOk Tryd.prog 15 := fun _ _ => Tryd.call15 _ _
theorem cok16 : callOk Tryd.prog 16 := fun _ _ => Tryd.call16 _ _
theorem cok17 : callOk Tryd.prog 17 := fun _ _ => Tryd.call17 _ _
theorem cok18 : callOk Tryd.prog 18 := fun _ _ => Tryd.call18 _ _
theorem cok19 : callOk Tryd.prog 19 := fun _ _ => Tryd.call19 _ _
theorem cok20 : callOk Tryd.prog 20 := fun _ _ => Tryd.call20 _ _
theorem cok21 : callOk Tryd.prog 21 := fun _ _ => Tryd.call21 _ _
theorem cok22 : callOk Tryd.prog 22 := fun _ _ => Tryd.call22 _ _
theorem cok23 : callOk Tryd.prog 23 := fun _ _ => Tryd.call23 _ _
theorem cok24 : callOk Tryd.prog 24 := fun _ _ => Tryd.call24 _ _
theorem cok25 : callOk Tryd.prog 25 := fun _ _ => Tryd.call25 _ _
theorem cok26 : callOk Tryd.prog 26 := fun _ _ => Tryd.call26 _ _
theorem cok27 : callOk Tryd.prog 27 := fun _ _ => Tryd.call27 _ _
theorem cok28 : callOk Tryd.prog 28 := fun _ _ => Tryd.call28 _ _
theorem cok29 : callOk Tryd.prog 29 := fun _ _ => Tryd.call29 _ _
theorem cok30 : callOk Tryd.prog 30 := fun _ _ => Tryd.call30 _ _
theorem cok32 : callOk Tryd.prog 32 := fun _ _ => Tryd.call32 _ _
theorem cok33 : callOk Tryd.prog 33 := fun _ _ => Tryd.call33 _ _
theorem cok34 : callOk Tryd.prog 34 := fun _ _ => Tryd.call34 _ _
theorem cok35 : callOk Tryd.prog 35 := fun _ _ => Tryd.call35 _ _
theorem cok36 : callOk Tryd.prog 36 := fun _ _ => Tryd.call36 _ _
theorem cok37 : callOk Tryd.prog 37 := fun _ _ => Tryd.call37 _ _
theorem cok38 : callOk Tryd.prog 38 := fun _ _ => Tryd.call38 _ _
theorem cok39 : callOk Tryd.prog 39 := fun _ _ => Tryd.call39 _ _
theorem cok40 : callOk Tryd.prog 40 := fun _ _ => Tryd.call40 _ _
theorem cok41 : callOk Tryd.prog 41 := fun _ _ => Tryd.call41 _ _
theorem cok42 : callOk Tryd.prog 42 := fun _ _ => Tryd.call42 _ _
theorem cok43 : callOk Tryd.prog 43 := fun _ _ => Tryd.call43 _ _
theorem cok44 : callOk Tryd.prog 44 := fun _ _ => Tryd.call44 _ _
theorem cok45 : callOk Tryd.prog 45 := fun _ _ => Tryd.call45 _ _
theorem cok46 : callOk Tryd.prog 46 := fun _ _ => Tryd.call46 _ _
theorem cok47 : callOk Tryd.prog 47 := fun _ _ => Tryd.call47 _ _
theorem cok48 : callOk Tryd.prog 48 := fun _ _ => Tryd.call48 _ _
theorem cok49 : callOk Tryd.prog 49 := fun _ _ => Tryd.call49 _ _
theorem cok50 : callOk Tryd.prog 50 := fun _ _ => Tryd.call50 _ _
theorem cok51 : callOk Tryd.prog 51 := fun _ _ => Tryd.call51 _ _
theorem cok52 : callOk Tryd.prog 52 := fun _ _ => Tryd.call52 _ _
theorem cok54 : callOk Tryd.prog 54 := fun _ _ => Tryd.call54 _ _
theorem cok55 : callOk Tryd.prog 55 := fun _ _ => Tryd.call55 _ _
theorem cok56 : callOk Tryd.prog 56 := fun _ _ => Tryd.call56 _ _
theorem cok66 : callOk Tryd.prog 66 := fun _ _ => Tryd.call66 _ _
theorem cok73 : callOk Tryd.prog 73 := fun _ _ => Tryd.call73 _ _

theorem m_laws_big_ok (a0 : List UInt8) {r : Bool} (h : m_laws_big a0 = some r) :
    AC Tryd.prog (GS []) 4 [.sl false false (a0.map byteRow)] [] (V.bool r) [] := by
 rw [m_laws_big] at h
 refine AC.enter Tryd.func4 rfl ?_
 refine cu D_ok mix 1 100 (tl 6 [(0, .sl false false (a0.map byteRow))]) [] (by kernel_rfl) ?_
 refine CodeOk.cutR (tl 6 [(2, V.bool (decide ((a0.length : Int) > 1048576)))]) [] mix (by
  refine W.run D_ok 1 100 (by kernel_rfl) ?_
  refine W.len D_ok byteRow a0 [] (by kernel_rfl) (by kernel_rfl) ?_
  refine W.run D_ok 2 100 (by kernel_rfl) ?_
  exact W.fi (by kernel_rfl)
  ) ?_
 refine CodeOk.ret ?_
 have h := Option.some.inj h
 subst h
 exact Ends.gen [] (.inr rfl) (RetV.one rfl (OneR.tmp (t := 2) (r := V.bool (decide ((a0.length : Int) > 1048576))) (by kernel_rfl))) (by kernel_rfl) (by kernel_rfl) (by kernel_rfl)

theorem m_spec_l1New_ok (N : Nat) (a0 : List UInt8) {r : ((List UInt8) × Int × Int)} (h : m_spec_l1New N a0 = some r) :
    AC Tryd.prog (GS []) 17 [.sl false false (a0.map byteRow)] [] (.loc 100 0) [(100, .cells 65 [.sl false false (r.1.map byteRow), V.int r.2.1, V.int r.2.2])] := by
 rw [m_spec_l1New] at h
 refine AC.enter Tryd.func17 rfl ?_
 refine cu D_ok mix 1 100 (tl 32 [(0, .sl false false (a0.map byteRow))]) [] (by kernel_rfl) ?_
 refine CodeOk.cutR (tl 32 [(0, .sl false false (a0.map byteRow)), (3, V.int (IntKind.wrap .i64 (10101 + (a0.length : Int))))]) [] mix (by
  refine W.run D_ok 1 100 (by kernel_rfl) ?_
  refine W.len D_ok byteRow a0 [] (by kernel_rfl) (by kernel_rfl) ?_
  refine W.run D_ok 2 100 (by kernel_rfl) ?_
  exact W.fi (by kernel_rfl)
  ) ?_
 refine CodeOk.seq' ?_
 refine cu D_ok mix 1 100 (tl 32 [(0, .sl false false (a0.map byteRow)), (3, V.int (IntKind.wrap .i64 (10101 + (a0.length : Int)))), (4, V.int 0)]) [] (by kernel_rfl) ?_
 refine CodeOk.block' ?_
 refine CodeOk.loopJ (fun (⟨a0, y29, y30⟩ : ((List UInt8) × Int × Int)) => ⟨tl 32 [(0, .sl false false (a0.map byteRow)), (3, V.int y29), (4, V.int y30)], []⟩) (fun n i => m_spec_l1New_l1 N n i = some r) (n0 := N) (i0 := (a0, (IntKind.wrap .i64 (10101 + (a0.length : Int))), 0)) (Weak.sel [] [0, 3, 4] (by kernel_rfl) (by kernel_rfl) (by kernel_rfl)) h (fun i h => by simp [m_spec_l1New_l1] at h) ?_
 rintro n1 ⟨a0, y29, y30⟩ h63 ih64
 rw [m_spec_l1New_l1] at h63
 refine CodeOk.seq' ?_
 (revert h63; refine bind_rev fun y40 hv70 h63 => ?_)
 refine CodeOk.cutR (tl 32 [(0, .sl false false (a0.map byteRow)), (3, V.int y29), (4, V.int y30), (15, V.bool y40)]) [] mix (by
  refine W.run D_ok 2 160 (by kernel_rfl) ?_
  refine W.len D_ok byteRow a0 [] (by kernel_rfl) (by kernel_rfl) ?_
  refine W.run D_ok 2 160 (by kernel_rfl) ?_
  (revert hv70; refine cond_rev (fun hc71 hv70 => ?_) (fun hc71 hv70 => ?_))
  ·refine W.is 12 hc71 (by kernel_rfl) ?_
   refine W.run D_ok 3 160 (by kernel_rfl) ?_
   have hv70 := Option.some.inj hv70
   subst hv70
   exact W.fs [] [0, 3, 4, 15] (by kernel_rfl)
  refine W.is 12 hc71 (by kernel_rfl) ?_
  refine W.run D_ok 3 160 (by kernel_rfl) ?_
  have hv70 := Option.some.inj hv70
  subst hv70
  exact W.fs [] [0, 3, 4, 15] (by kernel_rfl)
  ) ?_
 (revert h63; refine cond_rev (fun hc72 h63 => ?_) (fun hc72 h63 => ?_))
 ·refine CodeOk.ifT hc72 (by kernel_rfl) ?_
  refine CodeOk.skip ?_
  refine CodeOk.seq' ?_
  refine CodeOk.block' ?_
  (revert h63; refine bind_rev fun e44 hx76 h63 => ?_)
  refine CodeOk.endR (tl 32 [(0, .sl false false (a0.map byteRow)), (3, V.int (bits .and .i64 (IntKind.wrap .i64 ((IntKind.wrap .i64 ((IntKind.wrap .i64 (y29 * 131)) + (IntKind.wrap .i64 ((e44).toNat : Int)))) + 7)) 1073741823)), (4, V.int y30)]) [] mix (by
   refine W.run D_ok 4 160 (by kernel_rfl) ?_
   refine W.ixD D_ok byteRow hx76 1 (by kernel_rfl) (by kernel_rfl) ?_
   refine W.run D_ok 6 160 (by kernel_rfl) ?_
   exact W.fi (by kernel_rfl)
   ) (fun st hw => ?_)
  refine CodeOk.weak hw ?_
  refine ce D_ok mix 3 160 (tl 32 [(0, .sl false false (a0.map byteRow)), (3, V.int (bits .and .i64 (IntKind.wrap .i64 ((IntKind.wrap .i64 ((IntKind.wrap .i64 (y29 * 131)) + (IntKind.wrap .i64 ((e44).toNat : Int)))) + 7)) 1073741823)), (4, V.int (IntKind.wrap .i64 (y30 + 1)))]) [] (by kernel_rfl) (fun st hw => ?_)
  exact ih64 (a0, (bits .and .i64 (IntKind.wrap .i64 ((IntKind.wrap .i64 ((IntKind.wrap .i64 (y29 * 131)) + (IntKind.wrap .i64 ((e44).toNat : Int)))) + 7)) 1073741823), (IntKind.wrap .i64 (y30 + 1))) h63 _ (hw.trans (Weak.sel [] [0, 3, 4] (by kernel_rfl) (by kernel_rfl) (by kernel_rfl)))
 refine CodeOk.ifF hc72 (by kernel_rfl) ?_
 refine CodeOk.exit ?_
 refine cu D_ok mix 5 160 (tl 32 [(2, .loc 160 0)]) [(160, .cells 65 [.sl false false (a0.map byteRow), V.int 0, V.int y29])] (by kernel_rfl) ?_
 refine CodeOk.ret ?_
 have h63 := Option.some.inj h63
 subst h63
 exact Ends.gen [(160, 100)] (.inr rfl) (RetV.one rfl (OneR.tmp (t := 2) (r := .loc 160 0) (by kernel_rfl))) (by kernel_rfl) (by kernel_rfl) (by kernel_rfl)

theorem m_spec_l1Byte_ok (p0_0 : List UInt8) (p0_1 : Int) (p0_2 : Int) {r : (Int × Int × Int)} (h : m_spec_l1Byte p0_0 p0_1 p0_2 = some r) :
    AC Tryd.prog (GS []) 50 [.loc 0 0] [(0, .cells 65 [.sl false false (p0_0.map byteRow), V.int p0_1, V.int p0_2])] (V.int r.1) [(0, .cells 65 [.sl false false (p0_0.map byteRow), V.int r.2.1, V.int r.2.2])] := by
 rw [m_spec_l1Byte] at h
 refine AC.enter Tryd.func50 rfl ?_
 refine cu D_ok mix 1 100 (tl 58 [(0, .loc 0 0)]) [(0, .cells 65 [.sl false false (p0_0.map byteRow), V.int p0_1, V.int p0_2])] (by kernel_rfl) ?_
 refine cu D_ok mix 10 100 (tl 58 [(0, .loc 0 0)]) [(0, .cells 65 [.sl false false (p0_0.map byteRow), V.int p0_1, V.int (IntKind.wrap .i64 ((IntKind.wrap .i64 (p0_2 * 6364136223846793005)) + 1442695040888963407))])] (by kernel_rfl) ?_
 refine cu D_ok mix 13 100 (tl 58 [(0, .loc 0 0), (3, V.int (bits .and .i64 (bits .xor .i64 (Int.fdiv (IntKind.wrap .i64 ((IntKind.wrap .i64 (p0_2 * 6364136223846793005)) + 1442695040888963407)) (2 ^ (min 33 64))) (Int.fdiv (IntKind.wrap .i64 ((IntKind.wrap .i64 (p0_2 * 6364136223846793005)) + 1442695040888963407)) (2 ^ (min 45 64)))) 255))]) [(0, .cells 65 [.sl false false (p0_0.map byteRow), V.int p0_1, V.int (IntKind.wrap .i64 ((IntKind.wrap .i64 (p0_2 * 6364136223846793005)) + 1442695040888963407))])] (by kernel_rfl) ?_
 refine CodeOk.join (fun (⟨p0_2, y3, y4⟩ : (Int × Int × Int)) => ⟨tl 58 [(3, V.int y3)], [(0, .cells 65 [.sl false false (p0_0.map byteRow), V.int y4, V.int (IntKind.wrap .i64 ((IntKind.wrap .i64 (p0_2 * 6364136223846793005)) + 1442695040888963407))])]⟩) (fun i => m_spec_l1Byte_k1 p0_0 i = some r) ?_ ?_
 · rintro ⟨p0_2, y3, y4⟩ h4
   rw [m_spec_l1Byte_k1] at h4
   refine cu D_ok mix 2 100 (tl 58 [(2, V.int y3)]) [(0, .cells 65 [.sl false false (p0_0.map byteRow), V.int y4, V.int (IntKind.wrap .i64 ((IntKind.wrap .i64 (p0_2 * 6364136223846793005)) + 1442695040888963407))])] (by kernel_rfl) ?_
   refine CodeOk.ret ?_
   have h4 := Option.some.inj h4
   subst h4
   exact Ends.gen [(0, 0)] (.inr rfl) (RetV.one rfl (OneR.tmp (t := 2) (r := V.int y3) (by kernel_rfl))) (by kernel_rfl) (by kernel_rfl) (by kernel_rfl)
 intro hk5
 refine CodeOk.cutR (tl 58 [(0, .loc 0 0), (3, V.int (bits .and .i64 (bits .xor .i64 (Int.fdiv (IntKind.wrap .i64 ((IntKind.wrap .i64 (p0_2 * 6364136223846793005)) + 1442695040888963407)) (2 ^ (min 33 64))) (Int.fdiv (IntKind.wrap .i64 ((IntKind.wrap .i64 (p0_2 * 6364136223846793005)) + 1442695040888963407)) (2 ^ (min 45 64)))) 255)), (34, V.bool (decide (p0_1 < (p0_0.length : Int))))]) [(0, .cells 65 [.sl false false (p0_0.map byteRow), V.int p0_1, V.int (IntKind.wrap .i64 ((IntKind.wrap .i64 (p0_2 * 6364136223846793005)) + 1442695040888963407))])] mix (by
  refine W.run D_ok 8 100 (by kernel_rfl) ?_
  refine W.len D_ok byteRow p0_0 [] (by kernel_rfl) (by kernel_rfl) ?_
  refine W.run D_ok 1 100 (by kernel_rfl) ?_
  exact W.fi (by kernel_rfl)
  ) ?_
 (revert h; refine cond_rev (fun hc6 h => ?_) (fun hc6 h => ?_))
 ·refine CodeOk.ifT hc6 (by kernel_rfl) ?_
  (revert h; refine bind_rev fun e6 hx8 h => ?_)
  refine CodeOk.cutR (tl 58 [(0, .loc 0 0), (3, V.int (bits .and .i64 (IntKind.wrap .i64 ((bits .and .i64 (bits .xor .i64 (Int.fdiv (IntKind.wrap .i64 ((IntKind.wrap .i64 (p0_2 * 6364136223846793005)) + 1442695040888963407)) (2 ^ (min 33 64))) (Int.fdiv (IntKind.wrap .i64 ((IntKind.wrap .i64 (p0_2 * 6364136223846793005)) + 1442695040888963407)) (2 ^ (min 45 64)))) 255) + (IntKind.wrap .i64 ((e6).toNat : Int)))) 255))]) [(0, .cells 65 [.sl false false (p0_0.map byteRow), V.int p0_1, V.int (IntKind.wrap .i64 ((IntKind.wrap .i64 (p0_2 * 6364136223846793005)) + 1442695040888963407))])] mix (by
   refine W.run D_ok 9 100 (by kernel_rfl) ?_
   refine W.ixD D_ok byteRow hx8 1 (by kernel_rfl) (by kernel_rfl) ?_
   refine W.run D_ok 5 100 (by kernel_rfl) ?_
   exact W.fi (by kernel_rfl)
   ) ?_
  refine ce D_ok mix 9 100 (tl 58 [(3, V.int (bits .and .i64 (IntKind.wrap .i64 ((bits .and .i64 (bits .xor .i64 (Int.fdiv (IntKind.wrap .i64 ((IntKind.wrap .i64 (p0_2 * 6364136223846793005)) + 1442695040888963407)) (2 ^ (min 33 64))) (Int.fdiv (IntKind.wrap .i64 ((IntKind.wrap .i64 (p0_2 * 6364136223846793005)) + 1442695040888963407)) (2 ^ (min 45 64)))) 255) + (IntKind.wrap .i64 ((e6).toNat : Int)))) 255))]) [(0, .cells 65 [.sl false false (p0_0.map byteRow), V.int (IntKind.wrap .i64 (p0_1 + 1)), V.int (IntKind.wrap .i64 ((IntKind.wrap .i64 (p0_2 * 6364136223846793005)) + 1442695040888963407))])] (by kernel_rfl) (fun st hw => ?_)
  exact hk5 (p0_2, (bits .and .i64 (IntKind.wrap .i64 ((bits .and .i64 (bits .xor .i64 (Int.fdiv (IntKind.wrap .i64 ((IntKind.wrap .i64 (p0_2 * 6364136223846793005)) + 1442695040888963407)) (2 ^ (min 33 64))) (Int.fdiv (IntKind.wrap .i64 ((IntKind.wrap .i64 (p0_2 * 6364136223846793005)) + 1442695040888963407)) (2 ^ (min 45 64)))) 255) + (IntKind.wrap .i64 ((e6).toNat : Int)))) 255), (IntKind.wrap .i64 (p0_1 + 1))) h _ (hw.trans (Weak.sel [(0, 0)] [3] (by kernel_rfl) (by kernel_rfl) (by kernel_rfl)))
 refine CodeOk.ifF hc6 (by kernel_rfl) ?_
 refine CodeOk.skip ?_
 exact hk5 (p0_2, (bits .and .i64 (bits .xor .i64 (Int.fdiv (IntKind.wrap .i64 ((IntKind.wrap .i64 (p0_2 * 6364136223846793005)) + 1442695040888963407)) (2 ^ (min 33 64))) (Int.fdiv (IntKind.wrap .i64 ((IntKind.wrap .i64 (p0_2 * 6364136223846793005)) + 1442695040888963407)) (2 ^ (min 45 64)))) 255), p0_1) h _ (Weak.sel [(0, 0)] [3] (by kernel_rfl) (by kernel_rfl) (by kernel_rfl))

theorem m_spec_l1Below_ok (a1 : Int) (p0_0 : List UInt8) (p0_1 : Int) (p0_2 : Int) {r : (Int × Int × Int)} (h : m_spec_l1Below a1 p0_0 p0_1 p0_2 = some r) :
    AC Tryd.prog (GS []) 34 [.loc 0 0, V.int a1] [(0, .cells 65 [.sl false false (p0_0.map byteRow), V.int p0_1, V.int p0_2])] (V.int r.1) [(0, .cells 65 [.sl false false (p0_0.map byteRow), V.int r.2.1, V.int r.2.2])] := by
 rw [m_spec_l1Below] at h
 refine AC.enter Tryd.func34 rfl ?_
 refine cu D_ok mix 1 100 (tl 37 [(0, .loc 0 0), (1, V.int a1)]) [(0, .cells 65 [.sl false false (p0_0.map byteRow), V.int p0_1, V.int p0_2])] (by kernel_rfl) ?_
 refine CodeOk.seq' ?_
 refine cu D_ok mix 2 100 (tl 37 [(0, .loc 0 0), (1, V.int a1), (10, V.bool (decide (a1 ≤ 0)))]) [(0, .cells 65 [.sl false false (p0_0.map byteRow), V.int p0_1, V.int p0_2])] (by kernel_rfl) ?_
 (revert h; refine cond_rev (fun hc2 h => ?_) (fun hc2 h => ?_))
 ·refine CodeOk.ifT hc2 (by kernel_rfl) ?_
  refine cu D_ok mix 1 100 (tl 37 [(4, V.int 0)]) [(0, .cells 65 [.sl false false (p0_0.map byteRow), V.int p0_1, V.int p0_2])] (by kernel_rfl) ?_
  refine CodeOk.ret ?_
  have h := Option.some.inj h
  subst h
  exact Ends.gen [(0, 0)] (.inr rfl) (RetV.one rfl (OneR.tmp (t := 4) (r := V.int 0) (by kernel_rfl))) (by kernel_rfl) (by kernel_rfl) (by kernel_rfl)
 refine CodeOk.ifF hc2 (by kernel_rfl) ?_
 refine CodeOk.skip ?_
 refine CodeOk.seq' ?_
 refine cu D_ok mix 2 100 (tl 37 [(0, .loc 0 0), (1, V.int a1), (12, V.bool (decide (a1 ≤ 256)))]) [(0, .cells 65 [.sl false false (p0_0.map byteRow), V.int p0_1, V.int p0_2])] (by kernel_rfl) ?_
 (revert h; refine cond_rev (fun hc8 h => ?_) (fun hc8 h => ?_))
 ·refine CodeOk.ifT hc8 (by kernel_rfl) ?_
  (revert h; refine bind_rev fun r7 hx11 h => ?_)
  (revert h; refine bind_rev fun x8 hx12 h => ?_)
  refine CodeOk.cutR (tl 37 [(4, V.int x8)]) [(0, .cells 65 [.sl false false (p0_0.map byteRow), V.int r7.2.1, V.int r7.2.2])] mix (by
   refine W.run D_ok 1 100 (by kernel_rfl) ?_
   refine W.call (m_spec_l1Byte_ok p0_0 p0_1 p0_2 hx11) cok50 [(0, 0)] [(0, 0)] [] (show LayOk _ [] from trivial) (by kernel_rfl) (by kernel_rfl) ?_
   refine W.run D_ok 1 100 (by kernel_rfl) ?_
   refine W.rem (k := .i64) hx12 (by kernel_rfl) ?_
   refine W.run D_ok 1 100 (by kernel_rfl) ?_
   exact W.fi (by kernel_rfl)
   ) ?_
  refine CodeOk.ret ?_
  have h := Option.some.inj h
  subst h
  exact Ends.gen [(0, 0)] (.inr rfl) (RetV.one rfl (OneR.tmp (t := 4) (r := V.int x8) (by kernel_rfl))) (by kernel_rfl) (by kernel_rfl) (by kernel_rfl)
 refine CodeOk.ifF hc8 (by kernel_rfl) ?_
 refine CodeOk.skip ?_
 (revert h; refine bind_rev fun r10 hx14 h => ?_)
 refine CodeOk.cutR (tl 37 [(0, .loc 0 0), (1, V.int a1), (5, V.int r10.1)]) [(0, .cells 65 [.sl false false (p0_0.map byteRow), V.int r10.2.1, V.int r10.2.2])] mix (by
  refine W.run D_ok 1 100 (by kernel_rfl) ?_
  refine W.call (m_spec_l1Byte_ok p0_0 p0_1 p0_2 hx14) cok50 [(0, 0)] [(0, 0)] [] (show LayOk _ [] from trivial) (by kernel_rfl) (by kernel_rfl) ?_
  refine W.run D_ok 1 100 (by kernel_rfl) ?_
  exact W.fi (by kernel_rfl)
  ) ?_
 (revert h; refine bind_rev fun r12 hx16 h => ?_)
 refine CodeOk.cutR (tl 37 [(0, .loc 0 0), (1, V.int a1), (5, V.int r10.1), (6, V.int r12.1)]) [(0, .cells 65 [.sl false false (p0_0.map byteRow), V.int r12.2.1, V.int r12.2.2])] mix (by
  refine W.run D_ok 1 100 (by kernel_rfl) ?_
  refine W.call (m_spec_l1Byte_ok p0_0 r10.2.1 r10.2.2 hx16) cok50 [(0, 0)] [(0, 0)] [] (show LayOk _ [] from trivial) (by kernel_rfl) (by kernel_rfl) ?_
  refine W.run D_ok 1 100 (by kernel_rfl) ?_
  exact W.fi (by kernel_rfl)
  ) ?_
 (revert h; refine bind_rev fun r14 hx18 h => ?_)
 refine CodeOk.cutR (tl 37 [(0, .loc 0 0), (1, V.int a1), (5, V.int r10.1), (6, V.int r12.1), (7, V.int r14.1)]) [(0, .cells 65 [.sl false false (p0_0.map byteRow), V.int r14.2.1, V.int r14.2.2])] mix (by
  refine W.run D_ok 1 100 (by kernel_rfl) ?_
  refine W.call (m_spec_l1Byte_ok p0_0 r12.2.1 r12.2.2 hx18) cok50 [(0, 0)] [(0, 0)] [] (show LayOk _ [] from trivial) (by kernel_rfl) (by kernel_rfl) ?_
  refine W.run D_ok 1 100 (by kernel_rfl) ?_
  exact W.fi (by kernel_rfl)
  ) ?_
 (revert h; refine bind_rev fun r16 hx20 h => ?_)
 refine CodeOk.cutR (tl 37 [(1, V.int a1), (5, V.int r10.1), (6, V.int r12.1), (7, V.int r14.1), (8, V.int r16.1)]) [(0, .cells 65 [.sl false false (p0_0.map byteRow), V.int r16.2.1, V.int r16.2.2])] mix (by
  refine W.run D_ok 1 100 (by kernel_rfl) ?_
  refine W.call (m_spec_l1Byte_ok p0_0 r14.2.1 r14.2.2 hx20) cok50 [(0, 0)] [(0, 0)] [] (show LayOk _ [] from trivial) (by kernel_rfl) (by kernel_rfl) ?_
  refine W.run D_ok 1 100 (by kernel_rfl) ?_
  exact W.fi (by kernel_rfl)
  ) ?_
 (revert h; refine bind_rev fun x18 hx22 h => ?_)
 refine CodeOk.cutR (tl 37 [(4, V.int x18)]) [(0, .cells 65 [.sl false false (p0_0.map byteRow), V.int r16.2.1, V.int r16.2.2])] mix (by
  refine W.run D_ok 11 100 (by kernel_rfl) ?_
  refine W.rem (k := .i64) hx22 (by kernel_rfl) ?_
  refine W.run D_ok 1 100 (by kernel_rfl) ?_
  exact W.fi (by kernel_rfl)
  ) ?_
 refine CodeOk.ret ?_
 have h := Option.some.inj h
 subst h
 exact Ends.gen [(0, 0)] (.inr rfl) (RetV.one rfl (OneR.tmp (t := 4) (r := V.int x18) (by kernel_rfl))) (by kernel_rfl) (by kernel_rfl) (by kernel_rfl)

theorem m_spec_l1Pick_ok (a1 : List (List UInt8)) (p0_0 : List UInt8) (p0_1 : Int) (p0_2 : Int) {r : ((List UInt8) × Int × Int)} (h : m_spec_l1Pick a1 p0_0 p0_1 p0_2 = some r) :
    AC Tryd.prog (GS []) 45 [.loc 0 0, .sl false false (a1.map encS)] [(0, .cells 65 [.sl false false (p0_0.map byteRow), V.int p0_1, V.int p0_2])] (V.str r.1) [(0, .cells 65 [.sl false false (p0_0.map byteRow), V.int r.2.1, V.int r.2.2])] := by
 rw [m_spec_l1Pick] at h
 refine AC.enter Tryd.func45 rfl ?_
 refine cu D_ok mix 1 100 (tl 12 [(0, .loc 0 0), (1, .sl false false (a1.map encS))]) [(0, .cells 65 [.sl false false (p0_0.map byteRow), V.int p0_1, V.int p0_2])] (by kernel_rfl) ?_
 (revert h; refine bind_rev fun r3 hx3 h => ?_)
 (revert h; refine bind_rev fun e4 hx4 h => ?_)
 refine CodeOk.cutR (tl 12 [(4, V.str e4)]) [(0, .cells 65 [.sl false false (p0_0.map byteRow), V.int r3.2.1, V.int r3.2.2])] mix (by
  refine W.run D_ok 3 100 (by kernel_rfl) ?_
  refine W.len D_ok encS a1 [] (by kernel_rfl) (by kernel_rfl) ?_
  refine W.call (m_spec_l1Below_ok (a1.length : Int) p0_0 p0_1 p0_2 hx3) cok34 [(0, 0)] [(0, 0)] [] (show LayOk _ [] from trivial) (by kernel_rfl) (by kernel_rfl) ?_
  refine W.ixD D_ok encS hx4 1 (by kernel_rfl) (by kernel_rfl) ?_
  refine W.run D_ok 2 100 (by kernel_rfl) ?_
  exact W.fi (by kernel_rfl)
  ) ?_
 refine CodeOk.ret ?_
 have h := Option.some.inj h
 subst h
 exact Ends.gen [(0, 0)] (.inr rfl) (RetV.one rfl (OneR.tmp (t := 4) (r := V.str e4) (by kernel_rfl))) (by kernel_rfl) (by kernel_rfl) (by kernel_rfl)

theorem m_spec_l15Text_ok (a0 : List UInt8) {r : (List SDNode)} (h : m_spec_l15Text a0 = some r) :
    AC Tryd.prog (GS []) 44 [V.str a0] [] (.own 100) [(100, .vec false 51 4 (r.map (encSDNode true)))] := by
 rw [m_spec_l15Text] at h
 refine AC.enter Tryd.func44 rfl ?_
 refine cu D_ok mix 1 100 (tl 6 [(0, V.str a0)]) [] (by kernel_rfl) ?_
 refine cu D_ok mix 4 100 (tl 6 [(2, .own 100)]) [(100, .vec false 51 4 ([(⟨1, 0, a0, []⟩ : SDNode)].map (encSDNode true)))] (by kernel_rfl) ?_
 refine CodeOk.ret ?_
 have h := Option.some.inj h
 subst h
 exact Ends.gen [(100, 100)] (.inr rfl) (RetV.one rfl (OneR.tmp (t := 2) (r := .own 100) (by kernel_rfl))) (by kernel_rfl) (by kernel_rfl) (by kernel_rfl)

theorem m_spec_l1Once_ok (a1 : Int) (p0_0 : List UInt8) (p0_1 : Int) (p0_2 : Int) {r : (Bool × Int × Int)} (h : m_spec_l1Once a1 p0_0 p0_1 p0_2 = some r) :
    AC Tryd.prog (GS []) 46 [.loc 0 0, V.int a1] [(0, .cells 65 [.sl false false (p0_0.map byteRow), V.int p0_1, V.int p0_2])] (V.bool r.1) [(0, .cells 65 [.sl false false (p0_0.map byteRow), V.int r.2.1, V.int r.2.2])] := by
 rw [m_spec_l1Once] at h
 refine AC.enter Tryd.func46 rfl ?_
 refine cu D_ok mix 1 100 (tl 9 [(0, .loc 0 0), (1, V.int a1)]) [(0, .cells 65 [.sl false false (p0_0.map byteRow), V.int p0_1, V.int p0_2])] (by kernel_rfl) ?_
 (revert h; refine bind_rev fun r2 hx2 h => ?_)
 refine CodeOk.cutR (tl 9 [(4, V.bool (r2.1 == 0))]) [(0, .cells 65 [.sl false false (p0_0.map byteRow), V.int r2.2.1, V.int r2.2.2])] mix (by
  refine W.run D_ok 2 100 (by kernel_rfl) ?_
  refine W.call (m_spec_l1Below_ok a1 p0_0 p0_1 p0_2 hx2) cok34 [(0, 0)] [(0, 0)] [] (show LayOk _ [] from trivial) (by kernel_rfl) (by kernel_rfl) ?_
  refine W.run D_ok 2 100 (by kernel_rfl) ?_
  exact W.fi (by kernel_rfl)
  ) ?_
 refine CodeOk.ret ?_
 have h := Option.some.inj h
 subst h
 exact Ends.gen [(0, 0)] (.inr rfl) (RetV.one rfl (OneR.tmp (t := 4) (r := V.bool (r2.1 == 0)) (by kernel_rfl))) (by kernel_rfl) (by kernel_rfl) (by kernel_rfl)

theorem m_spec_l15Hard_ok {r : (List SDNode)} (h : m_spec_l15Hard = some r) :
    AC Tryd.prog (GS []) 47 [] [] (.own 100) [(100, .vec false 51 4 (r.map (encSDNode true)))] := by
 rw [m_spec_l15Hard] at h
 refine AC.enter Tryd.func47 rfl ?_
 refine cu D_ok mix 1 100 (tl 3 []) [] (by kernel_rfl) ?_
 refine cu D_ok mix 3 100 (tl 3 [(0, .own 100)]) [(100, .vec false 51 4 ([(⟨3, 0, [], []⟩ : SDNode)].map (encSDNode true)))] (by kernel_rfl) ?_
 refine CodeOk.ret ?_
 have h := Option.some.inj h
 subst h
 exact Ends.gen [(100, 100)] (.inr rfl) (RetV.one rfl (OneR.tmp (t := 0) (r := .own 100) (by kernel_rfl))) (by kernel_rfl) (by kernel_rfl) (by kernel_rfl)

theorem m_spec_l15Line_ok {r : (List SDNode)} (h : m_spec_l15Line = some r) :
    AC Tryd.prog (GS []) 48 [] [] (.own 100) [(100, .vec false 51 4 (r.map (encSDNode true)))] := by
 rw [m_spec_l15Line] at h
 refine AC.enter Tryd.func48 rfl ?_
 refine cu D_ok mix 1 100 (tl 3 []) [] (by kernel_rfl) ?_
 refine cu D_ok mix 3 100 (tl 3 [(0, .own 100)]) [(100, .vec false 51 4 ([(⟨2, 0, [], []⟩ : SDNode)].map (encSDNode true)))] (by kernel_rfl) ?_
 refine CodeOk.ret ?_
 have h := Option.some.inj h
 subst h
 exact Ends.gen [(100, 100)] (.inr rfl) (RetV.one rfl (OneR.tmp (t := 0) (r := .own 100) (by kernel_rfl))) (by kernel_rfl) (by kernel_rfl) (by kernel_rfl)

theorem m_spec_l15Shift_ok (N : Nat) (a0 : List SDNode) (a1 : Int) {r : (List SDNode)} (h : m_spec_l15Shift N a0 a1 = some r) :
    AC Tryd.prog (GS []) 56 [.sl false false (a0.map (encSDNode false)), V.int a1] [] (.own 100) [(100, .vec false 51 4 (r.map (encSDNode true)))] := by
 rw [m_spec_l15Shift] at h
 refine AC.enter Tryd.func56 rfl ?_
 refine cu D_ok mix 1 100 (tl 52 [(0, .sl false false (a0.map (encSDNode false))), (1, V.int a1)]) [] (by kernel_rfl) ?_
 refine cu D_ok mix 2 100 (tl 52 [(0, .sl false false (a0.map (encSDNode false))), (1, V.int a1), (5, .own 100)]) [(100, .vec false 51 4 ([].map (encSDNode true)))] (by kernel_rfl) ?_
 refine CodeOk.seq' ?_
 refine cu D_ok mix 1 101 (tl 52 [(0, .sl false false (a0.map (encSDNode false))), (1, V.int a1), (5, .own 100), (6, V.int 0)]) [(100, .vec false 51 4 ([].map (encSDNode true)))] (by kernel_rfl) ?_
 refine CodeOk.block' ?_
 refine CodeOk.loopJ (fun (⟨a0, a1, y869, y870⟩ : ((List SDNode) × Int × Int × (List SDNode))) => ⟨tl 52 [(0, .sl false false (a0.map (encSDNode false))), (1, V.int a1), (5, .own 100), (6, V.int y869)], [(100, .vec false 51 4 (y870.map (encSDNode true)))]⟩) (fun n i => m_spec_l15Shift_l1 N n i = some r) (n0 := N) (i0 := (a0, a1, 0, [])) (Weak.sel [(100, 100)] [0, 1, 5, 6] (by kernel_rfl) (by kernel_rfl) (by kernel_rfl)) h (fun i h => by simp [m_spec_l15Shift_l1] at h) ?_
 rintro n1 ⟨a0, a1, y869, y870⟩ h1173 ih1174
 rw [m_spec_l15Shift_l1] at h1173
 refine CodeOk.seq' ?_
 refine CodeOk.cutR (tl 52 [(0, .sl false false (a0.map (encSDNode false))), (1, V.int a1), (5, .own 100), (6, V.int y869), (13, V.bool (decide (y869 < (a0.length : Int))))]) [(100, .vec false 51 4 (y870.map (encSDNode true)))] mix (by
  refine W.run D_ok 2 297 (by kernel_rfl) ?_
  refine W.len D_ok (encSDNode false) a0 [] (by kernel_rfl) (by kernel_rfl) ?_
  refine W.run D_ok 1 297 (by kernel_rfl) ?_
  exact W.fi (by kernel_rfl)
  ) ?_
 (revert h1173; refine cond_rev (fun hc1176 h1173 => ?_) (fun hc1176 h1173 => ?_))
 ·refine CodeOk.ifT hc1176 (by kernel_rfl) ?_
  refine CodeOk.skip ?_
  refine CodeOk.seq' ?_
  refine CodeOk.block' ?_
  (revert h1173; refine bind_rev fun e1198 hx1294 h1173 => ?_)
  refine CodeOk.cutR (tl 52 [(0, .sl false false (a0.map (encSDNode false))), (1, V.int a1), (5, .own 100), (6, V.int y869), (7, .loc 297 0)]) [(297, .cells 51 [V.int e1198.Kind, V.int e1198.N, V.str e1198.Text, .sl false false (e1198.Kids.map encI)]), (100, .vec false 51 4 (y870.map (encSDNode true)))] mix (by
   refine W.run D_ok 2 297 (by kernel_rfl) ?_
   refine W.ixD D_ok (encSDNode false) hx1294 4 (by kernel_rfl) (by kernel_rfl) ?_
   refine W.run D_ok 3 297 (by kernel_rfl) ?_
   exact W.fi (by kernel_rfl)
   ) ?_
  refine cu D_ok mix 3 298 (tl 52 [(0, .sl false false (a0.map (encSDNode false))), (1, V.int a1), (5, .own 100), (6, V.int y869), (7, .loc 297 0)]) [(297, .cells 51 [V.int e1198.Kind, V.int e1198.N, V.str e1198.Text, .own 298]), (298, .vec false 3 1 ([].map encI)), (100, .vec false 51 4 (y870.map (encSDNode true)))] (by kernel_rfl) ?_
  refine CodeOk.seq' ?_
  refine cu D_ok mix 1 299 (tl 52 [(0, .sl false false (a0.map (encSDNode false))), (1, V.int a1), (5, .own 100), (6, V.int y869), (7, .loc 297 0), (8, V.int 0)]) [(297, .cells 51 [V.int e1198.Kind, V.int e1198.N, V.str e1198.Text, .own 298]), (298, .vec false 3 1 ([].map encI)), (100, .vec false 51 4 (y870.map (encSDNode true)))] (by kernel_rfl) ?_
  refine CodeOk.block' ?_
  refine CodeOk.loopJ (fun (⟨a0, a1, y869, y870, e1198, y1267, y1268⟩ : ((List SDNode) × Int × Int × (List SDNode) × SDNode × Int × (List Int))) => ⟨tl 52 [(0, .sl false false (a0.map (encSDNode false))), (1, V.int a1), (5, .own 100), (6, V.int y869), (7, .loc 101 0), (8, V.int y1267)], [(100, .vec false 51 4 (y870.map (encSDNode true))), (101, .cells 51 [V.int e1198.Kind, V.int e1198.N, V.str e1198.Text, .own 102]), (102, .vec false 3 1 (y1268.map encI))]⟩) (fun n i => m_spec_l15Shift_l2 N (m_spec_l15Shift_l1 N n1) n i = some r) (n0 := N) (i0 := (a0, a1, y869, y870, e1198, 0, [])) (Weak.sel [(100, 100), (297, 101), (298, 102)] [0, 1, 5, 6, 7, 8] (by kernel_rfl) (by kernel_rfl) (by kernel_rfl)) h1173 (fun i h => by simp [m_spec_l15Shift_l2] at h) ?_
  rintro n2 ⟨a0, a1, y869, y870, e1198, y1267, y1268⟩ h1387 ih1388
  rw [m_spec_l15Shift_l2] at h1387
  refine CodeOk.seq' ?_
  (revert h1387; refine bind_rev fun e1290 hx1393 h1387 => ?_)
  refine CodeOk.cutR (tl 52 [(0, .sl false false (a0.map (encSDNode false))), (1, V.int a1), (5, .own 100), (6, V.int y869), (7, .loc 101 0), (8, V.int y1267), (29, V.bool (decide (y1267 < (e1290.Kids.length : Int))))]) [(100, .vec false 51 4 (y870.map (encSDNode true))), (101, .cells 51 [V.int e1198.Kind, V.int e1198.N, V.str e1198.Text, .own 102]), (102, .vec false 3 1 (y1268.map encI))] mix (by
   refine W.run D_ok 3 363 (by kernel_rfl) ?_
   refine W.ixD D_ok (encSDNode false) hx1393 4 (by kernel_rfl) (by kernel_rfl) ?_
   refine W.run D_ok 2 363 (by kernel_rfl) ?_
   refine W.len D_ok encI e1290.Kids [] (by kernel_rfl) (by kernel_rfl) ?_
   refine W.run D_ok 1 363 (by kernel_rfl) ?_
   exact W.fi (by kernel_rfl)
   ) ?_
  (revert h1387; refine cond_rev (fun hc1394 h1387 => ?_) (fun hc1394 h1387 => ?_))
  ·refine CodeOk.ifT hc1394 (by kernel_rfl) ?_
   refine CodeOk.skip ?_
   refine CodeOk.seq' ?_
   refine CodeOk.block' ?_
   (revert h1387; refine bind_rev fun e1300 hx1404 h1387 => ?_)
   (revert h1387; refine bind_rev fun e1301 hx1405 h1387 => ?_)
   (revert h1387; refine bind_rev fun x1302 hx1406 h1387 => ?_)
   refine CodeOk.endR (tl 52 [(0, .sl false false (a0.map (encSDNode false))), (1, V.int a1), (5, .own 100), (6, V.int y869), (7, .loc 101 0), (8, V.int y1267)]) [(101, .cells 51 [V.int e1198.Kind, V.int e1198.N, V.str e1198.Text, .own 364]), (364, .vec false 3 1 (x1302.map encI)), (100, .vec false 51 4 (y870.map (encSDNode true)))] mix (by
    refine W.run D_ok 4 363 (by kernel_rfl) ?_
    refine W.ixD D_ok (encSDNode false) hx1404 4 (by kernel_rfl) (by kernel_rfl) ?_
    refine W.run D_ok 3 363 (by kernel_rfl) ?_
    refine W.ixD D_ok encI hx1405 1 (by kernel_rfl) (by kernel_rfl) ?_
    refine W.run D_ok 4 363 (by kernel_rfl) ?_
    refine W.appO D_ok encI (a := 102) (c := 363) (el := 3) (sz := 1) 8 hx1406 rfl 364 (by kernel_rfl) ?_
    refine W.run D_ok 2 365 (by kernel_rfl) ?_
    exact W.fi (by kernel_rfl)
    ) (fun st hw => ?_)
   refine CodeOk.weak hw ?_
   refine ce D_ok mix 3 365 (tl 52 [(0, .sl false false (a0.map (encSDNode false))), (1, V.int a1), (5, .own 100), (6, V.int y869), (7, .loc 101 0), (8, V.int (IntKind.wrap .i64 (y1267 + 1)))]) [(101, .cells 51 [V.int e1198.Kind, V.int e1198.N, V.str e1198.Text, .own 364]), (364, .vec false 3 1 (x1302.map encI)), (100, .vec false 51 4 (y870.map (encSDNode true)))] (by kernel_rfl) (fun st hw => ?_)
   exact ih1388 (a0, a1, y869, y870, e1198, (IntKind.wrap .i64 (y1267 + 1)), x1302) h1387 _ (hw.trans (Weak.sel [(100, 100), (101, 101), (364, 102)] [0, 1, 5, 6, 7, 8] (by kernel_rfl) (by kernel_rfl) (by kernel_rfl)))
  refine CodeOk.ifF hc1394 (by kernel_rfl) ?_
  refine CodeOk.exit ?_
  (revert h1387; refine bind_rev fun x1304 hx1408 h1387 => ?_)
  refine CodeOk.endR (tl 52 [(0, .sl false false (a0.map (encSDNode false))), (1, V.int a1), (5, .own 364), (6, V.int y869)]) [(364, .vec false 51 4 (x1304.map (encSDNode true)))] mix (by
   refine W.run D_ok 3 363 (by kernel_rfl) ?_
   refine W.appO D_ok (encSDNode true) (a := 100) (c := 363) (el := 51) (sz := 4) 56 hx1408 rfl 364 (by kernel_rfl) ?_
   refine W.run D_ok 1 365 (by kernel_rfl) ?_
   exact W.fi (by kernel_rfl)
   ) (fun st hw => ?_)
  refine CodeOk.weak hw ?_
  refine ce D_ok mix 3 365 (tl 52 [(0, .sl false false (a0.map (encSDNode false))), (1, V.int a1), (5, .own 364), (6, V.int (IntKind.wrap .i64 (y869 + 1)))]) [(364, .vec false 51 4 (x1304.map (encSDNode true)))] (by kernel_rfl) (fun st hw => ?_)
  exact ih1174 (a0, a1, (IntKind.wrap .i64 (y869 + 1)), x1304) h1387 _ (hw.trans (Weak.sel [(364, 100)] [0, 1, 5, 6] (by kernel_rfl) (by kernel_rfl) (by kernel_rfl)))
 refine CodeOk.ifF hc1176 (by kernel_rfl) ?_
 refine CodeOk.exit ?_
 refine cu D_ok mix 2 297 (tl 52 [(4, .own 100)]) [(100, .vec false 51 4 (y870.map (encSDNode true)))] (by kernel_rfl) ?_
 refine CodeOk.ret ?_
 have h1173 := Option.some.inj h1173
 subst h1173
 exact Ends.gen [(100, 100)] (.inr rfl) (RetV.one rfl (OneR.tmp (t := 4) (r := .own 100) (by kernel_rfl))) (by kernel_rfl) (by kernel_rfl) (by kernel_rfl)

theorem m_spec_l15Over_ok (N : Nat) (a0 : Int) (a1 : Int) (a2 : List (List SDNode)) {r : (List SDNode)} (h : m_spec_l15Over N a0 a1 a2 = some r) :
    AC Tryd.prog (GS []) 49 [V.int a0, V.int a1, .sl false false (a2.map (encL false (encSDNode false)))] [] (.own 100) [(100, .vec false 51 4 (r.map (encSDNode true)))] := by
 rw [m_spec_l15Over] at h
 refine AC.enter Tryd.func49 rfl ?_
 refine cu D_ok mix 1 100 (tl 41 [(0, V.int a0), (1, V.int a1), (2, .sl false false (a2.map (encL false (encSDNode false))))]) [] (by kernel_rfl) ?_
 refine cu D_ok mix 2 100 (tl 41 [(0, V.int a0), (1, V.int a1), (2, .sl false false (a2.map (encL false (encSDNode false)))), (7, .own 100)]) [(100, .vec false 51 4 ([].map (encSDNode true)))] (by kernel_rfl) ?_
 refine cu D_ok mix 5 101 (tl 41 [(2, .sl false false (a2.map (encL false (encSDNode false)))), (7, .own 100), (8, .loc 101 0)]) [(101, .cells 51 [V.int a0, V.int a1, V.str [], .c (.slice none 0 0)]), (100, .vec false 51 4 ([].map (encSDNode true)))] (by kernel_rfl) ?_
 refine CodeOk.seq' ?_
 refine cu D_ok mix 1 102 (tl 41 [(2, .sl false false (a2.map (encL false (encSDNode false)))), (7, .own 100), (8, .loc 101 0), (9, V.int 0)]) [(101, .cells 51 [V.int a0, V.int a1, V.str [], .c (.slice none 0 0)]), (100, .vec false 51 4 ([].map (encSDNode true)))] (by kernel_rfl) ?_
 refine CodeOk.block' ?_
 refine CodeOk.loopJ (fun (⟨a2, a0, a1, y75, y76, y77⟩ : ((List (List SDNode)) × Int × Int × Int × (List SDNode) × (List Int))) => ⟨tl 41 [(2, .sl false false (a2.map (encL false (encSDNode false)))), (7, .own 100), (8, .loc 101 0), (9, V.int y75)], [(100, .vec false 51 4 (y76.map (encSDNode true))), (101, .cells 51 [V.int a0, V.int a1, V.str [], .own 102]), (102, .vec false 3 1 (y77.map encI))]⟩) (fun n i => m_spec_l15Over_l1 N n i = some r) (n0 := N) (i0 := (a2, a0, a1, 0, [], [])) ((Weak.nilCell 101 3 102 3 1 (ety := 51) (cs := [V.int a0, V.int a1, V.str [], .c (.slice none 0 0)]) (by kernel_rfl) (by kernel_rfl) (by kernel_rfl)).trans (Weak.sel [(100, 100), (101, 101), (102, 102)] [2, 7, 8, 9] (by kernel_rfl) (by kernel_rfl) (by kernel_rfl))) h (fun i h => by simp [m_spec_l15Over_l1] at h) ?_
 rintro n1 ⟨a2, a0, a1, y75, y76, y77⟩ h97 ih98
 rw [m_spec_l15Over_l1] at h97
 refine CodeOk.seq' ?_
 refine CodeOk.cutR (tl 41 [(2, .sl false false (a2.map (encL false (encSDNode false)))), (7, .own 100), (8, .loc 101 0), (9, V.int y75), (17, V.bool (decide (y75 < (a2.length : Int))))]) [(100, .vec false 51 4 (y76.map (encSDNode true))), (101, .cells 51 [V.int a0, V.int a1, V.str [], .own 102]), (102, .vec false 3 1 (y77.map encI))] mix (by
  refine W.run D_ok 2 171 (by kernel_rfl) ?_
  refine W.len D_ok (encL false (encSDNode false)) a2 [] (by kernel_rfl) (by kernel_rfl) ?_
  refine W.run D_ok 1 171 (by kernel_rfl) ?_
  exact W.fi (by kernel_rfl)
  ) ?_
 (revert h97; refine cond_rev (fun hc100 h97 => ?_) (fun hc100 h97 => ?_))
 ·refine CodeOk.ifT hc100 (by kernel_rfl) ?_
  refine CodeOk.skip ?_
  refine CodeOk.seq' ?_
  refine CodeOk.block' ?_
  (revert h97; refine bind_rev fun e108 hx112 h97 => ?_)
  (revert h97; refine bind_rev fun r109 hx113 h97 => ?_)
  (revert h97; refine bind_rev fun x110 hx114 h97 => ?_)
  refine CodeOk.cutR (tl 41 [(2, .sl false false (a2.map (encL false (encSDNode false)))), (7, .own 172), (8, .loc 101 0), (9, V.int y75)]) [(172, .vec false 51 4 (x110.map (encSDNode true))), (101, .cells 51 [V.int a0, V.int a1, V.str [], .own 102]), (102, .vec false 3 1 (y77.map encI))] mix (by
   refine W.run D_ok 3 171 (by kernel_rfl) ?_
   refine W.ixD D_ok (encL false (encSDNode false)) hx112 1 (by kernel_rfl) (by kernel_rfl) ?_
   refine W.run D_ok 2 171 (by kernel_rfl) ?_
   refine W.len D_ok (encSDNode true) y76 [100] (by kernel_rfl) (by kernel_rfl) ?_
   refine W.call (m_spec_l15Shift_ok N e108 (y76.length : Int) hx113) cok56 [] [(100, 171)] [171] (show LayOk _ [] from trivial) (by kernel_rfl) (by kernel_rfl) ?_
   refine W.appO D_ok (encSDNode true) (a := 100) (c := 171) (el := 51) (sz := 4) 56 hx114 rfl 172 (by kernel_rfl) ?_
   refine W.run D_ok 1 173 (by kernel_rfl) ?_
   exact W.fi (by kernel_rfl)
   ) ?_
  (revert h97; refine bind_rev fun x112 hx116 h97 => ?_)
  refine CodeOk.endR (tl 41 [(2, .sl false false (a2.map (encL false (encSDNode false)))), (7, .own 172), (8, .loc 101 0), (9, V.int y75)]) [(101, .cells 51 [V.int a0, V.int a1, V.str [], .own 174]), (174, .vec false 3 1 (x112.map encI)), (172, .vec false 51 4 (x110.map (encSDNode true)))] mix (by
   refine W.run D_ok 3 173 (by kernel_rfl) ?_
   refine W.len D_ok (encSDNode true) x110 [172] (by kernel_rfl) (by kernel_rfl) ?_
   refine W.run D_ok 2 173 (by kernel_rfl) ?_
   refine W.appO D_ok encI (a := 102) (c := 173) (el := 3) (sz := 1) 8 hx116 rfl 174 (by kernel_rfl) ?_
   refine W.run D_ok 2 175 (by kernel_rfl) ?_
   exact W.fi (by kernel_rfl)
   ) (fun st hw => ?_)
  refine CodeOk.weak hw ?_
  refine ce D_ok mix 3 175 (tl 41 [(2, .sl false false (a2.map (encL false (encSDNode false)))), (7, .own 172), (8, .loc 101 0), (9, V.int (IntKind.wrap .i64 (y75 + 1)))]) [(101, .cells 51 [V.int a0, V.int a1, V.str [], .own 174]), (174, .vec false 3 1 (x112.map encI)), (172, .vec false 51 4 (x110.map (encSDNode true)))] (by kernel_rfl) (fun st hw => ?_)
  exact ih98 (a2, a0, a1, (IntKind.wrap .i64 (y75 + 1)), x110, x112) h97 _ (hw.trans (Weak.sel [(172, 100), (101, 101), (174, 102)] [2, 7, 8, 9] (by kernel_rfl) (by kernel_rfl) (by kernel_rfl)))
 refine CodeOk.ifF hc100 (by kernel_rfl) ?_
 refine CodeOk.exit ?_
 (revert h97; refine bind_rev fun x114 hx118 h97 => ?_)
 refine CodeOk.cutR (tl 41 [(6, .own 172)]) [(172, .vec false 51 4 (x114.map (encSDNode true)))] mix (by
  refine W.run D_ok 3 171 (by kernel_rfl) ?_
  refine W.appO D_ok (encSDNode true) (a := 100) (c := 171) (el := 51) (sz := 4) 56 hx118 rfl 172 (by kernel_rfl) ?_
  refine W.run D_ok 1 173 (by kernel_rfl) ?_
  exact W.fi (by kernel_rfl)
  ) ?_
 refine CodeOk.ret ?_
 have h97 := Option.some.inj h97
 subst h97
 exact Ends.gen [(172, 100)] (.inr rfl) (RetV.one rfl (OneR.tmp (t := 6) (r := .own 172) (by kernel_rfl))) (by kernel_rfl) (by kernel_rfl) (by kernel_rfl)

structure RecOk1 (R : Rec1) : Prop where
  m_spec_l15Draw : ∀ (a1 : Int) (p0_0 : List UInt8) (p0_1 : Int) (p0_2 : Int) (r : ((List SDNode) × Int × Int)), R.m_spec_l15Draw a1 p0_0 p0_1 p0_2 = some r → AC Tryd.prog (GS []) 33 [.loc 0 0, V.int a1] [(0, .cells 65 [.sl false false (p0_0.map byteRow), V.int p0_1, V.int p0_2])] (.own 100) [(0, .cells 65 [.sl false false (p0_0.map byteRow), V.int r.2.1, V.int r.2.2]), (100, .vec false 51 4 (r.1.map (encSDNode true)))]

theorem m_spec_l15Draw_F_ok (N : Nat) (R : Rec1) (HR : RecOk1 R) (a1 : Int) (p0_0 : List UInt8) (p0_1 : Int) (p0_2 : Int) {r : ((List SDNode) × Int × Int)} (h : m_spec_l15Draw_F N R a1 p0_0 p0_1 p0_2 = some r) :
    AC Tryd.prog (GS []) 33 [.loc 0 0, V.int a1] [(0, .cells 65 [.sl false false (p0_0.map byteRow), V.int p0_1, V.int p0_2])] (.own 100) [(0, .cells 65 [.sl false false (p0_0.map byteRow), V.int r.2.1, V.int r.2.2]), (100, .vec false 51 4 (r.1.map (encSDNode true)))] := by
 rw [m_spec_l15Draw_F] at h
 refine AC.enter Tryd.func33 rfl ?_
 refine cu D_ok mix 1 100 (tl 69 [(0, .loc 0 0), (1, V.int a1)]) [(0, .cells 65 [.sl false false (p0_0.map byteRow), V.int p0_1, V.int p0_2])] (by kernel_rfl) ?_
 (revert h; refine bind_rev fun r2 hx2 h => ?_)
 refine CodeOk.cutR (tl 69 [(0, .loc 0 0), (1, V.int a1), (5, V.int r2.1)]) [(0, .cells 65 [.sl false false (p0_0.map byteRow), V.int r2.2.1, V.int r2.2.2])] mix (by
  refine W.run D_ok 1 100 (by kernel_rfl) ?_
  refine W.call (m_spec_l1Below_ok 9 p0_0 p0_1 p0_2 hx2) cok34 [(0, 0)] [(0, 0)] [] (show LayOk _ [] from trivial) (by kernel_rfl) (by kernel_rfl) ?_
  refine W.run D_ok 1 100 (by kernel_rfl) ?_
  exact W.fi (by kernel_rfl)
  ) ?_
 refine CodeOk.join (fun (⟨a1, y6, y7, y8⟩ : (Int × Int × Int × Int)) => ⟨tl 69 [(0, .loc 0 0), (1, V.int a1), (5, V.int y6)], [(0, .cells 65 [.sl false false (p0_0.map byteRow), V.int y7, V.int y8])]⟩) (fun i => m_spec_l15Draw_k1 N R p0_0 i = some r) ?_ ?_
 · rintro ⟨a1, y6, y7, y8⟩ h9
   rw [m_spec_l15Draw_k1] at h9
   refine CodeOk.seq' ?_
   refine cu D_ok mix 1 100 (tl 69 [(0, .loc 0 0), (1, V.int a1), (18, V.int y6)]) [(0, .cells 65 [.sl false false (p0_0.map byteRow), V.int y7, V.int y8])] (by kernel_rfl) ?_
   refine CodeOk.block' ?_
   refine CodeOk.join (fun (⟨a1, y6, y7, y8, y36⟩ : (Int × Int × Int × Int × Bool)) => ⟨tl 69 [(0, .loc 0 0), (1, V.int a1), (18, V.int y6), (19, V.bool y36)], [(0, .cells 65 [.sl false false (p0_0.map byteRow), V.int y7, V.int y8])]⟩) (fun i => m_spec_l15Draw_k2 N R p0_0 i = some r) ?_ ?_
   · rintro ⟨a1, y6, y7, y8, y36⟩ h53
     rw [m_spec_l15Draw_k2] at h53
     (revert h53; refine cond_rev (fun hc54 h53 => ?_) (fun hc54 h53 => ?_))
     ·refine CodeOk.ifT hc54 (by kernel_rfl) ?_
      (revert h53; refine bind_rev fun r39 hx57 h53 => ?_)
      (revert h53; refine bind_rev fun r40 hx58 h53 => ?_)
      refine CodeOk.cutR (tl 69 [(4, .own 101)]) [(101, .vec false 51 4 (r40.map (encSDNode true))), (0, .cells 65 [.sl false false (p0_0.map byteRow), V.int r39.2.1, V.int r39.2.2])] mix (by
       refine W.run D_ok 2 100 (by kernel_rfl) ?_
       refine W.call (m_spec_l1Pick_ok [[], [97], [98, 99, 100], [108, 111, 110, 103, 32, 119, 111, 114, 100], [40], [41]] p0_0 y7 y8 hx57) cok45 [(0, 0)] [(0, 0)] [] (LayOk.cons (j := 100) encS encS ([[], [97], [98, 99, 100], [108, 111, 110, 103, 32, 119, 111, 114, 100], [40], [41]] : List (List UInt8)) (by kernel_rfl) (fun _ => rfl) (show LayOk _ [] from trivial)) (by kernel_rfl) (by kernel_rfl) ?_
       refine W.call (m_spec_l15Text_ok r39.1 hx58) cok44 [] [(100, 101)] [101] (show LayOk _ [] from trivial) (by kernel_rfl) (by kernel_rfl) ?_
       refine W.run D_ok 1 102 (by kernel_rfl) ?_
       exact W.fi (by kernel_rfl)
       ) ?_
      refine CodeOk.ret ?_
      have h53 := Option.some.inj h53
      subst h53
      exact Ends.gen [(0, 0), (101, 100)] (.inr rfl) (RetV.one rfl (OneR.tmp (t := 4) (r := .own 101) (by kernel_rfl))) (by kernel_rfl) (by kernel_rfl) (by kernel_rfl)
     refine CodeOk.ifF hc54 (by kernel_rfl) ?_
     refine CodeOk.join (fun (⟨a1, y6, y7, y8, y41⟩ : (Int × Int × Int × Int × Bool)) => ⟨tl 69 [(0, .loc 0 0), (1, V.int a1), (18, V.int y6), (26, V.bool y41)], [(0, .cells 65 [.sl false false (p0_0.map byteRow), V.int y7, V.int y8])]⟩) (fun i => m_spec_l15Draw_k3 N R p0_0 i = some r) ?_ ?_
     · rintro ⟨a1, y6, y7, y8, y41⟩ h60
       rw [m_spec_l15Draw_k3] at h60
       (revert h60; refine cond_rev (fun hc61 h60 => ?_) (fun hc61 h60 => ?_))
       ·refine CodeOk.ifT hc61 (by kernel_rfl) ?_
        refine CodeOk.seq' ?_
        (revert h60; refine bind_rev fun r47 hx68 h60 => ?_)
        refine CodeOk.cutR (tl 69 [(30, V.bool r47.1)]) [(0, .cells 65 [.sl false false (p0_0.map byteRow), V.int r47.2.1, V.int r47.2.2])] mix (by
         refine W.run D_ok 1 100 (by kernel_rfl) ?_
         refine W.call (m_spec_l1Once_ok 9 p0_0 y7 y8 hx68) cok46 [(0, 0)] [(0, 0)] [] (show LayOk _ [] from trivial) (by kernel_rfl) (by kernel_rfl) ?_
         exact W.fi (by kernel_rfl)
         ) ?_
        (revert h60; refine cond_rev (fun hc69 h60 => ?_) (fun hc69 h60 => ?_))
        ·refine CodeOk.ifT hc69 (by kernel_rfl) ?_
         (revert h60; refine bind_rev fun r49 hx71 h60 => ?_)
         refine CodeOk.cutR (tl 69 [(4, .own 100)]) [(100, .vec false 51 4 (r49.map (encSDNode true))), (0, .cells 65 [.sl false false (p0_0.map byteRow), V.int r47.2.1, V.int r47.2.2])] mix (by
          refine W.call (m_spec_l15Hard_ok  hx71) cok47 [] [(100, 100)] [100] (show LayOk _ [] from trivial) (by kernel_rfl) (by kernel_rfl) ?_
          refine W.run D_ok 1 101 (by kernel_rfl) ?_
          exact W.fi (by kernel_rfl)
          ) ?_
         refine CodeOk.ret ?_
         have h60 := Option.some.inj h60
         subst h60
         exact Ends.gen [(0, 0), (100, 100)] (.inr rfl) (RetV.one rfl (OneR.tmp (t := 4) (r := .own 100) (by kernel_rfl))) (by kernel_rfl) (by kernel_rfl) (by kernel_rfl)
        refine CodeOk.ifF hc69 (by kernel_rfl) ?_
        refine CodeOk.skip ?_
        (revert h60; refine bind_rev fun r51 hx73 h60 => ?_)
        refine CodeOk.cutR (tl 69 [(4, .own 100)]) [(100, .vec false 51 4 (r51.map (encSDNode true))), (0, .cells 65 [.sl false false (p0_0.map byteRow), V.int r47.2.1, V.int r47.2.2])] mix (by
         refine W.call (m_spec_l15Line_ok  hx73) cok48 [] [(100, 100)] [100] (show LayOk _ [] from trivial) (by kernel_rfl) (by kernel_rfl) ?_
         refine W.run D_ok 1 101 (by kernel_rfl) ?_
         exact W.fi (by kernel_rfl)
         ) ?_
        refine CodeOk.ret ?_
        have h60 := Option.some.inj h60
        subst h60
        exact Ends.gen [(0, 0), (100, 100)] (.inr rfl) (RetV.one rfl (OneR.tmp (t := 4) (r := .own 100) (by kernel_rfl))) (by kernel_rfl) (by kernel_rfl) (by kernel_rfl)
       refine CodeOk.ifF hc61 (by kernel_rfl) ?_
       refine cu D_ok mix 2 100 (tl 69 [(0, .loc 0 0), (1, V.int a1), (18, V.int y6), (33, V.bool (y6 == 4))]) [(0, .cells 65 [.sl false false (p0_0.map byteRow), V.int y7, V.int y8])] (by kernel_rfl) ?_
       (revert h60; refine cond_rev (fun hc74 h60 => ?_) (fun hc74 h60 => ?_))
       ·refine CodeOk.ifT hc74 (by kernel_rfl) ?_
        (revert h60; refine bind_rev fun r55 hx78 h60 => ?_)
        (revert h60; refine bind_rev fun r56 hx79 h60 => ?_)
        (revert h60; refine bind_rev fun r57 hx80 h60 => ?_)
        refine CodeOk.cutR (tl 69 [(4, .own 102)]) [(102, .vec false 51 4 (r57.map (encSDNode true))), (0, .cells 65 [.sl false false (p0_0.map byteRow), V.int r56.2.1, V.int r56.2.2])] mix (by
         refine W.run D_ok 1 100 (by kernel_rfl) ?_
         refine W.call (m_spec_l1Below_ok 5 p0_0 y7 y8 hx78) cok34 [(0, 0)] [(0, 0)] [] (show LayOk _ [] from trivial) (by kernel_rfl) (by kernel_rfl) ?_
         refine W.run D_ok 3 100 (by kernel_rfl) ?_
         refine W.call (HR.m_spec_l15Draw (IntKind.wrap .i64 (a1 - 1)) p0_0 r55.2.1 r55.2.2 _ hx79) cok33 [(0, 0)] [(0, 0), (100, 100)] [100] (show LayOk _ [] from trivial) (by kernel_rfl) (by kernel_rfl) ?_
         refine W.run D_ok 1 101 (by kernel_rfl) ?_
         refine W.lend (m_spec_l15Over_ok N 4 r55.1 [r56.1] hx80) cok49 [(100, 102)] [102] (LayOk.cons (j := 101) (encL true (encSDNode true)) (encL false (encSDNode false)) ([r56.1] : List (List SDNode)) (by kernel_rfl) (share_encL _ (share_encSDNode _)) (show LayOk _ [] from trivial)) (.own _) (.cons (DeepR.map (fun _ => (.cons (.c _) (.cons (.c _) (.cons (.c _) (.cons (.sl _ _ (DeepR.map (fun _ => (.cons (.c _) .nil)) _)) .nil))))) _) .nil) (by kernel_rfl) (by kernel_rfl) ?_
         refine W.run D_ok 1 103 (by kernel_rfl) ?_
         exact W.fi (by kernel_rfl)
         ) ?_
        refine CodeOk.ret ?_
        have h60 := Option.some.inj h60
        subst h60
        exact Ends.gen [(0, 0), (102, 100)] (.inr rfl) (RetV.one rfl (OneR.tmp (t := 4) (r := .own 102) (by kernel_rfl))) (by kernel_rfl) (by kernel_rfl) (by kernel_rfl)
       refine CodeOk.ifF hc74 (by kernel_rfl) ?_
       refine CodeOk.join (fun (⟨a1, y7, y8, y58⟩ : (Int × Int × Int × Bool)) => ⟨tl 69 [(0, .loc 0 0), (1, V.int a1), (43, V.bool y58)], [(0, .cells 65 [.sl false false (p0_0.map byteRow), V.int y7, V.int y8])]⟩) (fun i => m_spec_l15Draw_k4 N R p0_0 i = some r) ?_ ?_
       · rintro ⟨a1, y7, y8, y58⟩ h82
         rw [m_spec_l15Draw_k4] at h82
         (revert h82; refine cond_rev (fun hc83 h82 => ?_) (fun hc83 h82 => ?_))
         ·refine CodeOk.ifT hc83 (by kernel_rfl) ?_
          (revert h82; refine bind_rev fun r61 hx86 h82 => ?_)
          (revert h82; refine bind_rev fun r62 hx87 h82 => ?_)
          refine CodeOk.cutR (tl 69 [(4, .own 102)]) [(102, .vec false 51 4 (r62.map (encSDNode true))), (0, .cells 65 [.sl false false (p0_0.map byteRow), V.int r61.2.1, V.int r61.2.2])] mix (by
           refine W.run D_ok 3 100 (by kernel_rfl) ?_
           refine W.call (HR.m_spec_l15Draw (IntKind.wrap .i64 (a1 - 1)) p0_0 y7 y8 _ hx86) cok33 [(0, 0)] [(0, 0), (100, 100)] [100] (show LayOk _ [] from trivial) (by kernel_rfl) (by kernel_rfl) ?_
           refine W.run D_ok 1 101 (by kernel_rfl) ?_
           refine W.lend (m_spec_l15Over_ok N 5 0 [r61.1] hx87) cok49 [(100, 102)] [102] (LayOk.cons (j := 101) (encL true (encSDNode true)) (encL false (encSDNode false)) ([r61.1] : List (List SDNode)) (by kernel_rfl) (share_encL _ (share_encSDNode _)) (show LayOk _ [] from trivial)) (.own _) (.cons (DeepR.map (fun _ => (.cons (.c _) (.cons (.c _) (.cons (.c _) (.cons (.sl _ _ (DeepR.map (fun _ => (.cons (.c _) .nil)) _)) .nil))))) _) .nil) (by kernel_rfl) (by kernel_rfl) ?_
           refine W.run D_ok 1 103 (by kernel_rfl) ?_
           exact W.fi (by kernel_rfl)
           ) ?_
          refine CodeOk.ret ?_
          have h82 := Option.some.inj h82
          subst h82
          exact Ends.gen [(0, 0), (102, 100)] (.inr rfl) (RetV.one rfl (OneR.tmp (t := 4) (r := .own 102) (by kernel_rfl))) (by kernel_rfl) (by kernel_rfl) (by kernel_rfl)
         refine CodeOk.ifF hc83 (by kernel_rfl) ?_
         refine CodeOk.skip ?_
         refine cu D_ok mix 2 100 (tl 69 [(0, .loc 0 0), (1, V.int a1), (6, .own 100)]) [(100, .vec false 24 1 ([].map (encL true (encSDNode true)))), (0, .cells 65 [.sl false false (p0_0.map byteRow), V.int y7, V.int y8])] (by kernel_rfl) ?_
         refine CodeOk.seq' ?_
         (revert h82; refine bind_rev fun r98 hx123 h82 => ?_)
         refine CodeOk.cutR (tl 69 [(0, .loc 0 0), (1, V.int a1), (6, .own 100), (7, V.int (IntKind.wrap .i64 (1 + r98.1)))]) [(100, .vec false 24 1 ([].map (encL true (encSDNode true)))), (0, .cells 65 [.sl false false (p0_0.map byteRow), V.int r98.2.1, V.int r98.2.2])] mix (by
          refine W.run D_ok 1 101 (by kernel_rfl) ?_
          refine W.call (m_spec_l1Below_ok 5 p0_0 y7 y8 hx123) cok34 [(0, 0)] [(0, 0)] [] (show LayOk _ [] from trivial) (by kernel_rfl) (by kernel_rfl) ?_
          refine W.run D_ok 2 101 (by kernel_rfl) ?_
          exact W.fi (by kernel_rfl)
          ) ?_
         refine CodeOk.block' ?_
         refine CodeOk.loopJ (fun (⟨a1, y107, y108, y109, y110⟩ : (Int × Int × Int × Int × (List (List SDNode)))) => ⟨tl 69 [(0, .loc 0 0), (1, V.int a1), (6, .own 100), (7, V.int y107)], [(0, .cells 65 [.sl false false (p0_0.map byteRow), V.int y108, V.int y109]), (100, .vec false 24 1 (y110.map (encL true (encSDNode true))))]⟩) (fun n i => m_spec_l15Draw_l5 N R p0_0 n i = some r) (n0 := N) (i0 := (a1, (IntKind.wrap .i64 (1 + r98.1)), r98.2.1, r98.2.2, [])) (Weak.sel [(0, 0), (100, 100)] [0, 1, 6, 7] (by kernel_rfl) (by kernel_rfl) (by kernel_rfl)) h82 (fun i h => by simp [m_spec_l15Draw_l5] at h) ?_
         rintro n5 ⟨a1, y107, y108, y109, y110⟩ h144 ih145
         rw [m_spec_l15Draw_l5] at h144
         refine CodeOk.seq' ?_
         refine cu D_ok mix 2 167 (tl 69 [(0, .loc 0 0), (1, V.int a1), (6, .own 100), (7, V.int y107), (57, V.bool (decide (y107 > 0)))]) [(0, .cells 65 [.sl false false (p0_0.map byteRow), V.int y108, V.int y109]), (100, .vec false 24 1 (y110.map (encL true (encSDNode true))))] (by kernel_rfl) ?_
         (revert h144; refine cond_rev (fun hc147 h144 => ?_) (fun hc147 h144 => ?_))
         ·refine CodeOk.ifT hc147 (by kernel_rfl) ?_
          refine CodeOk.skip ?_
          refine CodeOk.seq' ?_
          refine CodeOk.block' ?_
          (revert h144; refine bind_rev fun r129 hx154 h144 => ?_)
          (revert h144; refine bind_rev fun x130 hx155 h144 => ?_)
          refine CodeOk.endR (tl 69 [(0, .loc 0 0), (1, V.int a1), (6, .own 169), (7, V.int y107)]) [(169, .vec false 24 1 (x130.map (encL true (encSDNode true)))), (0, .cells 65 [.sl false false (p0_0.map byteRow), V.int r129.2.1, V.int r129.2.2])] mix (by
           refine W.run D_ok 4 167 (by kernel_rfl) ?_
           refine W.call (HR.m_spec_l15Draw (IntKind.wrap .i64 (a1 - 1)) p0_0 y108 y109 _ hx154) cok33 [(0, 0)] [(0, 0), (100, 167)] [167] (show LayOk _ [] from trivial) (by kernel_rfl) (by kernel_rfl) ?_
           refine W.run D_ok 1 168 (by kernel_rfl) ?_
           refine W.appO D_ok (encL true (encSDNode true)) (a := 100) (c := 168) (el := 24) (sz := 1) 24 hx155 rfl 169 (by kernel_rfl) ?_
           refine W.run D_ok 1 170 (by kernel_rfl) ?_
           exact W.fi (by kernel_rfl)
           ) (fun st hw => ?_)
          refine CodeOk.weak hw ?_
          refine ce D_ok mix 3 170 (tl 69 [(0, .loc 0 0), (1, V.int a1), (6, .own 169), (7, V.int (IntKind.wrap .i64 (y107 - 1)))]) [(169, .vec false 24 1 (x130.map (encL true (encSDNode true)))), (0, .cells 65 [.sl false false (p0_0.map byteRow), V.int r129.2.1, V.int r129.2.2])] (by kernel_rfl) (fun st hw => ?_)
          exact ih145 (a1, (IntKind.wrap .i64 (y107 - 1)), r129.2.1, r129.2.2, x130) h144 _ (hw.trans (Weak.sel [(0, 0), (169, 100)] [0, 1, 6, 7] (by kernel_rfl) (by kernel_rfl) (by kernel_rfl)))
         refine CodeOk.ifF hc147 (by kernel_rfl) ?_
         refine CodeOk.exit ?_
         (revert h144; refine bind_rev fun r132 hx157 h144 => ?_)
         refine CodeOk.cutR (tl 69 [(4, .own 167)]) [(167, .vec false 51 4 (r132.map (encSDNode true))), (0, .cells 65 [.sl false false (p0_0.map byteRow), V.int y108, V.int y109])] mix (by
          refine W.run D_ok 1 167 (by kernel_rfl) ?_
          refine W.lend (m_spec_l15Over_ok N 6 0 y110 hx157) cok49 [(100, 167)] [167] (LayOk.cons (j := 100) (encL true (encSDNode true)) (encL false (encSDNode false)) y110 (by kernel_rfl) (share_encL _ (share_encSDNode _)) (show LayOk _ [] from trivial)) (.own _) (.cons (DeepR.map (fun _ => (.cons (.c _) (.cons (.c _) (.cons (.c _) (.cons (.sl _ _ (DeepR.map (fun _ => (.cons (.c _) .nil)) _)) .nil))))) _) .nil) (by kernel_rfl) (by kernel_rfl) ?_
          refine W.run D_ok 1 168 (by kernel_rfl) ?_
          exact W.fi (by kernel_rfl)
          ) ?_
         refine CodeOk.ret ?_
         have h144 := Option.some.inj h144
         subst h144
         exact Ends.gen [(0, 0), (167, 100)] (.inr rfl) (RetV.one rfl (OneR.tmp (t := 4) (r := .own 167) (by kernel_rfl))) (by kernel_rfl) (by kernel_rfl) (by kernel_rfl)
       intro hk158
       refine cu D_ok mix 2 100 (tl 69 [(0, .loc 0 0), (1, V.int a1), (18, V.int y6), (43, V.bool (y6 == 5))]) [(0, .cells 65 [.sl false false (p0_0.map byteRow), V.int y7, V.int y8])] (by kernel_rfl) ?_
       (revert h60; refine cond_rev (fun hc159 h60 => ?_) (fun hc159 h60 => ?_))
       ·refine CodeOk.ifT hc159 (by kernel_rfl) ?_
        refine CodeOk.skip ?_
        exact hk158 (a1, y7, y8, (y6 == 5)) h60 _ (Weak.sel [(0, 0)] [0, 1, 43] (by kernel_rfl) (by kernel_rfl) (by kernel_rfl))
       refine CodeOk.ifF hc159 (by kernel_rfl) ?_
       refine ce D_ok mix 2 100 (tl 69 [(0, .loc 0 0), (1, V.int a1), (43, V.bool (y6 == 6))]) [(0, .cells 65 [.sl false false (p0_0.map byteRow), V.int y7, V.int y8])] (by kernel_rfl) (fun st hw => ?_)
       exact hk158 (a1, y7, y8, (y6 == 6)) h60 _ (hw.trans (Weak.sel [(0, 0)] [0, 1, 43] (by kernel_rfl) (by kernel_rfl) (by kernel_rfl)))
     intro hk160
     refine cu D_ok mix 2 100 (tl 69 [(0, .loc 0 0), (1, V.int a1), (18, V.int y6), (26, V.bool (y6 == 2))]) [(0, .cells 65 [.sl false false (p0_0.map byteRow), V.int y7, V.int y8])] (by kernel_rfl) ?_
     (revert h53; refine cond_rev (fun hc161 h53 => ?_) (fun hc161 h53 => ?_))
     ·refine CodeOk.ifT hc161 (by kernel_rfl) ?_
      refine CodeOk.skip ?_
      exact hk160 (a1, y6, y7, y8, (y6 == 2)) h53 _ (Weak.sel [(0, 0)] [0, 1, 18, 26] (by kernel_rfl) (by kernel_rfl) (by kernel_rfl))
     refine CodeOk.ifF hc161 (by kernel_rfl) ?_
     refine ce D_ok mix 2 100 (tl 69 [(0, .loc 0 0), (1, V.int a1), (18, V.int y6), (26, V.bool (y6 == 3))]) [(0, .cells 65 [.sl false false (p0_0.map byteRow), V.int y7, V.int y8])] (by kernel_rfl) (fun st hw => ?_)
     exact hk160 (a1, y6, y7, y8, (y6 == 3)) h53 _ (hw.trans (Weak.sel [(0, 0)] [0, 1, 18, 26] (by kernel_rfl) (by kernel_rfl) (by kernel_rfl)))
   intro hk162
   refine cu D_ok mix 2 100 (tl 69 [(0, .loc 0 0), (1, V.int a1), (18, V.int y6), (19, V.bool (y6 == 0))]) [(0, .cells 65 [.sl false false (p0_0.map byteRow), V.int y7, V.int y8])] (by kernel_rfl) ?_
   (revert h9; refine cond_rev (fun hc163 h9 => ?_) (fun hc163 h9 => ?_))
   ·refine CodeOk.ifT hc163 (by kernel_rfl) ?_
    refine CodeOk.skip ?_
    exact hk162 (a1, y6, y7, y8, (y6 == 0)) h9 _ (Weak.sel [(0, 0)] [0, 1, 18, 19] (by kernel_rfl) (by kernel_rfl) (by kernel_rfl))
   refine CodeOk.ifF hc163 (by kernel_rfl) ?_
   refine ce D_ok mix 2 100 (tl 69 [(0, .loc 0 0), (1, V.int a1), (18, V.int y6), (19, V.bool (y6 == 1))]) [(0, .cells 65 [.sl false false (p0_0.map byteRow), V.int y7, V.int y8])] (by kernel_rfl) (fun st hw => ?_)
   exact hk162 (a1, y6, y7, y8, (y6 == 1)) h9 _ (hw.trans (Weak.sel [(0, 0)] [0, 1, 18, 19] (by kernel_rfl) (by kernel_rfl) (by kernel_rfl)))
 intro hk164
 (revert h; refine bind_rev fun y133 hv166 h => ?_)
 refine CodeOk.cutR (tl 69 [(0, .loc 0 0), (1, V.int a1), (5, V.int r2.1), (15, V.bool y133)]) [(0, .cells 65 [.sl false false (p0_0.map byteRow), V.int r2.2.1, V.int r2.2.2])] mix (by
  refine W.run D_ok 3 100 (by kernel_rfl) ?_
  (revert hv166; refine cond_rev (fun hc167 hv166 => ?_) (fun hc167 hv166 => ?_))
  ·refine W.is 12 hc167 (by kernel_rfl) ?_
   refine W.run D_ok 3 100 (by kernel_rfl) ?_
   have hv166 := Option.some.inj hv166
   subst hv166
   exact W.fs [(0, 0)] [0, 1, 5, 15] (by kernel_rfl)
  refine W.is 12 hc167 (by kernel_rfl) ?_
  refine W.run D_ok 3 100 (by kernel_rfl) ?_
  have hv166 := Option.some.inj hv166
  subst hv166
  exact W.fs [(0, 0)] [0, 1, 5, 15] (by kernel_rfl)
  ) ?_
 (revert h; refine cond_rev (fun hc168 h => ?_) (fun hc168 h => ?_))
 ·refine CodeOk.ifT hc168 (by kernel_rfl) ?_
  (revert h; refine bind_rev fun r135 hx170 h => ?_)
  refine CodeOk.endR (tl 69 [(0, .loc 0 0), (1, V.int a1), (5, V.int r135.1)]) [(0, .cells 65 [.sl false false (p0_0.map byteRow), V.int r135.2.1, V.int r135.2.2])] mix (by
   refine W.run D_ok 1 100 (by kernel_rfl) ?_
   refine W.call (m_spec_l1Below_ok 4 p0_0 r2.2.1 r2.2.2 hx170) cok34 [(0, 0)] [(0, 0)] [] (show LayOk _ [] from trivial) (by kernel_rfl) (by kernel_rfl) ?_
   refine W.run D_ok 1 100 (by kernel_rfl) ?_
   exact W.fi (by kernel_rfl)
   ) (fun st hw => ?_)
  exact hk164 (a1, r135.1, r135.2.1, r135.2.2) h _ (hw.trans (Weak.sel [(0, 0)] [0, 1, 5] (by kernel_rfl) (by kernel_rfl) (by kernel_rfl)))
 refine CodeOk.ifF hc168 (by kernel_rfl) ?_
 refine CodeOk.skip ?_
 exact hk164 (a1, r2.1, r2.2.1, r2.2.2) h _ (Weak.sel [(0, 0)] [0, 1, 5] (by kernel_rfl) (by kernel_rfl) (by kernel_rfl))

theorem scc1_ok : ∀ N, RecOk1 (scc1 N)
  | 0 => ⟨fun _ _ _ _ _ h => (by cases h)⟩
  | N + 1 => ⟨fun a1 p0_0 p0_1 p0_2 _ h => m_spec_l15Draw_F_ok N (scc1 N) (scc1_ok N) a1 p0_0 p0_1 p0_2 h⟩

theorem m_spec_l15Draw_ok (N : Nat) (a1 : Int) (p0_0 : List UInt8) (p0_1 : Int) (p0_2 : Int) {r : ((List SDNode) × Int × Int)} (h : m_spec_l15Draw N a1 p0_0 p0_1 p0_2 = some r) :
    AC Tryd.prog (GS []) 33 [.loc 0 0, V.int a1] [(0, .cells 65 [.sl false false (p0_0.map byteRow), V.int p0_1, V.int p0_2])] (.own 100) [(0, .cells 65 [.sl false false (p0_0.map byteRow), V.int r.2.1, V.int r.2.2]), (100, .vec false 51 4 (r.1.map (encSDNode true)))] :=
  (scc1_ok N).m_spec_l15Draw a1 p0_0 p0_1 p0_2 r h

theorem m_spec_l1PickInt_ok (a1 : List Int) (p0_0 : List UInt8) (p0_1 : Int) (p0_2 : Int) {r : (Int × Int × Int)} (h : m_spec_l1PickInt a1 p0_0 p0_1 p0_2 = some r) :
    AC Tryd.prog (GS []) 35 [.loc 0 0, .sl false false (a1.map encI)] [(0, .cells 65 [.sl false false (p0_0.map byteRow), V.int p0_1, V.int p0_2])] (V.int r.1) [(0, .cells 65 [.sl false false (p0_0.map byteRow), V.int r.2.1, V.int r.2.2])] := by
 rw [m_spec_l1PickInt] at h
 refine AC.enter Tryd.func35 rfl ?_
 refine cu D_ok mix 1 100 (tl 12 [(0, .loc 0 0), (1, .sl false false (a1.map encI))]) [(0, .cells 65 [.sl false false (p0_0.map byteRow), V.int p0_1, V.int p0_2])] (by kernel_rfl) ?_
 (revert h; refine bind_rev fun r3 hx3 h => ?_)
 (revert h; refine bind_rev fun e4 hx4 h => ?_)
 refine CodeOk.cutR (tl 12 [(4, V.int e4)]) [(0, .cells 65 [.sl false false (p0_0.map byteRow), V.int r3.2.1, V.int r3.2.2])] mix (by
  refine W.run D_ok 3 100 (by kernel_rfl) ?_
  refine W.len D_ok encI a1 [] (by kernel_rfl) (by kernel_rfl) ?_
  refine W.call (m_spec_l1Below_ok (a1.length : Int) p0_0 p0_1 p0_2 hx3) cok34 [(0, 0)] [(0, 0)] [] (show LayOk _ [] from trivial) (by kernel_rfl) (by kernel_rfl) ?_
  refine W.ixD D_ok encI hx4 1 (by kernel_rfl) (by kernel_rfl) ?_
  refine W.run D_ok 2 100 (by kernel_rfl) ?_
  exact W.fi (by kernel_rfl)
  ) ?_
 refine CodeOk.ret ?_
 have h := Option.some.inj h
 subst h
 exact Ends.gen [(0, 0)] (.inr rfl) (RetV.one rfl (OneR.tmp (t := 4) (r := V.int e4) (by kernel_rfl))) (by kernel_rfl) (by kernel_rfl) (by kernel_rfl)

theorem m_spec_l15Any_ok (N : Nat) (p0_0 : List UInt8) (p0_1 : Int) (p0_2 : Int) {r : ((List SDNode) × Int × Int)} (h : m_spec_l15Any N p0_0 p0_1 p0_2 = some r) :
    AC Tryd.prog (GS []) 18 [.loc 0 0] [(0, .cells 65 [.sl false false (p0_0.map byteRow), V.int p0_1, V.int p0_2])] (.sl false false (r.1.map (encSDNode false))) [(0, .cells 65 [.sl false false (p0_0.map byteRow), V.int r.2.1, V.int r.2.2])] := by
 rw [m_spec_l15Any] at h
 refine AC.enter Tryd.func18 rfl ?_
 refine cu D_ok mix 1 100 (tl 56 [(0, .loc 0 0)]) [(0, .cells 65 [.sl false false (p0_0.map byteRow), V.int p0_1, V.int p0_2])] (by kernel_rfl) ?_
 (revert h; refine bind_rev fun r2 hx2 h => ?_)
 refine CodeOk.cutR (tl 56 [(0, .loc 0 0), (3, .own 100)]) [(100, .vec false 51 4 (r2.1.map (encSDNode true))), (0, .cells 65 [.sl false false (p0_0.map byteRow), V.int r2.2.1, V.int r2.2.2])] mix (by
  refine W.run D_ok 1 100 (by kernel_rfl) ?_
  refine W.call (m_spec_l15Draw_ok N 5 p0_0 p0_1 p0_2 hx2) cok33 [(0, 0)] [(0, 0), (100, 100)] [100] (show LayOk _ [] from trivial) (by kernel_rfl) (by kernel_rfl) ?_
  refine W.run D_ok 1 101 (by kernel_rfl) ?_
  exact W.fi (by kernel_rfl)
  ) ?_
 (revert h; refine bind_rev fun r4 hx4 h => ?_)
 refine CodeOk.cutR (tl 56 [(0, .loc 0 0), (3, .own 100), (4, V.int r4.1)]) [(100, .vec false 51 4 (r2.1.map (encSDNode true))), (0, .cells 65 [.sl false false (p0_0.map byteRow), V.int r4.2.1, V.int r4.2.2])] mix (by
  refine W.run D_ok 2 101 (by kernel_rfl) ?_
  refine W.len D_ok (encSDNode true) r2.1 [100] (by kernel_rfl) (by kernel_rfl) ?_
  refine W.call (m_spec_l1Below_ok (r2.1.length : Int) p0_0 r2.2.1 r2.2.2 hx4) cok34 [(0, 0)] [(0, 0)] [] (show LayOk _ [] from trivial) (by kernel_rfl) (by kernel_rfl) ?_
  refine W.run D_ok 1 101 (by kernel_rfl) ?_
  exact W.fi (by kernel_rfl)
  ) ?_
 refine CodeOk.join (fun (⟨y31, y32, y33⟩ : ((List SDNode) × Int × Int)) => ⟨tl 56 [(3, .own 100)], [(100, .vec false 51 4 (y31.map (encSDNode true))), (0, .cells 65 [.sl false false (p0_0.map byteRow), V.int y32, V.int y33])]⟩) (fun i => m_spec_l15Any_k1 N p0_0 i = some r) ?_ ?_
 · rintro ⟨y31, y32, y33⟩ h41
   rw [m_spec_l15Any_k1] at h41
   refine cu D_ok mix 2 104 (tl 56 [(2, .own 100)]) [(100, .vec false 51 4 (y31.map (encSDNode true))), (0, .cells 65 [.sl false false (p0_0.map byteRow), V.int y32, V.int y33])] (by kernel_rfl) ?_
   refine CodeOk.lay (tl 56 [(2, .sl false false (y31.map (encSDNode false)))]) [(0, .cells 65 [.sl false false (p0_0.map byteRow), V.int y32, V.int y33])] (LayOk.cons (j := 100) (encSDNode true) (encSDNode false) y31 (by kernel_rfl) (share_encSDNode _) (show LayOk _ [] from trivial)) (by kernel_rfl) (by kernel_rfl) (by kernel_rfl) ?_
   refine CodeOk.ret ?_
   have h41 := Option.some.inj h41
   subst h41
   exact Ends.gen [(0, 0)] (.inr rfl) (RetV.one rfl (OneR.tmp (t := 2) (r := .sl false false (y31.map (encSDNode false))) (by kernel_rfl))) (by kernel_rfl) (by kernel_rfl) (by kernel_rfl)
 intro hk42
 (revert h; refine bind_rev fun r35 hx44 h => ?_)
 refine CodeOk.cutR (tl 56 [(0, .loc 0 0), (3, .own 100), (4, V.int r4.1), (12, V.int r35.1)]) [(100, .vec false 51 4 (r2.1.map (encSDNode true))), (0, .cells 65 [.sl false false (p0_0.map byteRow), V.int r35.2.1, V.int r35.2.2])] mix (by
  refine W.run D_ok 1 101 (by kernel_rfl) ?_
  refine W.call (m_spec_l1Below_ok 16 p0_0 r4.2.1 r4.2.2 hx44) cok34 [(0, 0)] [(0, 0)] [] (show LayOk _ [] from trivial) (by kernel_rfl) (by kernel_rfl) ?_
  exact W.fi (by kernel_rfl)
  ) ?_
 refine CodeOk.block' ?_
 refine cu D_ok mix 2 101 (tl 56 [(0, .loc 0 0), (3, .own 100), (4, V.int r4.1), (12, V.int r35.1), (13, V.bool (r35.1 == 0))]) [(100, .vec false 51 4 (r2.1.map (encSDNode true))), (0, .cells 65 [.sl false false (p0_0.map byteRow), V.int r35.2.1, V.int r35.2.2])] (by kernel_rfl) ?_
 (revert h; refine cond_rev (fun hc45 h => ?_) (fun hc45 h => ?_))
 ·refine CodeOk.ifT hc45 (by kernel_rfl) ?_
  (revert h; refine bind_rev fun r39 hx49 h => ?_)
  (revert h; refine bind_rev fun e40 hx50 h => ?_)
  (revert h; refine bind_rev fun x41 hu51 h => ?_)
  refine CodeOk.endR (tl 56 [(3, .own 100)]) [(100, .vec false 51 4 (x41.map (encSDNode true))), (0, .cells 65 [.sl false false (p0_0.map byteRow), V.int r39.2.1, V.int r39.2.2])] mix (by
   refine W.run D_ok 3 101 (by kernel_rfl) ?_
   refine W.call (m_spec_l1Below_ok 8 p0_0 r35.2.1 r35.2.2 hx49) cok34 [(0, 0)] [(0, 0)] [] (show LayOk _ [] from trivial) (by kernel_rfl) (by kernel_rfl) ?_
   refine W.ixO D_ok (encSDNode true) hx50 100 4 (by kernel_rfl) ?_
   refine W.run D_ok 1 101 (by kernel_rfl) ?_
   refine W.stO D_ok (encSDNode true) (x' := (⟨r39.1, e40.N, e40.Text, e40.Kids⟩ : SDNode)) hx50 hu51 (j := 100) (nn := false) (ety := 51) (sz := 4) (b := 0) (ys := [V.int r39.1]) (C := []) (R := []) (by kernel_rfl) (by kernel_rfl) ?_
   exact W.fi (by kernel_rfl)
   ) (fun st hw => ?_)
  exact hk42 (x41, r39.2.1, r39.2.2) h _ (hw.trans (Weak.sel [(100, 100), (0, 0)] [3] (by kernel_rfl) (by kernel_rfl) (by kernel_rfl)))
 refine CodeOk.ifF hc45 (by kernel_rfl) ?_
 refine cu D_ok mix 2 101 (tl 56 [(0, .loc 0 0), (3, .own 100), (4, V.int r4.1), (12, V.int r35.1), (21, V.bool (r35.1 == 1))]) [(100, .vec false 51 4 (r2.1.map (encSDNode true))), (0, .cells 65 [.sl false false (p0_0.map byteRow), V.int r35.2.1, V.int r35.2.2])] (by kernel_rfl) ?_
 (revert h; refine cond_rev (fun hc52 h => ?_) (fun hc52 h => ?_))
 ·refine CodeOk.ifT hc52 (by kernel_rfl) ?_
  (revert h; refine bind_rev fun r45 hx56 h => ?_)
  (revert h; refine bind_rev fun e46 hx57 h => ?_)
  (revert h; refine bind_rev fun x47 hu58 h => ?_)
  refine CodeOk.endR (tl 56 [(3, .own 100)]) [(100, .vec false 51 4 (x47.map (encSDNode true))), (0, .cells 65 [.sl false false (p0_0.map byteRow), V.int r45.2.1, V.int r45.2.2])] mix (by
   refine W.run D_ok 4 101 (by kernel_rfl) ?_
   refine W.call (m_spec_l1PickInt_ok [(-1), 40, 41, 1] p0_0 r35.2.1 r35.2.2 hx56) cok35 [(0, 0)] [(0, 0)] [] (LayOk.cons (j := 101) encI encI ([(-1), 40, 41, 1] : List Int) (by kernel_rfl) (fun _ => rfl) (show LayOk _ [] from trivial)) (by kernel_rfl) (by kernel_rfl) ?_
   refine W.ixO D_ok (encSDNode true) hx57 100 4 (by kernel_rfl) ?_
   refine W.run D_ok 1 102 (by kernel_rfl) ?_
   refine W.stO D_ok (encSDNode true) (x' := (⟨e46.Kind, r45.1, e46.Text, e46.Kids⟩ : SDNode)) hx57 hu58 (j := 100) (nn := false) (ety := 51) (sz := 4) (b := 1) (ys := [V.int r45.1]) (C := []) (R := []) (by kernel_rfl) (by kernel_rfl) ?_
   exact W.fi (by kernel_rfl)
   ) (fun st hw => ?_)
  exact hk42 (x47, r45.2.1, r45.2.2) h _ (hw.trans (Weak.sel [(100, 100), (0, 0)] [3] (by kernel_rfl) (by kernel_rfl) (by kernel_rfl)))
 refine CodeOk.ifF hc52 (by kernel_rfl) ?_
 refine cu D_ok mix 2 101 (tl 56 [(3, .own 100), (4, V.int r4.1), (12, V.int r35.1), (30, V.bool (r35.1 == 2))]) [(100, .vec false 51 4 (r2.1.map (encSDNode true))), (0, .cells 65 [.sl false false (p0_0.map byteRow), V.int r35.2.1, V.int r35.2.2])] (by kernel_rfl) ?_
 (revert h; refine cond_rev (fun hc59 h => ?_) (fun hc59 h => ?_))
 ·refine CodeOk.ifT hc59 (by kernel_rfl) ?_
  (revert h; refine bind_rev fun e50 hx62 h => ?_)
  (revert h; refine bind_rev fun x51 hu63 h => ?_)
  refine CodeOk.endR (tl 56 [(3, .own 100)]) [(100, .vec false 51 4 (x51.map (encSDNode true))), (0, .cells 65 [.sl false false (p0_0.map byteRow), V.int r35.2.1, V.int r35.2.2])] mix (by
   refine W.run D_ok 2 101 (by kernel_rfl) ?_
   refine W.ixO D_ok (encSDNode true) hx62 100 4 (by kernel_rfl) ?_
   refine W.run D_ok 1 101 (by kernel_rfl) ?_
   refine W.stO D_ok (encSDNode true) (x' := (⟨e50.Kind, e50.N, [120, 10, 121], e50.Kids⟩ : SDNode)) hx62 hu63 (j := 100) (nn := false) (ety := 51) (sz := 4) (b := 2) (ys := [V.str [120, 10, 121]]) (C := []) (R := []) (by kernel_rfl) (by kernel_rfl) ?_
   exact W.fi (by kernel_rfl)
   ) (fun st hw => ?_)
  exact hk42 (x51, r35.2.1, r35.2.2) h _ (hw.trans (Weak.sel [(100, 100), (0, 0)] [3] (by kernel_rfl) (by kernel_rfl) (by kernel_rfl)))
 refine CodeOk.ifF hc59 (by kernel_rfl) ?_
 refine cu D_ok mix 2 101 (tl 56 [(3, .own 100), (4, V.int r4.1), (12, V.int r35.1), (36, V.bool (r35.1 == 3))]) [(100, .vec false 51 4 (r2.1.map (encSDNode true))), (0, .cells 65 [.sl false false (p0_0.map byteRow), V.int r35.2.1, V.int r35.2.2])] (by kernel_rfl) ?_
 (revert h; refine cond_rev (fun hc64 h => ?_) (fun hc64 h => ?_))
 ·refine CodeOk.ifT hc64 (by kernel_rfl) ?_
  (revert h; refine bind_rev fun e53 hx66 h => ?_)
  refine CodeOk.lendR 100 3 101 (encSDNode true) hx66 (nn := false) (nn2 := false) (ety := 51) (kk := 4) (srows := e53.Kids.map encI) (fun c67 => [V.int e53.Kind, V.int e53.N, V.str e53.Text, .c c67]) (fun c67 R68 => [(101, .vec false (.at_ c67) 1 (e53.Kids.map encI)), (100, .vec false 51 4 (R68.map id)), (0, .cells 65 [.sl false false (p0_0.map byteRow), V.int r35.2.1, V.int r35.2.2])]) (by kernel_rfl) (by kernel_rfl) (fun _ => by kernel_rfl) (by kernel_rfl) (fun r hr => by obtain ⟨a, _, rfl⟩ := List.mem_map.1 hr; rfl) (fun _ _ => by kernel_rfl) ?_
  intro c67 R68 hR69
  obtain ⟨hi70, hr71⟩ := lend_ix hx66 hR69
  (revert h; refine bind_rev fun x56 hx74 h => ?_)
  (revert h; refine bind_rev fun x57 hu75 h => ?_)
  refine CodeOk.endR (tl 56 [(3, .own 100)]) [(100, .vec false 51 4 (x57.map (encSDNode true))), (0, .cells 65 [.sl false false (p0_0.map byteRow), V.int r35.2.1, V.int r35.2.2])] mix (by
   refine W.run D_ok 4 102 (by kernel_rfl) ?_
   refine W.ixO D_ok id hi70 100 4 (by kernel_rfl) ?_
   refine W.run D_ok 1 102 (by kernel_rfl) ?_
   refine W.ldA D_ok (t := 49) (i0 := 100) (n := r4.1.toNat) (b := 3) (j := 101) (rows := R68.map id) (row := [V.int e53.Kind, V.int e53.N, V.str e53.Text, .c c67]) (c := c67) (nn2 := false) (k2 := 1) (rows2 := e53.Kids.map encI) (by kernel_rfl) hr71 (by kernel_rfl) (by kernel_rfl) ?_
   refine W.run D_ok 2 102 (by kernel_rfl) ?_
   refine W.appA D_ok encI (a := 101) (c := 102) (el := 3) (sz := 1) 8 hx74 rfl 103 (by kernel_rfl) ?_
   refine W.ixO D_ok id hi70 100 4 (by kernel_rfl) ?_
   refine W.run D_ok 1 104 (by kernel_rfl) ?_
   refine W.stO D_ok id (x' := [V.int e53.Kind, V.int e53.N, V.str e53.Text, .sl false true (x56.map encI)]) hi70 (lend_upd (enc := (encSDNode true)) hR69 hu75 (by kernel_rfl)) (j := 100) (nn := false) (ety := 51) (sz := 4) (b := 3) (ys := [.sl false true (x56.map encI)]) (C := [103]) (R := [103]) (by kernel_rfl) (by kernel_rfl) ?_
   refine W.vecEq 100 (nn := false) (e := 51) (k := 4) (rows := (x57.map (encSDNode true)).map id) (rows' := x57.map (encSDNode true)) (by kernel_rfl) (List.map_id _) ?_
   exact W.fi (by kernel_rfl)
   ) (fun st hw => ?_)
  exact hk42 (x57, r35.2.1, r35.2.2) h _ (hw.trans (Weak.sel [(100, 100), (0, 0)] [3] (by kernel_rfl) (by kernel_rfl) (by kernel_rfl)))
 refine CodeOk.ifF hc64 (by kernel_rfl) ?_
 refine cu D_ok mix 2 101 (tl 56 [(3, .own 100), (4, V.int r4.1), (50, V.bool (r35.1 == 4))]) [(100, .vec false 51 4 (r2.1.map (encSDNode true))), (0, .cells 65 [.sl false false (p0_0.map byteRow), V.int r35.2.1, V.int r35.2.2])] (by kernel_rfl) ?_
 (revert h; refine cond_rev (fun hc76 h => ?_) (fun hc76 h => ?_))
 ·refine CodeOk.ifT hc76 (by kernel_rfl) ?_
  (revert h; refine bind_rev fun l59 hx78 h => ?_)
  refine CodeOk.cutR (tl 56 [(2, .own 101)]) [(101, .vec false (.sp 51) 4 (l59.map (encSDNode true))), (0, .cells 65 [.sl false false (p0_0.map byteRow), V.int r35.2.1, V.int r35.2.2])] mix (by
   refine W.run D_ok 2 101 (by kernel_rfl) ?_
   refine W.cutO D_ok (encSDNode true) hx78 101 (j := 100) (el := 51) (sz := 4) (by kernel_rfl) ?_
   refine W.run D_ok 1 102 (by kernel_rfl) ?_
   exact W.fi (by kernel_rfl)
   ) ?_
  refine CodeOk.lay (tl 56 [(2, .sl false false (l59.map (encSDNode false)))]) [(0, .cells 65 [.sl false false (p0_0.map byteRow), V.int r35.2.1, V.int r35.2.2])] (LayOk.cons (j := 101) (encSDNode true) (encSDNode false) l59 (by kernel_rfl) (share_encSDNode _) (show LayOk _ [] from trivial)) (by kernel_rfl) (by kernel_rfl) (by kernel_rfl) ?_
  refine CodeOk.ret ?_
  have h := Option.some.inj h
  subst h
  exact Ends.gen [(0, 0)] (.inr rfl) (RetV.one rfl (OneR.tmp (t := 2) (r := .sl false false (l59.map (encSDNode false))) (by kernel_rfl))) (by kernel_rfl) (by kernel_rfl) (by kernel_rfl)
 refine CodeOk.ifF hc76 (by kernel_rfl) ?_
 refine CodeOk.skip ?_
 exact hk42 (r2.1, r35.2.1, r35.2.2) h _ (Weak.sel [(100, 100), (0, 0)] [3] (by kernel_rfl) (by kernel_rfl) (by kernel_rfl))

theorem m_spec_DrawJoined_ok (N : Nat) (a0 : List UInt8) {r : ((List SDNode) × (List SDNode))} (h : m_spec_DrawJoined N a0 = some r) :
    AC Tryd.prog (GS []) 5 [.sl false false (a0.map byteRow)] [] (.tup [.sl false false (r.1.map (encSDNode false)), .sl false false (r.2.map (encSDNode false))]) [] := by
 rw [m_spec_DrawJoined] at h
 refine AC.enter Tryd.func5 rfl ?_
 refine cu D_ok mix 2 100 (tl 13 [(0, .sl false false (a0.map byteRow))]) [] (by kernel_rfl) ?_
 (revert h; refine bind_rev fun r2 hx2 h => ?_)
 refine CodeOk.cutR (tl 13 [(4, .loc 100 0)]) [(100, .cells 65 [.sl false false (r2.1.map byteRow), V.int r2.2.1, V.int r2.2.2])] mix (by
  refine W.run D_ok 1 100 (by kernel_rfl) ?_
  refine W.call (m_spec_l1New_ok N a0 hx2) cok17 [] [(100, 100)] [100] (show LayOk _ [] from trivial) (by kernel_rfl) (by kernel_rfl) ?_
  refine W.run D_ok 1 101 (by kernel_rfl) ?_
  exact W.fi (by kernel_rfl)
  ) ?_
 (revert h; refine bind_rev fun r4 hx4 h => ?_)
 refine CodeOk.cutR (tl 13 [(4, .loc 100 0), (5, .sl false false (r4.1.map (encSDNode false)))]) [(100, .cells 65 [.sl false false (r2.1.map byteRow), V.int r4.2.1, V.int r4.2.2])] mix (by
  refine W.run D_ok 1 101 (by kernel_rfl) ?_
  refine W.call (m_spec_l15Any_ok N r2.1 r2.2.1 r2.2.2 hx4) cok18 [(100, 0)] [(0, 100)] [] (show LayOk _ [] from trivial) (by kernel_rfl) (by kernel_rfl) ?_
  refine W.run D_ok 1 101 (by kernel_rfl) ?_
  exact W.fi (by kernel_rfl)
  ) ?_
 (revert h; refine bind_rev fun r6 hx6 h => ?_)
 refine CodeOk.cutR (tl 13 [(2, .sl false false (r4.1.map (encSDNode false))), (3, .sl false false (r6.1.map (encSDNode false)))]) [] mix (by
  refine W.run D_ok 2 101 (by kernel_rfl) ?_
  refine W.call (m_spec_l15Any_ok N r2.1 r4.2.1 r4.2.2 hx6) cok18 [(100, 0)] [(0, 100)] [] (show LayOk _ [] from trivial) (by kernel_rfl) (by kernel_rfl) ?_
  refine W.run D_ok 2 101 (by kernel_rfl) ?_
  exact W.fi (by kernel_rfl)
  ) ?_
 refine CodeOk.ret ?_
 have h := Option.some.inj h
 subst h
 exact Ends.gen [] (.inr rfl) (RetV.two rfl (OneR.tmp (t := 2) (r := .sl false false (r4.1.map (encSDNode false))) (by kernel_rfl)) (OneR.tmp (t := 3) (r := .sl false false (r6.1.map (encSDNode false))) (by kernel_rfl))) (by kernel_rfl) (by kernel_rfl) (by kernel_rfl)

theorem m_stringslite_IndexByte_ok (a0 : List UInt8) (a1 : Int) {r : Int} (h : m_stringslite_IndexByte a0 a1 = some r) :
    AC Tryd.prog (GS []) 73 [V.str a0, .c (.int .u8 a1)] [] (V.int r) [] := by
 rw [m_stringslite_IndexByte] at h
 refine AC.enter Tryd.func73 rfl ?_
 refine cu D_ok mix 1 100 (tl 8 [(0, V.str a0), (1, .c (.int .u8 a1))]) [] (by kernel_rfl) ?_
 refine CodeOk.cutR (tl 8 [(4, V.int (Go.Lib.indexByte a0 (Int.toNat a1).toUInt8))]) [] mix (by
  refine W.run D_ok 2 100 (by kernel_rfl) ?_
  refine W.ext (vs := [.string ⟨⟨a0⟩⟩, .int .u8 a1]) (ext79 _ _) (by kernel_rfl) ?_
  refine W.run D_ok 1 100 (by kernel_rfl) ?_
  exact W.fi (by kernel_rfl)
  ) ?_
 refine CodeOk.ret ?_
 have h := Option.some.inj h
 subst h
 exact Ends.gen [] (.inr rfl) (RetV.one rfl (OneR.tmp (t := 4) (r := V.int (Go.Lib.indexByte a0 (Int.toNat a1).toUInt8)) (by kernel_rfl))) (by kernel_rfl) (by kernel_rfl) (by kernel_rfl)

theorem m_stringslite_Index_ok (a0 : List UInt8) {r : Int} (h : m_stringslite_Index a0 = some r) :
    AC Tryd.prog (GS []) 66 [V.str a0, V.str [10]] [] (V.int r) [] := by
 rw [m_stringslite_Index] at h
 refine AC.enter Tryd.func66 rfl ?_
 refine cu D_ok mix 1 100 (tl 143 [(0, V.str a0), (1, V.str [10])]) [] (by kernel_rfl) ?_
 refine cu D_ok mix 3 100 (tl 143 [(0, V.str a0), (1, V.str [10]), (5, V.int 1)]) [] (by kernel_rfl) ?_
 refine CodeOk.seq' ?_
 refine CodeOk.block' ?_
 refine cu D_ok mix 8 100 (tl 143 [(0, V.str a0), (1, V.str [10]), (5, V.int 1), (16, V.bool (([10] : List UInt8) == a0))]) [] (by kernel_rfl) ?_
 (revert h; refine cond_rev (fun hc6 h => ?_) (fun hc6 h => ?_))
 ·refine CodeOk.ifT hc6 (by kernel_rfl) ?_
  refine cu D_ok mix 1 100 (tl 143 [(4, V.int 0)]) [] (by kernel_rfl) ?_
  refine CodeOk.ret ?_
  have h := Option.some.inj h
  subst h
  exact Ends.gen [] (.inr rfl) (RetV.one rfl (OneR.tmp (t := 4) (r := V.int 0) (by kernel_rfl))) (by kernel_rfl) (by kernel_rfl) (by kernel_rfl)
 refine CodeOk.ifF hc6 (by kernel_rfl) ?_
 refine cu D_ok mix 3 100 (tl 143 [(0, V.str a0), (1, V.str [10]), (5, V.int 1), (24, V.bool true)]) [] (by kernel_rfl) ?_
 refine CodeOk.ifT (c := true) rfl (by kernel_rfl) ?_
 (revert h; refine bind_rev fun b7 hx9 h => ?_)
 (revert h; refine bind_rev fun r8 hx10 h => ?_)
 refine CodeOk.cutR (tl 143 [(4, V.int r8)]) [] mix (by
  refine W.run D_ok 2 100 (by kernel_rfl) ?_
  refine W.ixS D_ok hx9 (by kernel_rfl) ?_
  refine W.call0 (m_stringslite_IndexByte_ok a0 ((b7).toNat : Int) hx10) cok73 rfl (by kernel_rfl) ?_
  refine W.run D_ok 1 100 (by kernel_rfl) ?_
  exact W.fi (by kernel_rfl)
  ) ?_
 refine CodeOk.ret ?_
 have h := Option.some.inj h
 subst h
 exact Ends.gen [] (.inr rfl) (RetV.one rfl (OneR.tmp (t := 4) (r := V.int r8) (by kernel_rfl))) (by kernel_rfl) (by kernel_rfl) (by kernel_rfl)

theorem m_strings_Index_ok (a0 : List UInt8) {r : Int} (h : m_strings_Index a0 = some r) :
    AC Tryd.prog (GS []) 55 [V.str a0, V.str [10]] [] (V.int r) [] := by
 rw [m_strings_Index] at h
 refine AC.enter Tryd.func55 rfl ?_
 refine cu D_ok mix 1 100 (tl 8 [(0, V.str a0), (1, V.str [10])]) [] (by kernel_rfl) ?_
 (revert h; refine bind_rev fun r2 hx2 h => ?_)
 refine CodeOk.cutR (tl 8 [(4, V.int r2)]) [] mix (by
  refine W.run D_ok 2 100 (by kernel_rfl) ?_
  refine W.call0 (m_stringslite_Index_ok a0 hx2) cok66 rfl (by kernel_rfl) ?_
  refine W.run D_ok 1 100 (by kernel_rfl) ?_
  exact W.fi (by kernel_rfl)
  ) ?_
 refine CodeOk.ret ?_
 have h := Option.some.inj h
 subst h
 exact Ends.gen [] (.inr rfl) (RetV.one rfl (OneR.tmp (t := 4) (r := V.int r2) (by kernel_rfl))) (by kernel_rfl) (by kernel_rfl) (by kernel_rfl)

theorem m_strings_Contains_ok (a0 : List UInt8) {r : Bool} (h : m_strings_Contains a0 = some r) :
    AC Tryd.prog (GS []) 51 [V.str a0, V.str [10]] [] (V.bool r) [] := by
 rw [m_strings_Contains] at h
 refine AC.enter Tryd.func51 rfl ?_
 refine cu D_ok mix 1 100 (tl 9 [(0, V.str a0), (1, V.str [10])]) [] (by kernel_rfl) ?_
 (revert h; refine bind_rev fun r2 hx2 h => ?_)
 refine CodeOk.cutR (tl 9 [(4, V.bool (decide (r2 ≥ 0)))]) [] mix (by
  refine W.run D_ok 2 100 (by kernel_rfl) ?_
  refine W.call0 (m_strings_Index_ok a0 hx2) cok55 rfl (by kernel_rfl) ?_
  refine W.run D_ok 2 100 (by kernel_rfl) ?_
  exact W.fi (by kernel_rfl)
  ) ?_
 refine CodeOk.ret ?_
 have h := Option.some.inj h
 subst h
 exact Ends.gen [] (.inr rfl) (RetV.one rfl (OneR.tmp (t := 4) (r := V.bool (decide (r2 ≥ 0))) (by kernel_rfl))) (by kernel_rfl) (by kernel_rfl) (by kernel_rfl)

theorem m_impl_within_ok (a0 : Int) (a1 : Int) (a2 : Int) {r : Bool} (h : m_impl_within a0 a1 a2 = some r) :
    AC Tryd.prog (GS []) 27 [V.int a0, V.int a1, V.int a2] [] (V.bool r) [] := by
 rw [m_impl_within] at h
 refine AC.enter Tryd.func27 rfl ?_
 refine cu D_ok mix 1 100 (tl 15 [(0, V.int a0), (1, V.int a1), (2, V.int a2)]) [] (by kernel_rfl) ?_
 (revert h; refine bind_rev fun y1 hv2 h => ?_)
 refine CodeOk.cutR (tl 15 [(6, V.bool y1)]) [] mix (by
  refine W.run D_ok 4 100 (by kernel_rfl) ?_
  (revert hv2; refine cond_rev (fun hc3 hv2 => ?_) (fun hc3 hv2 => ?_))
  ·refine W.is 10 hc3 (by kernel_rfl) ?_
   refine W.run D_ok 5 100 (by kernel_rfl) ?_
   have hv2 := Option.some.inj hv2
   subst hv2
   exact W.fs [] [6] (by kernel_rfl)
  refine W.is 10 hc3 (by kernel_rfl) ?_
  refine W.run D_ok 5 100 (by kernel_rfl) ?_
  have hv2 := Option.some.inj hv2
  subst hv2
  exact W.fs [] [6] (by kernel_rfl)
  ) ?_
 refine CodeOk.ret ?_
 have h := Option.some.inj h
 subst h
 exact Ends.gen [] (.inr rfl) (RetV.one rfl (OneR.tmp (t := 6) (r := V.bool y1) (by kernel_rfl))) (by kernel_rfl) (by kernel_rfl) (by kernel_rfl)

theorem m_impl_docNodeOk_ok (a0 : SDNode) {r : Bool} (h : m_impl_docNodeOk a0 = some r) :
    AC Tryd.prog (GS []) 36 [.agg [V.int a0.Kind, V.int a0.N, V.str a0.Text, .sl false false (a0.Kids.map encI)]] [] (V.bool r) [] := by
 rw [m_impl_docNodeOk] at h
 refine AC.enter Tryd.func36 rfl ?_
 refine cu D_ok mix 2 100 (tl 61 [(1, .loc 100 0)]) [(100, .cells 51 [V.int a0.Kind, V.int a0.N, V.str a0.Text, .sl false false (a0.Kids.map encI)])] (by kernel_rfl) ?_
 refine CodeOk.seq' ?_
 (revert h; refine bind_rev fun y2 hv15 h => ?_)
 refine CodeOk.cutR (tl 61 [(1, .loc 100 0), (20, V.bool y2)]) [(100, .cells 51 [V.int a0.Kind, V.int a0.N, V.str a0.Text, .sl false false (a0.Kids.map encI)])] mix (by
  refine W.run D_ok 4 101 (by kernel_rfl) ?_
  (revert hv15; refine cond_rev (fun hc16 hv15 => ?_) (fun hc16 hv15 => ?_))
  ·refine W.is 6 hc16 (by kernel_rfl) ?_
   refine W.run D_ok 5 101 (by kernel_rfl) ?_
   (revert hv15; refine cond_rev (fun hc17 hv15 => ?_) (fun hc17 hv15 => ?_))
   ·refine W.is 11 hc17 (by kernel_rfl) ?_
    refine W.run D_ok 9 101 (by kernel_rfl) ?_
    have hv15 := Option.some.inj hv15
    subst hv15
    exact W.fs [(100, 100)] [1, 20] (by kernel_rfl)
   refine W.is 11 hc17 (by kernel_rfl) ?_
   refine W.run D_ok 4 101 (by kernel_rfl) ?_
   (revert hv15; refine cond_rev (fun hc18 hv15 => ?_) (fun hc18 hv15 => ?_))
   ·refine W.is 15 hc18 (by kernel_rfl) ?_
    refine W.run D_ok 5 101 (by kernel_rfl) ?_
    have hv15 := Option.some.inj hv15
    subst hv15
    exact W.fs [(100, 100)] [1, 20] (by kernel_rfl)
   refine W.is 15 hc18 (by kernel_rfl) ?_
   refine W.run D_ok 5 101 (by kernel_rfl) ?_
   have hv15 := Option.some.inj hv15
   subst hv15
   exact W.fs [(100, 100)] [1, 20] (by kernel_rfl)
  refine W.is 6 hc16 (by kernel_rfl) ?_
  refine W.run D_ok 9 101 (by kernel_rfl) ?_
  (revert hv15; refine cond_rev (fun hc19 hv15 => ?_) (fun hc19 hv15 => ?_))
  ·refine W.is 15 hc19 (by kernel_rfl) ?_
   refine W.run D_ok 5 101 (by kernel_rfl) ?_
   have hv15 := Option.some.inj hv15
   subst hv15
   exact W.fs [(100, 100)] [1, 20] (by kernel_rfl)
  refine W.is 15 hc19 (by kernel_rfl) ?_
  refine W.run D_ok 5 101 (by kernel_rfl) ?_
  have hv15 := Option.some.inj hv15
  subst hv15
  exact W.fs [(100, 100)] [1, 20] (by kernel_rfl)
  ) ?_
 (revert h; refine cond_rev (fun hc20 h => ?_) (fun hc20 h => ?_))
 ·refine CodeOk.ifT hc20 (by kernel_rfl) ?_
  refine cu D_ok mix 1 101 (tl 61 [(2, V.bool false)]) [] (by kernel_rfl) ?_
  refine CodeOk.ret ?_
  have h := Option.some.inj h
  subst h
  exact Ends.gen [] (.inr rfl) (RetV.one rfl (OneR.tmp (t := 2) (r := V.bool false) (by kernel_rfl))) (by kernel_rfl) (by kernel_rfl) (by kernel_rfl)
 refine CodeOk.ifF hc20 (by kernel_rfl) ?_
 refine CodeOk.skip ?_
 refine CodeOk.seq' ?_
 refine cu D_ok mix 2 101 (tl 61 [(1, .loc 100 0), (22, V.int a0.Kind)]) [(100, .cells 51 [V.int a0.Kind, V.int a0.N, V.str a0.Text, .sl false false (a0.Kids.map encI)])] (by kernel_rfl) ?_
 refine CodeOk.block' ?_
 refine cu D_ok mix 2 101 (tl 61 [(1, .loc 100 0), (22, V.int a0.Kind), (23, V.bool (a0.Kind == 1))]) [(100, .cells 51 [V.int a0.Kind, V.int a0.N, V.str a0.Text, .sl false false (a0.Kids.map encI)])] (by kernel_rfl) ?_
 (revert h; refine cond_rev (fun hc40 h => ?_) (fun hc40 h => ?_))
 ·refine CodeOk.ifT hc40 (by kernel_rfl) ?_
  (revert h; refine bind_rev fun y11 hv43 h => ?_)
  refine CodeOk.cutR (tl 61 [(2, V.bool y11)]) [] mix (by
   refine W.run D_ok 2 101 (by kernel_rfl) ?_
   (revert hv43; refine bind_rev fun r12 hx44 hv43 => ?_)
   refine W.call0 (m_strings_Contains_ok a0.Text hx44) cok51 rfl (by kernel_rfl) ?_
   refine W.run D_ok 2 101 (by kernel_rfl) ?_
   (revert hv43; refine cond_rev (fun hc45 hv43 => ?_) (fun hc45 hv43 => ?_))
   ·refine W.is 29 hc45 (by kernel_rfl) ?_
    refine W.run D_ok 2 101 (by kernel_rfl) ?_
    refine W.len D_ok encI a0.Kids [] (by kernel_rfl) (by kernel_rfl) ?_
    refine W.run D_ok 3 101 (by kernel_rfl) ?_
    have hv43 := Option.some.inj hv43
    subst hv43
    exact W.fs [] [2] (by kernel_rfl)
   refine W.is 29 hc45 (by kernel_rfl) ?_
   refine W.run D_ok 6 101 (by kernel_rfl) ?_
   have hv43 := Option.some.inj hv43
   subst hv43
   exact W.fs [] [2] (by kernel_rfl)
   ) ?_
  refine CodeOk.ret ?_
  have h := Option.some.inj h
  subst h
  exact Ends.gen [] (.inr rfl) (RetV.one rfl (OneR.tmp (t := 2) (r := V.bool y11) (by kernel_rfl))) (by kernel_rfl) (by kernel_rfl) (by kernel_rfl)
 refine CodeOk.ifF hc40 (by kernel_rfl) ?_
 refine CodeOk.join (fun (⟨a0, y13⟩ : (SDNode × Bool)) => ⟨tl 61 [(1, .loc 100 0), (22, V.int a0.Kind), (35, V.bool y13)], [(100, .cells 51 [V.int a0.Kind, V.int a0.N, V.str a0.Text, .sl false false (a0.Kids.map encI)])]⟩) (fun i => m_impl_docNodeOk_k1 i = some r) ?_ ?_
 · rintro ⟨a0, y13⟩ h47
   rw [m_impl_docNodeOk_k1] at h47
   (revert h47; refine cond_rev (fun hc48 h47 => ?_) (fun hc48 h47 => ?_))
   ·refine CodeOk.ifT hc48 (by kernel_rfl) ?_
    refine CodeOk.cutR (tl 61 [(2, V.bool ((a0.Kids.length : Int) == 0))]) [] mix (by
     refine W.run D_ok 2 101 (by kernel_rfl) ?_
     refine W.len D_ok encI a0.Kids [] (by kernel_rfl) (by kernel_rfl) ?_
     refine W.run D_ok 2 101 (by kernel_rfl) ?_
     exact W.fi (by kernel_rfl)
     ) ?_
    refine CodeOk.ret ?_
    have h47 := Option.some.inj h47
    subst h47
    exact Ends.gen [] (.inr rfl) (RetV.one rfl (OneR.tmp (t := 2) (r := V.bool ((a0.Kids.length : Int) == 0)) (by kernel_rfl))) (by kernel_rfl) (by kernel_rfl) (by kernel_rfl)
   refine CodeOk.ifF hc48 (by kernel_rfl) ?_
   refine cu D_ok mix 2 101 (tl 61 [(1, .loc 100 0), (22, V.int a0.Kind), (42, V.bool (a0.Kind == 4))]) [(100, .cells 51 [V.int a0.Kind, V.int a0.N, V.str a0.Text, .sl false false (a0.Kids.map encI)])] (by kernel_rfl) ?_
   (revert h47; refine cond_rev (fun hc49 h47 => ?_) (fun hc49 h47 => ?_))
   ·refine CodeOk.ifT hc49 (by kernel_rfl) ?_
    (revert h47; refine bind_rev fun y15 hv52 h47 => ?_)
    refine CodeOk.cutR (tl 61 [(2, V.bool y15)]) [] mix (by
     refine W.run D_ok 2 101 (by kernel_rfl) ?_
     (revert hv52; refine bind_rev fun r16 hx53 hv52 => ?_)
     refine W.call0 (m_impl_within_ok a0.N 0 40 hx53) cok27 rfl (by kernel_rfl) ?_
     refine W.run D_ok 1 101 (by kernel_rfl) ?_
     (revert hv52; refine cond_rev (fun hc54 hv52 => ?_) (fun hc54 hv52 => ?_))
     ·refine W.is 47 hc54 (by kernel_rfl) ?_
      refine W.run D_ok 2 101 (by kernel_rfl) ?_
      refine W.len D_ok encI a0.Kids [] (by kernel_rfl) (by kernel_rfl) ?_
      refine W.run D_ok 3 101 (by kernel_rfl) ?_
      have hv52 := Option.some.inj hv52
      subst hv52
      exact W.fs [] [2] (by kernel_rfl)
     refine W.is 47 hc54 (by kernel_rfl) ?_
     refine W.run D_ok 6 101 (by kernel_rfl) ?_
     have hv52 := Option.some.inj hv52
     subst hv52
     exact W.fs [] [2] (by kernel_rfl)
     ) ?_
    refine CodeOk.ret ?_
    have h47 := Option.some.inj h47
    subst h47
    exact Ends.gen [] (.inr rfl) (RetV.one rfl (OneR.tmp (t := 2) (r := V.bool y15) (by kernel_rfl))) (by kernel_rfl) (by kernel_rfl) (by kernel_rfl)
   refine CodeOk.ifF hc49 (by kernel_rfl) ?_
   refine cu D_ok mix 2 101 (tl 61 [(1, .loc 100 0), (22, V.int a0.Kind), (53, V.bool (a0.Kind == 5))]) [(100, .cells 51 [V.int a0.Kind, V.int a0.N, V.str a0.Text, .sl false false (a0.Kids.map encI)])] (by kernel_rfl) ?_
   (revert h47; refine cond_rev (fun hc55 h47 => ?_) (fun hc55 h47 => ?_))
   ·refine CodeOk.ifT hc55 (by kernel_rfl) ?_
    refine CodeOk.cutR (tl 61 [(2, V.bool ((a0.Kids.length : Int) == 1))]) [] mix (by
     refine W.run D_ok 2 101 (by kernel_rfl) ?_
     refine W.len D_ok encI a0.Kids [] (by kernel_rfl) (by kernel_rfl) ?_
     refine W.run D_ok 2 101 (by kernel_rfl) ?_
     exact W.fi (by kernel_rfl)
     ) ?_
    refine CodeOk.ret ?_
    have h47 := Option.some.inj h47
    subst h47
    exact Ends.gen [] (.inr rfl) (RetV.one rfl (OneR.tmp (t := 2) (r := V.bool ((a0.Kids.length : Int) == 1)) (by kernel_rfl))) (by kernel_rfl) (by kernel_rfl) (by kernel_rfl)
   refine CodeOk.ifF hc55 (by kernel_rfl) ?_
   refine cu D_ok mix 2 101 (tl 61 [(59, V.bool (a0.Kind == 6))]) [] (by kernel_rfl) ?_
   (revert h47; refine cond_rev (fun hc56 h47 => ?_) (fun hc56 h47 => ?_))
   ·refine CodeOk.ifT hc56 (by kernel_rfl) ?_
    refine cu D_ok mix 1 101 (tl 61 [(2, V.bool true)]) [] (by kernel_rfl) ?_
    refine CodeOk.ret ?_
    have h47 := Option.some.inj h47
    subst h47
    exact Ends.gen [] (.inr rfl) (RetV.one rfl (OneR.tmp (t := 2) (r := V.bool true) (by kernel_rfl))) (by kernel_rfl) (by kernel_rfl) (by kernel_rfl)
   refine CodeOk.ifF hc56 (by kernel_rfl) ?_
   refine CodeOk.skip ?_
   refine cu D_ok mix 1 101 (tl 61 [(2, V.bool false)]) [] (by kernel_rfl) ?_
   refine CodeOk.ret ?_
   have h47 := Option.some.inj h47
   subst h47
   exact Ends.gen [] (.inr rfl) (RetV.one rfl (OneR.tmp (t := 2) (r := V.bool false) (by kernel_rfl))) (by kernel_rfl) (by kernel_rfl) (by kernel_rfl)
 intro hk57
 refine cu D_ok mix 2 101 (tl 61 [(1, .loc 100 0), (22, V.int a0.Kind), (35, V.bool (a0.Kind == 2))]) [(100, .cells 51 [V.int a0.Kind, V.int a0.N, V.str a0.Text, .sl false false (a0.Kids.map encI)])] (by kernel_rfl) ?_
 (revert h; refine cond_rev (fun hc58 h => ?_) (fun hc58 h => ?_))
 ·refine CodeOk.ifT hc58 (by kernel_rfl) ?_
  refine CodeOk.skip ?_
  exact hk57 (a0, (a0.Kind == 2)) h _ (Weak.sel [(100, 100)] [1, 22, 35] (by kernel_rfl) (by kernel_rfl) (by kernel_rfl))
 refine CodeOk.ifF hc58 (by kernel_rfl) ?_
 refine ce D_ok mix 2 101 (tl 61 [(1, .loc 100 0), (22, V.int a0.Kind), (35, V.bool (a0.Kind == 3))]) [(100, .cells 51 [V.int a0.Kind, V.int a0.N, V.str a0.Text, .sl false false (a0.Kids.map encI)])] (by kernel_rfl) (fun st hw => ?_)
 exact hk57 (a0, (a0.Kind == 3)) h _ (hw.trans (Weak.sel [(100, 100)] [1, 22, 35] (by kernel_rfl) (by kernel_rfl) (by kernel_rfl)))

theorem m_impl_docStarts_ok (N : Nat) (a0 : List SDNode) {r : ((List Int) × Bool)} (h : m_impl_docStarts N a0 = some r) :
    AC Tryd.prog (GS []) 37 [.sl false false (a0.map (encSDNode false))] [] (.tup [.own 100, V.bool r.2]) [(100, .vec false 3 1 (r.1.map encI))] := by
 rw [m_impl_docStarts] at h
 refine AC.enter Tryd.func37 rfl ?_
 refine cu D_ok mix 2 100 (tl 63 [(0, .sl false false (a0.map (encSDNode false)))]) [] (by kernel_rfl) ?_
 refine CodeOk.seq' ?_
 (revert h; refine bind_rev fun r4 hx5 h => ?_)
 refine CodeOk.cutR (tl 63 [(0, .sl false false (a0.map (encSDNode false))), (12, V.bool (!r4))]) [] mix (by
  refine W.run D_ok 1 100 (by kernel_rfl) ?_
  refine W.len D_ok (encSDNode false) a0 [] (by kernel_rfl) (by kernel_rfl) ?_
  refine W.call0 (m_impl_within_ok (a0.length : Int) 1 4000 hx5) cok27 rfl (by kernel_rfl) ?_
  refine W.run D_ok 1 100 (by kernel_rfl) ?_
  exact W.fi (by kernel_rfl)
  ) ?_
 (revert h; refine cond_rev (fun hc6 h => ?_) (fun hc6 h => ?_))
 ·refine CodeOk.ifT hc6 (by kernel_rfl) ?_
  refine cu D_ok mix 2 100 (tl 63 [(2, .c (.slice none 0 0)), (3, V.bool false)]) [] (by kernel_rfl) ?_
  refine CodeOk.weak (Weak.nil 2 100 3 1 (by kernel_rfl) (by kernel_rfl)) ?_
  refine CodeOk.ret ?_
  have h := Option.some.inj h
  subst h
  exact Ends.gen [(100, 100)] (.inr rfl) (RetV.two rfl (OneR.tmp (t := 2) (r := .own 100) (by kernel_rfl)) (OneR.tmp (t := 3) (r := V.bool false) (by kernel_rfl))) (by kernel_rfl) (by kernel_rfl) (by kernel_rfl)
 refine CodeOk.ifF hc6 (by kernel_rfl) ?_
 refine CodeOk.skip ?_
 (revert h; refine bind_rev fun x6 hx8 h => ?_)
 refine CodeOk.cutR (tl 63 [(0, .sl false false (a0.map (encSDNode false))), (4, .own 100)]) [(100, .vec false 3 1 (x6.map encI))] mix (by
  refine W.run D_ok 1 100 (by kernel_rfl) ?_
  refine W.len D_ok (encSDNode false) a0 [] (by kernel_rfl) (by kernel_rfl) ?_
  refine W.mk D_ok encI 8 hx8 100 3 1 [.int .i64 0] (by kernel_rfl) (by kernel_rfl) ?_
  refine W.run D_ok 1 101 (by kernel_rfl) ?_
  exact W.fi (by kernel_rfl)
  ) ?_
 refine CodeOk.seq' ?_
 refine CodeOk.cutR (tl 63 [(0, .sl false false (a0.map (encSDNode false))), (4, .own 100), (16, .sl false false (a0.map (encSDNode false))), (17, V.int (a0.length : Int)), (18, V.int 0)]) [(100, .vec false 3 1 (x6.map encI))] mix (by
  refine W.run D_ok 1 101 (by kernel_rfl) ?_
  refine W.len D_ok (encSDNode false) a0 [] (by kernel_rfl) (by kernel_rfl) ?_
  refine W.run D_ok 1 101 (by kernel_rfl) ?_
  exact W.fi (by kernel_rfl)
  ) ?_
 refine CodeOk.block' ?_
 refine CodeOk.loopJ (fun (⟨a0, y475, y476⟩ : ((List SDNode) × Int × (List Int))) => ⟨tl 63 [(0, .sl false false (a0.map (encSDNode false))), (4, .own 100), (16, .sl false false (a0.map (encSDNode false))), (17, V.int (a0.length : Int)), (18, V.int y475)], [(100, .vec false 3 1 (y476.map encI))]⟩) (fun n i => m_impl_docStarts_l1 N n i = some r) (n0 := N) (i0 := (a0, 0, x6)) (Weak.sel [(100, 100)] [0, 4, 16, 17, 18] (by kernel_rfl) (by kernel_rfl) (by kernel_rfl)) h (fun i h => by simp [m_impl_docStarts_l1] at h) ?_
 rintro n1 ⟨a0, y475, y476⟩ h1233 ih1234
 rw [m_impl_docStarts_l1] at h1233
 refine cu D_ok mix 1 243 (tl 63 [(0, .sl false false (a0.map (encSDNode false))), (4, .own 100), (16, .sl false false (a0.map (encSDNode false))), (17, V.int (a0.length : Int)), (18, V.int y475), (19, V.bool (decide (y475 < (a0.length : Int))))]) [(100, .vec false 3 1 (y476.map encI))] (by kernel_rfl) ?_
 refine CodeOk.seq' ?_
 (revert h1233; refine cond_rev (fun hc1236 h1233 => ?_) (fun hc1236 h1233 => ?_))
 ·refine CodeOk.ifT hc1236 (by kernel_rfl) ?_
  refine CodeOk.skip ?_
  refine CodeOk.seq' ?_
  refine CodeOk.block' ?_
  (revert h1233; refine bind_rev fun e810 hx1428 h1233 => ?_)
  refine CodeOk.cutR (tl 63 [(0, .sl false false (a0.map (encSDNode false))), (4, .own 100), (5, V.int y475), (6, .loc 243 0), (16, .sl false false (a0.map (encSDNode false))), (17, V.int (a0.length : Int)), (18, V.int y475)]) [(243, .cells 51 [V.int e810.Kind, V.int e810.N, V.str e810.Text, .sl false false (e810.Kids.map encI)]), (100, .vec false 3 1 (y476.map encI))] mix (by
   refine W.run D_ok 1 243 (by kernel_rfl) ?_
   refine W.ixD D_ok (encSDNode false) hx1428 4 (by kernel_rfl) (by kernel_rfl) ?_
   refine W.run D_ok 4 243 (by kernel_rfl) ?_
   exact W.fi (by kernel_rfl)
   ) ?_
  refine cu D_ok mix 3 244 (tl 63 [(0, .sl false false (a0.map (encSDNode false))), (4, .own 100), (5, V.int y475), (6, .loc 243 0), (7, V.int (IntKind.wrap .i64 (y475 - 1))), (16, .sl false false (a0.map (encSDNode false))), (17, V.int (a0.length : Int)), (18, V.int y475)]) [(243, .cells 51 [V.int e810.Kind, V.int e810.N, V.str e810.Text, .sl false false (e810.Kids.map encI)]), (100, .vec false 3 1 (y476.map encI))] (by kernel_rfl) ?_
  refine CodeOk.seq' ?_
  refine CodeOk.cutR (tl 63 [(0, .sl false false (a0.map (encSDNode false))), (4, .own 100), (5, V.int y475), (6, .loc 243 0), (7, V.int (IntKind.wrap .i64 (y475 - 1))), (8, V.int (IntKind.wrap .i64 ((e810.Kids.length : Int) - 1))), (16, .sl false false (a0.map (encSDNode false))), (17, V.int (a0.length : Int)), (18, V.int y475)]) [(243, .cells 51 [V.int e810.Kind, V.int e810.N, V.str e810.Text, .sl false false (e810.Kids.map encI)]), (100, .vec false 3 1 (y476.map encI))] mix (by
   refine W.run D_ok 2 244 (by kernel_rfl) ?_
   refine W.len D_ok encI e810.Kids [] (by kernel_rfl) (by kernel_rfl) ?_
   refine W.run D_ok 2 244 (by kernel_rfl) ?_
   exact W.fi (by kernel_rfl)
   ) ?_
  refine CodeOk.block' ?_
  refine CodeOk.loopJ (fun (⟨a0, y475, y476, e810, y879, y880⟩ : ((List SDNode) × Int × (List Int) × SDNode × Int × Int)) => ⟨tl 63 [(0, .sl false false (a0.map (encSDNode false))), (4, .own 100), (5, V.int y475), (6, .loc 101 0), (7, V.int y879), (8, V.int y880), (16, .sl false false (a0.map (encSDNode false))), (17, V.int (a0.length : Int)), (18, V.int y475)], [(100, .vec false 3 1 (y476.map encI)), (101, .cells 51 [V.int e810.Kind, V.int e810.N, V.str e810.Text, .sl false false (e810.Kids.map encI)])]⟩) (fun n i => m_impl_docStarts_l2 N (m_impl_docStarts_l1 N n1) n i = some r) (n0 := N) (i0 := (a0, y475, y476, e810, (IntKind.wrap .i64 (y475 - 1)), (IntKind.wrap .i64 ((e810.Kids.length : Int) - 1)))) (Weak.sel [(100, 100), (243, 101)] [0, 4, 5, 6, 7, 8, 16, 17, 18] (by kernel_rfl) (by kernel_rfl) (by kernel_rfl)) h1233 (fun i h => by simp [m_impl_docStarts_l2] at h) ?_
  rintro n2 ⟨a0, y475, y476, e810, y879, y880⟩ h1581 ih1582
  rw [m_impl_docStarts_l2] at h1581
  refine CodeOk.seq' ?_
  refine cu D_ok mix 2 304 (tl 63 [(0, .sl false false (a0.map (encSDNode false))), (4, .own 100), (5, V.int y475), (6, .loc 101 0), (7, V.int y879), (8, V.int y880), (16, .sl false false (a0.map (encSDNode false))), (17, V.int (a0.length : Int)), (18, V.int y475), (30, V.bool (decide (y880 ≥ 0)))]) [(100, .vec false 3 1 (y476.map encI)), (101, .cells 51 [V.int e810.Kind, V.int e810.N, V.str e810.Text, .sl false false (e810.Kids.map encI)])] (by kernel_rfl) ?_
  (revert h1581; refine cond_rev (fun hc1584 h1581 => ?_) (fun hc1584 h1581 => ?_))
  ·refine CodeOk.ifT hc1584 (by kernel_rfl) ?_
   refine CodeOk.skip ?_
   refine CodeOk.seq' ?_
   refine CodeOk.block' ?_
   refine CodeOk.seq' ?_
   (revert h1581; refine bind_rev fun y911 hv1607 h1581 => ?_)
   refine CodeOk.cutR (tl 63 [(0, .sl false false (a0.map (encSDNode false))), (4, .own 100), (5, V.int y475), (6, .loc 101 0), (7, V.int y879), (8, V.int y880), (16, .sl false false (a0.map (encSDNode false))), (17, V.int (a0.length : Int)), (18, V.int y475), (43, V.bool y911)]) [(100, .vec false 3 1 (y476.map encI)), (101, .cells 51 [V.int e810.Kind, V.int e810.N, V.str e810.Text, .sl false false (e810.Kids.map encI)])] mix (by
    refine W.run D_ok 3 304 (by kernel_rfl) ?_
    (revert hv1607; refine cond_rev (fun hc1608 hv1607 => ?_) (fun hc1608 hv1607 => ?_))
    ·refine W.is 35 hc1608 (by kernel_rfl) ?_
     refine W.run D_ok 8 304 (by kernel_rfl) ?_
     have hv1607 := Option.some.inj hv1607
     subst hv1607
     exact W.fs [(100, 100), (101, 101)] [0, 4, 5, 6, 7, 8, 16, 17, 18, 43] (by kernel_rfl)
    refine W.is 35 hc1608 (by kernel_rfl) ?_
    refine W.run D_ok 3 304 (by kernel_rfl) ?_
    (revert hv1607; refine bind_rev fun e912 hx1609 hv1607 => ?_)
    refine W.ixD D_ok encI hx1609 1 (by kernel_rfl) (by kernel_rfl) ?_
    refine W.run D_ok 4 304 (by kernel_rfl) ?_
    have hv1607 := Option.some.inj hv1607
    subst hv1607
    exact W.fs [(100, 100), (101, 101)] [0, 4, 5, 6, 7, 8, 16, 17, 18, 43] (by kernel_rfl)
    ) ?_
   (revert h1581; refine cond_rev (fun hc1610 h1581 => ?_) (fun hc1610 h1581 => ?_))
   ·refine CodeOk.ifT hc1610 (by kernel_rfl) ?_
    refine cu D_ok mix 2 304 (tl 63 [(2, .c (.slice none 0 0)), (3, V.bool false)]) [] (by kernel_rfl) ?_
    refine CodeOk.weak (Weak.nil 2 304 3 1 (by kernel_rfl) (by kernel_rfl)) ?_
    refine CodeOk.ret ?_
    have h1581 := Option.some.inj h1581
    subst h1581
    exact Ends.gen [(304, 100)] (.inr rfl) (RetV.two rfl (OneR.tmp (t := 2) (r := .own 304) (by kernel_rfl)) (OneR.tmp (t := 3) (r := V.bool false) (by kernel_rfl))) (by kernel_rfl) (by kernel_rfl) (by kernel_rfl)
   refine CodeOk.ifF hc1610 (by kernel_rfl) ?_
   refine CodeOk.skip ?_
   (revert h1581; refine bind_rev fun e914 hx1612 h1581 => ?_)
   refine CodeOk.endR (tl 63 [(0, .sl false false (a0.map (encSDNode false))), (4, .own 100), (5, V.int y475), (6, .loc 101 0), (7, V.int (IntKind.wrap .i64 (e914 - 1))), (8, V.int y880), (16, .sl false false (a0.map (encSDNode false))), (17, V.int (a0.length : Int)), (18, V.int y475)]) [(100, .vec false 3 1 (y476.map encI)), (101, .cells 51 [V.int e810.Kind, V.int e810.N, V.str e810.Text, .sl false false (e810.Kids.map encI)])] mix (by
    refine W.run D_ok 2 304 (by kernel_rfl) ?_
    refine W.ixO D_ok encI hx1612 100 1 (by kernel_rfl) ?_
    refine W.ldO D_ok encI hx1612 3 100 0 (V.int e914) (by kernel_rfl) (by kernel_rfl) ?_
    refine W.run D_ok 2 304 (by kernel_rfl) ?_
    exact W.fi (by kernel_rfl)
    ) (fun st hw => ?_)
   refine CodeOk.weak hw ?_
   refine ce D_ok mix 3 304 (tl 63 [(0, .sl false false (a0.map (encSDNode false))), (4, .own 100), (5, V.int y475), (6, .loc 101 0), (7, V.int (IntKind.wrap .i64 (e914 - 1))), (8, V.int (IntKind.wrap .i64 (y880 - 1))), (16, .sl false false (a0.map (encSDNode false))), (17, V.int (a0.length : Int)), (18, V.int y475)]) [(100, .vec false 3 1 (y476.map encI)), (101, .cells 51 [V.int e810.Kind, V.int e810.N, V.str e810.Text, .sl false false (e810.Kids.map encI)])] (by kernel_rfl) (fun st hw => ?_)
   exact ih1582 (a0, y475, y476, e810, (IntKind.wrap .i64 (e914 - 1)), (IntKind.wrap .i64 (y880 - 1))) h1581 _ (hw.trans (Weak.sel [(100, 100), (101, 101)] [0, 4, 5, 6, 7, 8, 16, 17, 18] (by kernel_rfl) (by kernel_rfl) (by kernel_rfl)))
  refine CodeOk.ifF hc1584 (by kernel_rfl) ?_
  refine CodeOk.exit ?_
  (revert h1581; refine bind_rev fun e917 hx1615 h1581 => ?_)
  (revert h1581; refine bind_rev fun x918 hu1616 h1581 => ?_)
  refine CodeOk.endR (tl 63 [(0, .sl false false (a0.map (encSDNode false))), (4, .own 100), (16, .sl false false (a0.map (encSDNode false))), (17, V.int (a0.length : Int)), (18, V.int y475)]) [(100, .vec false 3 1 (x918.map encI))] mix (by
   refine W.run D_ok 4 304 (by kernel_rfl) ?_
   refine W.ixO D_ok encI hx1615 100 1 (by kernel_rfl) ?_
   refine W.stO D_ok encI (x' := (IntKind.wrap .i64 (y879 + 1))) hx1615 hu1616 (j := 100) (nn := false) (ety := 3) (sz := 1) (b := 0) (ys := [V.int (IntKind.wrap .i64 (y879 + 1))]) (C := []) (R := []) (by kernel_rfl) (by kernel_rfl) ?_
   exact W.fi (by kernel_rfl)
   ) (fun st hw => ?_)
  refine CodeOk.weak hw ?_
  refine ce D_ok mix 2 304 (tl 63 [(0, .sl false false (a0.map (encSDNode false))), (4, .own 100), (16, .sl false false (a0.map (encSDNode false))), (17, V.int (a0.length : Int)), (18, V.int (IntKind.wrap .i64 (y475 + 1)))]) [(100, .vec false 3 1 (x918.map encI))] (by kernel_rfl) (fun st hw => ?_)
  exact ih1234 (a0, (IntKind.wrap .i64 (y475 + 1)), x918) h1581 _ (hw.trans (Weak.sel [(100, 100)] [0, 4, 16, 17, 18] (by kernel_rfl) (by kernel_rfl) (by kernel_rfl)))
 refine CodeOk.ifF hc1236 (by kernel_rfl) ?_
 refine CodeOk.exit ?_
 (revert h1233; refine bind_rev fun e920 hx1618 h1233 => ?_)
 refine CodeOk.cutR (tl 63 [(2, .own 100), (3, V.bool (e920 == 0))]) [(100, .vec false 3 1 (y476.map encI))] mix (by
  refine W.run D_ok 3 243 (by kernel_rfl) ?_
  refine W.len D_ok (encSDNode false) a0 [] (by kernel_rfl) (by kernel_rfl) ?_
  refine W.run D_ok 1 243 (by kernel_rfl) ?_
  refine W.ixO D_ok encI hx1618 100 1 (by kernel_rfl) ?_
  refine W.ldO D_ok encI hx1618 3 100 0 (V.int e920) (by kernel_rfl) (by kernel_rfl) ?_
  refine W.run D_ok 3 243 (by kernel_rfl) ?_
  exact W.fi (by kernel_rfl)
  ) ?_
 refine CodeOk.ret ?_
 have h1233 := Option.some.inj h1233
 subst h1233
 exact Ends.gen [(100, 100)] (.inr rfl) (RetV.two rfl (OneR.tmp (t := 2) (r := .own 100) (by kernel_rfl)) (OneR.tmp (t := 3) (r := V.bool (e920 == 0)) (by kernel_rfl))) (by kernel_rfl) (by kernel_rfl) (by kernel_rfl)

theorem m_impl_DocOk_ok (N : Nat) (a0 : List SDNode) {r : Bool} (h : m_impl_DocOk N a0 = some r) :
    AC Tryd.prog (GS []) 19 [.sl false false (a0.map (encSDNode false))] [] (V.bool r) [] := by
 rw [m_impl_DocOk] at h
 refine AC.enter Tryd.func19 rfl ?_
 refine cu D_ok mix 1 100 (tl 23 [(0, .sl false false (a0.map (encSDNode false)))]) [] (by kernel_rfl) ?_
 refine CodeOk.seq' ?_
 refine CodeOk.cutR (tl 23 [(0, .sl false false (a0.map (encSDNode false))), (7, .sl false false (a0.map (encSDNode false))), (8, V.int (a0.length : Int)), (9, V.int 0)]) [] mix (by
  refine W.run D_ok 1 100 (by kernel_rfl) ?_
  refine W.len D_ok (encSDNode false) a0 [] (by kernel_rfl) (by kernel_rfl) ?_
  refine W.run D_ok 1 100 (by kernel_rfl) ?_
  exact W.fi (by kernel_rfl)
  ) ?_
 refine CodeOk.block' ?_
 refine CodeOk.loopJ (fun (⟨a0, y35⟩ : ((List SDNode) × Int)) => ⟨tl 23 [(0, .sl false false (a0.map (encSDNode false))), (7, .sl false false (a0.map (encSDNode false))), (8, V.int (a0.length : Int)), (9, V.int y35)], []⟩) (fun n i => m_impl_DocOk_l1 N n i = some r) (n0 := N) (i0 := (a0, 0)) (Weak.sel [] [0, 7, 8, 9] (by kernel_rfl) (by kernel_rfl) (by kernel_rfl)) h (fun i h => by simp [m_impl_DocOk_l1] at h) ?_
 rintro n1 ⟨a0, y35⟩ h63 ih64
 rw [m_impl_DocOk_l1] at h63
 refine cu D_ok mix 1 162 (tl 23 [(0, .sl false false (a0.map (encSDNode false))), (7, .sl false false (a0.map (encSDNode false))), (8, V.int (a0.length : Int)), (9, V.int y35), (10, V.bool (decide (y35 < (a0.length : Int))))]) [] (by kernel_rfl) ?_
 refine CodeOk.seq' ?_
 (revert h63; refine cond_rev (fun hc66 h63 => ?_) (fun hc66 h63 => ?_))
 ·refine CodeOk.ifT hc66 (by kernel_rfl) ?_
  refine CodeOk.skip ?_
  refine CodeOk.seq' ?_
  refine CodeOk.block' ?_
  (revert h63; refine bind_rev fun e50 hx73 h63 => ?_)
  refine CodeOk.cutR (tl 23 [(0, .sl false false (a0.map (encSDNode false))), (4, .loc 162 0), (7, .sl false false (a0.map (encSDNode false))), (8, V.int (a0.length : Int)), (9, V.int y35)]) [(162, .cells 51 [V.int e50.Kind, V.int e50.N, V.str e50.Text, .sl false false (e50.Kids.map encI)])] mix (by
   refine W.ixD D_ok (encSDNode false) hx73 4 (by kernel_rfl) (by kernel_rfl) ?_
   refine W.run D_ok 3 162 (by kernel_rfl) ?_
   exact W.fi (by kernel_rfl)
   ) ?_
  (revert h63; refine bind_rev fun r52 hx75 h63 => ?_)
  refine CodeOk.cutR (tl 23 [(0, .sl false false (a0.map (encSDNode false))), (7, .sl false false (a0.map (encSDNode false))), (8, V.int (a0.length : Int)), (9, V.int y35), (15, V.bool (!r52))]) [] mix (by
   refine W.run D_ok 1 163 (by kernel_rfl) ?_
   refine W.call0 (m_impl_docNodeOk_ok e50 hx75) cok36 rfl (by kernel_rfl) ?_
   refine W.run D_ok 1 163 (by kernel_rfl) ?_
   exact W.fi (by kernel_rfl)
   ) ?_
  (revert h63; refine cond_rev (fun hc76 h63 => ?_) (fun hc76 h63 => ?_))
  ·refine CodeOk.ifT hc76 (by kernel_rfl) ?_
   refine cu D_ok mix 1 163 (tl 23 [(2, V.bool false)]) [] (by kernel_rfl) ?_
   refine CodeOk.ret ?_
   have h63 := Option.some.inj h63
   subst h63
   exact Ends.gen [] (.inr rfl) (RetV.one rfl (OneR.tmp (t := 2) (r := V.bool false) (by kernel_rfl))) (by kernel_rfl) (by kernel_rfl) (by kernel_rfl)
  refine CodeOk.ifF hc76 (by kernel_rfl) ?_
  refine CodeOk.skip ?_
  refine ce D_ok mix 2 163 (tl 23 [(0, .sl false false (a0.map (encSDNode false))), (7, .sl false false (a0.map (encSDNode false))), (8, V.int (a0.length : Int)), (9, V.int (IntKind.wrap .i64 (y35 + 1)))]) [] (by kernel_rfl) (fun st hw => ?_)
  exact ih64 (a0, (IntKind.wrap .i64 (y35 + 1))) h63 _ (hw.trans (Weak.sel [] [0, 7, 8, 9] (by kernel_rfl) (by kernel_rfl) (by kernel_rfl)))
 refine CodeOk.ifF hc66 (by kernel_rfl) ?_
 refine CodeOk.exit ?_
 (revert h63; refine bind_rev fun r54 hx78 h63 => ?_)
 refine CodeOk.cutR (tl 23 [(6, V.bool r54.2)]) [] mix (by
  refine W.run D_ok 1 162 (by kernel_rfl) ?_
  refine W.call (m_impl_docStarts_ok N a0 hx78) cok37 [] [(100, 162)] [162] (show LayOk _ [] from trivial) (by kernel_rfl) (by kernel_rfl) ?_
  refine W.run D_ok 5 163 (by kernel_rfl) ?_
  exact W.fi (by kernel_rfl)
  ) ?_
 refine cu D_ok mix 2 163 (tl 23 [(2, V.bool r54.2)]) [] (by kernel_rfl) ?_
 refine CodeOk.ret ?_
 have h63 := Option.some.inj h63
 subst h63
 exact Ends.gen [] (.inr rfl) (RetV.one rfl (OneR.tmp (t := 2) (r := V.bool r54.2) (by kernel_rfl))) (by kernel_rfl) (by kernel_rfl) (by kernel_rfl)

theorem m_impl_GroupsIn_ok (N : Nat) (a0 : List SDNode) {r : Int} (h : m_impl_GroupsIn N a0 = some r) :
    AC Tryd.prog (GS []) 15 [.sl false false (a0.map (encSDNode false))] [] (V.int r) [] := by
 rw [m_impl_GroupsIn] at h
 refine AC.enter Tryd.func15 rfl ?_
 refine cu D_ok mix 1 100 (tl 19 [(0, .sl false false (a0.map (encSDNode false)))]) [] (by kernel_rfl) ?_
 refine cu D_ok mix 1 100 (tl 19 [(0, .sl false false (a0.map (encSDNode false))), (3, V.int 0)]) [] (by kernel_rfl) ?_
 refine CodeOk.seq' ?_
 refine CodeOk.cutR (tl 19 [(3, V.int 0), (6, .sl false false (a0.map (encSDNode false))), (7, V.int (a0.length : Int)), (8, V.int 0)]) [] mix (by
  refine W.run D_ok 1 100 (by kernel_rfl) ?_
  refine W.len D_ok (encSDNode false) a0 [] (by kernel_rfl) (by kernel_rfl) ?_
  refine W.run D_ok 1 100 (by kernel_rfl) ?_
  exact W.fi (by kernel_rfl)
  ) ?_
 refine CodeOk.block' ?_
 refine CodeOk.loopJ (fun (⟨a0, y25, y26⟩ : ((List SDNode) × Int × Int)) => ⟨tl 19 [(3, V.int y25), (6, .sl false false (a0.map (encSDNode false))), (7, V.int (a0.length : Int)), (8, V.int y26)], []⟩) (fun n i => m_impl_GroupsIn_l1 N n i = some r) (n0 := N) (i0 := (a0, 0, 0)) (Weak.sel [] [3, 6, 7, 8] (by kernel_rfl) (by kernel_rfl) (by kernel_rfl)) h (fun i h => by simp [m_impl_GroupsIn_l1] at h) ?_
 rintro n1 ⟨a0, y25, y26⟩ h53 ih54
 rw [m_impl_GroupsIn_l1] at h53
 refine cu D_ok mix 1 162 (tl 19 [(3, V.int y25), (6, .sl false false (a0.map (encSDNode false))), (7, V.int (a0.length : Int)), (8, V.int y26), (9, V.bool (decide (y26 < (a0.length : Int))))]) [] (by kernel_rfl) ?_
 refine CodeOk.seq' ?_
 (revert h53; refine cond_rev (fun hc56 h53 => ?_) (fun hc56 h53 => ?_))
 ·refine CodeOk.ifT hc56 (by kernel_rfl) ?_
  refine CodeOk.skip ?_
  refine CodeOk.join (fun (⟨a0, y26, y36⟩ : ((List SDNode) × Int × Int)) => ⟨tl 19 [(3, V.int y36), (6, .sl false false (a0.map (encSDNode false))), (7, V.int (a0.length : Int)), (8, V.int y26)], []⟩) (fun i => m_impl_GroupsIn_k2 N (m_impl_GroupsIn_l1 N n1) i = some r) ?_ ?_
  · rintro ⟨a0, y26, y36⟩ h60
    rw [m_impl_GroupsIn_k2] at h60
    refine ce D_ok mix 2 163 (tl 19 [(3, V.int y36), (6, .sl false false (a0.map (encSDNode false))), (7, V.int (a0.length : Int)), (8, V.int (IntKind.wrap .i64 (y26 + 1)))]) [] (by kernel_rfl) (fun st hw => ?_)
    exact ih54 (a0, y36, (IntKind.wrap .i64 (y26 + 1))) h60 _ (hw.trans (Weak.sel [] [3, 6, 7, 8] (by kernel_rfl) (by kernel_rfl) (by kernel_rfl)))
  intro hk61
  refine CodeOk.block' ?_
  (revert h53; refine bind_rev fun e38 hx63 h53 => ?_)
  refine CodeOk.cutR (tl 19 [(3, V.int y25), (5, .loc 162 0), (6, .sl false false (a0.map (encSDNode false))), (7, V.int (a0.length : Int)), (8, V.int y26)]) [(162, .cells 51 [V.int e38.Kind, V.int e38.N, V.str e38.Text, .sl false false (e38.Kids.map encI)])] mix (by
   refine W.ixD D_ok (encSDNode false) hx63 4 (by kernel_rfl) (by kernel_rfl) ?_
   refine W.run D_ok 3 162 (by kernel_rfl) ?_
   exact W.fi (by kernel_rfl)
   ) ?_
  refine cu D_ok mix 3 163 (tl 19 [(3, V.int y25), (6, .sl false false (a0.map (encSDNode false))), (7, V.int (a0.length : Int)), (8, V.int y26), (14, V.bool (e38.Kind == 5))]) [] (by kernel_rfl) ?_
  (revert h53; refine cond_rev (fun hc64 h53 => ?_) (fun hc64 h53 => ?_))
  ·refine CodeOk.ifT hc64 (by kernel_rfl) ?_
   refine ce D_ok mix 3 163 (tl 19 [(3, V.int (IntKind.wrap .i64 (y25 + 1))), (6, .sl false false (a0.map (encSDNode false))), (7, V.int (a0.length : Int)), (8, V.int y26)]) [] (by kernel_rfl) (fun st hw => ?_)
   exact hk61 (a0, y26, (IntKind.wrap .i64 (y25 + 1))) h53 _ (hw.trans (Weak.sel [] [3, 6, 7, 8] (by kernel_rfl) (by kernel_rfl) (by kernel_rfl)))
  refine CodeOk.ifF hc64 (by kernel_rfl) ?_
  refine CodeOk.skip ?_
  exact hk61 (a0, y26, y25) h53 _ (Weak.sel [] [3, 6, 7, 8] (by kernel_rfl) (by kernel_rfl) (by kernel_rfl))
 refine CodeOk.ifF hc56 (by kernel_rfl) ?_
 refine CodeOk.exit ?_
 refine cu D_ok mix 2 162 (tl 19 [(2, V.int y25)]) [] (by kernel_rfl) ?_
 refine CodeOk.ret ?_
 have h53 := Option.some.inj h53
 subst h53
 exact Ends.gen [] (.inr rfl) (RetV.one rfl (OneR.tmp (t := 2) (r := V.int y25) (by kernel_rfl))) (by kernel_rfl) (by kernel_rfl) (by kernel_rfl)

structure RecOk2 (R : Rec2) : Prop where
  m_impl_docAt : ∀ (a0 : List SDNode) (a1 : Int) (r : SDoc), R.m_impl_docAt a0 a1 = some r → AC Tryd.prog (GS []) 38 [.sl false false (a0.map (encSDNode false)), V.int a1] [] (.agg [V.int r.kind, V.int r.n, V.str r.text, .sl false false (r.kids.map encSDoc), V.int r.group]) []

theorem m_impl_docAt_F_ok (N : Nat) (R : Rec2) (HR : RecOk2 R) (a0 : List SDNode) (a1 : Int) {r : SDoc} (h : m_impl_docAt_F N R a0 a1 = some r) :
    AC Tryd.prog (GS []) 38 [.sl false false (a0.map (encSDNode false)), V.int a1] [] (.agg [V.int r.kind, V.int r.n, V.str r.text, .sl false false (r.kids.map encSDoc), V.int r.group]) [] := by
 rw [m_impl_docAt_F] at h
 refine AC.enter Tryd.func38 rfl ?_
 refine cu D_ok mix 1 100 (tl 41 [(0, .sl false false (a0.map (encSDNode false))), (1, V.int a1), (4, .loc 100 0)]) [(100, .cells 43 [V.int 0, V.int 0, V.str [], .c (.slice none 0 0), V.int 0])] (by kernel_rfl) ?_
 (revert h; refine bind_rev fun e2 hx2 h => ?_)
 refine CodeOk.cutR (tl 41 [(0, .sl false false (a0.map (encSDNode false))), (1, V.int a1), (4, .loc 100 0), (5, .loc 101 0)]) [(101, .cells 51 [V.int e2.Kind, V.int e2.N, V.str e2.Text, .sl false false (e2.Kids.map encI)]), (100, .cells 43 [V.int 0, V.int 0, V.str [], .c (.slice none 0 0), V.int 0])] mix (by
  refine W.run D_ok 2 101 (by kernel_rfl) ?_
  refine W.ixD D_ok (encSDNode false) hx2 4 (by kernel_rfl) (by kernel_rfl) ?_
  refine W.run D_ok 3 101 (by kernel_rfl) ?_
  exact W.fi (by kernel_rfl)
  ) ?_
 (revert h; refine bind_rev fun l5 hx5 h => ?_)
 (revert h; refine bind_rev fun r6 hx6 h => ?_)
 refine CodeOk.cutR (tl 41 [(0, .sl false false (a0.map (encSDNode false))), (4, .loc 100 0), (5, .loc 101 0), (6, .loc 102 0)]) [(102, .cells 43 [V.int e2.Kind, V.int e2.N, V.str e2.Text, .c (.slice none 0 0), V.int r6]), (101, .cells 51 [V.int e2.Kind, V.int e2.N, V.str e2.Text, .sl false false (e2.Kids.map encI)]), (100, .cells 43 [V.int 0, V.int 0, V.str [], .c (.slice none 0 0), V.int 0])] mix (by
  refine W.run D_ok 8 102 (by kernel_rfl) ?_
  refine W.cutD D_ok (encSDNode false) hx5 false 4 (fun _ => by first | rfl | kernel_rfl) (by kernel_rfl) ?_
  refine W.call0 (m_impl_GroupsIn_ok N l5 hx6) cok15 rfl (by kernel_rfl) ?_
  refine W.run D_ok 3 102 (by kernel_rfl) ?_
  exact W.fi (by kernel_rfl)
  ) ?_
 refine CodeOk.seq' ?_
 refine CodeOk.cutR (tl 41 [(0, .sl false false (a0.map (encSDNode false))), (4, .loc 100 0), (6, .loc 102 0), (25, .sl false false (e2.Kids.map encI)), (26, V.int (e2.Kids.length : Int)), (27, V.int 0)]) [(102, .cells 43 [V.int e2.Kind, V.int e2.N, V.str e2.Text, .c (.slice none 0 0), V.int r6]), (100, .cells 43 [V.int 0, V.int 0, V.str [], .c (.slice none 0 0), V.int 0])] mix (by
  refine W.run D_ok 2 103 (by kernel_rfl) ?_
  refine W.len D_ok encI e2.Kids [] (by kernel_rfl) (by kernel_rfl) ?_
  refine W.run D_ok 1 103 (by kernel_rfl) ?_
  exact W.fi (by kernel_rfl)
  ) ?_
 refine CodeOk.block' ?_
 refine CodeOk.loopJ (fun (⟨a0, e2, r6, y67, y68⟩ : ((List SDNode) × SDNode × Int × Int × (List SDoc))) => ⟨tl 41 [(0, .sl false false (a0.map (encSDNode false))), (4, .loc 100 0), (6, .loc 101 0), (25, .sl false false (e2.Kids.map encI)), (26, V.int (e2.Kids.length : Int)), (27, V.int y67)], [(100, .cells 43 [V.int 0, V.int 0, V.str [], .c (.slice none 0 0), V.int 0]), (101, .cells 43 [V.int e2.Kind, V.int e2.N, V.str e2.Text, .own 102, V.int r6]), (102, .vec false 43 5 (y68.map encSDoc))]⟩) (fun n i => m_impl_docAt_l1 N R n i = some r) (n0 := N) (i0 := (a0, e2, r6, 0, [])) ((Weak.nilCell 102 3 103 43 5 (ety := 43) (cs := [V.int e2.Kind, V.int e2.N, V.str e2.Text, .c (.slice none 0 0), V.int r6]) (by kernel_rfl) (by kernel_rfl) (by kernel_rfl)).trans (Weak.sel [(100, 100), (102, 101), (103, 102)] [0, 4, 6, 25, 26, 27] (by kernel_rfl) (by kernel_rfl) (by kernel_rfl))) h (fun i h => by simp [m_impl_docAt_l1] at h) ?_
 rintro n1 ⟨a0, e2, r6, y67, y68⟩ h87 ih88
 rw [m_impl_docAt_l1] at h87
 refine cu D_ok mix 1 168 (tl 41 [(0, .sl false false (a0.map (encSDNode false))), (4, .loc 100 0), (6, .loc 101 0), (25, .sl false false (e2.Kids.map encI)), (26, V.int (e2.Kids.length : Int)), (27, V.int y67), (28, V.bool (decide (y67 < (e2.Kids.length : Int))))]) [(100, .cells 43 [V.int 0, V.int 0, V.str [], .c (.slice none 0 0), V.int 0]), (101, .cells 43 [V.int e2.Kind, V.int e2.N, V.str e2.Text, .own 102, V.int r6]), (102, .vec false 43 5 (y68.map encSDoc))] (by kernel_rfl) ?_
 refine CodeOk.seq' ?_
 (revert h87; refine cond_rev (fun hc90 h87 => ?_) (fun hc90 h87 => ?_))
 ·refine CodeOk.ifT hc90 (by kernel_rfl) ?_
  refine CodeOk.skip ?_
  refine CodeOk.seq' ?_
  refine CodeOk.block' ?_
  (revert h87; refine bind_rev fun e90 hx98 h87 => ?_)
  refine CodeOk.cutR (tl 41 [(0, .sl false false (a0.map (encSDNode false))), (4, .loc 100 0), (6, .loc 101 0), (8, V.int e90), (25, .sl false false (e2.Kids.map encI)), (26, V.int (e2.Kids.length : Int)), (27, V.int y67)]) [(100, .cells 43 [V.int 0, V.int 0, V.str [], .c (.slice none 0 0), V.int 0]), (101, .cells 43 [V.int e2.Kind, V.int e2.N, V.str e2.Text, .own 102, V.int r6]), (102, .vec false 43 5 (y68.map encSDoc))] mix (by
   refine W.ixD D_ok encI hx98 1 (by kernel_rfl) (by kernel_rfl) ?_
   refine W.run D_ok 2 168 (by kernel_rfl) ?_
   exact W.fi (by kernel_rfl)
   ) ?_
  (revert h87; refine bind_rev fun r93 hx101 h87 => ?_)
  (revert h87; refine bind_rev fun x94 hx102 h87 => ?_)
  refine CodeOk.endR (tl 41 [(0, .sl false false (a0.map (encSDNode false))), (4, .loc 100 0), (6, .loc 101 0), (25, .sl false false (e2.Kids.map encI)), (26, V.int (e2.Kids.length : Int)), (27, V.int y67)]) [(101, .cells 43 [V.int e2.Kind, V.int e2.N, V.str e2.Text, .own 169, V.int r6]), (169, .vec false 43 5 (x94.map encSDoc)), (100, .cells 43 [V.int 0, V.int 0, V.str [], .c (.slice none 0 0), V.int 0])] mix (by
   refine W.run D_ok 4 168 (by kernel_rfl) ?_
   refine W.call0 (HR.m_impl_docAt a0 e90 _ hx101) cok38 rfl (by kernel_rfl) ?_
   refine W.layop D_ok (show LayOk _ [] from trivial) (by kernel_rfl) 168 { v := .own 168, R := [], new := [(168, .vec true 43 5 [[V.int r93.kind, V.int r93.n, V.str r93.text, .sl false false (r93.kids.map encSDoc), V.int r93.group]])], N := [168] } (by kernel_rfl) ?_
   refine W.vecEq 168 (nn := true) (e := 43) (k := 5) (rows := [[V.int r93.kind, V.int r93.n, V.str r93.text, .sl false false (r93.kids.map encSDoc), V.int r93.group]]) (rows' := [r93].map encSDoc) (by kernel_rfl) (by simp only [List.map_cons, List.map_nil, encSDoc_eq]) ?_
   refine W.appO D_ok encSDoc (a := 102) (c := 168) (el := 43) (sz := 5) 64 hx102 rfl 169 (by kernel_rfl) ?_
   refine W.run D_ok 2 170 (by kernel_rfl) ?_
   exact W.fi (by kernel_rfl)
   ) (fun st hw => ?_)
  refine CodeOk.weak hw ?_
  refine ce D_ok mix 2 170 (tl 41 [(0, .sl false false (a0.map (encSDNode false))), (4, .loc 100 0), (6, .loc 101 0), (25, .sl false false (e2.Kids.map encI)), (26, V.int (e2.Kids.length : Int)), (27, V.int (IntKind.wrap .i64 (y67 + 1)))]) [(101, .cells 43 [V.int e2.Kind, V.int e2.N, V.str e2.Text, .own 169, V.int r6]), (169, .vec false 43 5 (x94.map encSDoc)), (100, .cells 43 [V.int 0, V.int 0, V.str [], .c (.slice none 0 0), V.int 0])] (by kernel_rfl) (fun st hw => ?_)
  exact ih88 (a0, e2, r6, (IntKind.wrap .i64 (y67 + 1)), x94) h87 _ (hw.trans (Weak.sel [(100, 100), (101, 101), (169, 102)] [0, 4, 6, 25, 26, 27] (by kernel_rfl) (by kernel_rfl) (by kernel_rfl)))
 refine CodeOk.ifF hc90 (by kernel_rfl) ?_
 refine CodeOk.exit ?_
 refine cu D_ok mix 2 168 (tl 41 [(4, .loc 100 0)]) [(100, .cells 43 [V.int e2.Kind, V.int e2.N, V.str e2.Text, .own 102, V.int r6]), (102, .vec false 43 5 (y68.map encSDoc))] (by kernel_rfl) ?_
 refine CodeOk.lay (tl 41 [(4, .loc 100 0)]) [(100, .cells 43 [V.int e2.Kind, V.int e2.N, V.str e2.Text, .sl false false (y68.map encSDoc), V.int r6])] (LayOk.cons (j := 102) encSDoc encSDoc y68 (by kernel_rfl) (share_encSDoc) (show LayOk _ [] from trivial)) (by kernel_rfl) (by kernel_rfl) (by kernel_rfl) ?_
 refine CodeOk.ret ?_
 have h87 := Option.some.inj h87
 subst h87
 exact Ends.gen [] (.inr rfl) (RetV.one rfl (OneR.cell D_ok (r := .agg [V.int e2.Kind, V.int e2.N, V.str e2.Text, .sl false false (y68.map encSDoc), V.int r6]) (i := 100) (ety := 43) (cs := [V.int e2.Kind, V.int e2.N, V.str e2.Text, .sl false false (y68.map encSDoc), V.int r6]) (by kernel_rfl) (by kernel_rfl) (by kernel_rfl))) (by kernel_rfl) (by kernel_rfl) (by kernel_rfl)

theorem scc2_ok : ∀ N, RecOk2 (scc2 N)
  | 0 => ⟨fun _ _ _ h => (by cases h)⟩
  | N + 1 => ⟨fun a0 a1 _ h => m_impl_docAt_F_ok N (scc2 N) (scc2_ok N) a0 a1 h⟩

theorem m_impl_docAt_ok (N : Nat) (a0 : List SDNode) (a1 : Int) {r : SDoc} (h : m_impl_docAt N a0 a1 = some r) :
    AC Tryd.prog (GS []) 38 [.sl false false (a0.map (encSDNode false)), V.int a1] [] (.agg [V.int r.kind, V.int r.n, V.str r.text, .sl false false (r.kids.map encSDoc), V.int r.group]) [] :=
  (scc2_ok N).m_impl_docAt a0 a1 r h

theorem m_impl_docOf_ok (N : Nat) (a0 : List SDNode) {r : SDoc} (h : m_impl_docOf N a0 = some r) :
    AC Tryd.prog (GS []) 21 [.sl false false (a0.map (encSDNode false))] [] (.agg [V.int r.kind, V.int r.n, V.str r.text, .sl false false (r.kids.map encSDoc), V.int r.group]) [] := by
 rw [m_impl_docOf] at h
 refine AC.enter Tryd.func21 rfl ?_
 refine cu D_ok mix 1 100 (tl 8 [(0, .sl false false (a0.map (encSDNode false))), (2, .loc 100 0)]) [(100, .cells 43 [V.int 0, V.int 0, V.str [], .c (.slice none 0 0), V.int 0])] (by kernel_rfl) ?_
 (revert h; refine bind_rev fun r2 hx2 h => ?_)
 refine CodeOk.cutR (tl 8 [(2, .loc 100 0)]) [(100, .cells 43 [V.int r2.kind, V.int r2.n, V.str r2.text, .sl false false (r2.kids.map encSDoc), V.int r2.group])] mix (by
  refine W.run D_ok 2 101 (by kernel_rfl) ?_
  refine W.len D_ok (encSDNode false) a0 [] (by kernel_rfl) (by kernel_rfl) ?_
  refine W.run D_ok 1 101 (by kernel_rfl) ?_
  refine W.call0 (m_impl_docAt_ok N a0 (IntKind.wrap .i64 ((a0.length : Int) - 1)) hx2) cok38 rfl (by kernel_rfl) ?_
  refine W.run D_ok 1 101 (by kernel_rfl) ?_
  exact W.fi (by kernel_rfl)
  ) ?_
 refine CodeOk.ret ?_
 have h := Option.some.inj h
 subst h
 exact Ends.gen [] (.inr rfl) (RetV.one rfl (OneR.cell D_ok (r := .agg [V.int r2.kind, V.int r2.n, V.str r2.text, .sl false false (r2.kids.map encSDoc), V.int r2.group]) (i := 100) (ety := 43) (cs := [V.int r2.kind, V.int r2.n, V.str r2.text, .sl false false (r2.kids.map encSDoc), V.int r2.group]) (by kernel_rfl) (by kernel_rfl) (by kernel_rfl))) (by kernel_rfl) (by kernel_rfl) (by kernel_rfl)

theorem m_impl_cat_ok (a0 : List SDoc) {r : SDoc} (h : m_impl_cat a0 = some r) :
    AC Tryd.prog (GS []) 20 [.sl false false (a0.map encSDoc)] [] (.agg [V.int r.kind, V.int r.n, V.str r.text, .sl false false (r.kids.map encSDoc), V.int r.group]) [] := by
 rw [m_impl_cat] at h
 refine AC.enter Tryd.func20 rfl ?_
 refine cu D_ok mix 1 100 (tl 5 [(0, .sl false false (a0.map encSDoc)), (2, .loc 100 0)]) [(100, .cells 43 [V.int 0, V.int 0, V.str [], .c (.slice none 0 0), V.int 0])] (by kernel_rfl) ?_
 refine cu D_ok mix 3 101 (tl 5 [(2, .loc 100 0)]) [(100, .cells 43 [V.int 6, V.int 0, V.str [], .sl false false (a0.map encSDoc), V.int 0])] (by kernel_rfl) ?_
 refine CodeOk.ret ?_
 have h := Option.some.inj h
 subst h
 exact Ends.gen [] (.inr rfl) (RetV.one rfl (OneR.cell D_ok (r := .agg [V.int 6, V.int 0, V.str [], .sl false false (a0.map encSDoc), V.int 0]) (i := 100) (ety := 43) (cs := [V.int 6, V.int 0, V.str [], .sl false false (a0.map encSDoc), V.int 0]) (by kernel_rfl) (by kernel_rfl) (by kernel_rfl))) (by kernel_rfl) (by kernel_rfl) (by kernel_rfl)

structure RecOk3 (R : Rec3) : Prop where
  m_impl_doc__add : ∀ (a0 : SDoc) (p0 : List SDNode) (r : (List SDNode)), R.m_impl_doc__add a0 p0 = some r → AC Tryd.prog (GS []) 39 [.agg [V.int a0.kind, V.int a0.n, V.str a0.text, .sl false false (a0.kids.map encSDoc), V.int a0.group], .own 0] [(0, .vec false 51 4 (p0.map (encSDNode true)))] (.own 100) [(100, .vec false 51 4 (r.map (encSDNode true)))]

theorem m_impl_doc__add_F_ok (N : Nat) (R : Rec3) (HR : RecOk3 R) (a0 : SDoc) (p0 : List SDNode) {r : (List SDNode)} (h : m_impl_doc__add_F N R a0 p0 = some r) :
    AC Tryd.prog (GS []) 39 [.agg [V.int a0.kind, V.int a0.n, V.str a0.text, .sl false false (a0.kids.map encSDoc), V.int a0.group], .own 0] [(0, .vec false 51 4 (p0.map (encSDNode true)))] (.own 100) [(100, .vec false 51 4 (r.map (encSDNode true)))] := by
 rw [m_impl_doc__add_F] at h
 refine AC.enter Tryd.func39 rfl ?_
 refine cu D_ok mix 2 100 (tl 38 [(1, .own 0), (2, .loc 100 0)]) [(100, .cells 43 [V.int a0.kind, V.int a0.n, V.str a0.text, .sl false false (a0.kids.map encSDoc), V.int a0.group]), (0, .vec false 51 4 (p0.map (encSDNode true)))] (by kernel_rfl) ?_
 refine cu D_ok mix 9 101 (tl 38 [(1, .own 0), (2, .loc 100 0), (5, .loc 101 0)]) [(101, .cells 51 [V.int a0.kind, V.int a0.n, V.str a0.text, .c (.slice none 0 0)]), (100, .cells 43 [V.int a0.kind, V.int a0.n, V.str a0.text, .sl false false (a0.kids.map encSDoc), V.int a0.group]), (0, .vec false 51 4 (p0.map (encSDNode true)))] (by kernel_rfl) ?_
 refine CodeOk.seq' ?_
 refine CodeOk.cutR (tl 38 [(1, .own 0), (5, .loc 101 0), (16, .sl false false (a0.kids.map encSDoc)), (17, V.int (a0.kids.length : Int)), (18, V.int 0)]) [(101, .cells 51 [V.int a0.kind, V.int a0.n, V.str a0.text, .c (.slice none 0 0)]), (0, .vec false 51 4 (p0.map (encSDNode true)))] mix (by
  refine W.run D_ok 2 102 (by kernel_rfl) ?_
  refine W.len D_ok encSDoc a0.kids [] (by kernel_rfl) (by kernel_rfl) ?_
  refine W.run D_ok 1 102 (by kernel_rfl) ?_
  exact W.fi (by kernel_rfl)
  ) ?_
 refine CodeOk.block' ?_
 refine CodeOk.loopJ (fun (⟨a0, y59, y60, y61⟩ : (SDoc × Int × (List SDNode) × (List Int))) => ⟨tl 38 [(1, .own 100), (5, .loc 101 0), (16, .sl false false (a0.kids.map encSDoc)), (17, V.int (a0.kids.length : Int)), (18, V.int y59)], [(100, .vec false 51 4 (y60.map (encSDNode true))), (101, .cells 51 [V.int a0.kind, V.int a0.n, V.str a0.text, .own 102]), (102, .vec false 3 1 (y61.map encI))]⟩) (fun n i => m_impl_doc__add_l1 N R n i = some r) (n0 := N) (i0 := (a0, 0, p0, [])) ((Weak.nilCell 101 3 102 3 1 (ety := 51) (cs := [V.int a0.kind, V.int a0.n, V.str a0.text, .c (.slice none 0 0)]) (by kernel_rfl) (by kernel_rfl) (by kernel_rfl)).trans (Weak.sel [(0, 100), (101, 101), (102, 102)] [1, 5, 16, 17, 18] (by kernel_rfl) (by kernel_rfl) (by kernel_rfl))) h (fun i h => by simp [m_impl_doc__add_l1] at h) ?_
 rintro n1 ⟨a0, y59, y60, y61⟩ h77 ih78
 rw [m_impl_doc__add_l1] at h77
 refine cu D_ok mix 1 171 (tl 38 [(1, .own 100), (5, .loc 101 0), (16, .sl false false (a0.kids.map encSDoc)), (17, V.int (a0.kids.length : Int)), (18, V.int y59), (19, V.bool (decide (y59 < (a0.kids.length : Int))))]) [(100, .vec false 51 4 (y60.map (encSDNode true))), (101, .cells 51 [V.int a0.kind, V.int a0.n, V.str a0.text, .own 102]), (102, .vec false 3 1 (y61.map encI))] (by kernel_rfl) ?_
 refine CodeOk.seq' ?_
 (revert h77; refine cond_rev (fun hc80 h77 => ?_) (fun hc80 h77 => ?_))
 ·refine CodeOk.ifT hc80 (by kernel_rfl) ?_
  refine CodeOk.skip ?_
  refine CodeOk.seq' ?_
  refine CodeOk.block' ?_
  (revert h77; refine bind_rev fun e84 hx88 h77 => ?_)
  refine CodeOk.cutR (tl 38 [(1, .own 100), (5, .loc 101 0), (7, .loc 171 0), (16, .sl false false (a0.kids.map encSDoc)), (17, V.int (a0.kids.length : Int)), (18, V.int y59)]) [(171, .cells 43 [V.int e84.kind, V.int e84.n, V.str e84.text, .sl false false (e84.kids.map encSDoc), V.int e84.group]), (100, .vec false 51 4 (y60.map (encSDNode true))), (101, .cells 51 [V.int a0.kind, V.int a0.n, V.str a0.text, .own 102]), (102, .vec false 3 1 (y61.map encI))] mix (by
   refine W.ixDr D_ok encSDoc hx88 5 (by kernel_rfl) (encSDoc_eq e84) (by kernel_rfl) ?_
   refine W.run D_ok 3 171 (by kernel_rfl) ?_
   exact W.fi (by kernel_rfl)
   ) ?_
  (revert h77; refine bind_rev fun r86 hx90 h77 => ?_)
  refine CodeOk.cutR (tl 38 [(1, .own 172), (5, .loc 101 0), (16, .sl false false (a0.kids.map encSDoc)), (17, V.int (a0.kids.length : Int)), (18, V.int y59)]) [(172, .vec false 51 4 (r86.map (encSDNode true))), (101, .cells 51 [V.int a0.kind, V.int a0.n, V.str a0.text, .own 102]), (102, .vec false 3 1 (y61.map encI))] mix (by
   refine W.run D_ok 2 172 (by kernel_rfl) ?_
   refine W.call (HR.m_impl_doc__add e84 y60 _ hx90) cok39 [(100, 0)] [(100, 172)] [172] (show LayOk _ [] from trivial) (by kernel_rfl) (by kernel_rfl) ?_
   refine W.run D_ok 1 173 (by kernel_rfl) ?_
   exact W.fi (by kernel_rfl)
   ) ?_
  (revert h77; refine bind_rev fun x88 hx92 h77 => ?_)
  refine CodeOk.endR (tl 38 [(1, .own 172), (5, .loc 101 0), (16, .sl false false (a0.kids.map encSDoc)), (17, V.int (a0.kids.length : Int)), (18, V.int y59)]) [(101, .cells 51 [V.int a0.kind, V.int a0.n, V.str a0.text, .own 174]), (174, .vec false 3 1 (x88.map encI)), (172, .vec false 51 4 (r86.map (encSDNode true)))] mix (by
   refine W.run D_ok 3 173 (by kernel_rfl) ?_
   refine W.len D_ok (encSDNode true) r86 [172] (by kernel_rfl) (by kernel_rfl) ?_
   refine W.run D_ok 2 173 (by kernel_rfl) ?_
   refine W.appO D_ok encI (a := 102) (c := 173) (el := 3) (sz := 1) 8 hx92 rfl 174 (by kernel_rfl) ?_
   refine W.run D_ok 2 175 (by kernel_rfl) ?_
   exact W.fi (by kernel_rfl)
   ) (fun st hw => ?_)
  refine CodeOk.weak hw ?_
  refine ce D_ok mix 2 175 (tl 38 [(1, .own 172), (5, .loc 101 0), (16, .sl false false (a0.kids.map encSDoc)), (17, V.int (a0.kids.length : Int)), (18, V.int (IntKind.wrap .i64 (y59 + 1)))]) [(101, .cells 51 [V.int a0.kind, V.int a0.n, V.str a0.text, .own 174]), (174, .vec false 3 1 (x88.map encI)), (172, .vec false 51 4 (r86.map (encSDNode true)))] (by kernel_rfl) (fun st hw => ?_)
  exact ih78 (a0, (IntKind.wrap .i64 (y59 + 1)), r86, x88) h77 _ (hw.trans (Weak.sel [(172, 100), (101, 101), (174, 102)] [1, 5, 16, 17, 18] (by kernel_rfl) (by kernel_rfl) (by kernel_rfl)))
 refine CodeOk.ifF hc80 (by kernel_rfl) ?_
 refine CodeOk.exit ?_
 (revert h77; refine bind_rev fun x90 hx94 h77 => ?_)
 refine CodeOk.cutR (tl 38 [(4, .own 172)]) [(172, .vec false 51 4 (x90.map (encSDNode true)))] mix (by
  refine W.run D_ok 3 171 (by kernel_rfl) ?_
  refine W.appO D_ok (encSDNode true) (a := 100) (c := 171) (el := 51) (sz := 4) 56 hx94 rfl 172 (by kernel_rfl) ?_
  refine W.run D_ok 1 173 (by kernel_rfl) ?_
  exact W.fi (by kernel_rfl)
  ) ?_
 refine CodeOk.ret ?_
 have h77 := Option.some.inj h77
 subst h77
 exact Ends.gen [(172, 100)] (.inr rfl) (RetV.one rfl (OneR.tmp (t := 4) (r := .own 172) (by kernel_rfl))) (by kernel_rfl) (by kernel_rfl) (by kernel_rfl)

theorem scc3_ok : ∀ N, RecOk3 (scc3 N)
  | 0 => ⟨fun _ _ _ h => (by cases h)⟩
  | N + 1 => ⟨fun a0 p0 _ h => m_impl_doc__add_F_ok N (scc3 N) (scc3_ok N) a0 p0 h⟩

theorem m_impl_doc__add_ok (N : Nat) (a0 : SDoc) (p0 : List SDNode) {r : (List SDNode)} (h : m_impl_doc__add N a0 p0 = some r) :
    AC Tryd.prog (GS []) 39 [.agg [V.int a0.kind, V.int a0.n, V.str a0.text, .sl false false (a0.kids.map encSDoc), V.int a0.group], .own 0] [(0, .vec false 51 4 (p0.map (encSDNode true)))] (.own 100) [(100, .vec false 51 4 (r.map (encSDNode true)))] :=
  (scc3_ok N).m_impl_doc__add a0 p0 r h

theorem m_impl_doc__list_ok (N : Nat) (a0 : SDoc) {r : (List SDNode)} (h : m_impl_doc__list N a0 = some r) :
    AC Tryd.prog (GS []) 22 [.agg [V.int a0.kind, V.int a0.n, V.str a0.text, .sl false false (a0.kids.map encSDoc), V.int a0.group]] [] (.own 100) [(100, .vec false 51 4 (r.map (encSDNode true)))] := by
 rw [m_impl_doc__list] at h
 refine AC.enter Tryd.func22 rfl ?_
 refine cu D_ok mix 2 100 (tl 5 [(1, .loc 100 0)]) [(100, .cells 43 [V.int a0.kind, V.int a0.n, V.str a0.text, .sl false false (a0.kids.map encSDoc), V.int a0.group])] (by kernel_rfl) ?_
 (revert h; refine bind_rev fun r2 hx2 h => ?_)
 refine CodeOk.cutR (tl 5 [(2, .own 101)]) [(101, .vec false 51 4 (r2.map (encSDNode true)))] mix (by
  refine W.run D_ok 1 101 (by kernel_rfl) ?_
  refine W.callK (AC.nilArg 1 0 51 4 (m_impl_doc__add_ok N a0 [] hx2) (by kernel_rfl) (by kernel_rfl) (by kernel_rfl) (by kernel_rfl) rfl) cok39 [] [(100, 101)] [1] [101] (show LayOk _ [] from trivial) (by kernel_rfl) (by kernel_rfl) ?_
  refine W.run D_ok 1 102 (by kernel_rfl) ?_
  exact W.fi (by kernel_rfl)
  ) ?_
 refine CodeOk.ret ?_
 have h := Option.some.inj h
 subst h
 exact Ends.gen [(101, 100)] (.inr rfl) (RetV.one rfl (OneR.tmp (t := 2) (r := .own 101) (by kernel_rfl))) (by kernel_rfl) (by kernel_rfl) (by kernel_rfl)

theorem m_impl_Joined_ok (N : Nat) (a0 : List SDNode) (a1 : List SDNode) {r : (List SDNode)} (h : m_impl_Joined N a0 a1 = some r) :
    AC Tryd.prog (GS []) 6 [.sl false false (a0.map (encSDNode false)), .sl false false (a1.map (encSDNode false))] [] (.own 100) [(100, .vec false 51 4 (r.map (encSDNode true)))] := by
 rw [m_impl_Joined] at h
 refine AC.enter Tryd.func6 rfl ?_
 refine cu D_ok mix 1 100 (tl 29 [(0, .sl false false (a0.map (encSDNode false))), (1, .sl false false (a1.map (encSDNode false)))]) [] (by kernel_rfl) ?_
 refine CodeOk.seq' ?_
 (revert h; refine bind_rev fun y8 hv15 h => ?_)
 refine CodeOk.cutR (tl 29 [(0, .sl false false (a0.map (encSDNode false))), (1, .sl false false (a1.map (encSDNode false))), (21, V.bool y8)]) [] mix (by
  refine W.run D_ok 1 100 (by kernel_rfl) ?_
  (revert hv15; refine bind_rev fun r9 hx16 hv15 => ?_)
  refine W.call0 (m_impl_DocOk_ok N a0 hx16) cok19 rfl (by kernel_rfl) ?_
  refine W.run D_ok 2 100 (by kernel_rfl) ?_
  (revert hv15; refine cond_rev (fun hc17 hv15 => ?_) (fun hc17 hv15 => ?_))
  ·refine W.is 8 hc17 (by kernel_rfl) ?_
   refine W.run D_ok 13 100 (by kernel_rfl) ?_
   have hv15 := Option.some.inj hv15
   subst hv15
   exact W.fs [] [0, 1, 21] (by kernel_rfl)
  refine W.is 8 hc17 (by kernel_rfl) ?_
  refine W.run D_ok 1 100 (by kernel_rfl) ?_
  (revert hv15; refine bind_rev fun r10 hx18 hv15 => ?_)
  refine W.call0 (m_impl_DocOk_ok N a1 hx18) cok19 rfl (by kernel_rfl) ?_
  refine W.run D_ok 3 100 (by kernel_rfl) ?_
  (revert hv15; refine cond_rev (fun hc19 hv15 => ?_) (fun hc19 hv15 => ?_))
  ·refine W.is 13 hc19 (by kernel_rfl) ?_
   refine W.run D_ok 8 100 (by kernel_rfl) ?_
   have hv15 := Option.some.inj hv15
   subst hv15
   exact W.fs [] [0, 1, 21] (by kernel_rfl)
  refine W.is 13 hc19 (by kernel_rfl) ?_
  refine W.run D_ok 1 100 (by kernel_rfl) ?_
  refine W.len D_ok (encSDNode false) a0 [] (by kernel_rfl) (by kernel_rfl) ?_
  refine W.run D_ok 1 100 (by kernel_rfl) ?_
  refine W.len D_ok (encSDNode false) a1 [] (by kernel_rfl) (by kernel_rfl) ?_
  refine W.run D_ok 4 100 (by kernel_rfl) ?_
  have hv15 := Option.some.inj hv15
  subst hv15
  exact W.fs [] [0, 1, 21] (by kernel_rfl)
  ) ?_
 (revert h; refine cond_rev (fun hc20 h => ?_) (fun hc20 h => ?_))
 ·refine CodeOk.ifT hc20 (by kernel_rfl) ?_
  refine cu D_ok mix 1 100 (tl 29 [(4, .c (.slice none 0 0))]) [] (by kernel_rfl) ?_
  refine CodeOk.weak (Weak.nil 4 100 51 4 (by kernel_rfl) (by kernel_rfl)) ?_
  refine CodeOk.ret ?_
  have h := Option.some.inj h
  subst h
  exact Ends.gen [(100, 100)] (.inr rfl) (RetV.one rfl (OneR.tmp (t := 4) (r := .own 100) (by kernel_rfl))) (by kernel_rfl) (by kernel_rfl) (by kernel_rfl)
 refine CodeOk.ifF hc20 (by kernel_rfl) ?_
 refine CodeOk.skip ?_
 (revert h; refine bind_rev fun r15 hx25 h => ?_)
 (revert h; refine bind_rev fun r16 hx26 h => ?_)
 (revert h; refine bind_rev fun r17 hx27 h => ?_)
 (revert h; refine bind_rev fun r18 hx28 h => ?_)
 refine CodeOk.cutR (tl 29 [(4, .own 101)]) [(101, .vec false 51 4 (r18.map (encSDNode true)))] mix (by
  refine W.run D_ok 1 100 (by kernel_rfl) ?_
  refine W.call0 (m_impl_docOf_ok N a0 hx25) cok21 rfl (by kernel_rfl) ?_
  refine W.run D_ok 1 100 (by kernel_rfl) ?_
  refine W.call0 (m_impl_docOf_ok N a1 hx26) cok21 rfl (by kernel_rfl) ?_
  refine W.layop D_ok (show LayOk _ [] from trivial) (by kernel_rfl) 100 { v := .own 100, R := [], new := [(100, .vec true 43 5 [[V.int r15.kind, V.int r15.n, V.str r15.text, .sl false false (r15.kids.map encSDoc), V.int r15.group], [V.int r16.kind, V.int r16.n, V.str r16.text, .sl false false (r16.kids.map encSDoc), V.int r16.group]])], N := [100] } (by kernel_rfl) ?_
  refine W.vecEq 100 (nn := true) (e := 43) (k := 5) (rows := [[V.int r15.kind, V.int r15.n, V.str r15.text, .sl false false (r15.kids.map encSDoc), V.int r15.group], [V.int r16.kind, V.int r16.n, V.str r16.text, .sl false false (r16.kids.map encSDoc), V.int r16.group]]) (rows' := [r15, r16].map encSDoc) (by kernel_rfl) (by simp only [List.map_cons, List.map_nil, encSDoc_eq]) ?_
  refine W.call (m_impl_cat_ok [r15, r16] hx27) cok20 [] [] [] (LayOk.cons (j := 100) encSDoc encSDoc ([r15, r16] : List SDoc) (by kernel_rfl) (share_encSDoc) (show LayOk _ [] from trivial)) (by kernel_rfl) (by kernel_rfl) ?_
  refine W.call (m_impl_doc__list_ok N r17 hx28) cok22 [] [(100, 101)] [101] (show LayOk _ [] from trivial) (by kernel_rfl) (by kernel_rfl) ?_
  refine W.run D_ok 1 102 (by kernel_rfl) ?_
  exact W.fi (by kernel_rfl)
  ) ?_
 refine CodeOk.ret ?_
 have h := Option.some.inj h
 subst h
 exact Ends.gen [(101, 100)] (.inr rfl) (RetV.one rfl (OneR.tmp (t := 4) (r := .own 101) (by kernel_rfl))) (by kernel_rfl) (by kernel_rfl) (by kernel_rfl)

theorem m_spec_l1In_ok (a0 : Int) (a1 : Int) (a2 : Int) {r : Bool} (h : m_spec_l1In a0 a1 a2 = some r) :
    AC Tryd.prog (GS []) 23 [V.int a0, V.int a1, V.int a2] [] (V.bool r) [] := by
 rw [m_spec_l1In] at h
 refine AC.enter Tryd.func23 rfl ?_
 refine cu D_ok mix 1 100 (tl 15 [(0, V.int a0), (1, V.int a1), (2, V.int a2)]) [] (by kernel_rfl) ?_
 (revert h; refine bind_rev fun y1 hv2 h => ?_)
 refine CodeOk.cutR (tl 15 [(6, V.bool y1)]) [] mix (by
  refine W.run D_ok 4 100 (by kernel_rfl) ?_
  (revert hv2; refine cond_rev (fun hc3 hv2 => ?_) (fun hc3 hv2 => ?_))
  ·refine W.is 10 hc3 (by kernel_rfl) ?_
   refine W.run D_ok 5 100 (by kernel_rfl) ?_
   have hv2 := Option.some.inj hv2
   subst hv2
   exact W.fs [] [6] (by kernel_rfl)
  refine W.is 10 hc3 (by kernel_rfl) ?_
  refine W.run D_ok 5 100 (by kernel_rfl) ?_
  have hv2 := Option.some.inj hv2
  subst hv2
  exact W.fs [] [6] (by kernel_rfl)
  ) ?_
 refine CodeOk.ret ?_
 have h := Option.some.inj h
 subst h
 exact Ends.gen [] (.inr rfl) (RetV.one rfl (OneR.tmp (t := 6) (r := V.bool y1) (by kernel_rfl))) (by kernel_rfl) (by kernel_rfl) (by kernel_rfl)

theorem m_spec_l4Plain_ok (N : Nat) (a0 : List UInt8) {r : Bool} (h : m_spec_l4Plain N a0 = some r) :
    AC Tryd.prog (GS []) 40 [V.str a0] [] (V.bool r) [] := by
 rw [m_spec_l4Plain] at h
 refine AC.enter Tryd.func40 rfl ?_
 refine cu D_ok mix 1 100 (tl 14 [(0, V.str a0)]) [] (by kernel_rfl) ?_
 refine CodeOk.seq' ?_
 refine cu D_ok mix 1 100 (tl 14 [(0, V.str a0), (3, V.int 0)]) [] (by kernel_rfl) ?_
 refine CodeOk.block' ?_
 refine CodeOk.loopJ (fun (⟨a0, y19⟩ : ((List UInt8) × Int)) => ⟨tl 14 [(0, V.str a0), (3, V.int y19)], []⟩) (fun n i => m_spec_l4Plain_l1 N n i = some r) (n0 := N) (i0 := (a0, 0)) (Weak.sel [] [0, 3] (by kernel_rfl) (by kernel_rfl) (by kernel_rfl)) h (fun i h => by simp [m_spec_l4Plain_l1] at h) ?_
 rintro n1 ⟨a0, y19⟩ h43 ih44
 rw [m_spec_l4Plain_l1] at h43
 refine CodeOk.seq' ?_
 refine cu D_ok mix 4 160 (tl 14 [(0, V.str a0), (3, V.int y19), (7, V.bool (decide (y19 < (a0.length : Int))))]) [] (by kernel_rfl) ?_
 (revert h43; refine cond_rev (fun hc46 h43 => ?_) (fun hc46 h43 => ?_))
 ·refine CodeOk.ifT hc46 (by kernel_rfl) ?_
  refine CodeOk.skip ?_
  refine CodeOk.seq' ?_
  refine CodeOk.block' ?_
  (revert h43; refine bind_rev fun b28 hx51 h43 => ?_)
  refine CodeOk.cutR (tl 14 [(0, V.str a0), (3, V.int y19), (13, V.bool (((b28).toNat : Int) == 10))]) [] mix (by
   refine W.run D_ok 2 160 (by kernel_rfl) ?_
   refine W.ixS D_ok hx51 (by kernel_rfl) ?_
   refine W.run D_ok 1 160 (by kernel_rfl) ?_
   exact W.fi (by kernel_rfl)
   ) ?_
  (revert h43; refine cond_rev (fun hc52 h43 => ?_) (fun hc52 h43 => ?_))
  ·refine CodeOk.ifT hc52 (by kernel_rfl) ?_
   refine cu D_ok mix 1 160 (tl 14 [(2, V.bool false)]) [] (by kernel_rfl) ?_
   refine CodeOk.ret ?_
   have h43 := Option.some.inj h43
   subst h43
   exact Ends.gen [] (.inr rfl) (RetV.one rfl (OneR.tmp (t := 2) (r := V.bool false) (by kernel_rfl))) (by kernel_rfl) (by kernel_rfl) (by kernel_rfl)
  refine CodeOk.ifF hc52 (by kernel_rfl) ?_
  refine CodeOk.skip ?_
  refine ce D_ok mix 3 160 (tl 14 [(0, V.str a0), (3, V.int (IntKind.wrap .i64 (y19 + 1)))]) [] (by kernel_rfl) (fun st hw => ?_)
  exact ih44 (a0, (IntKind.wrap .i64 (y19 + 1))) h43 _ (hw.trans (Weak.sel [] [0, 3] (by kernel_rfl) (by kernel_rfl) (by kernel_rfl)))
 refine CodeOk.ifF hc46 (by kernel_rfl) ?_
 refine CodeOk.exit ?_
 refine cu D_ok mix 1 160 (tl 14 [(2, V.bool true)]) [] (by kernel_rfl) ?_
 refine CodeOk.ret ?_
 have h43 := Option.some.inj h43
 subst h43
 exact Ends.gen [] (.inr rfl) (RetV.one rfl (OneR.tmp (t := 2) (r := V.bool true) (by kernel_rfl))) (by kernel_rfl) (by kernel_rfl) (by kernel_rfl)

theorem m_spec_l15Node_ok (N : Nat) (a0 : SDNode) {r : Bool} (h : m_spec_l15Node N a0 = some r) :
    AC Tryd.prog (GS []) 24 [.agg [V.int a0.Kind, V.int a0.N, V.str a0.Text, .sl false false (a0.Kids.map encI)]] [] (V.bool r) [] := by
 rw [m_spec_l15Node] at h
 refine AC.enter Tryd.func24 rfl ?_
 refine cu D_ok mix 2 100 (tl 61 [(1, .loc 100 0)]) [(100, .cells 51 [V.int a0.Kind, V.int a0.N, V.str a0.Text, .sl false false (a0.Kids.map encI)])] (by kernel_rfl) ?_
 refine CodeOk.seq' ?_
 (revert h; refine bind_rev fun y2 hv15 h => ?_)
 refine CodeOk.cutR (tl 61 [(1, .loc 100 0), (20, V.bool y2)]) [(100, .cells 51 [V.int a0.Kind, V.int a0.N, V.str a0.Text, .sl false false (a0.Kids.map encI)])] mix (by
  refine W.run D_ok 4 101 (by kernel_rfl) ?_
  (revert hv15; refine cond_rev (fun hc16 hv15 => ?_) (fun hc16 hv15 => ?_))
  ·refine W.is 6 hc16 (by kernel_rfl) ?_
   refine W.run D_ok 5 101 (by kernel_rfl) ?_
   (revert hv15; refine cond_rev (fun hc17 hv15 => ?_) (fun hc17 hv15 => ?_))
   ·refine W.is 11 hc17 (by kernel_rfl) ?_
    refine W.run D_ok 9 101 (by kernel_rfl) ?_
    have hv15 := Option.some.inj hv15
    subst hv15
    exact W.fs [(100, 100)] [1, 20] (by kernel_rfl)
   refine W.is 11 hc17 (by kernel_rfl) ?_
   refine W.run D_ok 4 101 (by kernel_rfl) ?_
   (revert hv15; refine cond_rev (fun hc18 hv15 => ?_) (fun hc18 hv15 => ?_))
   ·refine W.is 15 hc18 (by kernel_rfl) ?_
    refine W.run D_ok 5 101 (by kernel_rfl) ?_
    have hv15 := Option.some.inj hv15
    subst hv15
    exact W.fs [(100, 100)] [1, 20] (by kernel_rfl)
   refine W.is 15 hc18 (by kernel_rfl) ?_
   refine W.run D_ok 5 101 (by kernel_rfl) ?_
   have hv15 := Option.some.inj hv15
   subst hv15
   exact W.fs [(100, 100)] [1, 20] (by kernel_rfl)
  refine W.is 6 hc16 (by kernel_rfl) ?_
  refine W.run D_ok 9 101 (by kernel_rfl) ?_
  (revert hv15; refine cond_rev (fun hc19 hv15 => ?_) (fun hc19 hv15 => ?_))
  ·refine W.is 15 hc19 (by kernel_rfl) ?_
   refine W.run D_ok 5 101 (by kernel_rfl) ?_
   have hv15 := Option.some.inj hv15
   subst hv15
   exact W.fs [(100, 100)] [1, 20] (by kernel_rfl)
  refine W.is 15 hc19 (by kernel_rfl) ?_
  refine W.run D_ok 5 101 (by kernel_rfl) ?_
  have hv15 := Option.some.inj hv15
  subst hv15
  exact W.fs [(100, 100)] [1, 20] (by kernel_rfl)
  ) ?_
 (revert h; refine cond_rev (fun hc20 h => ?_) (fun hc20 h => ?_))
 ·refine CodeOk.ifT hc20 (by kernel_rfl) ?_
  refine cu D_ok mix 1 101 (tl 61 [(2, V.bool false)]) [] (by kernel_rfl) ?_
  refine CodeOk.ret ?_
  have h := Option.some.inj h
  subst h
  exact Ends.gen [] (.inr rfl) (RetV.one rfl (OneR.tmp (t := 2) (r := V.bool false) (by kernel_rfl))) (by kernel_rfl) (by kernel_rfl) (by kernel_rfl)
 refine CodeOk.ifF hc20 (by kernel_rfl) ?_
 refine CodeOk.skip ?_
 refine CodeOk.seq' ?_
 refine cu D_ok mix 2 101 (tl 61 [(1, .loc 100 0), (22, V.int a0.Kind)]) [(100, .cells 51 [V.int a0.Kind, V.int a0.N, V.str a0.Text, .sl false false (a0.Kids.map encI)])] (by kernel_rfl) ?_
 refine CodeOk.block' ?_
 refine cu D_ok mix 2 101 (tl 61 [(1, .loc 100 0), (22, V.int a0.Kind), (23, V.bool (a0.Kind == 1))]) [(100, .cells 51 [V.int a0.Kind, V.int a0.N, V.str a0.Text, .sl false false (a0.Kids.map encI)])] (by kernel_rfl) ?_
 (revert h; refine cond_rev (fun hc39 h => ?_) (fun hc39 h => ?_))
 ·refine CodeOk.ifT hc39 (by kernel_rfl) ?_
  (revert h; refine bind_rev fun y11 hv42 h => ?_)
  refine CodeOk.cutR (tl 61 [(2, V.bool y11)]) [] mix (by
   refine W.run D_ok 2 101 (by kernel_rfl) ?_
   (revert hv42; refine bind_rev fun r12 hx43 hv42 => ?_)
   refine W.call0 (m_spec_l4Plain_ok N a0.Text hx43) cok40 rfl (by kernel_rfl) ?_
   refine W.run D_ok 1 101 (by kernel_rfl) ?_
   (revert hv42; refine cond_rev (fun hc44 hv42 => ?_) (fun hc44 hv42 => ?_))
   ·refine W.is 28 hc44 (by kernel_rfl) ?_
    refine W.run D_ok 2 101 (by kernel_rfl) ?_
    refine W.len D_ok encI a0.Kids [] (by kernel_rfl) (by kernel_rfl) ?_
    refine W.run D_ok 3 101 (by kernel_rfl) ?_
    have hv42 := Option.some.inj hv42
    subst hv42
    exact W.fs [] [2] (by kernel_rfl)
   refine W.is 28 hc44 (by kernel_rfl) ?_
   refine W.run D_ok 6 101 (by kernel_rfl) ?_
   have hv42 := Option.some.inj hv42
   subst hv42
   exact W.fs [] [2] (by kernel_rfl)
   ) ?_
  refine CodeOk.ret ?_
  have h := Option.some.inj h
  subst h
  exact Ends.gen [] (.inr rfl) (RetV.one rfl (OneR.tmp (t := 2) (r := V.bool y11) (by kernel_rfl))) (by kernel_rfl) (by kernel_rfl) (by kernel_rfl)
 refine CodeOk.ifF hc39 (by kernel_rfl) ?_
 refine CodeOk.join (fun (⟨a0, y13⟩ : (SDNode × Bool)) => ⟨tl 61 [(1, .loc 100 0), (22, V.int a0.Kind), (34, V.bool y13)], [(100, .cells 51 [V.int a0.Kind, V.int a0.N, V.str a0.Text, .sl false false (a0.Kids.map encI)])]⟩) (fun i => m_spec_l15Node_k1 N i = some r) ?_ ?_
 · rintro ⟨a0, y13⟩ h46
   rw [m_spec_l15Node_k1] at h46
   (revert h46; refine cond_rev (fun hc47 h46 => ?_) (fun hc47 h46 => ?_))
   ·refine CodeOk.ifT hc47 (by kernel_rfl) ?_
    refine CodeOk.cutR (tl 61 [(2, V.bool ((a0.Kids.length : Int) == 0))]) [] mix (by
     refine W.run D_ok 2 101 (by kernel_rfl) ?_
     refine W.len D_ok encI a0.Kids [] (by kernel_rfl) (by kernel_rfl) ?_
     refine W.run D_ok 2 101 (by kernel_rfl) ?_
     exact W.fi (by kernel_rfl)
     ) ?_
    refine CodeOk.ret ?_
    have h46 := Option.some.inj h46
    subst h46
    exact Ends.gen [] (.inr rfl) (RetV.one rfl (OneR.tmp (t := 2) (r := V.bool ((a0.Kids.length : Int) == 0)) (by kernel_rfl))) (by kernel_rfl) (by kernel_rfl) (by kernel_rfl)
   refine CodeOk.ifF hc47 (by kernel_rfl) ?_
   refine cu D_ok mix 2 101 (tl 61 [(1, .loc 100 0), (22, V.int a0.Kind), (41, V.bool (a0.Kind == 4))]) [(100, .cells 51 [V.int a0.Kind, V.int a0.N, V.str a0.Text, .sl false false (a0.Kids.map encI)])] (by kernel_rfl) ?_
   (revert h46; refine cond_rev (fun hc48 h46 => ?_) (fun hc48 h46 => ?_))
   ·refine CodeOk.ifT hc48 (by kernel_rfl) ?_
    (revert h46; refine bind_rev fun y15 hv51 h46 => ?_)
    refine CodeOk.cutR (tl 61 [(2, V.bool y15)]) [] mix (by
     refine W.run D_ok 2 101 (by kernel_rfl) ?_
     (revert hv51; refine bind_rev fun r16 hx52 hv51 => ?_)
     refine W.call0 (m_spec_l1In_ok a0.N 0 40 hx52) cok23 rfl (by kernel_rfl) ?_
     refine W.run D_ok 1 101 (by kernel_rfl) ?_
     (revert hv51; refine cond_rev (fun hc53 hv51 => ?_) (fun hc53 hv51 => ?_))
     ·refine W.is 46 hc53 (by kernel_rfl) ?_
      refine W.run D_ok 2 101 (by kernel_rfl) ?_
      refine W.len D_ok encI a0.Kids [] (by kernel_rfl) (by kernel_rfl) ?_
      refine W.run D_ok 3 101 (by kernel_rfl) ?_
      have hv51 := Option.some.inj hv51
      subst hv51
      exact W.fs [] [2] (by kernel_rfl)
     refine W.is 46 hc53 (by kernel_rfl) ?_
     refine W.run D_ok 6 101 (by kernel_rfl) ?_
     have hv51 := Option.some.inj hv51
     subst hv51
     exact W.fs [] [2] (by kernel_rfl)
     ) ?_
    refine CodeOk.ret ?_
    have h46 := Option.some.inj h46
    subst h46
    exact Ends.gen [] (.inr rfl) (RetV.one rfl (OneR.tmp (t := 2) (r := V.bool y15) (by kernel_rfl))) (by kernel_rfl) (by kernel_rfl) (by kernel_rfl)
   refine CodeOk.ifF hc48 (by kernel_rfl) ?_
   refine cu D_ok mix 2 101 (tl 61 [(1, .loc 100 0), (52, V.bool (a0.Kind == 5))]) [(100, .cells 51 [V.int a0.Kind, V.int a0.N, V.str a0.Text, .sl false false (a0.Kids.map encI)])] (by kernel_rfl) ?_
   (revert h46; refine cond_rev (fun hc54 h46 => ?_) (fun hc54 h46 => ?_))
   ·refine CodeOk.ifT hc54 (by kernel_rfl) ?_
    refine CodeOk.cutR (tl 61 [(2, V.bool ((a0.Kids.length : Int) == 1))]) [] mix (by
     refine W.run D_ok 2 101 (by kernel_rfl) ?_
     refine W.len D_ok encI a0.Kids [] (by kernel_rfl) (by kernel_rfl) ?_
     refine W.run D_ok 2 101 (by kernel_rfl) ?_
     exact W.fi (by kernel_rfl)
     ) ?_
    refine CodeOk.ret ?_
    have h46 := Option.some.inj h46
    subst h46
    exact Ends.gen [] (.inr rfl) (RetV.one rfl (OneR.tmp (t := 2) (r := V.bool ((a0.Kids.length : Int) == 1)) (by kernel_rfl))) (by kernel_rfl) (by kernel_rfl) (by kernel_rfl)
   refine CodeOk.ifF hc54 (by kernel_rfl) ?_
   refine CodeOk.skip ?_
   refine cu D_ok mix 4 101 (tl 61 [(2, V.bool (a0.Kind == 6))]) [] (by kernel_rfl) ?_
   refine CodeOk.ret ?_
   have h46 := Option.some.inj h46
   subst h46
   exact Ends.gen [] (.inr rfl) (RetV.one rfl (OneR.tmp (t := 2) (r := V.bool (a0.Kind == 6)) (by kernel_rfl))) (by kernel_rfl) (by kernel_rfl) (by kernel_rfl)
 intro hk55
 refine cu D_ok mix 2 101 (tl 61 [(1, .loc 100 0), (22, V.int a0.Kind), (34, V.bool (a0.Kind == 2))]) [(100, .cells 51 [V.int a0.Kind, V.int a0.N, V.str a0.Text, .sl false false (a0.Kids.map encI)])] (by kernel_rfl) ?_
 (revert h; refine cond_rev (fun hc56 h => ?_) (fun hc56 h => ?_))
 ·refine CodeOk.ifT hc56 (by kernel_rfl) ?_
  refine CodeOk.skip ?_
  exact hk55 (a0, (a0.Kind == 2)) h _ (Weak.sel [(100, 100)] [1, 22, 34] (by kernel_rfl) (by kernel_rfl) (by kernel_rfl))
 refine CodeOk.ifF hc56 (by kernel_rfl) ?_
 refine ce D_ok mix 2 101 (tl 61 [(1, .loc 100 0), (22, V.int a0.Kind), (34, V.bool (a0.Kind == 3))]) [(100, .cells 51 [V.int a0.Kind, V.int a0.N, V.str a0.Text, .sl false false (a0.Kids.map encI)])] (by kernel_rfl) (fun st hw => ?_)
 exact hk55 (a0, (a0.Kind == 3)) h _ (hw.trans (Weak.sel [(100, 100)] [1, 22, 34] (by kernel_rfl) (by kernel_rfl) (by kernel_rfl)))

theorem m_spec_l15Starts_ok (N : Nat) (a0 : List SDNode) {r : ((List Int) × Bool)} (h : m_spec_l15Starts N a0 = some r) :
    AC Tryd.prog (GS []) 25 [.sl false false (a0.map (encSDNode false))] [] (.tup [.own 100, V.bool r.2]) [(100, .vec false 3 1 (r.1.map encI))] := by
 rw [m_spec_l15Starts] at h
 refine AC.enter Tryd.func25 rfl ?_
 refine cu D_ok mix 2 100 (tl 53 [(0, .sl false false (a0.map (encSDNode false)))]) [] (by kernel_rfl) ?_
 refine cu D_ok mix 2 100 (tl 53 [(0, .sl false false (a0.map (encSDNode false))), (4, .own 100)]) [(100, .vec false 3 1 ([].map encI))] (by kernel_rfl) ?_
 refine CodeOk.seq' ?_
 refine cu D_ok mix 1 101 (tl 53 [(0, .sl false false (a0.map (encSDNode false))), (4, .own 100), (5, V.int 0)]) [(100, .vec false 3 1 ([].map encI))] (by kernel_rfl) ?_
 refine CodeOk.block' ?_
 refine CodeOk.loopJ (fun (⟨a0, y917, y918⟩ : ((List SDNode) × Int × (List Int))) => ⟨tl 53 [(0, .sl false false (a0.map (encSDNode false))), (4, .own 100), (5, V.int y917)], [(100, .vec false 3 1 (y918.map encI))]⟩) (fun n i => m_spec_l15Starts_l1 N n i = some r) (n0 := N) (i0 := (a0, 0, [])) (Weak.sel [(100, 100)] [0, 4, 5] (by kernel_rfl) (by kernel_rfl) (by kernel_rfl)) h (fun i h => by simp [m_spec_l15Starts_l1] at h) ?_
 rintro n1 ⟨a0, y917, y918⟩ h1961 ih1962
 rw [m_spec_l15Starts_l1] at h1961
 refine CodeOk.seq' ?_
 refine CodeOk.cutR (tl 53 [(0, .sl false false (a0.map (encSDNode false))), (4, .own 100), (5, V.int y917), (12, V.bool (decide (y917 < (a0.length : Int))))]) [(100, .vec false 3 1 (y918.map encI))] mix (by
  refine W.run D_ok 2 245 (by kernel_rfl) ?_
  refine W.len D_ok (encSDNode false) a0 [] (by kernel_rfl) (by kernel_rfl) ?_
  refine W.run D_ok 1 245 (by kernel_rfl) ?_
  exact W.fi (by kernel_rfl)
  ) ?_
 (revert h1961; refine cond_rev (fun hc1964 h1961 => ?_) (fun hc1964 h1961 => ?_))
 ·refine CodeOk.ifT hc1964 (by kernel_rfl) ?_
  refine CodeOk.skip ?_
  refine CodeOk.seq' ?_
  refine CodeOk.block' ?_
  refine cu D_ok mix 2 245 (tl 53 [(0, .sl false false (a0.map (encSDNode false))), (4, .own 100), (5, V.int y917), (6, V.int y917)]) [(100, .vec false 3 1 (y918.map encI))] (by kernel_rfl) ?_
  refine CodeOk.seq' ?_
  (revert h1961; refine bind_rev fun e1474 hx2322 h1961 => ?_)
  refine CodeOk.cutR (tl 53 [(0, .sl false false (a0.map (encSDNode false))), (4, .own 100), (5, V.int y917), (6, V.int y917), (7, V.int (IntKind.wrap .i64 ((e1474.Kids.length : Int) - 1)))]) [(100, .vec false 3 1 (y918.map encI))] mix (by
   refine W.run D_ok 2 245 (by kernel_rfl) ?_
   refine W.ixD D_ok (encSDNode false) hx2322 4 (by kernel_rfl) (by kernel_rfl) ?_
   refine W.run D_ok 2 245 (by kernel_rfl) ?_
   refine W.len D_ok encI e1474.Kids [] (by kernel_rfl) (by kernel_rfl) ?_
   refine W.run D_ok 2 245 (by kernel_rfl) ?_
   exact W.fi (by kernel_rfl)
   ) ?_
  refine CodeOk.block' ?_
  refine CodeOk.loopJ (fun (⟨a0, y917, y918, y1499, y1500⟩ : ((List SDNode) × Int × (List Int) × Int × Int)) => ⟨tl 53 [(0, .sl false false (a0.map (encSDNode false))), (4, .own 100), (5, V.int y917), (6, V.int y1499), (7, V.int y1500)], [(100, .vec false 3 1 (y918.map encI))]⟩) (fun n i => m_spec_l15Starts_l2 N (m_spec_l15Starts_l1 N n1) n i = some r) (n0 := N) (i0 := (a0, y917, y918, y917, (IntKind.wrap .i64 ((e1474.Kids.length : Int) - 1)))) (Weak.sel [(100, 100)] [0, 4, 5, 6, 7] (by kernel_rfl) (by kernel_rfl) (by kernel_rfl)) h1961 (fun i h => by simp [m_spec_l15Starts_l2] at h) ?_
  rintro n2 ⟨a0, y917, y918, y1499, y1500⟩ h2399 ih2400
  rw [m_spec_l15Starts_l2] at h2399
  refine CodeOk.seq' ?_
  refine cu D_ok mix 2 305 (tl 53 [(0, .sl false false (a0.map (encSDNode false))), (4, .own 100), (5, V.int y917), (6, V.int y1499), (7, V.int y1500), (24, V.bool (decide (y1500 ≥ 0)))]) [(100, .vec false 3 1 (y918.map encI))] (by kernel_rfl) ?_
  (revert h2399; refine cond_rev (fun hc2402 h2399 => ?_) (fun hc2402 h2399 => ?_))
  ·refine CodeOk.ifT hc2402 (by kernel_rfl) ?_
   refine CodeOk.skip ?_
   refine CodeOk.seq' ?_
   refine CodeOk.block' ?_
   refine CodeOk.seq' ?_
   (revert h2399; refine bind_rev fun y1546 hv2432 h2399 => ?_)
   refine CodeOk.cutR (tl 53 [(0, .sl false false (a0.map (encSDNode false))), (4, .own 100), (5, V.int y917), (6, V.int y1499), (7, V.int y1500), (41, V.bool y1546)]) [(100, .vec false 3 1 (y918.map encI))] mix (by
    refine W.run D_ok 2 305 (by kernel_rfl) ?_
    (revert hv2432; refine bind_rev fun e1547 hx2433 hv2432 => ?_)
    refine W.ixD D_ok (encSDNode false) hx2433 4 (by kernel_rfl) (by kernel_rfl) ?_
    refine W.run D_ok 3 305 (by kernel_rfl) ?_
    (revert hv2432; refine bind_rev fun e1548 hx2434 hv2432 => ?_)
    refine W.ixD D_ok encI hx2434 1 (by kernel_rfl) (by kernel_rfl) ?_
    refine W.run D_ok 5 305 (by kernel_rfl) ?_
    (revert hv2432; refine cond_rev (fun hc2435 hv2432 => ?_) (fun hc2435 hv2432 => ?_))
    ·refine W.is 38 hc2435 (by kernel_rfl) ?_
     refine W.run D_ok 3 305 (by kernel_rfl) ?_
     have hv2432 := Option.some.inj hv2432
     subst hv2432
     exact W.fs [(100, 100)] [0, 4, 5, 6, 7, 41] (by kernel_rfl)
    refine W.is 38 hc2435 (by kernel_rfl) ?_
    refine W.run D_ok 3 305 (by kernel_rfl) ?_
    have hv2432 := Option.some.inj hv2432
    subst hv2432
    exact W.fs [(100, 100)] [0, 4, 5, 6, 7, 41] (by kernel_rfl)
    ) ?_
   (revert h2399; refine cond_rev (fun hc2436 h2399 => ?_) (fun hc2436 h2399 => ?_))
   ·refine CodeOk.ifT hc2436 (by kernel_rfl) ?_
    refine cu D_ok mix 3 305 (tl 53 [(2, .own 305), (3, V.bool false)]) [(305, .vec false 3 1 ([].map encI))] (by kernel_rfl) ?_
    refine CodeOk.ret ?_
    have h2399 := Option.some.inj h2399
    subst h2399
    exact Ends.gen [(305, 100)] (.inr rfl) (RetV.two rfl (OneR.tmp (t := 2) (r := .own 305) (by kernel_rfl)) (OneR.tmp (t := 3) (r := V.bool false) (by kernel_rfl))) (by kernel_rfl) (by kernel_rfl) (by kernel_rfl)
   refine CodeOk.ifF hc2436 (by kernel_rfl) ?_
   refine CodeOk.skip ?_
   (revert h2399; refine bind_rev fun e1550 hx2438 h2399 => ?_)
   refine CodeOk.endR (tl 53 [(0, .sl false false (a0.map (encSDNode false))), (4, .own 100), (5, V.int y917), (6, V.int e1550), (7, V.int y1500)]) [(100, .vec false 3 1 (y918.map encI))] mix (by
    refine W.run D_ok 3 305 (by kernel_rfl) ?_
    refine W.ixO D_ok encI hx2438 100 1 (by kernel_rfl) ?_
    refine W.ldO D_ok encI hx2438 3 100 0 (V.int e1550) (by kernel_rfl) (by kernel_rfl) ?_
    refine W.run D_ok 1 305 (by kernel_rfl) ?_
    exact W.fi (by kernel_rfl)
    ) (fun st hw => ?_)
   refine CodeOk.weak hw ?_
   refine ce D_ok mix 3 305 (tl 53 [(0, .sl false false (a0.map (encSDNode false))), (4, .own 100), (5, V.int y917), (6, V.int e1550), (7, V.int (IntKind.wrap .i64 (y1500 - 1)))]) [(100, .vec false 3 1 (y918.map encI))] (by kernel_rfl) (fun st hw => ?_)
   exact ih2400 (a0, y917, y918, e1550, (IntKind.wrap .i64 (y1500 - 1))) h2399 _ (hw.trans (Weak.sel [(100, 100)] [0, 4, 5, 6, 7] (by kernel_rfl) (by kernel_rfl) (by kernel_rfl)))
  refine CodeOk.ifF hc2402 (by kernel_rfl) ?_
  refine CodeOk.exit ?_
  (revert h2399; refine bind_rev fun x1552 hx2440 h2399 => ?_)
  refine CodeOk.endR (tl 53 [(0, .sl false false (a0.map (encSDNode false))), (4, .own 306), (5, V.int y917)]) [(306, .vec false 3 1 (x1552.map encI))] mix (by
   refine W.run D_ok 3 305 (by kernel_rfl) ?_
   refine W.appO D_ok encI (a := 100) (c := 305) (el := 3) (sz := 1) 8 hx2440 rfl 306 (by kernel_rfl) ?_
   refine W.run D_ok 1 307 (by kernel_rfl) ?_
   exact W.fi (by kernel_rfl)
   ) (fun st hw => ?_)
  refine CodeOk.weak hw ?_
  refine ce D_ok mix 3 307 (tl 53 [(0, .sl false false (a0.map (encSDNode false))), (4, .own 306), (5, V.int (IntKind.wrap .i64 (y917 + 1)))]) [(306, .vec false 3 1 (x1552.map encI))] (by kernel_rfl) (fun st hw => ?_)
  exact ih1962 (a0, (IntKind.wrap .i64 (y917 + 1)), x1552) h2399 _ (hw.trans (Weak.sel [(306, 100)] [0, 4, 5] (by kernel_rfl) (by kernel_rfl) (by kernel_rfl)))
 refine CodeOk.ifF hc1964 (by kernel_rfl) ?_
 refine CodeOk.exit ?_
 refine cu D_ok mix 3 245 (tl 53 [(2, .own 100), (3, V.bool true)]) [(100, .vec false 3 1 (y918.map encI))] (by kernel_rfl) ?_
 refine CodeOk.ret ?_
 have h1961 := Option.some.inj h1961
 subst h1961
 exact Ends.gen [(100, 100)] (.inr rfl) (RetV.two rfl (OneR.tmp (t := 2) (r := .own 100) (by kernel_rfl)) (OneR.tmp (t := 3) (r := V.bool true) (by kernel_rfl))) (by kernel_rfl) (by kernel_rfl) (by kernel_rfl)

theorem m_spec_DocOk_ok (N : Nat) (a0 : List SDNode) {r : Bool} (h : m_spec_DocOk N a0 = some r) :
    AC Tryd.prog (GS []) 7 [.sl false false (a0.map (encSDNode false))] [] (V.bool r) [] := by
 rw [m_spec_DocOk] at h
 refine AC.enter Tryd.func7 rfl ?_
 refine cu D_ok mix 1 100 (tl 37 [(0, .sl false false (a0.map (encSDNode false)))]) [] (by kernel_rfl) ?_
 refine CodeOk.seq' ?_
 (revert h; refine bind_rev fun r4 hx5 h => ?_)
 refine CodeOk.cutR (tl 37 [(0, .sl false false (a0.map (encSDNode false))), (9, V.bool (!r4))]) [] mix (by
  refine W.run D_ok 1 100 (by kernel_rfl) ?_
  refine W.len D_ok (encSDNode false) a0 [] (by kernel_rfl) (by kernel_rfl) ?_
  refine W.call0 (m_spec_l1In_ok (a0.length : Int) 1 4000 hx5) cok23 rfl (by kernel_rfl) ?_
  refine W.run D_ok 1 100 (by kernel_rfl) ?_
  exact W.fi (by kernel_rfl)
  ) ?_
 (revert h; refine cond_rev (fun hc6 h => ?_) (fun hc6 h => ?_))
 ·refine CodeOk.ifT hc6 (by kernel_rfl) ?_
  refine cu D_ok mix 1 100 (tl 37 [(2, V.bool false)]) [] (by kernel_rfl) ?_
  refine CodeOk.ret ?_
  have h := Option.some.inj h
  subst h
  exact Ends.gen [] (.inr rfl) (RetV.one rfl (OneR.tmp (t := 2) (r := V.bool false) (by kernel_rfl))) (by kernel_rfl) (by kernel_rfl) (by kernel_rfl)
 refine CodeOk.ifF hc6 (by kernel_rfl) ?_
 refine CodeOk.skip ?_
 refine CodeOk.seq' ?_
 refine cu D_ok mix 1 100 (tl 37 [(0, .sl false false (a0.map (encSDNode false))), (3, V.int 0)]) [] (by kernel_rfl) ?_
 refine CodeOk.block' ?_
 refine CodeOk.loopJ (fun (⟨a0, y39⟩ : ((List SDNode) × Int)) => ⟨tl 37 [(0, .sl false false (a0.map (encSDNode false))), (3, V.int y39)], []⟩) (fun n i => m_spec_DocOk_l1 N n i = some r) (n0 := N) (i0 := (a0, 0)) (Weak.sel [] [0, 3] (by kernel_rfl) (by kernel_rfl) (by kernel_rfl)) h (fun i h => by simp [m_spec_DocOk_l1] at h) ?_
 rintro n1 ⟨a0, y39⟩ h69 ih70
 rw [m_spec_DocOk_l1] at h69
 refine CodeOk.seq' ?_
 refine CodeOk.cutR (tl 37 [(0, .sl false false (a0.map (encSDNode false))), (3, V.int y39), (13, V.bool (decide (y39 < (a0.length : Int))))]) [] mix (by
  refine W.run D_ok 2 160 (by kernel_rfl) ?_
  refine W.len D_ok (encSDNode false) a0 [] (by kernel_rfl) (by kernel_rfl) ?_
  refine W.run D_ok 1 160 (by kernel_rfl) ?_
  exact W.fi (by kernel_rfl)
  ) ?_
 (revert h69; refine cond_rev (fun hc72 h69 => ?_) (fun hc72 h69 => ?_))
 ·refine CodeOk.ifT hc72 (by kernel_rfl) ?_
  refine CodeOk.skip ?_
  refine CodeOk.seq' ?_
  refine CodeOk.block' ?_
  (revert h69; refine bind_rev fun e55 hx80 h69 => ?_)
  (revert h69; refine bind_rev fun r56 hx81 h69 => ?_)
  refine CodeOk.cutR (tl 37 [(0, .sl false false (a0.map (encSDNode false))), (3, V.int y39), (21, V.bool (!r56))]) [] mix (by
   refine W.run D_ok 2 160 (by kernel_rfl) ?_
   refine W.ixD D_ok (encSDNode false) hx80 4 (by kernel_rfl) (by kernel_rfl) ?_
   refine W.run D_ok 1 160 (by kernel_rfl) ?_
   refine W.call0 (m_spec_l15Node_ok N e55 hx81) cok24 rfl (by kernel_rfl) ?_
   refine W.run D_ok 1 160 (by kernel_rfl) ?_
   exact W.fi (by kernel_rfl)
   ) ?_
  (revert h69; refine cond_rev (fun hc82 h69 => ?_) (fun hc82 h69 => ?_))
  ·refine CodeOk.ifT hc82 (by kernel_rfl) ?_
   refine cu D_ok mix 1 160 (tl 37 [(2, V.bool false)]) [] (by kernel_rfl) ?_
   refine CodeOk.ret ?_
   have h69 := Option.some.inj h69
   subst h69
   exact Ends.gen [] (.inr rfl) (RetV.one rfl (OneR.tmp (t := 2) (r := V.bool false) (by kernel_rfl))) (by kernel_rfl) (by kernel_rfl) (by kernel_rfl)
  refine CodeOk.ifF hc82 (by kernel_rfl) ?_
  refine CodeOk.skip ?_
  refine ce D_ok mix 3 160 (tl 37 [(0, .sl false false (a0.map (encSDNode false))), (3, V.int (IntKind.wrap .i64 (y39 + 1)))]) [] (by kernel_rfl) (fun st hw => ?_)
  exact ih70 (a0, (IntKind.wrap .i64 (y39 + 1))) h69 _ (hw.trans (Weak.sel [] [0, 3] (by kernel_rfl) (by kernel_rfl) (by kernel_rfl)))
 refine CodeOk.ifF hc72 (by kernel_rfl) ?_
 refine CodeOk.exit ?_
 (revert h69; refine bind_rev fun r58 hx84 h69 => ?_)
 refine CodeOk.cutR (tl 37 [(0, .sl false false (a0.map (encSDNode false))), (4, .own 160), (5, V.bool r58.2)]) [(160, .vec false 3 1 (r58.1.map encI))] mix (by
  refine W.run D_ok 1 160 (by kernel_rfl) ?_
  refine W.call (m_spec_l15Starts_ok N a0 hx84) cok25 [] [(100, 160)] [160] (show LayOk _ [] from trivial) (by kernel_rfl) (by kernel_rfl) ?_
  refine W.run D_ok 5 161 (by kernel_rfl) ?_
  exact W.fi (by kernel_rfl)
  ) ?_
 (revert h69; refine bind_rev fun y60 hv87 h69 => ?_)
 refine CodeOk.cutR (tl 37 [(2, V.bool y60)]) [] mix (by
  refine W.run D_ok 2 161 (by kernel_rfl) ?_
  (revert hv87; refine cond_rev (fun hc88 hv87 => ?_) (fun hc88 hv87 => ?_))
  ·refine W.is 28 hc88 (by kernel_rfl) ?_
   refine W.run D_ok 2 161 (by kernel_rfl) ?_
   refine W.len D_ok (encSDNode false) a0 [] (by kernel_rfl) (by kernel_rfl) ?_
   refine W.run D_ok 1 161 (by kernel_rfl) ?_
   (revert hv87; refine bind_rev fun e61 hx89 hv87 => ?_)
   refine W.ixO D_ok encI hx89 160 1 (by kernel_rfl) ?_
   refine W.ldO D_ok encI hx89 3 160 0 (V.int e61) (by kernel_rfl) (by kernel_rfl) ?_
   refine W.run D_ok 3 161 (by kernel_rfl) ?_
   have hv87 := Option.some.inj hv87
   subst hv87
   exact W.fs [] [2] (by kernel_rfl)
  refine W.is 28 hc88 (by kernel_rfl) ?_
  refine W.run D_ok 9 161 (by kernel_rfl) ?_
  have hv87 := Option.some.inj hv87
  subst hv87
  exact W.fs [] [2] (by kernel_rfl)
  ) ?_
 refine CodeOk.ret ?_
 have h69 := Option.some.inj h69
 subst h69
 exact Ends.gen [] (.inr rfl) (RetV.one rfl (OneR.tmp (t := 2) (r := V.bool y60) (by kernel_rfl))) (by kernel_rfl) (by kernel_rfl) (by kernel_rfl)

theorem m_impl_copyDoc_ok (N : Nat) (a0 : List SDNode) (a1 : Int) (a2 : Int) {r : (List SDNode)} (h : m_impl_copyDoc N a0 a1 a2 = some r) :
    AC Tryd.prog (GS []) 26 [.sl false false (a0.map (encSDNode false)), V.int a1, V.int a2] [] (.own 100) [(100, .vec false 51 4 (r.map (encSDNode true)))] := by
 rw [m_impl_copyDoc] at h
 refine AC.enter Tryd.func26 rfl ?_
 refine cu D_ok mix 1 100 (tl 34 [(0, .sl false false (a0.map (encSDNode false))), (1, V.int a1), (2, V.int a2)]) [] (by kernel_rfl) ?_
 refine cu D_ok mix 2 100 (tl 34 [(0, .sl false false (a0.map (encSDNode false))), (1, V.int a1), (2, V.int a2), (7, .own 100)]) [(100, .vec false 51 4 ([].map (encSDNode true)))] (by kernel_rfl) ?_
 refine CodeOk.seq' ?_
 refine CodeOk.cutR (tl 34 [(1, V.int a1), (2, V.int a2), (7, .own 100), (11, .sl false false (a0.map (encSDNode false))), (12, V.int (a0.length : Int)), (13, V.int 0)]) [(100, .vec false 51 4 ([].map (encSDNode true)))] mix (by
  refine W.run D_ok 1 101 (by kernel_rfl) ?_
  refine W.len D_ok (encSDNode false) a0 [] (by kernel_rfl) (by kernel_rfl) ?_
  refine W.run D_ok 1 101 (by kernel_rfl) ?_
  exact W.fi (by kernel_rfl)
  ) ?_
 refine CodeOk.block' ?_
 refine CodeOk.loopJ (fun (⟨a1, a2, a0, y61, y62⟩ : (Int × Int × (List SDNode) × Int × (List SDNode))) => ⟨tl 34 [(1, V.int a1), (2, V.int a2), (7, .own 100), (11, .sl false false (a0.map (encSDNode false))), (12, V.int (a0.length : Int)), (13, V.int y61)], [(100, .vec false 51 4 (y62.map (encSDNode true)))]⟩) (fun n i => m_impl_copyDoc_l1 N n i = some r) (n0 := N) (i0 := (a1, a2, a0, 0, [])) (Weak.sel [(100, 100)] [1, 2, 7, 11, 12, 13] (by kernel_rfl) (by kernel_rfl) (by kernel_rfl)) h (fun i h => by simp [m_impl_copyDoc_l1] at h) ?_
 rintro n1 ⟨a1, a2, a0, y61, y62⟩ h113 ih114
 rw [m_impl_copyDoc_l1] at h113
 refine cu D_ok mix 1 171 (tl 34 [(1, V.int a1), (2, V.int a2), (7, .own 100), (11, .sl false false (a0.map (encSDNode false))), (12, V.int (a0.length : Int)), (13, V.int y61), (14, V.bool (decide (y61 < (a0.length : Int))))]) [(100, .vec false 51 4 (y62.map (encSDNode true)))] (by kernel_rfl) ?_
 refine CodeOk.seq' ?_
 (revert h113; refine cond_rev (fun hc116 h113 => ?_) (fun hc116 h113 => ?_))
 ·refine CodeOk.ifT hc116 (by kernel_rfl) ?_
  refine CodeOk.skip ?_
  refine CodeOk.seq' ?_
  refine CodeOk.block' ?_
  (revert h113; refine bind_rev fun e87 hx128 h113 => ?_)
  refine CodeOk.cutR (tl 34 [(1, V.int a1), (2, V.int a2), (7, .own 100), (9, .loc 171 0), (11, .sl false false (a0.map (encSDNode false))), (12, V.int (a0.length : Int)), (13, V.int y61)]) [(171, .cells 51 [V.int e87.Kind, V.int e87.N, V.str e87.Text, .sl false false (e87.Kids.map encI)]), (100, .vec false 51 4 (y62.map (encSDNode true)))] mix (by
   refine W.ixD D_ok (encSDNode false) hx128 4 (by kernel_rfl) (by kernel_rfl) ?_
   refine W.run D_ok 3 171 (by kernel_rfl) ?_
   exact W.fi (by kernel_rfl)
   ) ?_
  refine CodeOk.join (fun (⟨a1, a2, a0, y61, y62, e87, y88⟩ : (Int × Int × (List SDNode) × Int × (List SDNode) × SDNode × Int)) => ⟨tl 34 [(1, V.int a1), (2, V.int a2), (7, .own 100), (9, .loc 101 0), (11, .sl false false (a0.map (encSDNode false))), (12, V.int (a0.length : Int)), (13, V.int y61)], [(100, .vec false 51 4 (y62.map (encSDNode true))), (101, .cells 51 [V.int y88, V.int e87.N, V.str e87.Text, .sl false false (e87.Kids.map encI)])]⟩) (fun i => m_impl_copyDoc_k2 N (m_impl_copyDoc_l1 N n1) i = some r) ?_ ?_
  · rintro ⟨a1, a2, a0, y61, y62, e87, y88⟩ h130
    rw [m_impl_copyDoc_k2] at h130
    (revert h130; refine bind_rev fun x90 hx132 h130 => ?_)
    refine CodeOk.cutR (tl 34 [(1, V.int a1), (2, V.int a2), (7, .own 100), (9, .loc 101 0), (11, .sl false false (a0.map (encSDNode false))), (12, V.int (a0.length : Int)), (13, V.int y61)]) [(101, .cells 51 [V.int y88, V.int e87.N, V.str e87.Text, .own 173]), (173, .vec false 3 1 (x90.map encI)), (100, .vec false 51 4 (y62.map (encSDNode true)))] mix (by
     refine W.run D_ok 3 172 (by kernel_rfl) ?_
     refine W.appD D_ok encI (a := 172) (el := 3) 8 hx132 rfl 173 1 (fun _ => by first | rfl | kernel_rfl) (by kernel_rfl) ?_
     refine W.run D_ok 2 174 (by kernel_rfl) ?_
     exact W.fi (by kernel_rfl)
     ) ?_
    (revert h130; refine bind_rev fun x92 hx134 h130 => ?_)
    refine CodeOk.endR (tl 34 [(1, V.int a1), (2, V.int a2), (7, .own 175), (11, .sl false false (a0.map (encSDNode false))), (12, V.int (a0.length : Int)), (13, V.int y61)]) [(175, .vec false 51 4 (x92.map (encSDNode true)))] mix (by
     refine W.run D_ok 3 174 (by kernel_rfl) ?_
     refine W.appO D_ok (encSDNode true) (a := 100) (c := 174) (el := 51) (sz := 4) 56 hx134 rfl 175 (by kernel_rfl) ?_
     refine W.run D_ok 1 176 (by kernel_rfl) ?_
     exact W.fi (by kernel_rfl)
     ) (fun st hw => ?_)
    refine CodeOk.weak hw ?_
    refine ce D_ok mix 2 176 (tl 34 [(1, V.int a1), (2, V.int a2), (7, .own 175), (11, .sl false false (a0.map (encSDNode false))), (12, V.int (a0.length : Int)), (13, V.int (IntKind.wrap .i64 (y61 + 1)))]) [(175, .vec false 51 4 (x92.map (encSDNode true)))] (by kernel_rfl) (fun st hw => ?_)
    exact ih114 (a1, a2, a0, (IntKind.wrap .i64 (y61 + 1)), x92) h130 _ (hw.trans (Weak.sel [(175, 100)] [1, 2, 7, 11, 12, 13] (by kernel_rfl) (by kernel_rfl) (by kernel_rfl)))
  intro hk135
  refine cu D_ok mix 4 172 (tl 34 [(1, V.int a1), (2, V.int a2), (7, .own 100), (9, .loc 171 0), (11, .sl false false (a0.map (encSDNode false))), (12, V.int (a0.length : Int)), (13, V.int y61), (20, V.bool (e87.Kind == a1))]) [(171, .cells 51 [V.int e87.Kind, V.int e87.N, V.str e87.Text, .sl false false (e87.Kids.map encI)]), (100, .vec false 51 4 (y62.map (encSDNode true)))] (by kernel_rfl) ?_
  (revert h113; refine cond_rev (fun hc136 h113 => ?_) (fun hc136 h113 => ?_))
  ·refine CodeOk.ifT hc136 (by kernel_rfl) ?_
   refine ce D_ok mix 3 172 (tl 34 [(1, V.int a1), (2, V.int a2), (7, .own 100), (9, .loc 171 0), (11, .sl false false (a0.map (encSDNode false))), (12, V.int (a0.length : Int)), (13, V.int y61)]) [(171, .cells 51 [V.int a2, V.int e87.N, V.str e87.Text, .sl false false (e87.Kids.map encI)]), (100, .vec false 51 4 (y62.map (encSDNode true)))] (by kernel_rfl) (fun st hw => ?_)
   exact hk135 (a1, a2, a0, y61, y62, e87, a2) h113 _ (hw.trans (Weak.sel [(100, 100), (171, 101)] [1, 2, 7, 9, 11, 12, 13] (by kernel_rfl) (by kernel_rfl) (by kernel_rfl)))
  refine CodeOk.ifF hc136 (by kernel_rfl) ?_
  refine CodeOk.skip ?_
  exact hk135 (a1, a2, a0, y61, y62, e87, e87.Kind) h113 _ (Weak.sel [(100, 100), (171, 101)] [1, 2, 7, 9, 11, 12, 13] (by kernel_rfl) (by kernel_rfl) (by kernel_rfl))
 refine CodeOk.ifF hc116 (by kernel_rfl) ?_
 refine CodeOk.exit ?_
 refine cu D_ok mix 2 171 (tl 34 [(6, .own 100)]) [(100, .vec false 51 4 (y62.map (encSDNode true)))] (by kernel_rfl) ?_
 refine CodeOk.ret ?_
 have h113 := Option.some.inj h113
 subst h113
 exact Ends.gen [(100, 100)] (.inr rfl) (RetV.one rfl (OneR.tmp (t := 6) (r := .own 100) (by kernel_rfl))) (by kernel_rfl) (by kernel_rfl) (by kernel_rfl)

theorem m_impl_Ungrouped_ok (N : Nat) (a0 : List SDNode) {r : (List SDNode)} (h : m_impl_Ungrouped N a0 = some r) :
    AC Tryd.prog (GS []) 8 [.sl false false (a0.map (encSDNode false))] [] (.own 100) [(100, .vec false 51 4 (r.map (encSDNode true)))] := by
 rw [m_impl_Ungrouped] at h
 refine AC.enter Tryd.func8 rfl ?_
 refine cu D_ok mix 1 100 (tl 8 [(0, .sl false false (a0.map (encSDNode false)))]) [] (by kernel_rfl) ?_
 refine CodeOk.seq' ?_
 (revert h; refine bind_rev fun r4 hx5 h => ?_)
 refine CodeOk.cutR (tl 8 [(0, .sl false false (a0.map (encSDNode false))), (5, V.bool (!r4))]) [] mix (by
  refine W.run D_ok 1 100 (by kernel_rfl) ?_
  refine W.call0 (m_impl_DocOk_ok N a0 hx5) cok19 rfl (by kernel_rfl) ?_
  refine W.run D_ok 1 100 (by kernel_rfl) ?_
  exact W.fi (by kernel_rfl)
  ) ?_
 (revert h; refine cond_rev (fun hc6 h => ?_) (fun hc6 h => ?_))
 ·refine CodeOk.ifT hc6 (by kernel_rfl) ?_
  refine cu D_ok mix 1 100 (tl 8 [(2, .c (.slice none 0 0))]) [] (by kernel_rfl) ?_
  refine CodeOk.weak (Weak.nil 2 100 51 4 (by kernel_rfl) (by kernel_rfl)) ?_
  refine CodeOk.ret ?_
  have h := Option.some.inj h
  subst h
  exact Ends.gen [(100, 100)] (.inr rfl) (RetV.one rfl (OneR.tmp (t := 2) (r := .own 100) (by kernel_rfl))) (by kernel_rfl) (by kernel_rfl) (by kernel_rfl)
 refine CodeOk.ifF hc6 (by kernel_rfl) ?_
 refine CodeOk.skip ?_
 (revert h; refine bind_rev fun r6 hx8 h => ?_)
 refine CodeOk.cutR (tl 8 [(2, .own 100)]) [(100, .vec false 51 4 (r6.map (encSDNode true)))] mix (by
  refine W.run D_ok 1 100 (by kernel_rfl) ?_
  refine W.call (m_impl_copyDoc_ok N a0 5 6 hx8) cok26 [] [(100, 100)] [100] (show LayOk _ [] from trivial) (by kernel_rfl) (by kernel_rfl) ?_
  refine W.run D_ok 1 101 (by kernel_rfl) ?_
  exact W.fi (by kernel_rfl)
  ) ?_
 refine CodeOk.ret ?_
 have h := Option.some.inj h
 subst h
 exact Ends.gen [(100, 100)] (.inr rfl) (RetV.one rfl (OneR.tmp (t := 2) (r := .own 100) (by kernel_rfl))) (by kernel_rfl) (by kernel_rfl) (by kernel_rfl)

theorem m_laws_at_ok (a0 : List UInt8) (a1 : Int) {r : Int} (h : m_laws_at a0 a1 = some r) :
    AC Tryd.prog (GS []) 9 [.sl false false (a0.map byteRow), V.int a1] [] (V.int r) [] := by
 rw [m_laws_at] at h
 refine AC.enter Tryd.func9 rfl ?_
 refine cu D_ok mix 1 100 (tl 21 [(0, .sl false false (a0.map byteRow)), (1, V.int a1)]) [] (by kernel_rfl) ?_
 refine CodeOk.seq' ?_
 refine CodeOk.cutR (tl 21 [(0, .sl false false (a0.map byteRow)), (1, V.int a1), (8, V.bool (decide (a1 < (a0.length : Int))))]) [] mix (by
  refine W.run D_ok 2 100 (by kernel_rfl) ?_
  refine W.len D_ok byteRow a0 [] (by kernel_rfl) (by kernel_rfl) ?_
  refine W.run D_ok 1 100 (by kernel_rfl) ?_
  exact W.fi (by kernel_rfl)
  ) ?_
 (revert h; refine cond_rev (fun hc4 h => ?_) (fun hc4 h => ?_))
 ·refine CodeOk.ifT hc4 (by kernel_rfl) ?_
  (revert h; refine bind_rev fun e4 hx6 h => ?_)
  refine CodeOk.cutR (tl 21 [(4, V.int (IntKind.wrap .i64 ((e4).toNat : Int)))]) [] mix (by
   refine W.run D_ok 2 100 (by kernel_rfl) ?_
   refine W.ixD D_ok byteRow hx6 1 (by kernel_rfl) (by kernel_rfl) ?_
   refine W.run D_ok 3 100 (by kernel_rfl) ?_
   exact W.fi (by kernel_rfl)
   ) ?_
  refine CodeOk.ret ?_
  have h := Option.some.inj h
  subst h
  exact Ends.gen [] (.inr rfl) (RetV.one rfl (OneR.tmp (t := 4) (r := V.int (IntKind.wrap .i64 ((e4).toNat : Int))) (by kernel_rfl))) (by kernel_rfl) (by kernel_rfl) (by kernel_rfl)
 refine CodeOk.ifF hc4 (by kernel_rfl) ?_
 refine CodeOk.skip ?_
 refine CodeOk.cutR (tl 21 [(4, V.int (Int.tmod (IntKind.wrap .i64 ((IntKind.wrap .i64 (a1 * 37)) + (IntKind.wrap .i64 ((a0.length : Int) * 11)))) 256))]) [] mix (by
  refine W.run D_ok 3 100 (by kernel_rfl) ?_
  refine W.len D_ok byteRow a0 [] (by kernel_rfl) (by kernel_rfl) ?_
  refine W.run D_ok 4 100 (by kernel_rfl) ?_
  exact W.fi (by kernel_rfl)
  ) ?_
 refine CodeOk.ret ?_
 have h := Option.some.inj h
 subst h
 exact Ends.gen [] (.inr rfl) (RetV.one rfl (OneR.tmp (t := 4) (r := V.int (Int.tmod (IntKind.wrap .i64 ((IntKind.wrap .i64 (a1 * 37)) + (IntKind.wrap .i64 ((a0.length : Int) * 11)))) 256)) (by kernel_rfl))) (by kernel_rfl) (by kernel_rfl) (by kernel_rfl)

def layRep_ren : Go.Shelf.Ren := ⟨fun | 105 => 52 | 212 => 57 | 99 => 58 | 165 => 59 | 166 => 60 | 170 => 61 | 169 => 62 | 263 => 67 | 264 => 68 | 206 => 69 | 240 => 70 | 241 => 71 | 276 => 77 | 277 => 78 | n => n, fun | 9 => 9 | 3 => 3 | 4 => 4 | 20 => 20 | 0 => 0 | 46 => 86 | 109 => 87 | 5 => 5 | 72 => 91 | 76 => 94 | 51 => 101 | 146 => 102 | 53 => 104 | 148 => 105 | 70 => 89 | 37 => 22 | 75 => 93 | 127 => 107 | 164 => 109 | 80 => 96 | n => n, fun | n => n⟩
theorem layRep : Go.Proofs.Lays.n105 Tryd.prog layRep_ren where
  mixed := by kernel_rfl
  f99 := Tryd.func58.trans (congrArg some (by kernel_rfl))
  f105 := Tryd.func52.trans (congrArg some (by kernel_rfl))
  f165 := Tryd.func59.trans (congrArg some (by kernel_rfl))
  f166 := Tryd.func60.trans (congrArg some (by kernel_rfl))
  f169 := Tryd.func62.trans (congrArg some (by kernel_rfl))
  f170 := Tryd.func61.trans (congrArg some (by kernel_rfl))
  f206 := Tryd.func69.trans (congrArg some (by kernel_rfl))
  f212 := Tryd.func57.trans (congrArg some (by kernel_rfl))
  f240 := Tryd.func70.trans (congrArg some (by kernel_rfl))
  f241 := Tryd.func71.trans (congrArg some (by kernel_rfl))
  f263 := Tryd.func67.trans (congrArg some (by kernel_rfl))
  f264 := Tryd.func68.trans (congrArg some (by kernel_rfl))
  f276 := Tryd.func77.trans (congrArg some (by kernel_rfl))
  f277 := Tryd.func78.trans (congrArg some (by kernel_rfl))
  t0 := Tryd.underlying0
  a0 := Tryd.isAgg0
  z0 := Tryd.sizeOf0
  v0 := Tryd.zeroValue0
  t3 := Tryd.underlying3
  a3 := Tryd.isAgg3
  z3 := Tryd.sizeOf3
  v3 := Tryd.zeroValue3
  t4 := Tryd.underlying4
  a4 := Tryd.isAgg4
  z4 := Tryd.sizeOf4
  v4 := Tryd.zeroValue4
  t5 := Tryd.underlying5
  a5 := Tryd.isAgg5
  z5 := Tryd.sizeOf5
  v5 := Tryd.zeroValue5
  t9 := Tryd.underlying9
  a9 := Tryd.isAgg9
  z9 := Tryd.sizeOf9
  v9 := Tryd.zeroValue9
  t20 := Tryd.underlying20
  a20 := Tryd.isAgg20
  z20 := Tryd.sizeOf20
  v20 := Tryd.zeroValue20
  t37 := Tryd.underlying22
  a37 := Tryd.isAgg22
  z37 := Tryd.sizeOf22
  v37 := Tryd.zeroValue22
  t46 := Tryd.underlying86
  a46 := Tryd.isAgg86
  z46 := Tryd.sizeOf86
  v46 := Tryd.zeroValue86
  t51 := Tryd.underlying101
  a51 := Tryd.isAgg101
  z51 := Tryd.sizeOf101
  v51 := Tryd.zeroValue101
  t53 := Tryd.underlying104
  a53 := Tryd.isAgg104
  z53 := Tryd.sizeOf104
  v53 := Tryd.zeroValue104
  t70 := Tryd.underlying89
  a70 := Tryd.isAgg89
  z70 := Tryd.sizeOf89
  v70 := Tryd.zeroValue89
  t72 := Tryd.underlying91
  a72 := Tryd.isAgg91
  z72 := Tryd.sizeOf91
  v72 := Tryd.zeroValue91
  t75 := Tryd.underlying93
  a75 := Tryd.isAgg93
  z75 := Tryd.sizeOf93
  v75 := Tryd.zeroValue93
  t76 := Tryd.underlying94
  a76 := Tryd.isAgg94
  z76 := Tryd.sizeOf94
  v76 := Tryd.zeroValue94
  t109 := Tryd.underlying87
  a109 := Tryd.isAgg87
  z109 := Tryd.sizeOf87
  v109 := Tryd.zeroValue87
  t127 := Tryd.underlying107
  a127 := Tryd.isAgg107
  z127 := Tryd.sizeOf107
  v127 := Tryd.zeroValue107
  t146 := Tryd.underlying102
  a146 := Tryd.isAgg102
  z146 := Tryd.sizeOf102
  v146 := Tryd.zeroValue102
  t148 := Tryd.underlying105
  a148 := Tryd.isAgg105
  z148 := Tryd.sizeOf105
  v148 := Tryd.zeroValue105
  t164 := Tryd.underlying109
  a164 := Tryd.isAgg109
  z164 := Tryd.sizeOf109
  v164 := Tryd.zeroValue109
theorem layRepX : Go.Proofs.Builder.Extra Tryd.prog layRep_ren where
  sizeBuilder := by kernel_rfl
  liesBuilder := by kernel_rfl
  t5 := Tryd.underlying5
  a5 := Tryd.isAgg5
  z5 := Tryd.sizeOf5
  v5 := Tryd.zeroValue5
  infoByte := by kernel_rfl
  cellsByte := by kernel_rfl
  sizeByte := by kernel_rfl
  neB5 := by decide


theorem m_strings_Repeat_mem : RepMem Tryd.prog 52 := fun s c w h1 h2 => Any.strings_Repeat layRep layRepX s c w h1 h2

theorem m_strings_Repeat_ok (a1 : Int) {r : List UInt8} (h : m_strings_Repeat a1 = some r) :
    AC Tryd.prog (GS []) 52 [V.str ([32] : List UInt8), V.int a1] [] (V.str r) [] := AC.repO m_strings_Repeat_mem h

theorem m_impl_writer__line_ok (a1 : Int) (p0_1 : Int) (p1 : List UInt8) (p2 : List SPiece) {r : ((List UInt8) × Int)} (h : m_impl_writer__line a1 p0_1 p1 p2 = some r) :
    AC Tryd.prog (GS []) 41 [.loc 0 0, V.int a1] [(0, .cells 58 [.own 1, V.int p0_1, .own 2]), (1, .vec false 5 1 (p1.map byteRow)), (2, .vec false (.sp 72) 7 (p2.map encSPiece))] (.tup []) [(0, .cells 58 [.own 100, V.int r.2, .own 2]), (2, .vec false (.sp 72) 7 (p2.map encSPiece)), (100, .vec false 5 1 (r.1.map byteRow))] := by
 rw [m_impl_writer__line] at h
 refine AC.enter Tryd.func41 rfl ?_
 (revert h; refine bind_rev fun x4 hx4 h => ?_)
 (revert h; refine bind_rev fun r5 hx5 h => ?_)
 (revert h; refine bind_rev fun x6 hx6 h => ?_)
 refine CodeOk.cutR (tl 20 [(0, .loc 0 0), (1, V.int a1)]) [(0, .cells 58 [.own 102, V.int p0_1, .own 2]), (102, .vec false 5 1 (x6.map byteRow)), (2, .vec false (.sp 72) 7 (p2.map encSPiece))] mix (by
  refine W.run D_ok 6 100 (by kernel_rfl) ?_
  refine W.appO D_ok byteRow (a := 1) (c := 100) (el := 5) (sz := 1) 1 hx4 rfl 101 (by kernel_rfl) ?_
  refine W.run D_ok 1 102 (by kernel_rfl) ?_
  refine W.call0 (m_strings_Repeat_ok a1 hx5) cok52 rfl (by kernel_rfl) ?_
  refine W.appS D_ok (a := 101) (el := 5) 1 hx6 rfl 102 (by kernel_rfl) ?_
  refine W.run D_ok 3 103 (by kernel_rfl) ?_
  exact W.fi (by kernel_rfl)
  ) ?_
 refine ceE D_ok mix 5 103 (tl 20 []) [(0, .cells 58 [.own 102, V.int a1, .own 2]), (102, .vec false 5 1 (x6.map byteRow)), (2, .vec false (.sp 72) 7 (p2.map encSPiece))] (by kernel_rfl) ?_
 have h := Option.some.inj h
 subst h
 exact Ends.gen [(0, 0), (2, 2), (102, 100)] (.inl rfl) (RetV.none rfl) (by kernel_rfl) (by kernel_rfl) (by kernel_rfl)

theorem m_impl_writer__push_ok (N : Nat) (a1 : SDoc) (a2 : Int) (a3 : Bool) (p0_1 : Int) (p1 : List UInt8) (p2 : List SPiece) {r : (List SPiece)} (h : m_impl_writer__push N a1 a2 a3 p0_1 p1 p2 = some r) :
    AC Tryd.prog (GS []) 42 [.loc 0 0, .agg [V.int a1.kind, V.int a1.n, V.str a1.text, .sl false false (a1.kids.map encSDoc), V.int a1.group], V.int a2, V.bool a3] [(0, .cells 58 [.own 1, V.int p0_1, .own 2]), (1, .vec false 5 1 (p1.map byteRow)), (2, .vec false (.sp 72) 7 (p2.map encSPiece))] (.tup []) [(0, .cells 58 [.own 1, V.int p0_1, .own 100]), (1, .vec false 5 1 (p1.map byteRow)), (100, .vec false (.sp 72) 7 (r.map encSPiece))] := by
 rw [m_impl_writer__push] at h
 refine AC.enter Tryd.func42 rfl ?_
 refine cu D_ok mix 1 100 (tl 34 [(0, .loc 0 0), (2, V.int a2), (3, V.bool a3), (5, .loc 100 0)]) [(100, .cells 43 [V.int a1.kind, V.int a1.n, V.str a1.text, .sl false false (a1.kids.map encSDoc), V.int a1.group]), (0, .cells 58 [.own 1, V.int p0_1, .own 2]), (1, .vec false 5 1 (p1.map byteRow)), (2, .vec false (.sp 72) 7 (p2.map encSPiece))] (by kernel_rfl) ?_
 refine CodeOk.cutR (tl 34 [(0, .loc 0 0), (2, V.int a2), (3, V.bool a3), (5, .loc 100 0), (8, V.int (IntKind.wrap .i64 ((a1.kids.length : Int) - 1)))]) [(100, .cells 43 [V.int a1.kind, V.int a1.n, V.str a1.text, .sl false false (a1.kids.map encSDoc), V.int a1.group]), (0, .cells 58 [.own 1, V.int p0_1, .own 2]), (1, .vec false 5 1 (p1.map byteRow)), (2, .vec false (.sp 72) 7 (p2.map encSPiece))] mix (by
  refine W.run D_ok 2 101 (by kernel_rfl) ?_
  refine W.len D_ok encSDoc a1.kids [] (by kernel_rfl) (by kernel_rfl) ?_
  refine W.run D_ok 2 101 (by kernel_rfl) ?_
  exact W.fi (by kernel_rfl)
  ) ?_
 refine CodeOk.block' ?_
 refine CodeOk.loopJ (fun (⟨a2, a3, a1, y9, y10⟩ : (Int × Bool × SDoc × Int × (List SPiece))) => ⟨tl 34 [(0, .loc 0 0), (2, V.int a2), (3, V.bool a3), (5, .loc 100 0), (8, V.int y9)], [(0, .cells 58 [.own 1, V.int p0_1, .own 101]), (100, .cells 43 [V.int a1.kind, V.int a1.n, V.str a1.text, .sl false false (a1.kids.map encSDoc), V.int a1.group]), (1, .vec false 5 1 (p1.map byteRow)), (101, .vec false (.sp 72) 7 (y10.map encSPiece))]⟩) (fun n i => m_impl_writer__push_l1 N p0_1 p1 n i = some r) (n0 := N) (i0 := (a2, a3, a1, (IntKind.wrap .i64 ((a1.kids.length : Int) - 1)), p2)) (Weak.sel [(0, 0), (100, 100), (1, 1), (2, 101)] [0, 2, 3, 5, 8] (by kernel_rfl) (by kernel_rfl) (by kernel_rfl)) h (fun i h => by simp [m_impl_writer__push_l1] at h) ?_
 rintro n1 ⟨a2, a3, a1, y9, y10⟩ h21 ih22
 rw [m_impl_writer__push_l1] at h21
 refine CodeOk.seq' ?_
 refine cu D_ok mix 2 165 (tl 34 [(0, .loc 0 0), (2, V.int a2), (3, V.bool a3), (5, .loc 100 0), (8, V.int y9), (14, V.bool (decide (y9 ≥ 0)))]) [(0, .cells 58 [.own 1, V.int p0_1, .own 101]), (100, .cells 43 [V.int a1.kind, V.int a1.n, V.str a1.text, .sl false false (a1.kids.map encSDoc), V.int a1.group]), (1, .vec false 5 1 (p1.map byteRow)), (101, .vec false (.sp 72) 7 (y10.map encSPiece))] (by kernel_rfl) ?_
 (revert h21; refine cond_rev (fun hc24 h21 => ?_) (fun hc24 h21 => ?_))
 ·refine CodeOk.ifT hc24 (by kernel_rfl) ?_
  refine CodeOk.skip ?_
  refine CodeOk.seq' ?_
  refine CodeOk.block' ?_
  (revert h21; refine bind_rev fun e27 hx31 h21 => ?_)
  (revert h21; refine bind_rev fun x28 hx32 h21 => ?_)
  refine CodeOk.endR (tl 34 [(0, .loc 0 0), (2, V.int a2), (3, V.bool a3), (5, .loc 100 0), (8, V.int y9)]) [(0, .cells 58 [.own 1, V.int p0_1, .own 166]), (166, .vec false (.sp 72) 7 (x28.map encSPiece)), (100, .cells 43 [V.int a1.kind, V.int a1.n, V.str a1.text, .sl false false (a1.kids.map encSDoc), V.int a1.group]), (1, .vec false 5 1 (p1.map byteRow))] mix (by
   refine W.run D_ok 8 165 (by kernel_rfl) ?_
   refine W.ixDr D_ok encSDoc hx31 5 (by kernel_rfl) (encSDoc_eq e27) (by kernel_rfl) ?_
   refine W.run D_ok 4 165 (by kernel_rfl) ?_
   refine W.layop D_ok (show LayOk _ [] from trivial) (by kernel_rfl) 165 { v := .own 165, R := [], new := [(165, .vec true 72 7 [[V.int e27.kind, V.int e27.n, V.str e27.text, .sl false false (e27.kids.map encSDoc), V.int e27.group, V.int a2, V.bool a3]])], N := [165] } (by kernel_rfl) ?_
   refine W.vecEq 165 (nn := true) (e := 72) (k := 7) (rows := [[V.int e27.kind, V.int e27.n, V.str e27.text, .sl false false (e27.kids.map encSDoc), V.int e27.group, V.int a2, V.bool a3]]) (rows' := [(⟨e27, a2, a3⟩ : SPiece)].map encSPiece) (by kernel_rfl) (by kernel_rfl) ?_
   refine W.appP D_ok encSPiece (a := 101) (c := 165) (el := 72) (sz := 7) 80 hx32 rfl 166 (by kernel_rfl) ?_
   refine W.run D_ok 3 167 (by kernel_rfl) ?_
   exact W.fi (by kernel_rfl)
   ) (fun st hw => ?_)
  refine CodeOk.weak hw ?_
  refine ce D_ok mix 3 167 (tl 34 [(0, .loc 0 0), (2, V.int a2), (3, V.bool a3), (5, .loc 100 0), (8, V.int (IntKind.wrap .i64 (y9 - 1)))]) [(0, .cells 58 [.own 1, V.int p0_1, .own 166]), (166, .vec false (.sp 72) 7 (x28.map encSPiece)), (100, .cells 43 [V.int a1.kind, V.int a1.n, V.str a1.text, .sl false false (a1.kids.map encSDoc), V.int a1.group]), (1, .vec false 5 1 (p1.map byteRow))] (by kernel_rfl) (fun st hw => ?_)
  exact ih22 (a2, a3, a1, (IntKind.wrap .i64 (y9 - 1)), x28) h21 _ (hw.trans (Weak.sel [(0, 0), (100, 100), (1, 1), (166, 101)] [0, 2, 3, 5, 8] (by kernel_rfl) (by kernel_rfl) (by kernel_rfl)))
 refine CodeOk.ifF hc24 (by kernel_rfl) ?_
 refine CodeOk.exit ?_
 have h21 := Option.some.inj h21
 subst h21
 exact Ends.gen [(0, 0), (1, 1), (101, 100)] (.inl rfl) (RetV.none rfl) (by kernel_rfl) (by kernel_rfl) (by kernel_rfl)

theorem m_impl_Render_1_ok (a0 : SDoc) (p1_0 : Int) (p2_1 : Int) (p3 : List UInt8) (p4 : List SPiece) {r : Bool} (h : m_impl_Render_1 a0 p1_0 p2_1 p3 p4 = some r) :
    AC Tryd.prog (GS []) 29 [.agg [V.int a0.kind, V.int a0.n, V.str a0.text, .sl false false (a0.kids.map encSDoc), V.int a0.group], .loc 0 0, .loc 1 0] [(0, .cells 55 [.loc 2 0]), (1, .cells 3 [V.int p1_0]), (2, .cells 58 [.own 3, V.int p2_1, .own 4]), (3, .vec false 5 1 (p3.map byteRow)), (4, .vec false (.sp 72) 7 (p4.map encSPiece))] (V.bool r) [(0, .cells 55 [.loc 2 0]), (1, .cells 3 [V.int p1_0]), (2, .cells 58 [.own 3, V.int p2_1, .own 4]), (3, .vec false 5 1 (p3.map byteRow)), (4, .vec false (.sp 72) 7 (p4.map encSPiece))] := by
 rw [m_impl_Render_1] at h
 cases h

end Go.Proofs.Tryd
