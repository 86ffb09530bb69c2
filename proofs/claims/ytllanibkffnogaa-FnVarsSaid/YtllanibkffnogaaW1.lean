/-
  The walks that show that the code computes the models, part 1.
-/
import Derived.Test.YtllanibkffnogaaM1
import Derived.Shelf.Spec.SlicesInsertGrow
import Derived.Laws.CopyRow
namespace Go.Proofs.Try
open Go.Av
set_option maxRecDepth 100000
set_option maxHeartbeats 8000000
set_option linter.unusedSimpArgs false
set_option linter.unusedVariables false

open Go.Lib Go.RowKit
theorem cok3 : callOk Try.prog 3 := fun _ _ => Try.call3 _ _
theorem cok5 : callOk Try.prog 5 := fun _ _ => Try.call5 _ _
theorem cok6 : callOk Try.prog 6 := fun _ _ => Try.call6 _ _
theorem cok7 : callOk Try.prog 7 := fun _ _ => Try.call7 _ _
theorem cok8 : callOk Try.prog 8 := fun _ _ => Try.call8 _ _
theorem cok9 : callOk Try.prog 9 := fun _ _ => Try.call9 _ _
theorem cok11 : callOk Try.prog 11 := fun _ _ => Try.call11 _ _
theorem cok16 : callOk Try.prog 16 := fun _ _ => Try.call16 _ _
theorem cok17 : callOk Try.prog 17 := fun _ _ => Try.call17 _ _
theorem cok18 : callOk Try.prog 18 := fun _ _ => Try.call18 _ _
theorem cok19 : callOk Try.prog 19 := fun _ _ => Try.call19 _ _
theorem cok20 : callOk Try.prog 20 := fun _ _ => Try.call20 _ _
theorem cok21 : callOk Try.prog 21 := fun _ _ => Try.call21 _ _
theorem cok22 : callOk Try.prog 22 := fun _ _ => Try.call22 _ _
theorem cok23 : callOk Try.prog 23 := fun _ _ => Try.call23 _ _
theorem cok24 : callOk Try.prog 24 := fun _ _ => Try.call24 _ _
theorem cok25 : callOk Try.prog 25 := fun _ _ => Try.call25 _ _
theorem cok26 : callOk Try.prog 26 := fun _ _ => Try.call26 _ _
theorem cok31 : callOk Try.prog 31 := fun _ _ => Try.call31 _ _
theorem cok32 : callOk Try.prog 32 := fun _ _ => Try.call32 _ _

theorem m_laws_big_ok (a0 : List UInt8) {r : Bool} (h : m_laws_big a0 = some r) :
    AC Try.prog GG 5 [.sl false false (a0.map byteRow)] [] (V.bool r) [] := by
 rw [m_laws_big] at h
 refine AC.enter Try.func5 rfl ?_
 refine cu D_ok mix 1 100 (tl 6 [(0, .sl false false (a0.map byteRow))]) [] (by kernel_rfl) ?_
 refine CodeOk.cutR (tl 6 [(2, V.bool (decide ((a0.length : Int) > 1048576)))]) [] mix (by
  refine W.run D_ok 1 100 (by kernel_rfl) ?_
  refine W.len D_ok byteRow a0 [] (by kernel_rfl) (by kernel_rfl) ?_
  refine W.run D_ok 2 100 (by kernel_rfl) ?_
  exact W.fi (by kernel_rfl)
  ) ?_
 refine CodeOk.ret ?_
 have h := Option.some.inj h
 subst h
 exact Ends.gen [] (.inr rfl) (RetV.one rfl (OneR.tmp (t := 2) (r := V.bool (decide ((a0.length : Int) > 1048576))) (by kernel_rfl))) (by kernel_rfl) (by kernel_rfl) (by kernel_rfl)

theorem m_spec_l1New_ok (N : Nat) (a0 : List UInt8) {r : ((List UInt8) × Int × Int)} (h : m_spec_l1New N a0 = some r) :
    AC Try.prog GG 16 [.sl false false (a0.map byteRow)] [] (.loc 100 0) [(100, .cells 55 [.sl false false (r.1.map byteRow), V.int r.2.1, V.int r.2.2])] := by
 rw [m_spec_l1New] at h
 refine AC.enter Try.func16 rfl ?_
 refine cu D_ok mix 1 100 (tl 32 [(0, .sl false false (a0.map byteRow))]) [] (by kernel_rfl) ?_
 refine CodeOk.cutR (tl 32 [(0, .sl false false (a0.map byteRow)), (3, V.int (IntKind.wrap .i64 (10101 + (a0.length : Int))))]) [] mix (by
  refine W.run D_ok 1 100 (by kernel_rfl) ?_
  refine W.len D_ok byteRow a0 [] (by kernel_rfl) (by kernel_rfl) ?_
  refine W.run D_ok 2 100 (by kernel_rfl) ?_
  exact W.fi (by kernel_rfl)
  ) ?_
 refine CodeOk.seq' ?_
 refine cu D_ok mix 1 100 (tl 32 [(0, .sl false false (a0.map byteRow)), (3, V.int (IntKind.wrap .i64 (10101 + (a0.length : Int)))), (4, V.int 0)]) [] (by kernel_rfl) ?_
 refine CodeOk.block' ?_
 refine CodeOk.loopJ (fun (⟨a0, y29, y30⟩ : ((List UInt8) × Int × Int)) => ⟨tl 32 [(0, .sl false false (a0.map byteRow)), (3, V.int y29), (4, V.int y30)], []⟩) (fun n i => m_spec_l1New_l1 N n i = some r) (n0 := N) (i0 := (a0, (IntKind.wrap .i64 (10101 + (a0.length : Int))), 0)) (Weak.sel [] [0, 3, 4] (by kernel_rfl) (by kernel_rfl) (by kernel_rfl)) h (fun i h => by simp [m_spec_l1New_l1] at h) ?_
 rintro n1 ⟨a0, y29, y30⟩ h63 ih64
 rw [m_spec_l1New_l1] at h63
 refine CodeOk.seq' ?_
 (revert h63; refine bind_rev fun y40 hv70 h63 => ?_)
 refine CodeOk.cutR (tl 32 [(0, .sl false false (a0.map byteRow)), (3, V.int y29), (4, V.int y30), (15, V.bool y40)]) [] mix (by
  refine W.run D_ok 2 160 (by kernel_rfl) ?_
  refine W.len D_ok byteRow a0 [] (by kernel_rfl) (by kernel_rfl) ?_
  refine W.run D_ok 2 160 (by kernel_rfl) ?_
  (revert hv70; refine cond_rev (fun hc71 hv70 => ?_) (fun hc71 hv70 => ?_))
  ·refine W.is 12 hc71 (by kernel_rfl) ?_
   refine W.run D_ok 3 160 (by kernel_rfl) ?_
   have hv70 := Option.some.inj hv70
   subst hv70
   exact W.fs [] [0, 3, 4, 15] (by kernel_rfl)
  refine W.is 12 hc71 (by kernel_rfl) ?_
  refine W.run D_ok 3 160 (by kernel_rfl) ?_
  have hv70 := Option.some.inj hv70
  subst hv70
  exact W.fs [] [0, 3, 4, 15] (by kernel_rfl)
  ) ?_
 (revert h63; refine cond_rev (fun hc72 h63 => ?_) (fun hc72 h63 => ?_))
 ·refine CodeOk.ifT hc72 (by kernel_rfl) ?_
  refine CodeOk.skip ?_
  refine CodeOk.seq' ?_
  refine CodeOk.block' ?_
  (revert h63; refine bind_rev fun e44 hx76 h63 => ?_)
  refine CodeOk.endR (tl 32 [(0, .sl false false (a0.map byteRow)), (3, V.int (bits .and .i64 (IntKind.wrap .i64 ((IntKind.wrap .i64 ((IntKind.wrap .i64 (y29 * 131)) + (IntKind.wrap .i64 ((e44).toNat : Int)))) + 7)) 1073741823)), (4, V.int y30)]) [] mix (by
   refine W.run D_ok 4 160 (by kernel_rfl) ?_
   refine W.ixD D_ok byteRow hx76 1 (by kernel_rfl) (by kernel_rfl) ?_
   refine W.run D_ok 6 160 (by kernel_rfl) ?_
   exact W.fi (by kernel_rfl)
   ) (fun st hw => ?_)
  refine CodeOk.weak hw ?_
  refine ce D_ok mix 3 160 (tl 32 [(0, .sl false false (a0.map byteRow)), (3, V.int (bits .and .i64 (IntKind.wrap .i64 ((IntKind.wrap .i64 ((IntKind.wrap .i64 (y29 * 131)) + (IntKind.wrap .i64 ((e44).toNat : Int)))) + 7)) 1073741823)), (4, V.int (IntKind.wrap .i64 (y30 + 1)))]) [] (by kernel_rfl) (fun st hw => ?_)
  exact ih64 (a0, (bits .and .i64 (IntKind.wrap .i64 ((IntKind.wrap .i64 ((IntKind.wrap .i64 (y29 * 131)) + (IntKind.wrap .i64 ((e44).toNat : Int)))) + 7)) 1073741823), (IntKind.wrap .i64 (y30 + 1))) h63 _ (hw.trans (Weak.sel [] [0, 3, 4] (by kernel_rfl) (by kernel_rfl) (by kernel_rfl)))
 refine CodeOk.ifF hc72 (by kernel_rfl) ?_
 refine CodeOk.exit ?_
 refine cu D_ok mix 5 160 (tl 32 [(2, .loc 160 0)]) [(160, .cells 55 [.sl false false (a0.map byteRow), V.int 0, V.int y29])] (by kernel_rfl) ?_
 refine CodeOk.ret ?_
 have h63 := Option.some.inj h63
 subst h63
 exact Ends.gen [(160, 100)] (.inr rfl) (RetV.one rfl (OneR.tmp (t := 2) (r := .loc 160 0) (by kernel_rfl))) (by kernel_rfl) (by kernel_rfl) (by kernel_rfl)

theorem m_spec_l1Byte_ok (p0_0 : List UInt8) (p0_1 : Int) (p0_2 : Int) {r : (Int × Int × Int)} (h : m_spec_l1Byte p0_0 p0_1 p0_2 = some r) :
    AC Try.prog GG 31 [.loc 0 0] [(0, .cells 55 [.sl false false (p0_0.map byteRow), V.int p0_1, V.int p0_2])] (V.int r.1) [(0, .cells 55 [.sl false false (p0_0.map byteRow), V.int r.2.1, V.int r.2.2])] := by
 rw [m_spec_l1Byte] at h
 refine AC.enter Try.func31 rfl ?_
 refine cu D_ok mix 1 100 (tl 58 [(0, .loc 0 0)]) [(0, .cells 55 [.sl false false (p0_0.map byteRow), V.int p0_1, V.int p0_2])] (by kernel_rfl) ?_
 refine cu D_ok mix 10 100 (tl 58 [(0, .loc 0 0)]) [(0, .cells 55 [.sl false false (p0_0.map byteRow), V.int p0_1, V.int (IntKind.wrap .i64 ((IntKind.wrap .i64 (p0_2 * 6364136223846793005)) + 1442695040888963407))])] (by kernel_rfl) ?_
 refine cu D_ok mix 13 100 (tl 58 [(0, .loc 0 0), (3, V.int (bits .and .i64 (bits .xor .i64 (Int.fdiv (IntKind.wrap .i64 ((IntKind.wrap .i64 (p0_2 * 6364136223846793005)) + 1442695040888963407)) (2 ^ (min 33 64))) (Int.fdiv (IntKind.wrap .i64 ((IntKind.wrap .i64 (p0_2 * 6364136223846793005)) + 1442695040888963407)) (2 ^ (min 45 64)))) 255))]) [(0, .cells 55 [.sl false false (p0_0.map byteRow), V.int p0_1, V.int (IntKind.wrap .i64 ((IntKind.wrap .i64 (p0_2 * 6364136223846793005)) + 1442695040888963407))])] (by kernel_rfl) ?_
 refine CodeOk.join (fun (⟨p0_2, y3, y4⟩ : (Int × Int × Int)) => ⟨tl 58 [(3, V.int y3)], [(0, .cells 55 [.sl false false (p0_0.map byteRow), V.int y4, V.int (IntKind.wrap .i64 ((IntKind.wrap .i64 (p0_2 * 6364136223846793005)) + 1442695040888963407))])]⟩) (fun i => m_spec_l1Byte_k1 p0_0 i = some r) ?_ ?_
 · rintro ⟨p0_2, y3, y4⟩ h4
   rw [m_spec_l1Byte_k1] at h4
   refine cu D_ok mix 2 100 (tl 58 [(2, V.int y3)]) [(0, .cells 55 [.sl false false (p0_0.map byteRow), V.int y4, V.int (IntKind.wrap .i64 ((IntKind.wrap .i64 (p0_2 * 6364136223846793005)) + 1442695040888963407))])] (by kernel_rfl) ?_
   refine CodeOk.ret ?_
   have h4 := Option.some.inj h4
   subst h4
   exact Ends.gen [(0, 0)] (.inr rfl) (RetV.one rfl (OneR.tmp (t := 2) (r := V.int y3) (by kernel_rfl))) (by kernel_rfl) (by kernel_rfl) (by kernel_rfl)
 intro hk5
 refine CodeOk.cutR (tl 58 [(0, .loc 0 0), (3, V.int (bits .and .i64 (bits .xor .i64 (Int.fdiv (IntKind.wrap .i64 ((IntKind.wrap .i64 (p0_2 * 6364136223846793005)) + 1442695040888963407)) (2 ^ (min 33 64))) (Int.fdiv (IntKind.wrap .i64 ((IntKind.wrap .i64 (p0_2 * 6364136223846793005)) + 1442695040888963407)) (2 ^ (min 45 64)))) 255)), (34, V.bool (decide (p0_1 < (p0_0.length : Int))))]) [(0, .cells 55 [.sl false false (p0_0.map byteRow), V.int p0_1, V.int (IntKind.wrap .i64 ((IntKind.wrap .i64 (p0_2 * 6364136223846793005)) + 1442695040888963407))])] mix (by
  refine W.run D_ok 8 100 (by kernel_rfl) ?_
  refine W.len D_ok byteRow p0_0 [] (by kernel_rfl) (by kernel_rfl) ?_
  refine W.run D_ok 1 100 (by kernel_rfl) ?_
  exact W.fi (by kernel_rfl)
  ) ?_
 (revert h; refine cond_rev (fun hc6 h => ?_) (fun hc6 h => ?_))
 ·refine CodeOk.ifT hc6 (by kernel_rfl) ?_
  (revert h; refine bind_rev fun e6 hx8 h => ?_)
  refine CodeOk.cutR (tl 58 [(0, .loc 0 0), (3, V.int (bits .and .i64 (IntKind.wrap .i64 ((bits .and .i64 (bits .xor .i64 (Int.fdiv (IntKind.wrap .i64 ((IntKind.wrap .i64 (p0_2 * 6364136223846793005)) + 1442695040888963407)) (2 ^ (min 33 64))) (Int.fdiv (IntKind.wrap .i64 ((IntKind.wrap .i64 (p0_2 * 6364136223846793005)) + 1442695040888963407)) (2 ^ (min 45 64)))) 255) + (IntKind.wrap .i64 ((e6).toNat : Int)))) 255))]) [(0, .cells 55 [.sl false false (p0_0.map byteRow), V.int p0_1, V.int (IntKind.wrap .i64 ((IntKind.wrap .i64 (p0_2 * 6364136223846793005)) + 1442695040888963407))])] mix (by
   refine W.run D_ok 9 100 (by kernel_rfl) ?_
   refine W.ixD D_ok byteRow hx8 1 (by kernel_rfl) (by kernel_rfl) ?_
   refine W.run D_ok 5 100 (by kernel_rfl) ?_
   exact W.fi (by kernel_rfl)
   ) ?_
  refine ce D_ok mix 9 100 (tl 58 [(3, V.int (bits .and .i64 (IntKind.wrap .i64 ((bits .and .i64 (bits .xor .i64 (Int.fdiv (IntKind.wrap .i64 ((IntKind.wrap .i64 (p0_2 * 6364136223846793005)) + 1442695040888963407)) (2 ^ (min 33 64))) (Int.fdiv (IntKind.wrap .i64 ((IntKind.wrap .i64 (p0_2 * 6364136223846793005)) + 1442695040888963407)) (2 ^ (min 45 64)))) 255) + (IntKind.wrap .i64 ((e6).toNat : Int)))) 255))]) [(0, .cells 55 [.sl false false (p0_0.map byteRow), V.int (IntKind.wrap .i64 (p0_1 + 1)), V.int (IntKind.wrap .i64 ((IntKind.wrap .i64 (p0_2 * 6364136223846793005)) + 1442695040888963407))])] (by kernel_rfl) (fun st hw => ?_)
  exact hk5 (p0_2, (bits .and .i64 (IntKind.wrap .i64 ((bits .and .i64 (bits .xor .i64 (Int.fdiv (IntKind.wrap .i64 ((IntKind.wrap .i64 (p0_2 * 6364136223846793005)) + 1442695040888963407)) (2 ^ (min 33 64))) (Int.fdiv (IntKind.wrap .i64 ((IntKind.wrap .i64 (p0_2 * 6364136223846793005)) + 1442695040888963407)) (2 ^ (min 45 64)))) 255) + (IntKind.wrap .i64 ((e6).toNat : Int)))) 255), (IntKind.wrap .i64 (p0_1 + 1))) h _ (hw.trans (Weak.sel [(0, 0)] [3] (by kernel_rfl) (by kernel_rfl) (by kernel_rfl)))
 refine CodeOk.ifF hc6 (by kernel_rfl) ?_
 refine CodeOk.skip ?_
 exact hk5 (p0_2, (bits .and .i64 (bits .xor .i64 (Int.fdiv (IntKind.wrap .i64 ((IntKind.wrap .i64 (p0_2 * 6364136223846793005)) + 1442695040888963407)) (2 ^ (min 33 64))) (Int.fdiv (IntKind.wrap .i64 ((IntKind.wrap .i64 (p0_2 * 6364136223846793005)) + 1442695040888963407)) (2 ^ (min 45 64)))) 255), p0_1) h _ (Weak.sel [(0, 0)] [3] (by kernel_rfl) (by kernel_rfl) (by kernel_rfl))

theorem m_spec_l1Below_ok (a1 : Int) (p0_0 : List UInt8) (p0_1 : Int) (p0_2 : Int) {r : (Int × Int × Int)} (h : m_spec_l1Below a1 p0_0 p0_1 p0_2 = some r) :
    AC Try.prog GG 17 [.loc 0 0, V.int a1] [(0, .cells 55 [.sl false false (p0_0.map byteRow), V.int p0_1, V.int p0_2])] (V.int r.1) [(0, .cells 55 [.sl false false (p0_0.map byteRow), V.int r.2.1, V.int r.2.2])] := by
 rw [m_spec_l1Below] at h
 refine AC.enter Try.func17 rfl ?_
 refine cu D_ok mix 1 100 (tl 37 [(0, .loc 0 0), (1, V.int a1)]) [(0, .cells 55 [.sl false false (p0_0.map byteRow), V.int p0_1, V.int p0_2])] (by kernel_rfl) ?_
 refine CodeOk.seq' ?_
 refine cu D_ok mix 2 100 (tl 37 [(0, .loc 0 0), (1, V.int a1), (10, V.bool (decide (a1 ≤ 0)))]) [(0, .cells 55 [.sl false false (p0_0.map byteRow), V.int p0_1, V.int p0_2])] (by kernel_rfl) ?_
 (revert h; refine cond_rev (fun hc2 h => ?_) (fun hc2 h => ?_))
 ·refine CodeOk.ifT hc2 (by kernel_rfl) ?_
  refine cu D_ok mix 1 100 (tl 37 [(4, V.int 0)]) [(0, .cells 55 [.sl false false (p0_0.map byteRow), V.int p0_1, V.int p0_2])] (by kernel_rfl) ?_
  refine CodeOk.ret ?_
  have h := Option.some.inj h
  subst h
  exact Ends.gen [(0, 0)] (.inr rfl) (RetV.one rfl (OneR.tmp (t := 4) (r := V.int 0) (by kernel_rfl))) (by kernel_rfl) (by kernel_rfl) (by kernel_rfl)
 refine CodeOk.ifF hc2 (by kernel_rfl) ?_
 refine CodeOk.skip ?_
 refine CodeOk.seq' ?_
 refine cu D_ok mix 2 100 (tl 37 [(0, .loc 0 0), (1, V.int a1), (12, V.bool (decide (a1 ≤ 256)))]) [(0, .cells 55 [.sl false false (p0_0.map byteRow), V.int p0_1, V.int p0_2])] (by kernel_rfl) ?_
 (revert h; refine cond_rev (fun hc8 h => ?_) (fun hc8 h => ?_))
 ·refine CodeOk.ifT hc8 (by kernel_rfl) ?_
  (revert h; refine bind_rev fun r7 hx11 h => ?_)
  (revert h; refine bind_rev fun x8 hx12 h => ?_)
  refine CodeOk.cutR (tl 37 [(4, V.int x8)]) [(0, .cells 55 [.sl false false (p0_0.map byteRow), V.int r7.2.1, V.int r7.2.2])] mix (by
   refine W.run D_ok 1 100 (by kernel_rfl) ?_
   refine W.call (m_spec_l1Byte_ok p0_0 p0_1 p0_2 hx11) cok31 [(0, 0)] [(0, 0)] [] (show LayOk _ [] from trivial) (by kernel_rfl) (by kernel_rfl) ?_
   refine W.run D_ok 1 100 (by kernel_rfl) ?_
   refine W.rem (k := .i64) hx12 (by kernel_rfl) ?_
   refine W.run D_ok 1 100 (by kernel_rfl) ?_
   exact W.fi (by kernel_rfl)
   ) ?_
  refine CodeOk.ret ?_
  have h := Option.some.inj h
  subst h
  exact Ends.gen [(0, 0)] (.inr rfl) (RetV.one rfl (OneR.tmp (t := 4) (r := V.int x8) (by kernel_rfl))) (by kernel_rfl) (by kernel_rfl) (by kernel_rfl)
 refine CodeOk.ifF hc8 (by kernel_rfl) ?_
 refine CodeOk.skip ?_
 (revert h; refine bind_rev fun r10 hx14 h => ?_)
 refine CodeOk.cutR (tl 37 [(0, .loc 0 0), (1, V.int a1), (5, V.int r10.1)]) [(0, .cells 55 [.sl false false (p0_0.map byteRow), V.int r10.2.1, V.int r10.2.2])] mix (by
  refine W.run D_ok 1 100 (by kernel_rfl) ?_
  refine W.call (m_spec_l1Byte_ok p0_0 p0_1 p0_2 hx14) cok31 [(0, 0)] [(0, 0)] [] (show LayOk _ [] from trivial) (by kernel_rfl) (by kernel_rfl) ?_
  refine W.run D_ok 1 100 (by kernel_rfl) ?_
  exact W.fi (by kernel_rfl)
  ) ?_
 (revert h; refine bind_rev fun r12 hx16 h => ?_)
 refine CodeOk.cutR (tl 37 [(0, .loc 0 0), (1, V.int a1), (5, V.int r10.1), (6, V.int r12.1)]) [(0, .cells 55 [.sl false false (p0_0.map byteRow), V.int r12.2.1, V.int r12.2.2])] mix (by
  refine W.run D_ok 1 100 (by kernel_rfl) ?_
  refine W.call (m_spec_l1Byte_ok p0_0 r10.2.1 r10.2.2 hx16) cok31 [(0, 0)] [(0, 0)] [] (show LayOk _ [] from trivial) (by kernel_rfl) (by kernel_rfl) ?_
  refine W.run D_ok 1 100 (by kernel_rfl) ?_
  exact W.fi (by kernel_rfl)
  ) ?_
 (revert h; refine bind_rev fun r14 hx18 h => ?_)
 refine CodeOk.cutR (tl 37 [(0, .loc 0 0), (1, V.int a1), (5, V.int r10.1), (6, V.int r12.1), (7, V.int r14.1)]) [(0, .cells 55 [.sl false false (p0_0.map byteRow), V.int r14.2.1, V.int r14.2.2])] mix (by
  refine W.run D_ok 1 100 (by kernel_rfl) ?_
  refine W.call (m_spec_l1Byte_ok p0_0 r12.2.1 r12.2.2 hx18) cok31 [(0, 0)] [(0, 0)] [] (show LayOk _ [] from trivial) (by kernel_rfl) (by kernel_rfl) ?_
  refine W.run D_ok 1 100 (by kernel_rfl) ?_
  exact W.fi (by kernel_rfl)
  ) ?_
 (revert h; refine bind_rev fun r16 hx20 h => ?_)
 refine CodeOk.cutR (tl 37 [(1, V.int a1), (5, V.int r10.1), (6, V.int r12.1), (7, V.int r14.1), (8, V.int r16.1)]) [(0, .cells 55 [.sl false false (p0_0.map byteRow), V.int r16.2.1, V.int r16.2.2])] mix (by
  refine W.run D_ok 1 100 (by kernel_rfl) ?_
  refine W.call (m_spec_l1Byte_ok p0_0 r14.2.1 r14.2.2 hx20) cok31 [(0, 0)] [(0, 0)] [] (show LayOk _ [] from trivial) (by kernel_rfl) (by kernel_rfl) ?_
  refine W.run D_ok 1 100 (by kernel_rfl) ?_
  exact W.fi (by kernel_rfl)
  ) ?_
 (revert h; refine bind_rev fun x18 hx22 h => ?_)
 refine CodeOk.cutR (tl 37 [(4, V.int x18)]) [(0, .cells 55 [.sl false false (p0_0.map byteRow), V.int r16.2.1, V.int r16.2.2])] mix (by
  refine W.run D_ok 11 100 (by kernel_rfl) ?_
  refine W.rem (k := .i64) hx22 (by kernel_rfl) ?_
  refine W.run D_ok 1 100 (by kernel_rfl) ?_
  exact W.fi (by kernel_rfl)
  ) ?_
 refine CodeOk.ret ?_
 have h := Option.some.inj h
 subst h
 exact Ends.gen [(0, 0)] (.inr rfl) (RetV.one rfl (OneR.tmp (t := 4) (r := V.int x18) (by kernel_rfl))) (by kernel_rfl) (by kernel_rfl) (by kernel_rfl)

theorem m_spec_l1Pick_ok (a1 : List (List UInt8)) (p0_0 : List UInt8) (p0_1 : Int) (p0_2 : Int) {r : ((List UInt8) × Int × Int)} (h : m_spec_l1Pick a1 p0_0 p0_1 p0_2 = some r) :
    AC Try.prog GG 18 [.loc 0 0, .sl false false (a1.map encS)] [(0, .cells 55 [.sl false false (p0_0.map byteRow), V.int p0_1, V.int p0_2])] (V.str r.1) [(0, .cells 55 [.sl false false (p0_0.map byteRow), V.int r.2.1, V.int r.2.2])] := by
 rw [m_spec_l1Pick] at h
 refine AC.enter Try.func18 rfl ?_
 refine cu D_ok mix 1 100 (tl 12 [(0, .loc 0 0), (1, .sl false false (a1.map encS))]) [(0, .cells 55 [.sl false false (p0_0.map byteRow), V.int p0_1, V.int p0_2])] (by kernel_rfl) ?_
 (revert h; refine bind_rev fun r3 hx3 h => ?_)
 (revert h; refine bind_rev fun e4 hx4 h => ?_)
 refine CodeOk.cutR (tl 12 [(4, V.str e4)]) [(0, .cells 55 [.sl false false (p0_0.map byteRow), V.int r3.2.1, V.int r3.2.2])] mix (by
  refine W.run D_ok 3 100 (by kernel_rfl) ?_
  refine W.len D_ok encS a1 [] (by kernel_rfl) (by kernel_rfl) ?_
  refine W.call (m_spec_l1Below_ok (a1.length : Int) p0_0 p0_1 p0_2 hx3) cok17 [(0, 0)] [(0, 0)] [] (show LayOk _ [] from trivial) (by kernel_rfl) (by kernel_rfl) ?_
  refine W.ixD D_ok encS hx4 1 (by kernel_rfl) (by kernel_rfl) ?_
  refine W.run D_ok 2 100 (by kernel_rfl) ?_
  exact W.fi (by kernel_rfl)
  ) ?_
 refine CodeOk.ret ?_
 have h := Option.some.inj h
 subst h
 exact Ends.gen [(0, 0)] (.inr rfl) (RetV.one rfl (OneR.tmp (t := 4) (r := V.str e4) (by kernel_rfl))) (by kernel_rfl) (by kernel_rfl) (by kernel_rfl)

theorem m_spec_SetVar_ok (N : Nat) (a0 : List SBind) (a1 : List UInt8) (a2 : Int) {r : (List SBind)} (h : m_spec_SetVar N a0 a1 a2 = some r) :
    AC Try.prog GG 11 [.sl false false (a0.map encSBind), V.str a1, V.int a2] [] (.own 100) [(100, .vec false 44 2 (r.map encSBind))] := by
 rw [m_spec_SetVar] at h
 refine AC.enter Try.func11 rfl ?_
 refine cu D_ok mix 1 100 (tl 57 [(0, .sl false false (a0.map encSBind)), (1, V.str a1), (2, V.int a2)]) [] (by kernel_rfl) ?_
 refine cu D_ok mix 2 100 (tl 57 [(0, .sl false false (a0.map encSBind)), (1, V.str a1), (2, V.int a2), (7, .own 100)]) [(100, .vec false 44 2 ([].map encSBind))] (by kernel_rfl) ?_
 refine cu D_ok mix 1 101 (tl 57 [(0, .sl false false (a0.map encSBind)), (1, V.str a1), (2, V.int a2), (7, .own 100), (8, V.bool false)]) [(100, .vec false 44 2 ([].map encSBind))] (by kernel_rfl) ?_
 refine CodeOk.seq' ?_
 refine cu D_ok mix 1 101 (tl 57 [(0, .sl false false (a0.map encSBind)), (1, V.str a1), (2, V.int a2), (7, .own 100), (8, V.bool false), (9, V.int 0)]) [(100, .vec false 44 2 ([].map encSBind))] (by kernel_rfl) ?_
 refine CodeOk.block' ?_
 refine CodeOk.loopJ (fun (⟨a0, a1, a2, y167, y168, y169⟩ : ((List SBind) × (List UInt8) × Int × Bool × Int × (List SBind))) => ⟨tl 57 [(0, .sl false false (a0.map encSBind)), (1, V.str a1), (2, V.int a2), (7, .own 100), (8, V.bool y167), (9, V.int y168)], [(100, .vec false 44 2 (y169.map encSBind))]⟩) (fun n i => m_spec_SetVar_l1 N n i = some r) (n0 := N) (i0 := (a0, a1, a2, false, 0, [])) (Weak.sel [(100, 100)] [0, 1, 2, 7, 8, 9] (by kernel_rfl) (by kernel_rfl) (by kernel_rfl)) h (fun i h => by simp [m_spec_SetVar_l1] at h) ?_
 rintro n1 ⟨a0, a1, a2, y167, y168, y169⟩ h279 ih280
 rw [m_spec_SetVar_l1] at h279
 refine CodeOk.seq' ?_
 refine CodeOk.cutR (tl 57 [(0, .sl false false (a0.map encSBind)), (1, V.str a1), (2, V.int a2), (7, .own 100), (8, V.bool y167), (9, V.int y168), (14, V.bool (decide (y168 < (a0.length : Int))))]) [(100, .vec false 44 2 (y169.map encSBind))] mix (by
  refine W.run D_ok 2 169 (by kernel_rfl) ?_
  refine W.len D_ok encSBind a0 [] (by kernel_rfl) (by kernel_rfl) ?_
  refine W.run D_ok 1 169 (by kernel_rfl) ?_
  exact W.fi (by kernel_rfl)
  ) ?_
 (revert h279; refine cond_rev (fun hc282 h279 => ?_) (fun hc282 h279 => ?_))
 ·refine CodeOk.ifT hc282 (by kernel_rfl) ?_
  refine CodeOk.skip ?_
  refine CodeOk.join (fun (⟨a0, a1, a2, y168, y235, y236⟩ : ((List SBind) × (List UInt8) × Int × Int × Bool × (List SBind))) => ⟨tl 57 [(0, .sl false false (a0.map encSBind)), (1, V.str a1), (2, V.int a2), (7, .own 100), (8, V.bool y235), (9, V.int y168)], [(100, .vec false 44 2 (y236.map encSBind))]⟩) (fun i => m_spec_SetVar_k2 N (m_spec_SetVar_l1 N n1) i = some r) ?_ ?_
  · rintro ⟨a0, a1, a2, y168, y235, y236⟩ h311
    rw [m_spec_SetVar_k2] at h311
    refine ce D_ok mix 3 173 (tl 57 [(0, .sl false false (a0.map encSBind)), (1, V.str a1), (2, V.int a2), (7, .own 100), (8, V.bool y235), (9, V.int (IntKind.wrap .i64 (y168 + 1)))]) [(100, .vec false 44 2 (y236.map encSBind))] (by kernel_rfl) (fun st hw => ?_)
    exact ih280 (a0, a1, a2, y235, (IntKind.wrap .i64 (y168 + 1)), y236) h311 _ (hw.trans (Weak.sel [(100, 100)] [0, 1, 2, 7, 8, 9] (by kernel_rfl) (by kernel_rfl) (by kernel_rfl)))
  intro hk312
  refine CodeOk.block' ?_
  refine CodeOk.seq' ?_
  (revert h279; refine bind_rev fun e240 hx317 h279 => ?_)
  refine CodeOk.cutR (tl 57 [(0, .sl false false (a0.map encSBind)), (1, V.str a1), (2, V.int a2), (7, .own 100), (8, V.bool y167), (9, V.int y168), (23, V.bool (e240.Name == a1))]) [(100, .vec false 44 2 (y169.map encSBind))] mix (by
   refine W.run D_ok 2 169 (by kernel_rfl) ?_
   refine W.ixD D_ok encSBind hx317 2 (by kernel_rfl) (by kernel_rfl) ?_
   refine W.run D_ok 4 169 (by kernel_rfl) ?_
   exact W.fi (by kernel_rfl)
   ) ?_
  (revert h279; refine cond_rev (fun hc318 h279 => ?_) (fun hc318 h279 => ?_))
  ·refine CodeOk.ifT hc318 (by kernel_rfl) ?_
   refine CodeOk.exit ?_
   exact hk312 (a0, a1, a2, y168, y167, y169) h279 _ (Weak.sel [(100, 100)] [0, 1, 2, 7, 8, 9] (by kernel_rfl) (by kernel_rfl) (by kernel_rfl))
  refine CodeOk.ifF hc318 (by kernel_rfl) ?_
  refine CodeOk.skip ?_
  refine CodeOk.join (fun (⟨a0, a1, a2, y168, y246, y247⟩ : ((List SBind) × (List UInt8) × Int × Int × Bool × (List SBind))) => ⟨tl 57 [(0, .sl false false (a0.map encSBind)), (1, V.str a1), (2, V.int a2), (7, .own 100), (8, V.bool y246), (9, V.int y168)], [(100, .vec false 44 2 (y247.map encSBind))]⟩) (fun i => m_spec_SetVar_k3 N (m_spec_SetVar_l1 N n1) i = some r) ?_ ?_
  · rintro ⟨a0, a1, a2, y168, y246, y247⟩ h327
    rw [m_spec_SetVar_k3] at h327
    (revert h327; refine bind_rev fun e250 hx330 h327 => ?_)
    (revert h327; refine bind_rev fun x251 hx331 h327 => ?_)
    refine CodeOk.endR (tl 57 [(0, .sl false false (a0.map encSBind)), (1, V.str a1), (2, V.int a2), (7, .own 172), (8, V.bool y246), (9, V.int y168)]) [(172, .vec false 44 2 (x251.map encSBind))] mix (by
     refine W.run D_ok 3 171 (by kernel_rfl) ?_
     refine W.ixD D_ok encSBind hx330 2 (by kernel_rfl) (by kernel_rfl) ?_
     refine W.run D_ok 2 171 (by kernel_rfl) ?_
     refine W.appO D_ok encSBind (a := 100) (c := 171) (el := 44) (sz := 2) 24 hx331 rfl 172 (by kernel_rfl) ?_
     refine W.run D_ok 1 173 (by kernel_rfl) ?_
     exact W.fi (by kernel_rfl)
     ) (fun st hw => ?_)
    exact hk312 (a0, a1, a2, y168, y246, x251) h327 _ (hw.trans (Weak.sel [(172, 100)] [0, 1, 2, 7, 8, 9] (by kernel_rfl) (by kernel_rfl) (by kernel_rfl)))
  intro hk332
  (revert h279; refine bind_rev fun y253 hv335 h279 => ?_)
  refine CodeOk.cutR (tl 57 [(0, .sl false false (a0.map encSBind)), (1, V.str a1), (2, V.int a2), (7, .own 100), (8, V.bool y167), (9, V.int y168), (34, V.bool y253)]) [(100, .vec false 44 2 (y169.map encSBind))] mix (by
   refine W.run D_ok 3 169 (by kernel_rfl) ?_
   (revert hv335; refine cond_rev (fun hc336 hv335 => ?_) (fun hc336 hv335 => ?_))
   ·refine W.is 26 hc336 (by kernel_rfl) ?_
    refine W.run D_ok 2 169 (by kernel_rfl) ?_
    (revert hv335; refine bind_rev fun e254 hx337 hv335 => ?_)
    refine W.ixD D_ok encSBind hx337 2 (by kernel_rfl) (by kernel_rfl) ?_
    refine W.run D_ok 5 169 (by kernel_rfl) ?_
    have hv335 := Option.some.inj hv335
    subst hv335
    exact W.fs [(100, 100)] [0, 1, 2, 7, 8, 9, 34] (by kernel_rfl)
   refine W.is 26 hc336 (by kernel_rfl) ?_
   refine W.run D_ok 8 169 (by kernel_rfl) ?_
   have hv335 := Option.some.inj hv335
   subst hv335
   exact W.fs [(100, 100)] [0, 1, 2, 7, 8, 9, 34] (by kernel_rfl)
   ) ?_
  (revert h279; refine cond_rev (fun hc338 h279 => ?_) (fun hc338 h279 => ?_))
  ·refine CodeOk.ifT hc338 (by kernel_rfl) ?_
   (revert h279; refine bind_rev fun x256 hx340 h279 => ?_)
   refine CodeOk.cutR (tl 57 [(0, .sl false false (a0.map encSBind)), (1, V.str a1), (2, V.int a2), (7, .own 170), (9, V.int y168)]) [(170, .vec false 44 2 (x256.map encSBind))] mix (by
    refine W.run D_ok 5 169 (by kernel_rfl) ?_
    refine W.appO D_ok encSBind (a := 100) (c := 169) (el := 44) (sz := 2) 24 hx340 rfl 170 (by kernel_rfl) ?_
    refine W.run D_ok 1 171 (by kernel_rfl) ?_
    exact W.fi (by kernel_rfl)
    ) ?_
   refine ce D_ok mix 1 171 (tl 57 [(0, .sl false false (a0.map encSBind)), (1, V.str a1), (2, V.int a2), (7, .own 170), (8, V.bool true), (9, V.int y168)]) [(170, .vec false 44 2 (x256.map encSBind))] (by kernel_rfl) (fun st hw => ?_)
   exact hk332 (a0, a1, a2, y168, true, x256) h279 _ (hw.trans (Weak.sel [(170, 100)] [0, 1, 2, 7, 8, 9] (by kernel_rfl) (by kernel_rfl) (by kernel_rfl)))
  refine CodeOk.ifF hc338 (by kernel_rfl) ?_
  refine CodeOk.skip ?_
  exact hk332 (a0, a1, a2, y168, y167, y169) h279 _ (Weak.sel [(100, 100)] [0, 1, 2, 7, 8, 9] (by kernel_rfl) (by kernel_rfl) (by kernel_rfl))
 refine CodeOk.ifF hc282 (by kernel_rfl) ?_
 refine CodeOk.exit ?_
 refine CodeOk.join (fun (y259 : (List SBind)) => ⟨tl 57 [(7, .own 100)], [(100, .vec false 44 2 (y259.map encSBind))]⟩) (fun i => m_spec_SetVar_k4 N (m_spec_SetVar_l1 N n1) i = some r) ?_ ?_
 · rintro y259 h344
   rw [m_spec_SetVar_k4] at h344
   refine cu D_ok mix 2 171 (tl 57 [(6, .own 100)]) [(100, .vec false 44 2 (y259.map encSBind))] (by kernel_rfl) ?_
   refine CodeOk.ret ?_
   have h344 := Option.some.inj h344
   subst h344
   exact Ends.gen [(100, 100)] (.inr rfl) (RetV.one rfl (OneR.tmp (t := 6) (r := .own 100) (by kernel_rfl))) (by kernel_rfl) (by kernel_rfl) (by kernel_rfl)
 intro hk345
 refine cu D_ok mix 2 169 (tl 57 [(1, V.str a1), (2, V.int a2), (7, .own 100), (49, V.bool (!y167))]) [(100, .vec false 44 2 (y169.map encSBind))] (by kernel_rfl) ?_
 (revert h279; refine cond_rev (fun hc346 h279 => ?_) (fun hc346 h279 => ?_))
 ·refine CodeOk.ifT hc346 (by kernel_rfl) ?_
  (revert h279; refine bind_rev fun x261 hx348 h279 => ?_)
  refine CodeOk.endR (tl 57 [(7, .own 170)]) [(170, .vec false 44 2 (x261.map encSBind))] mix (by
   refine W.run D_ok 5 169 (by kernel_rfl) ?_
   refine W.appO D_ok encSBind (a := 100) (c := 169) (el := 44) (sz := 2) 24 hx348 rfl 170 (by kernel_rfl) ?_
   refine W.run D_ok 1 171 (by kernel_rfl) ?_
   exact W.fi (by kernel_rfl)
   ) (fun st hw => ?_)
  exact hk345 x261 h279 _ (hw.trans (Weak.sel [(170, 100)] [7] (by kernel_rfl) (by kernel_rfl) (by kernel_rfl)))
 refine CodeOk.ifF hc346 (by kernel_rfl) ?_
 refine CodeOk.skip ?_
 exact hk345 y169 h279 _ (Weak.sel [(100, 100)] [7] (by kernel_rfl) (by kernel_rfl) (by kernel_rfl))

theorem m_spec_l1Once_ok (a1 : Int) (p0_0 : List UInt8) (p0_1 : Int) (p0_2 : Int) {r : (Bool × Int × Int)} (h : m_spec_l1Once a1 p0_0 p0_1 p0_2 = some r) :
    AC Try.prog GG 19 [.loc 0 0, V.int a1] [(0, .cells 55 [.sl false false (p0_0.map byteRow), V.int p0_1, V.int p0_2])] (V.bool r.1) [(0, .cells 55 [.sl false false (p0_0.map byteRow), V.int r.2.1, V.int r.2.2])] := by
 rw [m_spec_l1Once] at h
 refine AC.enter Try.func19 rfl ?_
 refine cu D_ok mix 1 100 (tl 9 [(0, .loc 0 0), (1, V.int a1)]) [(0, .cells 55 [.sl false false (p0_0.map byteRow), V.int p0_1, V.int p0_2])] (by kernel_rfl) ?_
 (revert h; refine bind_rev fun r2 hx2 h => ?_)
 refine CodeOk.cutR (tl 9 [(4, V.bool (r2.1 == 0))]) [(0, .cells 55 [.sl false false (p0_0.map byteRow), V.int r2.2.1, V.int r2.2.2])] mix (by
  refine W.run D_ok 2 100 (by kernel_rfl) ?_
  refine W.call (m_spec_l1Below_ok a1 p0_0 p0_1 p0_2 hx2) cok17 [(0, 0)] [(0, 0)] [] (show LayOk _ [] from trivial) (by kernel_rfl) (by kernel_rfl) ?_
  refine W.run D_ok 2 100 (by kernel_rfl) ?_
  exact W.fi (by kernel_rfl)
  ) ?_
 refine CodeOk.ret ?_
 have h := Option.some.inj h
 subst h
 exact Ends.gen [(0, 0)] (.inr rfl) (RetV.one rfl (OneR.tmp (t := 4) (r := V.bool (r2.1 == 0)) (by kernel_rfl))) (by kernel_rfl) (by kernel_rfl) (by kernel_rfl)

theorem m_spec_l1PickInt_ok (a1 : List Int) (p0_0 : List UInt8) (p0_1 : Int) (p0_2 : Int) {r : (Int × Int × Int)} (h : m_spec_l1PickInt a1 p0_0 p0_1 p0_2 = some r) :
    AC Try.prog GG 32 [.loc 0 0, .sl false false (a1.map encI)] [(0, .cells 55 [.sl false false (p0_0.map byteRow), V.int p0_1, V.int p0_2])] (V.int r.1) [(0, .cells 55 [.sl false false (p0_0.map byteRow), V.int r.2.1, V.int r.2.2])] := by
 rw [m_spec_l1PickInt] at h
 refine AC.enter Try.func32 rfl ?_
 refine cu D_ok mix 1 100 (tl 12 [(0, .loc 0 0), (1, .sl false false (a1.map encI))]) [(0, .cells 55 [.sl false false (p0_0.map byteRow), V.int p0_1, V.int p0_2])] (by kernel_rfl) ?_
 (revert h; refine bind_rev fun r3 hx3 h => ?_)
 (revert h; refine bind_rev fun e4 hx4 h => ?_)
 refine CodeOk.cutR (tl 12 [(4, V.int e4)]) [(0, .cells 55 [.sl false false (p0_0.map byteRow), V.int r3.2.1, V.int r3.2.2])] mix (by
  refine W.run D_ok 3 100 (by kernel_rfl) ?_
  refine W.len D_ok encI a1 [] (by kernel_rfl) (by kernel_rfl) ?_
  refine W.call (m_spec_l1Below_ok (a1.length : Int) p0_0 p0_1 p0_2 hx3) cok17 [(0, 0)] [(0, 0)] [] (show LayOk _ [] from trivial) (by kernel_rfl) (by kernel_rfl) ?_
  refine W.ixD D_ok encI hx4 1 (by kernel_rfl) (by kernel_rfl) ?_
  refine W.run D_ok 2 100 (by kernel_rfl) ?_
  exact W.fi (by kernel_rfl)
  ) ?_
 refine CodeOk.ret ?_
 have h := Option.some.inj h
 subst h
 exact Ends.gen [(0, 0)] (.inr rfl) (RetV.one rfl (OneR.tmp (t := 4) (r := V.int e4) (by kernel_rfl))) (by kernel_rfl) (by kernel_rfl) (by kernel_rfl)

theorem m_spec_l27Env_ok (N : Nat) (p0_0 : List UInt8) (p0_1 : Int) (p0_2 : Int) {r : ((List SBind) × Int × Int)} (h : m_spec_l27Env N p0_0 p0_1 p0_2 = some r) :
    AC Try.prog GG 20 [.loc 0 0] [(0, .cells 55 [.sl false false (p0_0.map byteRow), V.int p0_1, V.int p0_2])] (.own 100) [(0, .cells 55 [.sl false false (p0_0.map byteRow), V.int r.2.1, V.int r.2.2]), (100, .vec false 44 2 (r.1.map encSBind))] := by
 rw [m_spec_l27Env] at h
 refine AC.enter Try.func20 rfl ?_
 refine cu D_ok mix 1 100 (tl 25 [(0, .loc 0 0)]) [(0, .cells 55 [.sl false false (p0_0.map byteRow), V.int p0_1, V.int p0_2])] (by kernel_rfl) ?_
 refine cu D_ok mix 2 100 (tl 25 [(0, .loc 0 0), (3, .own 100)]) [(100, .vec false 44 2 ([].map encSBind)), (0, .cells 55 [.sl false false (p0_0.map byteRow), V.int p0_1, V.int p0_2])] (by kernel_rfl) ?_
 refine CodeOk.seq' ?_
 (revert h; refine bind_rev fun r60 hx60 h => ?_)
 refine CodeOk.cutR (tl 25 [(0, .loc 0 0), (3, .own 100), (4, V.int r60.1)]) [(100, .vec false 44 2 ([].map encSBind)), (0, .cells 55 [.sl false false (p0_0.map byteRow), V.int r60.2.1, V.int r60.2.2])] mix (by
  refine W.run D_ok 1 101 (by kernel_rfl) ?_
  refine W.call (m_spec_l1Below_ok 4 p0_0 p0_1 p0_2 hx60) cok17 [(0, 0)] [(0, 0)] [] (show LayOk _ [] from trivial) (by kernel_rfl) (by kernel_rfl) ?_
  refine W.run D_ok 1 101 (by kernel_rfl) ?_
  exact W.fi (by kernel_rfl)
  ) ?_
 refine CodeOk.block' ?_
 refine CodeOk.loopJ (fun (⟨y77, y78, y79, y80⟩ : (Int × Int × Int × (List SBind))) => ⟨tl 25 [(0, .loc 0 0), (3, .own 100), (4, V.int y77)], [(0, .cells 55 [.sl false false (p0_0.map byteRow), V.int y78, V.int y79]), (100, .vec false 44 2 (y80.map encSBind))]⟩) (fun n i => m_spec_l27Env_l1 N p0_0 n i = some r) (n0 := N) (i0 := (r60.1, r60.2.1, r60.2.2, [])) (Weak.sel [(0, 0), (100, 100)] [0, 3, 4] (by kernel_rfl) (by kernel_rfl) (by kernel_rfl)) h (fun i h => by simp [m_spec_l27Env_l1] at h) ?_
 rintro n1 ⟨y77, y78, y79, y80⟩ h97 ih98
 rw [m_spec_l27Env_l1] at h97
 refine CodeOk.seq' ?_
 refine cu D_ok mix 2 169 (tl 25 [(0, .loc 0 0), (3, .own 100), (4, V.int y77), (9, V.bool (decide (y77 > 0)))]) [(0, .cells 55 [.sl false false (p0_0.map byteRow), V.int y78, V.int y79]), (100, .vec false 44 2 (y80.map encSBind))] (by kernel_rfl) ?_
 (revert h97; refine cond_rev (fun hc100 h97 => ?_) (fun hc100 h97 => ?_))
 ·refine CodeOk.ifT hc100 (by kernel_rfl) ?_
  refine CodeOk.skip ?_
  refine CodeOk.seq' ?_
  refine CodeOk.block' ?_
  (revert h97; refine bind_rev fun r113 hx113 h97 => ?_)
  (revert h97; refine bind_rev fun r114 hx114 h97 => ?_)
  (revert h97; refine bind_rev fun r115 hx115 h97 => ?_)
  (revert h97; refine bind_rev fun x116 hx116 h97 => ?_)
  refine CodeOk.endR (tl 25 [(0, .loc 0 0), (3, .own 172), (4, V.int y77)]) [(172, .vec false 44 2 (x116.map encSBind)), (0, .cells 55 [.sl false false (p0_0.map byteRow), V.int r115.2.1, V.int r115.2.2])] mix (by
   refine W.run D_ok 3 169 (by kernel_rfl) ?_
   refine W.call (m_spec_l1Pick_ok [[120], [121], [110]] p0_0 y78 y79 hx113) cok18 [(0, 0)] [(0, 0)] [] (LayOk.cons (j := 169) encS encS ([[120], [121], [110]] : List (List UInt8)) (by kernel_rfl) (fun _ => rfl) (show LayOk _ [] from trivial)) (by kernel_rfl) (by kernel_rfl) ?_
   refine W.run D_ok 2 170 (by kernel_rfl) ?_
   refine W.call (m_spec_l1Below_ok 100 p0_0 r113.2.1 r113.2.2 hx114) cok17 [(0, 0)] [(0, 0)] [] (show LayOk _ [] from trivial) (by kernel_rfl) (by kernel_rfl) ?_
   refine W.run D_ok 1 170 (by kernel_rfl) ?_
   refine W.call (m_spec_l1PickInt_ok [0, 1, (-1), 5, 1000000000, 1000000001, r114.1] p0_0 r114.2.1 r114.2.2 hx115) cok32 [(0, 0)] [(0, 0)] [] (LayOk.cons (j := 170) encI encI ([0, 1, (-1), 5, 1000000000, 1000000001, r114.1] : List Int) (by kernel_rfl) (fun _ => rfl) (show LayOk _ [] from trivial)) (by kernel_rfl) (by kernel_rfl) ?_
   refine W.run D_ok 2 171 (by kernel_rfl) ?_
   refine W.appO D_ok encSBind (a := 100) (c := 171) (el := 44) (sz := 2) 24 hx116 rfl 172 (by kernel_rfl) ?_
   refine W.run D_ok 1 173 (by kernel_rfl) ?_
   exact W.fi (by kernel_rfl)
   ) (fun st hw => ?_)
  refine CodeOk.weak hw ?_
  refine ce D_ok mix 3 173 (tl 25 [(0, .loc 0 0), (3, .own 172), (4, V.int (IntKind.wrap .i64 (y77 - 1)))]) [(172, .vec false 44 2 (x116.map encSBind)), (0, .cells 55 [.sl false false (p0_0.map byteRow), V.int r115.2.1, V.int r115.2.2])] (by kernel_rfl) (fun st hw => ?_)
  exact ih98 ((IntKind.wrap .i64 (y77 - 1)), r115.2.1, r115.2.2, x116) h97 _ (hw.trans (Weak.sel [(0, 0), (172, 100)] [0, 3, 4] (by kernel_rfl) (by kernel_rfl) (by kernel_rfl)))
 refine CodeOk.ifF hc100 (by kernel_rfl) ?_
 refine CodeOk.exit ?_
 refine cu D_ok mix 2 169 (tl 25 [(2, .own 100)]) [(0, .cells 55 [.sl false false (p0_0.map byteRow), V.int y78, V.int y79]), (100, .vec false 44 2 (y80.map encSBind))] (by kernel_rfl) ?_
 refine CodeOk.ret ?_
 have h97 := Option.some.inj h97
 subst h97
 exact Ends.gen [(0, 0), (100, 100)] (.inr rfl) (RetV.one rfl (OneR.tmp (t := 2) (r := .own 100) (by kernel_rfl))) (by kernel_rfl) (by kernel_rfl) (by kernel_rfl)

theorem m_spec_DrawSetVar_ok (N : Nat) (a0 : List UInt8) {r : ((List SBind) × (List UInt8) × Int)} (h : m_spec_DrawSetVar N a0 = some r) :
    AC Try.prog GG 6 [.sl false false (a0.map byteRow)] [] (.tup [.own 100, V.str r.2.1, V.int r.2.2]) [(100, .vec false 44 2 (r.1.map encSBind))] := by
 rw [m_spec_DrawSetVar] at h
 refine AC.enter Try.func6 rfl ?_
 refine cu D_ok mix 3 100 (tl 34 [(0, .sl false false (a0.map byteRow))]) [] (by kernel_rfl) ?_
 (revert h; refine bind_rev fun r2 hx2 h => ?_)
 refine CodeOk.cutR (tl 34 [(5, .loc 100 0)]) [(100, .cells 55 [.sl false false (r2.1.map byteRow), V.int r2.2.1, V.int r2.2.2])] mix (by
  refine W.run D_ok 1 100 (by kernel_rfl) ?_
  refine W.call (m_spec_l1New_ok N a0 hx2) cok16 [] [(100, 100)] [100] (show LayOk _ [] from trivial) (by kernel_rfl) (by kernel_rfl) ?_
  refine W.run D_ok 1 101 (by kernel_rfl) ?_
  exact W.fi (by kernel_rfl)
  ) ?_
 refine cu D_ok mix 2 101 (tl 34 [(5, .loc 100 0), (6, .own 101)]) [(101, .vec false 44 2 ([].map encSBind)), (100, .cells 55 [.sl false false (r2.1.map byteRow), V.int r2.2.1, V.int r2.2.2])] (by kernel_rfl) ?_
 refine CodeOk.seq' ?_
 (revert h; refine bind_rev fun r50 hx50 h => ?_)
 refine CodeOk.cutR (tl 34 [(5, .loc 100 0), (6, .own 101), (7, V.int r50.1)]) [(101, .vec false 44 2 ([].map encSBind)), (100, .cells 55 [.sl false false (r2.1.map byteRow), V.int r50.2.1, V.int r50.2.2])] mix (by
  refine W.run D_ok 1 102 (by kernel_rfl) ?_
  refine W.call (m_spec_l1Below_ok 4 r2.1 r2.2.1 r2.2.2 hx50) cok17 [(100, 0)] [(0, 100)] [] (show LayOk _ [] from trivial) (by kernel_rfl) (by kernel_rfl) ?_
  refine W.run D_ok 1 102 (by kernel_rfl) ?_
  exact W.fi (by kernel_rfl)
  ) ?_
 refine CodeOk.block' ?_
 refine CodeOk.loopJ (fun (⟨r2, y63, y64, y65, y66⟩ : (((List UInt8) × Int × Int) × Int × Int × Int × (List SBind))) => ⟨tl 34 [(5, .loc 100 0), (6, .own 101), (7, V.int y63)], [(100, .cells 55 [.sl false false (r2.1.map byteRow), V.int y64, V.int y65]), (101, .vec false 44 2 (y66.map encSBind))]⟩) (fun n i => m_spec_DrawSetVar_l1 N n i = some r) (n0 := N) (i0 := (r2, r50.1, r50.2.1, r50.2.2, [])) (Weak.sel [(100, 100), (101, 101)] [5, 6, 7] (by kernel_rfl) (by kernel_rfl) (by kernel_rfl)) h (fun i h => by simp [m_spec_DrawSetVar_l1] at h) ?_
 rintro n1 ⟨r2, y63, y64, y65, y66⟩ h79 ih80
 rw [m_spec_DrawSetVar_l1] at h79
 refine CodeOk.seq' ?_
 refine cu D_ok mix 2 166 (tl 34 [(5, .loc 100 0), (6, .own 101), (7, V.int y63), (14, V.bool (decide (y63 > 0)))]) [(100, .cells 55 [.sl false false (r2.1.map byteRow), V.int y64, V.int y65]), (101, .vec false 44 2 (y66.map encSBind))] (by kernel_rfl) ?_
 (revert h79; refine cond_rev (fun hc82 h79 => ?_) (fun hc82 h79 => ?_))
 ·refine CodeOk.ifT hc82 (by kernel_rfl) ?_
  refine CodeOk.skip ?_
  refine CodeOk.seq' ?_
  refine CodeOk.block' ?_
  (revert h79; refine bind_rev fun r92 hx92 h79 => ?_)
  (revert h79; refine bind_rev fun r93 hx93 h79 => ?_)
  (revert h79; refine bind_rev fun r94 hx94 h79 => ?_)
  refine CodeOk.endR (tl 34 [(5, .loc 100 0), (6, .own 167), (7, V.int y63)]) [(167, .vec false 44 2 (r94.map encSBind)), (100, .cells 55 [.sl false false (r2.1.map byteRow), V.int r93.2.1, V.int r93.2.2])] mix (by
   refine W.run D_ok 3 166 (by kernel_rfl) ?_
   refine W.call (m_spec_l1Pick_ok [[97], [109], [120]] r2.1 y64 y65 hx92) cok18 [(100, 0)] [(0, 100)] [] (LayOk.cons (j := 166) encS encS ([[97], [109], [120]] : List (List UInt8)) (by kernel_rfl) (fun _ => rfl) (show LayOk _ [] from trivial)) (by kernel_rfl) (by kernel_rfl) ?_
   refine W.run D_ok 1 167 (by kernel_rfl) ?_
   refine W.call (m_spec_l1Below_ok 9 r2.1 r92.2.1 r92.2.2 hx93) cok17 [(100, 0)] [(0, 100)] [] (show LayOk _ [] from trivial) (by kernel_rfl) (by kernel_rfl) ?_
   refine W.lend (m_spec_SetVar_ok N y66 r92.1 r93.1 hx94) cok11 [(100, 167)] [167] (LayOk.cons (j := 101) encSBind encSBind y66 (by kernel_rfl) (fun _ => rfl) (show LayOk _ [] from trivial)) (.own _) (.cons (DeepR.map (fun _ => (.cons (.c _) (.cons (.c _) .nil))) _) .nil) (by kernel_rfl) (by kernel_rfl) ?_
   refine W.run D_ok 1 168 (by kernel_rfl) ?_
   exact W.fi (by kernel_rfl)
   ) (fun st hw => ?_)
  refine CodeOk.weak hw ?_
  refine ce D_ok mix 3 168 (tl 34 [(5, .loc 100 0), (6, .own 167), (7, V.int (IntKind.wrap .i64 (y63 - 1)))]) [(167, .vec false 44 2 (r94.map encSBind)), (100, .cells 55 [.sl false false (r2.1.map byteRow), V.int r93.2.1, V.int r93.2.2])] (by kernel_rfl) (fun st hw => ?_)
  exact ih80 (r2, (IntKind.wrap .i64 (y63 - 1)), r93.2.1, r93.2.2, r94) h79 _ (hw.trans (Weak.sel [(100, 100), (167, 101)] [5, 6, 7] (by kernel_rfl) (by kernel_rfl) (by kernel_rfl)))
 refine CodeOk.ifF hc82 (by kernel_rfl) ?_
 refine CodeOk.exit ?_
 refine CodeOk.join (fun (⟨r2, y99, y100, y101⟩ : (((List UInt8) × Int × Int) × Int × Int × (List SBind))) => ⟨tl 34 [(5, .loc 100 0), (6, .own 101)], [(100, .cells 55 [.sl false false (r2.1.map byteRow), V.int y99, V.int y100]), (101, .vec false 44 2 (y101.map encSBind))]⟩) (fun i => m_spec_DrawSetVar_k2 N (m_spec_DrawSetVar_l1 N n1) i = some r) ?_ ?_
 · rintro ⟨r2, y99, y100, y101⟩ h100
   rw [m_spec_DrawSetVar_k2] at h100
   (revert h100; refine bind_rev fun r104 hx103 h100 => ?_)
   (revert h100; refine bind_rev fun r105 hx104 h100 => ?_)
   refine CodeOk.cutR (tl 34 [(2, .own 101), (3, V.str r104.1), (4, V.int r105.1)]) [(101, .vec false 44 2 (y101.map encSBind))] mix (by
    refine W.run D_ok 3 167 (by kernel_rfl) ?_
    refine W.call (m_spec_l1Pick_ok [[97], [107], [120], [122]] r2.1 y99 y100 hx103) cok18 [(100, 0)] [(0, 100)] [] (LayOk.cons (j := 167) encS encS ([[97], [107], [120], [122]] : List (List UInt8)) (by kernel_rfl) (fun _ => rfl) (show LayOk _ [] from trivial)) (by kernel_rfl) (by kernel_rfl) ?_
    refine W.run D_ok 1 168 (by kernel_rfl) ?_
    refine W.call (m_spec_l1Below_ok 99 r2.1 r104.2.1 r104.2.2 hx104) cok17 [(100, 0)] [(0, 100)] [] (show LayOk _ [] from trivial) (by kernel_rfl) (by kernel_rfl) ?_
    refine W.run D_ok 3 168 (by kernel_rfl) ?_
    exact W.fi (by kernel_rfl)
    ) ?_
   refine CodeOk.ret ?_
   have h100 := Option.some.inj h100
   subst h100
   exact Ends.gen [(101, 100)] (.inr rfl) (RetV.three rfl (OneR.tmp (t := 2) (r := .own 101) (by kernel_rfl)) (OneR.tmp (t := 3) (r := V.str r104.1) (by kernel_rfl)) (OneR.tmp (t := 4) (r := V.int r105.1) (by kernel_rfl))) (by kernel_rfl) (by kernel_rfl) (by kernel_rfl)
 intro hk105
 (revert h79; refine bind_rev fun r107 hx107 h79 => ?_)
 refine CodeOk.cutR (tl 34 [(5, .loc 100 0), (6, .own 101), (25, V.bool r107.1)]) [(100, .cells 55 [.sl false false (r2.1.map byteRow), V.int r107.2.1, V.int r107.2.2]), (101, .vec false 44 2 (y66.map encSBind))] mix (by
  refine W.run D_ok 1 166 (by kernel_rfl) ?_
  refine W.call (m_spec_l1Once_ok 6 r2.1 y64 y65 hx107) cok19 [(100, 0)] [(0, 100)] [] (show LayOk _ [] from trivial) (by kernel_rfl) (by kernel_rfl) ?_
  exact W.fi (by kernel_rfl)
  ) ?_
 (revert h79; refine cond_rev (fun hc108 h79 => ?_) (fun hc108 h79 => ?_))
 ·refine CodeOk.ifT hc108 (by kernel_rfl) ?_
  (revert h79; refine bind_rev fun r109 hx110 h79 => ?_)
  refine CodeOk.endR (tl 34 [(5, .loc 100 0), (6, .own 166)]) [(166, .vec false 44 2 (r109.1.map encSBind)), (100, .cells 55 [.sl false false (r2.1.map byteRow), V.int r109.2.1, V.int r109.2.2])] mix (by
   refine W.run D_ok 1 166 (by kernel_rfl) ?_
   refine W.call (m_spec_l27Env_ok N r2.1 r107.2.1 r107.2.2 hx110) cok20 [(100, 0)] [(0, 100), (100, 166)] [166] (show LayOk _ [] from trivial) (by kernel_rfl) (by kernel_rfl) ?_
   refine W.run D_ok 1 167 (by kernel_rfl) ?_
   exact W.fi (by kernel_rfl)
   ) (fun st hw => ?_)
  exact hk105 (r2, r109.2.1, r109.2.2, r109.1) h79 _ (hw.trans (Weak.sel [(100, 100), (166, 101)] [5, 6] (by kernel_rfl) (by kernel_rfl) (by kernel_rfl)))
 refine CodeOk.ifF hc108 (by kernel_rfl) ?_
 refine CodeOk.skip ?_
 exact hk105 (r2, r107.2.1, r107.2.2, y66) h79 _ (Weak.sel [(100, 100), (101, 101)] [5, 6] (by kernel_rfl) (by kernel_rfl) (by kernel_rfl))

theorem m_slices_Clone_Bind_nil : AC Try.prog GG 22 [.c (.slice none 0 0)] [] (.own 100) [(100, .vec false 44 2 (([] : List SBind).map encSBind))] := by
  refine AC.enter Try.func22 rfl ?_
  refine CodeOk.cutR (tl 8 [(0, .c (.slice none 0 0))]) [] mix (by
      refine W.run D_ok 1 100 (by kernel_rfl) ?_
      exact W.fin (by decide) (by kernel_rfl) (Weak.sel [] [0] (by kernel_rfl) (by kernel_rfl) (by kernel_rfl))
      ) ?_
  refine CodeOk.seq' ?_
  refine CodeOk.cutR (tl 8 [(0, .c (.slice none 0 0)), (4, V.bool true)]) [] mix (by
      refine W.run D_ok 1 100 (by kernel_rfl) ?_
      refine W.nilEq D_ok true (by kernel_rfl) ?_
      exact W.fin (by decide) (by kernel_rfl) (Weak.sel [] [0, 4] (by kernel_rfl) (by kernel_rfl) (by kernel_rfl))
      ) ?_
  refine CodeOk.ifT (c := true) rfl (by kernel_rfl) ?_
  refine CodeOk.cutR (tl 8 [(2, .c (.slice none 0 0))]) [] mix (by
      refine W.run D_ok 1 100 (by kernel_rfl) ?_
      exact W.fin (by decide) (by kernel_rfl) (Weak.sel [] [2] (by kernel_rfl) (by kernel_rfl) (by kernel_rfl))
      ) ?_
  refine CodeOk.weak (Weak.nil 2 101 44 2 (by kernel_rfl) (by kernel_rfl)) ?_
  refine CodeOk.ret ?_
  exact Ends.gen [(101, 100)] (.inr rfl) (RetV.one rfl (OneR.tmp (t := 2) (r := .own 101) (by kernel_rfl))) (by kernel_rfl) (by kernel_rfl) (by kernel_rfl)

theorem m_slices_Clone_Bind_nn (a0 : List SBind) {r : (List SBind)} (hx2 : app 24 [] a0 = some r) :
    AC Try.prog GG 22 [.sl true false (a0.map encSBind)] [] (.own 100) [(100, .vec false 44 2 (r.map encSBind))] := by
  refine AC.enter Try.func22 rfl ?_
  refine CodeOk.cutR (tl 8 [(0, .sl true false (a0.map encSBind))]) [] mix (by
      refine W.run D_ok 1 100 (by kernel_rfl) ?_
      exact W.fin (by decide) (by kernel_rfl) (Weak.sel [] [0] (by kernel_rfl) (by kernel_rfl) (by kernel_rfl))
      ) ?_
  refine CodeOk.seq' ?_
  refine CodeOk.cutR (tl 8 [(0, .sl true false (a0.map encSBind)), (4, V.bool false)]) [] mix (by
      refine W.run D_ok 1 100 (by kernel_rfl) ?_
      refine W.nilEq D_ok false (by kernel_rfl) ?_
      exact W.fin (by decide) (by kernel_rfl) (Weak.sel [] [0, 4] (by kernel_rfl) (by kernel_rfl) (by kernel_rfl))
      ) ?_
  refine CodeOk.ifF (c := false) rfl (by kernel_rfl) ?_
  refine CodeOk.skip ?_
  refine CodeOk.weak (st' := ⟨tl 8 [(0, .sl true false (a0.map encSBind)), (4, V.bool false)], []⟩) (Weak.refl _) ?_
  refine CodeOk.cutR (tl 8 [(2, .own 101)]) [(101, .vec false 44 2 (r.map encSBind))] mix (by
      refine W.run D_ok 2 100 (by kernel_rfl) ?_
      refine W.appD D_ok encSBind (a := 100) (el := 44) 24 hx2 rfl 101 2 (fun _ => by first | rfl | kernel_rfl) (by kernel_rfl) ?_
      refine W.run D_ok 1 102 (by kernel_rfl) ?_
      exact W.fin (by decide) (by kernel_rfl) (Weak.sel [(101, 101)] [2] (by kernel_rfl) (by kernel_rfl) (by kernel_rfl))
      ) ?_
  refine CodeOk.ret ?_
  exact Ends.gen [(101, 100)] (.inr rfl) (RetV.one rfl (OneR.tmp (t := 2) (r := .own 101) (by kernel_rfl))) (by kernel_rfl) (by kernel_rfl) (by kernel_rfl)

theorem m_slices_Clone_Bind_ok (a0 : List SBind) {r : (List SBind)} (h : m_slices_Clone_Bind a0 = some r) :
    AC Try.prog GG 22 [.sl false false (a0.map encSBind)] [] (.own 100) [(100, .vec false 44 2 (r.map encSBind))] := by
  rw [m_slices_Clone_Bind] at h
  obtain ⟨x2, h2, h⟩ := bind_some h
  have h := Option.some.inj h
  subst h
  refine AC.slCase (fun h0 => ?_) (m_slices_Clone_Bind_nn a0 h2)
  have ha : a0 = [] := by simpa using h0
  subst ha
  have hr : x2 = [] := by
    rw [app_some (by simp)] at h2
    simpa using h2.symm
  subst hr
  exact m_slices_Clone_Bind_nil

theorem m_impl_SetVar_1_ok (a0 : SBind) (p0_0 : List UInt8) {r : Bool} (h : m_impl_SetVar_1 a0 p0_0 = some r) :
    AC Try.prog GG 23 [.agg [V.str a0.Name, V.int a0.Val], .loc 0 0] [(0, .cells 9 [V.str p0_0])] (V.bool r) [(0, .cells 9 [V.str p0_0])] := by
 rw [m_impl_SetVar_1] at h
 refine AC.enter Try.func23 rfl ?_
 refine cu D_ok mix 2 100 (tl 8 [(1, .loc 0 0), (2, .loc 100 0)]) [(100, .cells 44 [V.str a0.Name, V.int a0.Val]), (0, .cells 9 [V.str p0_0])] (by kernel_rfl) ?_
 refine cu D_ok mix 5 101 (tl 8 [(3, V.bool (a0.Name == p0_0))]) [(0, .cells 9 [V.str p0_0])] (by kernel_rfl) ?_
 refine CodeOk.ret ?_
 have h := Option.some.inj h
 subst h
 exact Ends.gen [(0, 0)] (.inr rfl) (RetV.one rfl (OneR.tmp (t := 3) (r := V.bool (a0.Name == p0_0)) (by kernel_rfl))) (by kernel_rfl) (by kernel_rfl) (by kernel_rfl)

theorem m_slices_IndexFunc_Bind_ok (N : Nat) (p0 : List SBind) (p1_0 : List UInt8) {r : Int} (h : m_slices_IndexFunc_Bind N p0 p1_0 = some r) :
    AC Try.prog GG 24 [.own 0, .fn 23 [.loc 1 0]] [(0, .vec false 44 2 (p0.map encSBind)), (1, .cells 9 [V.str p1_0])] (V.int r) [(0, .vec false 44 2 (p0.map encSBind)), (1, .cells 9 [V.str p1_0])] := by
 rw [m_slices_IndexFunc_Bind] at h
 refine AC.enter Try.func24 rfl ?_
 refine cu D_ok mix 1 100 (tl 19 [(0, .own 0), (1, .fn 23 [.loc 1 0])]) [(0, .vec false 44 2 (p0.map encSBind)), (1, .cells 9 [V.str p1_0])] (by kernel_rfl) ?_
 refine CodeOk.seq' ?_
 refine CodeOk.cutR (tl 19 [(0, .own 0), (1, .fn 23 [.loc 1 0]), (7, V.int (p0.length : Int)), (8, V.int 0)]) [(0, .vec false 44 2 (p0.map encSBind)), (1, .cells 9 [V.str p1_0])] mix (by
  refine W.run D_ok 1 100 (by kernel_rfl) ?_
  refine W.len D_ok encSBind p0 [0] (by kernel_rfl) (by kernel_rfl) ?_
  refine W.run D_ok 1 100 (by kernel_rfl) ?_
  exact W.fi (by kernel_rfl)
  ) ?_
 refine CodeOk.block' ?_
 refine CodeOk.loopJ (fun (y35 : Int) => ⟨tl 19 [(0, .own 0), (1, .fn 23 [.loc 1 0]), (7, V.int (p0.length : Int)), (8, V.int y35)], [(0, .vec false 44 2 (p0.map encSBind)), (1, .cells 9 [V.str p1_0])]⟩) (fun n i => m_slices_IndexFunc_Bind_l1 N p0 p1_0 n i = some r) (n0 := N) (i0 := 0) (Weak.sel [(0, 0), (1, 1)] [0, 1, 7, 8] (by kernel_rfl) (by kernel_rfl) (by kernel_rfl)) h (fun i h => by simp [m_slices_IndexFunc_Bind_l1] at h) ?_
 rintro n1 y35 h63 ih64
 rw [m_slices_IndexFunc_Bind_l1] at h63
 refine cu D_ok mix 1 160 (tl 19 [(0, .own 0), (1, .fn 23 [.loc 1 0]), (7, V.int (p0.length : Int)), (8, V.int y35), (9, V.bool (decide (y35 < (p0.length : Int))))]) [(0, .vec false 44 2 (p0.map encSBind)), (1, .cells 9 [V.str p1_0])] (by kernel_rfl) ?_
 refine CodeOk.seq' ?_
 (revert h63; refine cond_rev (fun hc66 h63 => ?_) (fun hc66 h63 => ?_))
 ·refine CodeOk.ifT hc66 (by kernel_rfl) ?_
  refine CodeOk.skip ?_
  refine CodeOk.seq' ?_
  refine CodeOk.block' ?_
  refine cu D_ok mix 2 160 (tl 19 [(0, .own 0), (1, .fn 23 [.loc 1 0]), (5, V.int y35), (7, V.int (p0.length : Int)), (8, V.int y35)]) [(0, .vec false 44 2 (p0.map encSBind)), (1, .cells 9 [V.str p1_0])] (by kernel_rfl) ?_
  (revert h63; refine bind_rev fun e51 hx74 h63 => ?_)
  (revert h63; refine bind_rev fun r52 hx75 h63 => ?_)
  refine CodeOk.cutR (tl 19 [(0, .own 0), (1, .fn 23 [.loc 1 0]), (5, V.int y35), (7, V.int (p0.length : Int)), (8, V.int y35), (16, V.bool r52)]) [(0, .vec false 44 2 (p0.map encSBind)), (1, .cells 9 [V.str p1_0])] mix (by
   refine W.run D_ok 3 160 (by kernel_rfl) ?_
   refine W.ixO D_ok encSBind hx74 0 2 (by kernel_rfl) ?_
   refine W.ldO D_ok encSBind hx74 44 0 0 (.agg [V.str e51.Name, V.int e51.Val]) (by kernel_rfl) (by kernel_rfl) ?_
   refine W.call (m_impl_SetVar_1_ok e51 p1_0 hx75) cok23 [(1, 0)] [(0, 1)] [] (show LayOk _ [] from trivial) (by kernel_rfl) (by kernel_rfl) ?_
   exact W.fi (by kernel_rfl)
   ) ?_
  (revert h63; refine cond_rev (fun hc76 h63 => ?_) (fun hc76 h63 => ?_))
  ·refine CodeOk.ifT hc76 (by kernel_rfl) ?_
   refine cu D_ok mix 2 160 (tl 19 [(4, V.int y35)]) [(0, .vec false 44 2 (p0.map encSBind)), (1, .cells 9 [V.str p1_0])] (by kernel_rfl) ?_
   refine CodeOk.ret ?_
   have h63 := Option.some.inj h63
   subst h63
   exact Ends.gen [(0, 0), (1, 1)] (.inr rfl) (RetV.one rfl (OneR.tmp (t := 4) (r := V.int y35) (by kernel_rfl))) (by kernel_rfl) (by kernel_rfl) (by kernel_rfl)
  refine CodeOk.ifF hc76 (by kernel_rfl) ?_
  refine CodeOk.skip ?_
  refine ce D_ok mix 2 160 (tl 19 [(0, .own 0), (1, .fn 23 [.loc 1 0]), (7, V.int (p0.length : Int)), (8, V.int (IntKind.wrap .i64 (y35 + 1)))]) [(0, .vec false 44 2 (p0.map encSBind)), (1, .cells 9 [V.str p1_0])] (by kernel_rfl) (fun st hw => ?_)
  exact ih64 (IntKind.wrap .i64 (y35 + 1)) h63 _ (hw.trans (Weak.sel [(0, 0), (1, 1)] [0, 1, 7, 8] (by kernel_rfl) (by kernel_rfl) (by kernel_rfl)))
 refine CodeOk.ifF hc66 (by kernel_rfl) ?_
 refine CodeOk.exit ?_
 refine cu D_ok mix 1 160 (tl 19 [(4, V.int (-1))]) [(0, .vec false 44 2 (p0.map encSBind)), (1, .cells 9 [V.str p1_0])] (by kernel_rfl) ?_
 refine CodeOk.ret ?_
 have h63 := Option.some.inj h63
 subst h63
 exact Ends.gen [(0, 0), (1, 1)] (.inr rfl) (RetV.one rfl (OneR.tmp (t := 4) (r := V.int (-1)) (by kernel_rfl))) (by kernel_rfl) (by kernel_rfl) (by kernel_rfl)

theorem m_slices_DeleteFunc_Bind_ok (N : Nat) (p0 : List SBind) (p1_0 : List UInt8) {r : (List SBind)} (h : m_slices_DeleteFunc_Bind N p0 p1_0 = some r) :
    AC Try.prog GG 21 [.own 0, .fn 23 [.loc 1 0]] [(0, .vec false 44 2 (p0.map encSBind)), (1, .cells 9 [V.str p1_0])] (.own 100) [(1, .cells 9 [V.str p1_0]), (100, .vec false 44 2 (r.map encSBind))] := by
 rw [m_slices_DeleteFunc_Bind] at h
 refine AC.enter Try.func21 rfl ?_
 refine cu D_ok mix 1 100 (tl 42 [(0, .own 0), (1, .fn 23 [.loc 1 0])]) [(0, .vec false 44 2 (p0.map encSBind)), (1, .cells 9 [V.str p1_0])] (by kernel_rfl) ?_
 (revert h; refine bind_rev fun r2 hx2 h => ?_)
 refine CodeOk.cutR (tl 42 [(0, .own 0), (1, .fn 23 [.loc 1 0]), (5, V.int r2)]) [(0, .vec false 44 2 (p0.map encSBind)), (1, .cells 9 [V.str p1_0])] mix (by
  refine W.run D_ok 2 100 (by kernel_rfl) ?_
  refine W.call (m_slices_IndexFunc_Bind_ok N p0 p1_0 hx2) cok24 [(0, 0), (1, 1)] [(0, 0), (1, 1)] [] (show LayOk _ [] from trivial) (by kernel_rfl) (by kernel_rfl) ?_
  refine W.run D_ok 1 100 (by kernel_rfl) ?_
  exact W.fi (by kernel_rfl)
  ) ?_
 refine CodeOk.seq' ?_
 refine cu D_ok mix 2 100 (tl 42 [(0, .own 0), (1, .fn 23 [.loc 1 0]), (5, V.int r2), (12, V.bool (r2 == (-1)))]) [(0, .vec false 44 2 (p0.map encSBind)), (1, .cells 9 [V.str p1_0])] (by kernel_rfl) ?_
 (revert h; refine cond_rev (fun hc4 h => ?_) (fun hc4 h => ?_))
 ·refine CodeOk.ifT hc4 (by kernel_rfl) ?_
  refine cu D_ok mix 2 100 (tl 42 [(4, .own 0)]) [(0, .vec false 44 2 (p0.map encSBind)), (1, .cells 9 [V.str p1_0])] (by kernel_rfl) ?_
  refine CodeOk.ret ?_
  have h := Option.some.inj h
  subst h
  exact Ends.gen [(1, 1), (0, 100)] (.inr rfl) (RetV.one rfl (OneR.tmp (t := 4) (r := .own 0) (by kernel_rfl))) (by kernel_rfl) (by kernel_rfl) (by kernel_rfl)
 refine CodeOk.ifF hc4 (by kernel_rfl) ?_
 refine CodeOk.skip ?_
 refine CodeOk.seq' ?_
 refine cu D_ok mix 3 100 (tl 42 [(0, .own 0), (1, .fn 23 [.loc 1 0]), (5, V.int r2), (6, V.int (IntKind.wrap .i64 (r2 + 1)))]) [(0, .vec false 44 2 (p0.map encSBind)), (1, .cells 9 [V.str p1_0])] (by kernel_rfl) ?_
 refine CodeOk.block' ?_
 refine CodeOk.loopJ (fun (⟨y81, y82, y83⟩ : (Int × Int × (List SBind))) => ⟨tl 42 [(0, .own 0), (1, .fn 23 [.loc 1 0]), (5, V.int y81), (6, V.int y82)], [(0, .vec false 44 2 (y83.map encSBind)), (1, .cells 9 [V.str p1_0])]⟩) (fun n i => m_slices_DeleteFunc_Bind_l1 N p1_0 n i = some r) (n0 := N) (i0 := (r2, (IntKind.wrap .i64 (r2 + 1)), p0)) (Weak.sel [(0, 0), (1, 1)] [0, 1, 5, 6] (by kernel_rfl) (by kernel_rfl) (by kernel_rfl)) h (fun i h => by simp [m_slices_DeleteFunc_Bind_l1] at h) ?_
 rintro n1 ⟨y81, y82, y83⟩ h117 ih118
 rw [m_slices_DeleteFunc_Bind_l1] at h117
 refine CodeOk.seq' ?_
 refine CodeOk.cutR (tl 42 [(0, .own 0), (1, .fn 23 [.loc 1 0]), (5, V.int y81), (6, V.int y82), (19, V.bool (decide (y82 < (y83.length : Int))))]) [(0, .vec false 44 2 (y83.map encSBind)), (1, .cells 9 [V.str p1_0])] mix (by
  refine W.run D_ok 2 162 (by kernel_rfl) ?_
  refine W.len D_ok encSBind y83 [0] (by kernel_rfl) (by kernel_rfl) ?_
  refine W.run D_ok 1 162 (by kernel_rfl) ?_
  exact W.fi (by kernel_rfl)
  ) ?_
 (revert h117; refine cond_rev (fun hc120 h117 => ?_) (fun hc120 h117 => ?_))
 ·refine CodeOk.ifT hc120 (by kernel_rfl) ?_
  refine CodeOk.skip ?_
  refine CodeOk.join (fun (⟨y82, y113, y114⟩ : (Int × Int × (List SBind))) => ⟨tl 42 [(0, .own 0), (1, .fn 23 [.loc 1 0]), (5, V.int y113), (6, V.int y82)], [(0, .vec false 44 2 (y114.map encSBind)), (1, .cells 9 [V.str p1_0])]⟩) (fun i => m_slices_DeleteFunc_Bind_k2 N p1_0 (m_slices_DeleteFunc_Bind_l1 N p1_0 n1) i = some r) ?_ ?_
  · rintro ⟨y82, y113, y114⟩ h130
    rw [m_slices_DeleteFunc_Bind_k2] at h130
    refine ce D_ok mix 3 163 (tl 42 [(0, .own 0), (1, .fn 23 [.loc 1 0]), (5, V.int y113), (6, V.int (IntKind.wrap .i64 (y82 + 1)))]) [(0, .vec false 44 2 (y114.map encSBind)), (1, .cells 9 [V.str p1_0])] (by kernel_rfl) (fun st hw => ?_)
    exact ih118 (y113, (IntKind.wrap .i64 (y82 + 1)), y114) h130 _ (hw.trans (Weak.sel [(0, 0), (1, 1)] [0, 1, 5, 6] (by kernel_rfl) (by kernel_rfl) (by kernel_rfl)))
  intro hk131
  refine CodeOk.block' ?_
  (revert h117; refine bind_rev fun e116 hx133 h117 => ?_)
  refine CodeOk.cutR (tl 42 [(0, .own 0), (1, .fn 23 [.loc 1 0]), (5, V.int y81), (6, V.int y82), (7, .loc 162 0)]) [(162, .cells 44 [V.str e116.Name, V.int e116.Val]), (0, .vec false 44 2 (y83.map encSBind)), (1, .cells 9 [V.str p1_0])] mix (by
   refine W.run D_ok 2 162 (by kernel_rfl) ?_
   refine W.ixO D_ok encSBind hx133 0 2 (by kernel_rfl) ?_
   refine W.ldO D_ok encSBind hx133 44 0 0 (.agg [V.str e116.Name, V.int e116.Val]) (by kernel_rfl) (by kernel_rfl) ?_
   refine W.run D_ok 2 162 (by kernel_rfl) ?_
   exact W.fi (by kernel_rfl)
   ) ?_
  (revert h117; refine bind_rev fun r118 hx135 h117 => ?_)
  refine CodeOk.cutR (tl 42 [(0, .own 0), (1, .fn 23 [.loc 1 0]), (5, V.int y81), (6, V.int y82), (7, .loc 162 0), (29, V.bool (!r118))]) [(162, .cells 44 [V.str e116.Name, V.int e116.Val]), (0, .vec false 44 2 (y83.map encSBind)), (1, .cells 9 [V.str p1_0])] mix (by
   refine W.run D_ok 2 163 (by kernel_rfl) ?_
   refine W.call (m_impl_SetVar_1_ok e116 p1_0 hx135) cok23 [(1, 0)] [(0, 1)] [] (show LayOk _ [] from trivial) (by kernel_rfl) (by kernel_rfl) ?_
   refine W.run D_ok 1 163 (by kernel_rfl) ?_
   exact W.fi (by kernel_rfl)
   ) ?_
  (revert h117; refine cond_rev (fun hc136 h117 => ?_) (fun hc136 h117 => ?_))
  ·refine CodeOk.ifT hc136 (by kernel_rfl) ?_
   (revert h117; refine bind_rev fun e121 hx139 h117 => ?_)
   (revert h117; refine bind_rev fun x122 hu140 h117 => ?_)
   refine CodeOk.cutR (tl 42 [(0, .own 0), (1, .fn 23 [.loc 1 0]), (5, V.int y81), (6, V.int y82)]) [(0, .vec false 44 2 (x122.map encSBind)), (1, .cells 9 [V.str p1_0])] mix (by
    refine W.run D_ok 3 163 (by kernel_rfl) ?_
    refine W.ixO D_ok encSBind hx139 0 2 (by kernel_rfl) ?_
    refine W.stO D_ok encSBind (x' := e116) hx139 hu140 (j := 0) (nn := false) (ety := 44) (sz := 2) (b := 0) (ys := [V.str e116.Name, V.int e116.Val]) (C := []) (R := []) (by kernel_rfl) (by kernel_rfl) ?_
    exact W.fi (by kernel_rfl)
    ) ?_
   refine ce D_ok mix 3 163 (tl 42 [(0, .own 0), (1, .fn 23 [.loc 1 0]), (5, V.int (IntKind.wrap .i64 (y81 + 1))), (6, V.int y82)]) [(0, .vec false 44 2 (x122.map encSBind)), (1, .cells 9 [V.str p1_0])] (by kernel_rfl) (fun st hw => ?_)
   exact hk131 (y82, (IntKind.wrap .i64 (y81 + 1)), x122) h117 _ (hw.trans (Weak.sel [(0, 0), (1, 1)] [0, 1, 5, 6] (by kernel_rfl) (by kernel_rfl) (by kernel_rfl)))
  refine CodeOk.ifF hc136 (by kernel_rfl) ?_
  refine CodeOk.skip ?_
  exact hk131 (y82, y81, y83) h117 _ (Weak.sel [(0, 0), (1, 1)] [0, 1, 5, 6] (by kernel_rfl) (by kernel_rfl) (by kernel_rfl))
 refine CodeOk.ifF hc120 (by kernel_rfl) ?_
 refine CodeOk.exit ?_
 (revert h117; refine bind_rev fun l124 hx142 h117 => ?_)
 refine CodeOk.cutR (tl 42 [(0, .own 0), (5, V.int y81)]) [(0, .vec false 44 2 ((clr (⟨[], 0⟩ : SBind) y81.toNat y83).map encSBind)), (1, .cells 9 [V.str p1_0])] mix (by
  refine W.run D_ok 2 162 (by kernel_rfl) ?_
  refine W.viewO D_ok encSBind hx142 0 2 (by kernel_rfl) ?_
  refine W.clr D_ok encSBind (⟨[], 0⟩ : SBind) hx142 rfl 0 44 2 (nn := false) (by kernel_rfl) ?_
  exact W.fi (by kernel_rfl)
  ) ?_
 (revert h117; refine bind_rev fun l126 hx144 h117 => ?_)
 refine CodeOk.cutR (tl 42 [(4, .own 162)]) [(162, .vec false 44 2 (l126.map encSBind)), (1, .cells 9 [V.str p1_0])] mix (by
  refine W.run D_ok 2 162 (by kernel_rfl) ?_
  refine W.cutO D_ok encSBind hx144 162 (j := 0) (el := 44) (sz := 2) (by kernel_rfl) ?_
  refine W.run D_ok 1 163 (by kernel_rfl) ?_
  exact W.fi (by kernel_rfl)
  ) ?_
 refine CodeOk.ret ?_
 have h117 := Option.some.inj h117
 subst h117
 exact Ends.gen [(1, 1), (162, 100)] (.inr rfl) (RetV.one rfl (OneR.tmp (t := 4) (r := .own 162) (by kernel_rfl))) (by kernel_rfl) (by kernel_rfl) (by kernel_rfl)

theorem m_impl_SetVar_2_ok (a0 : SBind) (p0_0 : List UInt8) {r : Bool} (h : m_impl_SetVar_2 a0 p0_0 = some r) :
    AC Try.prog GG 25 [.agg [V.str a0.Name, V.int a0.Val], .loc 0 0] [(0, .cells 9 [V.str p0_0])] (V.bool r) [(0, .cells 9 [V.str p0_0])] := by
 rw [m_impl_SetVar_2] at h
 refine AC.enter Try.func25 rfl ?_
 refine cu D_ok mix 2 100 (tl 8 [(1, .loc 0 0), (2, .loc 100 0)]) [(100, .cells 44 [V.str a0.Name, V.int a0.Val]), (0, .cells 9 [V.str p0_0])] (by kernel_rfl) ?_
 refine cu D_ok mix 5 101 (tl 8 [(3, V.bool (!(Op.bytesLess a0.Name p0_0 || a0.Name == p0_0)))]) [(0, .cells 9 [V.str p0_0])] (by kernel_rfl) ?_
 refine CodeOk.ret ?_
 have h := Option.some.inj h
 subst h
 exact Ends.gen [(0, 0)] (.inr rfl) (RetV.one rfl (OneR.tmp (t := 3) (r := V.bool (!(Op.bytesLess a0.Name p0_0 || a0.Name == p0_0))) (by kernel_rfl))) (by kernel_rfl) (by kernel_rfl) (by kernel_rfl)

theorem m_slices_IndexFunc_Bind_v2_ok (N : Nat) (p0 : List SBind) (p1_0 : List UInt8) {r : Int} (h : m_slices_IndexFunc_Bind_v2 N p0 p1_0 = some r) :
    AC Try.prog GG 24 [.own 0, .fn 25 [.loc 1 0]] [(0, .vec false 44 2 (p0.map encSBind)), (1, .cells 9 [V.str p1_0])] (V.int r) [(0, .vec false 44 2 (p0.map encSBind)), (1, .cells 9 [V.str p1_0])] := by
 rw [m_slices_IndexFunc_Bind_v2] at h
 refine AC.enter Try.func24 rfl ?_
 refine cu D_ok mix 1 100 (tl 19 [(0, .own 0), (1, .fn 25 [.loc 1 0])]) [(0, .vec false 44 2 (p0.map encSBind)), (1, .cells 9 [V.str p1_0])] (by kernel_rfl) ?_
 refine CodeOk.seq' ?_
 refine CodeOk.cutR (tl 19 [(0, .own 0), (1, .fn 25 [.loc 1 0]), (7, V.int (p0.length : Int)), (8, V.int 0)]) [(0, .vec false 44 2 (p0.map encSBind)), (1, .cells 9 [V.str p1_0])] mix (by
  refine W.run D_ok 1 100 (by kernel_rfl) ?_
  refine W.len D_ok encSBind p0 [0] (by kernel_rfl) (by kernel_rfl) ?_
  refine W.run D_ok 1 100 (by kernel_rfl) ?_
  exact W.fi (by kernel_rfl)
  ) ?_
 refine CodeOk.block' ?_
 refine CodeOk.loopJ (fun (y35 : Int) => ⟨tl 19 [(0, .own 0), (1, .fn 25 [.loc 1 0]), (7, V.int (p0.length : Int)), (8, V.int y35)], [(0, .vec false 44 2 (p0.map encSBind)), (1, .cells 9 [V.str p1_0])]⟩) (fun n i => m_slices_IndexFunc_Bind_v2_l1 N p0 p1_0 n i = some r) (n0 := N) (i0 := 0) (Weak.sel [(0, 0), (1, 1)] [0, 1, 7, 8] (by kernel_rfl) (by kernel_rfl) (by kernel_rfl)) h (fun i h => by simp [m_slices_IndexFunc_Bind_v2_l1] at h) ?_
 rintro n1 y35 h63 ih64
 rw [m_slices_IndexFunc_Bind_v2_l1] at h63
 refine cu D_ok mix 1 160 (tl 19 [(0, .own 0), (1, .fn 25 [.loc 1 0]), (7, V.int (p0.length : Int)), (8, V.int y35), (9, V.bool (decide (y35 < (p0.length : Int))))]) [(0, .vec false 44 2 (p0.map encSBind)), (1, .cells 9 [V.str p1_0])] (by kernel_rfl) ?_
 refine CodeOk.seq' ?_
 (revert h63; refine cond_rev (fun hc66 h63 => ?_) (fun hc66 h63 => ?_))
 ·refine CodeOk.ifT hc66 (by kernel_rfl) ?_
  refine CodeOk.skip ?_
  refine CodeOk.seq' ?_
  refine CodeOk.block' ?_
  refine cu D_ok mix 2 160 (tl 19 [(0, .own 0), (1, .fn 25 [.loc 1 0]), (5, V.int y35), (7, V.int (p0.length : Int)), (8, V.int y35)]) [(0, .vec false 44 2 (p0.map encSBind)), (1, .cells 9 [V.str p1_0])] (by kernel_rfl) ?_
  (revert h63; refine bind_rev fun e51 hx74 h63 => ?_)
  (revert h63; refine bind_rev fun r52 hx75 h63 => ?_)
  refine CodeOk.cutR (tl 19 [(0, .own 0), (1, .fn 25 [.loc 1 0]), (5, V.int y35), (7, V.int (p0.length : Int)), (8, V.int y35), (16, V.bool r52)]) [(0, .vec false 44 2 (p0.map encSBind)), (1, .cells 9 [V.str p1_0])] mix (by
   refine W.run D_ok 3 160 (by kernel_rfl) ?_
   refine W.ixO D_ok encSBind hx74 0 2 (by kernel_rfl) ?_
   refine W.ldO D_ok encSBind hx74 44 0 0 (.agg [V.str e51.Name, V.int e51.Val]) (by kernel_rfl) (by kernel_rfl) ?_
   refine W.call (m_impl_SetVar_2_ok e51 p1_0 hx75) cok25 [(1, 0)] [(0, 1)] [] (show LayOk _ [] from trivial) (by kernel_rfl) (by kernel_rfl) ?_
   exact W.fi (by kernel_rfl)
   ) ?_
  (revert h63; refine cond_rev (fun hc76 h63 => ?_) (fun hc76 h63 => ?_))
  ·refine CodeOk.ifT hc76 (by kernel_rfl) ?_
   refine cu D_ok mix 2 160 (tl 19 [(4, V.int y35)]) [(0, .vec false 44 2 (p0.map encSBind)), (1, .cells 9 [V.str p1_0])] (by kernel_rfl) ?_
   refine CodeOk.ret ?_
   have h63 := Option.some.inj h63
   subst h63
   exact Ends.gen [(0, 0), (1, 1)] (.inr rfl) (RetV.one rfl (OneR.tmp (t := 4) (r := V.int y35) (by kernel_rfl))) (by kernel_rfl) (by kernel_rfl) (by kernel_rfl)
  refine CodeOk.ifF hc76 (by kernel_rfl) ?_
  refine CodeOk.skip ?_
  refine ce D_ok mix 2 160 (tl 19 [(0, .own 0), (1, .fn 25 [.loc 1 0]), (7, V.int (p0.length : Int)), (8, V.int (IntKind.wrap .i64 (y35 + 1)))]) [(0, .vec false 44 2 (p0.map encSBind)), (1, .cells 9 [V.str p1_0])] (by kernel_rfl) (fun st hw => ?_)
  exact ih64 (IntKind.wrap .i64 (y35 + 1)) h63 _ (hw.trans (Weak.sel [(0, 0), (1, 1)] [0, 1, 7, 8] (by kernel_rfl) (by kernel_rfl) (by kernel_rfl)))
 refine CodeOk.ifF hc66 (by kernel_rfl) ?_
 refine CodeOk.exit ?_
 refine cu D_ok mix 1 160 (tl 19 [(4, V.int (-1))]) [(0, .vec false 44 2 (p0.map encSBind)), (1, .cells 9 [V.str p1_0])] (by kernel_rfl) ?_
 refine CodeOk.ret ?_
 have h63 := Option.some.inj h63
 subst h63
 exact Ends.gen [(0, 0), (1, 1)] (.inr rfl) (RetV.one rfl (OneR.tmp (t := 4) (r := V.int (-1)) (by kernel_rfl))) (by kernel_rfl) (by kernel_rfl) (by kernel_rfl)

theorem m_slices_Insert_Bind_copy_k {P : Program} (w : World) (dT sT ty elem : TypeId) (g o dLen dCap : Nat) (a : Addr) (sLen sCap k : Nat) (cur : Array Value) (t : TypeId) (cs : List Value)
    (hu : P.underlying dT = some (.slice elem)) (hs : (P.info? elem).map (·.size) = some k)
    (hg : w.heap[g]? = some (.cells cur t (0, 0))) (hn : cs.length = Nat.min sLen dLen * k)
    (hsrc : ∀ j v, cs[j]? = some v → w.cell? (a.add j) = some v) (hfit : o + cs.length ≤ cur.size) (h1 : ∀ v ∈ cs, v.oneCell' = true) :
    (Builtin.copy_ #[dT, sT] ty #[.slice (some ⟨g, o, none⟩) dLen dCap, .slice (some a) sLen sCap]).run P w =
      .ok (goInt (Nat.min sLen dLen)) (w.setRow g (cur.toList.take o ++ cs ++ cur.toList.drop (o + cs.length)).toArray) := by
  have hl := run_loadCells_list (P := P) w a cs hsrc
  have hst := run_storeCells_at P g o t cs 0 cur w hg (by simpa using hfit) h1
  cases hq : P.info? elem with
  | none => simp [hq] at hs
  | some i =>
    have hi : i.size = k := by simpa [hq] using hs
    simp [Builtin.copy_, run_underlying hu, Builtin.lenOf, Builtin.firstCells, sizeOf, typeInfo, hq, hi, ← hn, hl, hst]

theorem m_slices_Insert_Bind_mixIns : Try.prog.follows .mixedOrders = true := by kernel_rfl
theorem m_slices_Insert_Bind_sizIns : (Try.prog.info? 44).map (·.size) = some 2 := by kernel_rfl

theorem m_slices_Insert_Bind_ins_shift (g n c i vb m vc : Nat) (cur varr : Array Value) (w : World) (hi : i < n) (hm : 0 < m) (hroom : n + m ≤ c) (hc63 : c ≤ maxLen) (hvb : vb ≠ g)
    (hg : w.heap[g]? = some (.cells cur 44 (0, 0))) (hcs : cur.size = c * 2) (h1 : ∀ v, v ∈ cur.toList.take (n * 2) → v.oneCell' = true)
    (hv : w.heap[vb]? = some (.cells varr 44 (0, 0))) (hvs : varr.size = vc * 2) (hmv : m ≤ vc) (h1v : ∀ v, v ∈ varr.toList.take (m * 2) → v.oneCell' = true) :
    Calls Try.prog 26 #[.slice (some ⟨g, 0, none⟩) n c, .int .i64 i, .slice (some ⟨vb, 0, none⟩) m vc] w
      (Ins 44 2 w (some g) n m ((cur.toList.take (n * 2)).take (i * 2) ++ varr.toList.take (m * 2) ++ (cur.toList.take (n * 2)).drop (i * 2))) := by
  have uS := run_underlying Try.underlying24
  have hz1 : ¬ ((m : Int) = 0) := by omega
  have hz2 : ¬ ((i : Int) = (n : Int)) := by omega
  have mixed := m_slices_Insert_Bind_mixIns
  have hc63' : c ≤ 9223372036854775807 := by simpa only [maxLen] using hc63
  have hw1 : IntKind.i64.wrap ((i : Int) + (m : Int)) = (i : Int) + (m : Int) := by rw [IntKind.wrap_i64]; omega
  have hb1 : (0 : Int) ≤ (i : Int) + (m : Int) := by omega
  have hin : i ≤ n := by omega
  have htn : ((i : Int) + (m : Int)).toNat = i + m := by omega
  have hb2 : ¬ (c = i + m) := by omega
  have hb3 : (i : Int) ≤ (n : Int) + (m : Int) := by omega
  have hb4 : ¬ (c = i) := by omega
  have hov : ∀ lb cb, (callFunc 33 #[.slice (some ⟨vb, 0, none⟩) m vc, .slice (some ⟨g, (i + m) * 2, none⟩) lb cb]).run Try.prog w = .ok (.value (.bool false)) w := fun lb cb => by
    rw [run_callFunc_extern Try.func33 (by kernel_rfl) (by kernel_rfl) (by kernel_rfl) (e := Extern.SlicesOverlaps.overlaps #[24, 24] #[4]) (by kernel_rfl),
      Lib.run_overlaps_apart w 24 4 44 Try.underlying24 2 (fun w => ty44.sizeOf w) ⟨vb, 0, none⟩ ⟨g, (i + m) * 2, none⟩ m vc lb cb hvb 44 44 varr.size cur.size (by simp [World.shape?, hv]) (by simp [World.shape?, hg]) (by omega) (frozen_of_row w vb _ varr 44 hv) (frozen_of_row w vb _ varr 44 hv)]
    rfl
  obtain ⟨mid, hmid⟩ : ∃ mid : List Value, mid = (cur.toList.take (n * 2)).drop (i * 2) := ⟨_, rfl⟩
  have hml : mid.length = (n - i) * 2 := by subst hmid; simp; omega
  obtain ⟨row1, hrow1⟩ : ∃ row1 : Array Value, row1 = (cur.toList.take ((i + m) * 2) ++ mid ++ cur.toList.drop ((i + m) * 2 + mid.length)).toArray := ⟨_, rfl⟩
  have hcp1 : ∀ ty dc sc, (Builtin.copy_ #[24, 24] ty #[.slice (some ⟨g, (i + m) * 2, none⟩) (n + m - (i + m)) dc, .slice (some ⟨g, i * 2, none⟩) (n + m - i) sc]).run Try.prog w.drew = .ok (goInt ((n - i : Nat) : Int)) (w.drew.setRow g row1) := fun ty dc sc => by
    have hmin : Nat.min (n + m - i) (n + m - (i + m)) = n - i := by show min _ _ = _; rw [Nat.min_def]; split <;> omega
    have := m_slices_Insert_Bind_copy_k w.drew 24 24 ty 44 g ((i + m) * 2) (n + m - (i + m)) dc ⟨g, i * 2, none⟩ (n + m - i) sc 2 cur 44 mid Try.underlying24 m_slices_Insert_Bind_sizIns hg (by rw [hmin, hml])
      (fun j v hj => by
        rw [Addr.add_lit, cell_of_row w.drew g _ cur 44 (0, 0) hg]
        rw [hmid, List.getElem?_drop, List.getElem?_take] at hj
        split at hj
        · simpa using hj
        · cases hj) (by rw [hml, hcs]; omega) (fun v hv => h1 v (by rw [hmid] at hv; exact List.mem_of_mem_drop hv))
    rw [hmin, ← hrow1] at this
    exact this
  have hrl : row1.size = cur.size := by rw [hrow1]; simp [hml]; omega
  obtain ⟨W1, hW1⟩ : ∃ W1, W1 = w.drew.setRow g row1 := ⟨_, rfl⟩
  have hg1 : W1.heap[g]? = some (.cells row1 44 (0, 0)) := by rw [hW1]; exact setRow_heap w.drew g cur _ 44 _ hg
  have hv1 : W1.heap[vb]? = some (.cells varr 44 (0, 0)) := by rw [hW1, setRow_other w.drew g vb _ hvb]; exact hv
  obtain ⟨row2, hrow2⟩ : ∃ row2 : Array Value, row2 = (row1.toList.take (i * 2) ++ varr.toList.take (m * 2) ++ row1.toList.drop (i * 2 + (varr.toList.take (m * 2)).length)).toArray := ⟨_, rfl⟩
  have hvl : (varr.toList.take (m * 2)).length = m * 2 := by simp; omega
  have hcp2 : ∀ (W : World), W.heap = W1.heap → ∀ ty dc, (Builtin.copy_ #[24, 24] ty #[.slice (some ⟨g, i * 2, none⟩) (n + m - i) dc, .slice (some ⟨vb, 0, none⟩) m vc]).run Try.prog W = .ok (goInt m) (W.setRow g row2) := fun W hW ty dc => by
    have hmin : Nat.min m (n + m - i) = m := by show min _ _ = _; rw [Nat.min_def]; split <;> omega
    have := m_slices_Insert_Bind_copy_k W 24 24 ty 44 g (i * 2) (n + m - i) dc ⟨vb, 0, none⟩ m vc 2 row1 44 (varr.toList.take (m * 2)) Try.underlying24 m_slices_Insert_Bind_sizIns (by rw [hW]; exact hg1) (by rw [hmin, hvl])
      (fun j v hj => by
        rw [Addr.add_lit, Nat.zero_add, cell_of_row W vb _ varr 44 (0, 0) (by rw [hW]; exact hv1)]
        rw [List.getElem?_take] at hj
        split at hj
        · simpa using hj
        · cases hj) (by rw [hvl, hrl, hcs]; omega) h1v
    rw [hmin, ← hrow2] at this
    exact this
  rw [← hW1] at hcp1
  have hfin : Ins 44 2 w (some g) n m ((cur.toList.take (n * 2)).take (i * 2) ++ varr.toList.take (m * 2) ++ (cur.toList.take (n * 2)).drop (i * 2)) (.returned (.slice (some ⟨g, 0, none⟩) (n + m) c)) (W1.setRow g row2) := by
    have hgl : g < w.heap.size := (Array.getElem?_eq_some_iff.1 hg).1
    have hr2 : row2.size = cur.size := by rw [hrow2]; simp [hrl]; omega
    refine ⟨g, c, row2, rfl, ⟨?_, ?_, ?_, ?_, fun k hk hne => ?_⟩, setRow_heap W1 g row1 _ 44 _ hg1, hroom, hc63, by rw [hr2, hcs], ?_, .inl rfl, ?_⟩
    · rw [hW1]; rfl
    · rw [hW1]; rfl
    · rw [hW1]; rfl
    · rw [hW1]; simp
    · have hkg : k ≠ g := fun e => hne (by rw [e])
      rw [setRow_other W1 g k _ hkg, hW1, setRow_other w.drew g k _ hkg]; rfl
    · have e1 : row1.toList.take (i * 2) = (cur.toList.take (n * 2)).take (i * 2) := by
        rw [hrow1]
        simp only []
        rw [List.append_assoc, List.take_append_of_le_length (by simp; omega), List.take_take, List.take_take]
        congr 1; omega
      have e2 : (row1.toList.drop (i * 2 + m * 2)).take ((n - i) * 2) = mid := by
        rw [hrow1]
        simp only []
        rw [show i * 2 + m * 2 = (cur.toList.take ((i + m) * 2)).length by simp; omega, List.append_assoc, List.drop_left, ← hml, List.take_left]
      rw [hrow2]
      simp only []
      have hA : ((cur.toList.take (n * 2)).take (i * 2)).length = i * 2 := by
        rw [List.length_take, List.length_take, Array.length_toList]; omega
      rw [e1, hvl, ← hmid]
      generalize (cur.toList.take (n * 2)).take (i * 2) = A at hA ⊢
      generalize varr.toList.take (m * 2) = B at hvl ⊢
      rw [show (n + m) * 2 = (A ++ B).length + (n - i) * 2 by rw [List.length_append, hA, hvl]; omega, List.take_length_add_append, e2]
    · rw [hW1]; simpa using hgl
  clear hrow1 hrow2 hmid hW1 hg1 hv1 hvl hml hrl hcs hvs hv h1 h1v
  go_enter Try.func26, Try.ntmps26
  go_wp2_with (simp only [hov])
  go_region_law_o (refine step_copy_runI rfl _ _ 24 24 rfl _ _ (by simp [Act.eval, Act.put]) (by simp [Act.eval, Act.put]) (hcp1 _ _ _) ?_)
  go_wp2_with (at_builtin; refine wpList_copy_runI _ rfl _ _ 24 24 rfl _ _ rfl rfl (hcp2 _ rfl _ _) ?_)
  go_ret
  exact hfin

theorem m_slices_Insert_Bind_ins_end (s : Value) (n vb m vc : Nat) (olds : List Value) (varr : Array Value) (w : World) (hm : 0 < m)
    (hs : (s = .slice none 0 0 ∧ n = 0 ∧ olds = []) ∨ ∃ g c cur, s = .slice (some ⟨g, 0, none⟩) n c ∧ w.heap[g]? = some (.cells cur 44 (0, 0)) ∧ n ≤ c ∧ c ≤ maxLen ∧ cur.size = c * 2 ∧ olds = cur.toList.take (n * 2))
    (hv : w.heap[vb]? = some (.cells varr 44 (0, 0))) (hvs : varr.size = vc * 2) (hmv : m ≤ vc) (h1v : ∀ v, v ∈ varr.toList.take (m * 2) → v.oneCell' = true) (hb : (n + m) * 24 ≤ 140737488355328) :
    Calls Try.prog 26 #[s, .int .i64 n, .slice (some ⟨vb, 0, none⟩) m vc] w
      (Ins 44 2 w s.ownBlock n m (olds ++ varr.toList.take (m * 2))) := by
  have uS := run_underlying Try.underlying24
  have hz1 : ¬ ((m : Int) = 0) := by omega
  have mixed := m_slices_Insert_Bind_mixIns
  have hol : olds.length = n * 2 := by
    rcases hs with ⟨_, rfl, rfl⟩ | ⟨g, c, cur, _, _, hnc, _, hsz, rfl⟩
    · rfl
    · simp; omega
  have hvl : (varr.toList.take (m * 2)).length = m * 2 := by simp; omega
  have hsrc : Src Try.prog 2 24 (.slice (some ⟨vb, 0, none⟩) m vc) m (varr.toList.take (m * 2)) w := Src.ofSlice w Try.underlying24 ⟨vb, 0, none⟩ m vc _ (by rw [hvl])
    (fun j v hj => by
      rw [Addr.add_lit, Nat.zero_add, cell_of_row w vb _ varr 44 (0, 0) hv]
      rw [List.getElem?_take] at hj
      split at hj
      · simpa using hj
      · cases hj) h1v
  obtain ⟨inf, z, e1, e2, e3, e4, e5⟩ : ∃ inf z, Try.prog.info? 44 = some inf ∧ inf.size = 2 ∧ inf.bytes = 24 ∧ inf.zero = some z ∧ z.cells.size = 2 := ⟨Try.t44, _, by kernel_rfl, rfl, rfl, rfl, rfl⟩
  have hv' : (s = .slice none 0 0 ∧ n = 0) ∨ ∃ g cap arr, s = .slice (some ⟨g, 0, none⟩) n cap ∧ w.heap[g]? = some (.cells arr 44 (0, 0)) ∧ n ≤ cap ∧ cap ≤ maxLen ∧ arr.size = cap * inf.size ∧ ∀ p, p < n * inf.size → arr[p]? = olds[p]? := by
    rcases hs with ⟨h1, h2, _⟩ | ⟨g, c, cur, h1, h2, h3, h4, h5, rfl⟩
    · exact .inl ⟨h1, h2⟩
    · refine .inr ⟨g, c, cur, h1, h2, h3, h4, by rw [e2]; exact h5, fun p hp => ?_⟩
      rw [e2] at hp
      rw [List.getElem?_take, if_pos hp]
      simp
  obtain ⟨v', w', hrun, hgb, hres⟩ := run_append_vec (ty := 24) w 24 24 44 inf z Try.underlying24 e1 e4 (by rw [e5, e2]) s n _ m _ (by rw [e2]; exact hsrc) (fun p => olds[p]?) hv' (by simp only [maxLen]; omega) (by rw [e3]; exact hb)
  obtain ⟨g', cap', arr', rfl, h1, h2, h3, h4, h5, h6, h7, h8⟩ := hres.resolve_left (fun h => by omega)
  have hfin : Ins 44 2 w s.ownBlock n m (olds ++ varr.toList.take (m * 2)) (.returned (.slice (some ⟨g', 0, none⟩) (n + m) cap')) w' := by
    rw [e2] at h4 h5 h6
    refine ⟨g', cap', arr', rfl, hgb, h1, h2, h3, h4, ?_, h7, h8⟩
    apply List.ext_getElem?
    intro p
    rw [List.getElem?_take]
    split
    · by_cases hp : p < n * 2
      · rw [List.getElem?_append_left (by omega)]
        simpa using h5 p hp
      · rw [List.getElem?_append_right (by omega), hol]
        have := h6 (p - n * 2) (by omega)
        rw [show n * 2 + (p - n * 2) = p by omega] at this
        simpa using this
    · rw [List.getElem?_eq_none]
      rw [List.length_append, hol, hvl]; omega
  clear h1 h2 h3 h4 h5 h6 h7 h8 hgb hv' hsrc hvl hol h1v hvs hv e1 e2 e3 e4 e5
  rcases hs with ⟨rfl, rfl, rfl⟩ | ⟨g, c, cur, rfl, hg, hnc, hcm, hsz, rfl⟩
  · go_enter Try.func26, Try.ntmps26
    go_wp2_with (at_builtin; refine Lib.wpList_append_run _ rfl _ _ _ _ rfl _ _ rfl rfl _ _ hrun ?_)
    go_ret
    simp only [Nat.zero_add, List.nil_append] at hfin
    exact hfin
  · clear hg hsz hcm
    go_enter Try.func26, Try.ntmps26
    go_wp2_with (at_builtin; refine Lib.wpList_append_run _ rfl _ _ _ _ rfl _ _ rfl rfl _ _ hrun ?_)
    all_goals (go_ret; exact hfin)

theorem m_slices_Insert_Bind_ins_grow (g n c i vb m vc : Nat) (cur varr : Array Value) (w : World) (hi : i < n) (hm : 0 < m) (hnc : n ≤ c) (hroom : c < n + m) (hc63 : c ≤ maxLen) (hb : (n + m) * 24 ≤ 140737488355328)
    (hg : w.heap[g]? = some (.cells cur 44 (0, 0))) (hcs : cur.size = c * 2) (h1 : ∀ v, v ∈ cur.toList.take (n * 2) → v.oneCell' = true)
    (hv : w.heap[vb]? = some (.cells varr 44 (0, 0))) (hvs : varr.size = vc * 2) (hmv : m ≤ vc) (h1v : ∀ v, v ∈ varr.toList.take (m * 2) → v.oneCell' = true) :
    Calls Try.prog 26 #[.slice (some ⟨g, 0, none⟩) n c, .int .i64 i, .slice (some ⟨vb, 0, none⟩) m vc] w
      (Ins 44 2 w (some g) n m ((cur.toList.take (n * 2)).take (i * 2) ++ varr.toList.take (m * 2) ++ (cur.toList.take (n * 2)).drop (i * 2))) := by
  have uS := run_underlying Try.underlying24
  have hz1 : ¬ ((m : Int) = 0) := by omega
  have hz2 : ¬ ((i : Int) = (n : Int)) := by omega
  have hz3 : (c : Int) < (n : Int) + (m : Int) := by omega
  have mixed := m_slices_Insert_Bind_mixIns
  have hc63' : c ≤ 9223372036854775807 := by simpa only [maxLen] using hc63
  have hgl : g < w.heap.size := (Array.getElem?_eq_some_iff.1 hg).1
  have hvw : vb < w.heap.size := (Array.getElem?_eq_some_iff.1 hv).1
  have hkk : (n : Int) + (m : Int) - (i : Int) = ((n + m - i : Nat) : Int) := by omega
  have hik : i + (n + m - i) = n + m := by omega
  have hvl : (varr.toList.take (m * 2)).length = m * 2 := by simp; omega
  obtain ⟨inf, z, e1, e2, e3, e4, e5⟩ : ∃ inf z, Try.prog.info? 44 = some inf ∧ inf.size = 2 ∧ inf.bytes = 24 ∧ inf.zero = some z ∧ z.cells.size = 2 := ⟨Try.t44, _, by kernel_rfl, rfl, rfl, rfl, rfl⟩
  obtain ⟨fro, hfro⟩ : ∃ fro : List Value, fro = (cur.toList.take (n * 2)).take (i * 2) := ⟨_, rfl⟩
  have hfl : fro.length = i * 2 := by rw [hfro, List.length_take, List.length_take, Array.length_toList]; omega
  have hold : (Builtin.firstCells inf.size i (.slice (some ⟨g, 0, none⟩) i c)).run Try.prog w.drew = .ok fro.toArray w.drew := by
    rw [e2]
    exact run_firstCells_some w.drew 2 i ⟨g, 0, none⟩ i c fro hfl (fun j v hj => by
      rw [Addr.add_lit, Nat.zero_add, cell_of_row w.drew g _ cur 44 (0, 0) hg]
      rw [hfro, List.getElem?_take, List.getElem?_take] at hj
      split at hj
      · split at hj
        · simpa using hj
        · cases hj
      · cases hj)
  obtain ⟨G, hG⟩ : ∃ G, G = grownCap w (n + m) c 44 := ⟨_, rfl⟩
  obtain ⟨ROW, hROW⟩ : ∃ ROW : Array Value, ROW = fro.toArray ++ Builtin.zeroCells z.cells (n + m - i) ++ Builtin.zeroCells z.cells (G - (n + m)) := ⟨_, rfl⟩
  have hrz : ∀ ty, (Builtin.append_ #[24, 3] ty #[.slice (some ⟨g, 0, none⟩) i c, .int .i64 ((n : Int) + (m : Int) - (i : Int))]).run Try.prog w =
      .ok (.slice (some ⟨w.heap.size, 0, none⟩) (n + m) G) (w.drew.alloc (.cells ROW 44)) := fun ty => by
    have h := Lib.run_append_grow_zeros w 24 3 ty 44 inf z .i64 .i64 Try.underlying24 Try.underlying3 e1 e4 (some ⟨g, 0, none⟩) i c fro hold (n + m - i) (by omega) (by omega) (by omega) (by omega) (by rw [e3]; omega) (by rw [e3, hik]; exact growslice_fits hroom hb)
    rw [hik, ← hG, ← hROW] at h
    rw [hkk]
    exact h
  have hGn : n + m ≤ G := by rw [hG]; exact grownCap_ge w _ _ _
  have hGm : G ≤ maxLen := by rw [hG]; exact grownCap_le_maxLen w (n + m) c 44 (by unfold maxLen; omega)
  have hG63 : G ≤ 9223372036854775807 := by simpa only [maxLen] using hGm
  have hRs : ROW.size = G * 2 := by
    rw [hROW]
    simp only [Array.size_append, List.size_toArray, size_zeroCells, e5, hfl]
    omega
  have hGi : ¬ (G = i) := by omega
  have hGim : ¬ (G = i + m) := by omega
  have hci : ¬ (c = i) := by omega
  have hgN : g ≠ w.heap.size := by omega
  have hvN : vb ≠ w.heap.size := by omega
  obtain ⟨W1, hW1⟩ : ∃ W1, W1 = w.drew.alloc (.cells ROW 44) := ⟨_, rfl⟩
  have hN1 : W1.heap[w.heap.size]? = some (.cells ROW 44 (0, 0)) := by rw [hW1]; exact heap_alloc_new w.drew _
  have hg1 : W1.heap[g]? = some (.cells cur 44 (0, 0)) := by rw [hW1, heap_alloc_old w.drew _ hgl]; exact hg
  have hv1 : W1.heap[vb]? = some (.cells varr 44 (0, 0)) := by rw [hW1, heap_alloc_old w.drew _ hvw]; exact hv
  have hk1 : ∀ k, k < w.heap.size → W1.heap[k]? = w.heap[k]? := fun k hk => by rw [hW1, heap_alloc_old w.drew _ hk]; rfl
  have hs1 : W1.heap.size = w.heap.size + 1 := by rw [hW1]; simp
  have ho1 : W1.os = w.os ∧ W1.tape = w.tape ∧ W1.output = w.output := by rw [hW1]; exact ⟨rfl, rfl, rfl⟩
  obtain ⟨row1, hrow1⟩ : ∃ row1 : Array Value, row1 = (ROW.toList.take (i * 2) ++ varr.toList.take (m * 2) ++ ROW.toList.drop (i * 2 + (varr.toList.take (m * 2)).length)).toArray := ⟨_, rfl⟩
  have hcpA : ∀ (W : World), W.heap = W1.heap → ∀ ty dc, (Builtin.copy_ #[24, 24] ty #[.slice (some ⟨w.heap.size, i * 2, none⟩) (n + m - i) dc, .slice (some ⟨vb, 0, none⟩) m vc]).run Try.prog W = .ok (goInt m) (W.setRow w.heap.size row1) := fun W hW ty dc => by
    have hmin : Nat.min m (n + m - i) = m := by show min _ _ = _; rw [Nat.min_def]; split <;> omega
    have := m_slices_Insert_Bind_copy_k W 24 24 ty 44 w.heap.size (i * 2) (n + m - i) dc ⟨vb, 0, none⟩ m vc 2 ROW 44 (varr.toList.take (m * 2)) Try.underlying24 m_slices_Insert_Bind_sizIns (by rw [hW]; exact hN1) (by rw [hmin, hvl])
      (fun j v hj => by
        rw [Addr.add_lit, Nat.zero_add, cell_of_row W vb _ varr 44 (0, 0) (by rw [hW]; exact hv1)]
        rw [List.getElem?_take] at hj
        split at hj
        · simpa using hj
        · cases hj) (by rw [hvl, hRs]; omega) h1v
    rw [hmin, ← hrow1] at this
    exact this
  have hrl : row1.size = ROW.size := by rw [hrow1]; simp [hvl]; omega
  obtain ⟨mid, hmid⟩ : ∃ mid : List Value, mid = (cur.toList.take (n * 2)).drop (i * 2) := ⟨_, rfl⟩
  have hml : mid.length = (n - i) * 2 := by subst hmid; simp; omega
  obtain ⟨row2, hrow2⟩ : ∃ row2 : Array Value, row2 = (row1.toList.take ((i + m) * 2) ++ mid ++ row1.toList.drop ((i + m) * 2 + mid.length)).toArray := ⟨_, rfl⟩
  obtain ⟨W2, hW2⟩ : ∃ W2, W2 = W1.setRow w.heap.size row1 := ⟨_, rfl⟩
  have hN2 : W2.heap[w.heap.size]? = some (.cells row1 44 (0, 0)) := by rw [hW2]; exact setRow_heap W1 _ ROW _ 44 _ hN1
  have hg2 : W2.heap[g]? = some (.cells cur 44 (0, 0)) := by rw [hW2, setRow_other W1 _ g _ hgN]; exact hg1
  have hcpB : ∀ (W : World), W.heap = W2.heap → ∀ ty dc sc, (Builtin.copy_ #[24, 24] ty #[.slice (some ⟨w.heap.size, (i + m) * 2, none⟩) (n + m - (i + m)) dc, .slice (some ⟨g, i * 2, none⟩) (n - i) sc]).run Try.prog W = .ok (goInt ((n - i : Nat) : Int)) (W.setRow w.heap.size row2) := fun W hW ty dc sc => by
    have hmin : Nat.min (n - i) (n + m - (i + m)) = n - i := by show min _ _ = _; rw [Nat.min_def]; split <;> omega
    have := m_slices_Insert_Bind_copy_k W 24 24 ty 44 w.heap.size ((i + m) * 2) (n + m - (i + m)) dc ⟨g, i * 2, none⟩ (n - i) sc 2 row1 44 mid Try.underlying24 m_slices_Insert_Bind_sizIns (by rw [hW]; exact hN2) (by rw [hmin, hml])
      (fun j v hj => by
        rw [Addr.add_lit, cell_of_row W g _ cur 44 (0, 0) (by rw [hW]; exact hg2)]
        rw [hmid, List.getElem?_drop, List.getElem?_take] at hj
        split at hj
        · simpa using hj
        · cases hj) (by rw [hml, hrl, hRs]; omega) (fun v hv => h1 v (by rw [hmid] at hv; exact List.mem_of_mem_drop hv))
    rw [hmin, ← hrow2] at this
    exact this
  have hfin : ∀ W' : World, W'.heap = (W2.setRow w.heap.size row2).heap → W'.os = w.os → W'.tape = w.tape → W'.output = w.output →
      Ins 44 2 w (some g) n m (fro ++ varr.toList.take (m * 2) ++ mid) (.returned (.slice (some ⟨w.heap.size, 0, none⟩) (n + m) G)) W' := by
    intro W' hh h1 h2 h3
    have hr2 : row2.size = ROW.size := by rw [hrow2]; simp [hrl, hml]; omega
    refine ⟨w.heap.size, G, row2, rfl, ⟨h1, h2, h3, ?_, fun k hk hne => ?_⟩, by rw [hh]; exact setRow_heap W2 _ row1 _ 44 _ hN2, hGn, hGm, by rw [hr2, hRs], ?_, .inr (Nat.le_refl _), ?_⟩
    · rw [hh, hW2]; simp [hs1]
    · have hkg : k ≠ w.heap.size := by omega
      rw [hh, setRow_other W2 _ k _ hkg, hW2, setRow_other W1 _ k _ hkg]; exact hk1 k hk
    · have e0 : ROW.toList.take (i * 2) = fro := by
        rw [hROW, ← hfl]
        simp
      have e1 : row1.toList.take ((i + m) * 2) = fro ++ varr.toList.take (m * 2) := by
        rw [hrow1]
        simp only []
        rw [e0, show (i + m) * 2 = (fro ++ varr.toList.take (m * 2)).length by rw [List.length_append, hfl, hvl]; omega, List.take_left]
      rw [hrow2]
      simp only []
      rw [e1, show (n + m) * 2 = (fro ++ varr.toList.take (m * 2) ++ mid).length by rw [List.length_append, List.length_append, hfl, hvl, hml]; omega, List.take_left]
    · rw [hh, hW2]; simp [hs1]
  rw [← hmid, ← hfro]
  have hb1 : (0 : Int) ≤ (i : Int) + (m : Int) := by omega
  have hw1 : IntKind.i64.wrap ((i : Int) + (m : Int)) = (i : Int) + (m : Int) := by rw [IntKind.wrap_i64]; omega
  have hin : i ≤ n := by omega
  have htn : ((i : Int) + (m : Int)).toNat = i + m := by omega
  have hb3 : (i : Int) ≤ (n : Int) := by omega
  subst hW2
  subst hW1
  have hE : ((w.alloc (.cells ROW 44)).drew).heap = (w.drew.alloc (.cells ROW 44)).heap := rfl
  have hF : ∀ (W : World), W.heap = (w.drew.alloc (.cells ROW 44)).heap → (W.setRow w.heap.size row1).drew.heap = ((w.drew.alloc (.cells ROW 44)).setRow w.heap.size row1).heap := fun W h => by
    show (W.setRow w.heap.size row1).heap = _
    simp only [World.setRow, h]
  clear hkk hik hold hROW hG hRs hrow1 hrow2 hmid hfro hN1 hg1 hv1 hk1 hs1 ho1 hN2 hg2 hrl hml hvl hfl e1 e2 e3 e4 e5 hg hv h1 h1v hcs hvs
  go_enter Try.func26, Try.ntmps26
  go_wp2_with (first
    | (at_builtin; refine Lib.wpList_append_run _ rfl _ _ _ _ rfl _ _ rfl rfl _ _ (hrz _) ?_)
    | (at_builtin; refine wpList_copy_runI _ rfl _ _ 24 24 rfl _ _ rfl rfl (hcpA _ hE _ _) ?_))
  go_region_law_o (refine step_copy_runI rfl _ _ 24 24 rfl (.slice (some ⟨w.heap.size, (i + m) * 2, none⟩) (n + m - (i + m)) (G - (i + m))) (.slice (some ⟨g, i * 2, none⟩) (n - i) (c - i)) (by simp [Act.eval, Act.put]) (by simp [Act.eval, Act.put]) (hcpB _ (hF _ hE) 3 (G - (i + m)) (c - i)) ?_)
  go_wp2
  go_ret
  exact hfin _ rfl rfl rfl rfl

theorem m_slices_Insert_Bind_mem (s : Value) (i n vb m vc : Nat) (olds : List Value) (varr : Array Value) (w : World) (hm : 0 < m) (hi : i ≤ n) (hs : OwnAt 44 2 w s n olds) (h1 : ∀ v, v ∈ olds → v.oneCell' = true)
    (hv : w.heap[vb]? = some (.cells varr 44 (0, 0))) (hvs : varr.size = vc * 2) (hmv : m ≤ vc) (h1v : ∀ v, v ∈ varr.toList.take (m * 2) → v.oneCell' = true) (hne : s.ownBlock ≠ some vb) (hb : (n + m) * 24 ≤ 140737488355328) :
    Calls Try.prog 26 #[s, .int .i64 i, .slice (some ⟨vb, 0, none⟩) m vc] w (Ins 44 2 w s.ownBlock n m (olds.take (i * 2) ++ varr.toList.take (m * 2) ++ olds.drop (i * 2))) := by
  by_cases hin : i = n
  · subst hin
    have ho : olds.length = i * 2 := by
      rcases hs with ⟨_, rfl, rfl⟩ | ⟨g, c, cur, _, _, hnc, _, hsz, rfl⟩
      · simp
      · rw [List.length_take, Array.length_toList, hsz]; omega
    rw [List.take_of_length_le (by omega), List.drop_eq_nil_of_le (by omega), List.append_nil]
    exact m_slices_Insert_Bind_ins_end s i vb m vc olds varr w hm hs hv hvs hmv h1v hb
  · rcases hs with ⟨_, rfl, _⟩ | ⟨g, c, cur, rfl, hg, hnc, hcm, hsz, rfl⟩
    · omega
    · have hvb : vb ≠ g := fun e => hne (by rw [e]; rfl)
      by_cases hroom : n + m ≤ c
      · exact m_slices_Insert_Bind_ins_shift g n c i vb m vc cur varr w (by omega) hm hroom hcm hvb hg hsz h1 hv hvs hmv h1v
      · exact m_slices_Insert_Bind_ins_grow g n c i vb m vc cur varr w (by omega) hm hnc (by omega) hcm hb hg hsz h1 hv hvs hmv h1v

theorem m_slices_Insert_Bind_ok (a1 : Int) (p0 : List SBind) (p1 : List SBind) {r : (List SBind)} (h : m_slices_Insert_Bind a1 p0 p1 = some r) :
    AC Try.prog GG 26 [.own 0, V.int a1, .own 1] [(0, .vec false 44 2 (p0.map encSBind)), (1, .vec false 44 2 (p1.map encSBind))] (.own 100) [(100, .vec false 44 2 (r.map encSBind))] :=
  AC.insO (bytes := 24) encSBind h (fun i nn nn1 rows rows1 => AC.insert m_slices_Insert_Bind_mem i nn nn1 rows rows1)


theorem m_impl_SetVar_ok (N : Nat) (a0 : List SBind) (a1 : List UInt8) (a2 : Int) {r : (List SBind)} (h : m_impl_SetVar N a0 a1 a2 = some r) :
    AC Try.prog GG 7 [.sl false false (a0.map encSBind), V.str a1, V.int a2] [] (.own 100) [(100, .vec false 44 2 (r.map encSBind))] := by
 rw [m_impl_SetVar] at h
 refine AC.enter Try.func7 rfl ?_
 refine cu D_ok mix 2 100 (tl 27 [(0, .sl false false (a0.map encSBind)), (2, V.int a2), (4, .loc 100 0)]) [(100, .cells 9 [V.str a1])] (by kernel_rfl) ?_
 (revert h; refine bind_rev fun r3 hx3 h => ?_)
 (revert h; refine bind_rev fun r4 hx4 h => ?_)
 refine CodeOk.cutR (tl 27 [(2, V.int a2), (4, .loc 100 0), (7, .own 102)]) [(102, .vec false 44 2 (r4.map encSBind)), (100, .cells 9 [V.str a1])] mix (by
  refine W.run D_ok 1 101 (by kernel_rfl) ?_
  refine W.call (m_slices_Clone_Bind_ok a0 hx3) cok22 [] [(100, 101)] [101] (show LayOk _ [] from trivial) (by kernel_rfl) (by kernel_rfl) ?_
  refine W.run D_ok 1 102 (by kernel_rfl) ?_
  refine W.call (m_slices_DeleteFunc_Bind_ok N r3 a1 hx4) cok21 [(101, 0), (100, 1)] [(1, 100), (100, 102)] [102] (show LayOk _ [] from trivial) (by kernel_rfl) (by kernel_rfl) ?_
  refine W.run D_ok 1 103 (by kernel_rfl) ?_
  exact W.fi (by kernel_rfl)
  ) ?_
 (revert h; refine bind_rev fun r6 hx6 h => ?_)
 refine CodeOk.cutR (tl 27 [(2, V.int a2), (4, .loc 100 0), (7, .own 102), (8, V.int r6)]) [(102, .vec false 44 2 (r4.map encSBind)), (100, .cells 9 [V.str a1])] mix (by
  refine W.run D_ok 2 103 (by kernel_rfl) ?_
  refine W.call (m_slices_IndexFunc_Bind_v2_ok N r4 a1 hx6) cok24 [(102, 0), (100, 1)] [(0, 102), (1, 100)] [] (show LayOk _ [] from trivial) (by kernel_rfl) (by kernel_rfl) ?_
  refine W.run D_ok 1 103 (by kernel_rfl) ?_
  exact W.fi (by kernel_rfl)
  ) ?_
 refine CodeOk.join (fun (⟨a2, a1, r4, y7⟩ : (Int × (List UInt8) × (List SBind) × Int)) => ⟨tl 27 [(2, V.int a2), (4, .loc 100 0), (7, .own 101), (8, V.int y7)], [(100, .cells 9 [V.str a1]), (101, .vec false 44 2 (r4.map encSBind))]⟩) (fun i => m_impl_SetVar_k1 N i = some r) ?_ ?_
 · rintro ⟨a2, a1, r4, y7⟩ h8
   rw [m_impl_SetVar_k1] at h8
   (revert h8; refine bind_rev fun r9 hx10 h8 => ?_)
   refine CodeOk.cutR (tl 27 [(6, .own 104)]) [(104, .vec false 44 2 (r9.map encSBind))] mix (by
    refine W.run D_ok 6 103 (by kernel_rfl) ?_
    refine W.call (m_slices_Insert_Bind_ok y7 r4 [(⟨a1, a2⟩ : SBind)] hx10) cok26 [(101, 0), (103, 1)] [(100, 104)] [104] (show LayOk _ [] from trivial) (by kernel_rfl) (by kernel_rfl) ?_
    refine W.run D_ok 1 105 (by kernel_rfl) ?_
    exact W.fi (by kernel_rfl)
    ) ?_
   refine CodeOk.ret ?_
   have h8 := Option.some.inj h8
   subst h8
   exact Ends.gen [(104, 100)] (.inr rfl) (RetV.one rfl (OneR.tmp (t := 6) (r := .own 104) (by kernel_rfl))) (by kernel_rfl) (by kernel_rfl) (by kernel_rfl)
 intro hk11
 refine cu D_ok mix 2 103 (tl 27 [(2, V.int a2), (4, .loc 100 0), (7, .own 102), (8, V.int r6), (17, V.bool (decide (r6 < 0)))]) [(102, .vec false 44 2 (r4.map encSBind)), (100, .cells 9 [V.str a1])] (by kernel_rfl) ?_
 (revert h; refine cond_rev (fun hc12 h => ?_) (fun hc12 h => ?_))
 ·refine CodeOk.ifT hc12 (by kernel_rfl) ?_
  refine CodeOk.endR (tl 27 [(2, V.int a2), (4, .loc 100 0), (7, .own 102), (8, V.int (r4.length : Int))]) [(102, .vec false 44 2 (r4.map encSBind)), (100, .cells 9 [V.str a1])] mix (by
   refine W.run D_ok 1 103 (by kernel_rfl) ?_
   refine W.len D_ok encSBind r4 [102] (by kernel_rfl) (by kernel_rfl) ?_
   refine W.run D_ok 1 103 (by kernel_rfl) ?_
   exact W.fi (by kernel_rfl)
   ) (fun st hw => ?_)
  exact hk11 (a2, a1, r4, (r4.length : Int)) h _ (hw.trans (Weak.sel [(100, 100), (102, 101)] [2, 4, 7, 8] (by kernel_rfl) (by kernel_rfl) (by kernel_rfl)))
 refine CodeOk.ifF hc12 (by kernel_rfl) ?_
 refine CodeOk.skip ?_
 exact hk11 (a2, a1, r4, r6) h _ (Weak.sel [(100, 100), (102, 101)] [2, 4, 7, 8] (by kernel_rfl) (by kernel_rfl) (by kernel_rfl))

theorem m_impl_VarOf_ok (N : Nat) (a0 : List SBind) (a1 : List UInt8) {r : Int} (h : m_impl_VarOf N a0 a1 = some r) :
    AC Try.prog GG 8 [.sl false false (a0.map encSBind), V.str a1] [] (V.int r) [] := by
 rw [m_impl_VarOf] at h
 refine AC.enter Try.func8 rfl ?_
 refine cu D_ok mix 1 100 (tl 20 [(0, .sl false false (a0.map encSBind)), (1, V.str a1)]) [] (by kernel_rfl) ?_
 refine CodeOk.seq' ?_
 refine CodeOk.cutR (tl 20 [(1, V.str a1), (7, .sl false false (a0.map encSBind)), (8, V.int (a0.length : Int)), (9, V.int 0)]) [] mix (by
  refine W.run D_ok 1 100 (by kernel_rfl) ?_
  refine W.len D_ok encSBind a0 [] (by kernel_rfl) (by kernel_rfl) ?_
  refine W.run D_ok 1 100 (by kernel_rfl) ?_
  exact W.fi (by kernel_rfl)
  ) ?_
 refine CodeOk.block' ?_
 refine CodeOk.loopJ (fun (⟨a1, a0, y19⟩ : ((List UInt8) × (List SBind) × Int)) => ⟨tl 20 [(1, V.str a1), (7, .sl false false (a0.map encSBind)), (8, V.int (a0.length : Int)), (9, V.int y19)], []⟩) (fun n i => m_impl_VarOf_l1 N n i = some r) (n0 := N) (i0 := (a1, a0, 0)) (Weak.sel [] [1, 7, 8, 9] (by kernel_rfl) (by kernel_rfl) (by kernel_rfl)) h (fun i h => by simp [m_impl_VarOf_l1] at h) ?_
 rintro n1 ⟨a1, a0, y19⟩ h43 ih44
 rw [m_impl_VarOf_l1] at h43
 refine cu D_ok mix 1 162 (tl 20 [(1, V.str a1), (7, .sl false false (a0.map encSBind)), (8, V.int (a0.length : Int)), (9, V.int y19), (10, V.bool (decide (y19 < (a0.length : Int))))]) [] (by kernel_rfl) ?_
 refine CodeOk.seq' ?_
 (revert h43; refine cond_rev (fun hc46 h43 => ?_) (fun hc46 h43 => ?_))
 ·refine CodeOk.ifT hc46 (by kernel_rfl) ?_
  refine CodeOk.skip ?_
  refine CodeOk.seq' ?_
  refine CodeOk.block' ?_
  (revert h43; refine bind_rev fun e28 hx51 h43 => ?_)
  refine CodeOk.cutR (tl 20 [(1, V.str a1), (6, .loc 162 0), (7, .sl false false (a0.map encSBind)), (8, V.int (a0.length : Int)), (9, V.int y19)]) [(162, .cells 44 [V.str e28.Name, V.int e28.Val])] mix (by
   refine W.ixD D_ok encSBind hx51 2 (by kernel_rfl) (by kernel_rfl) ?_
   refine W.run D_ok 3 162 (by kernel_rfl) ?_
   exact W.fi (by kernel_rfl)
   ) ?_
  refine cu D_ok mix 4 163 (tl 20 [(1, V.str a1), (6, .loc 162 0), (7, .sl false false (a0.map encSBind)), (8, V.int (a0.length : Int)), (9, V.int y19), (16, V.bool (e28.Name == a1))]) [(162, .cells 44 [V.str e28.Name, V.int e28.Val])] (by kernel_rfl) ?_
  (revert h43; refine cond_rev (fun hc52 h43 => ?_) (fun hc52 h43 => ?_))
  ·refine CodeOk.ifT hc52 (by kernel_rfl) ?_
   refine cu D_ok mix 3 163 (tl 20 [(4, V.int e28.Val)]) [] (by kernel_rfl) ?_
   refine CodeOk.ret ?_
   have h43 := Option.some.inj h43
   subst h43
   exact Ends.gen [] (.inr rfl) (RetV.one rfl (OneR.tmp (t := 4) (r := V.int e28.Val) (by kernel_rfl))) (by kernel_rfl) (by kernel_rfl) (by kernel_rfl)
  refine CodeOk.ifF hc52 (by kernel_rfl) ?_
  refine CodeOk.skip ?_
  refine ce D_ok mix 2 163 (tl 20 [(1, V.str a1), (7, .sl false false (a0.map encSBind)), (8, V.int (a0.length : Int)), (9, V.int (IntKind.wrap .i64 (y19 + 1)))]) [] (by kernel_rfl) (fun st hw => ?_)
  exact ih44 (a1, a0, (IntKind.wrap .i64 (y19 + 1))) h43 _ (hw.trans (Weak.sel [] [1, 7, 8, 9] (by kernel_rfl) (by kernel_rfl) (by kernel_rfl)))
 refine CodeOk.ifF hc46 (by kernel_rfl) ?_
 refine CodeOk.exit ?_
 refine cu D_ok mix 1 162 (tl 20 [(4, V.int 0)]) [] (by kernel_rfl) ?_
 refine CodeOk.ret ?_
 have h43 := Option.some.inj h43
 subst h43
 exact Ends.gen [] (.inr rfl) (RetV.one rfl (OneR.tmp (t := 4) (r := V.int 0) (by kernel_rfl))) (by kernel_rfl) (by kernel_rfl) (by kernel_rfl)

theorem m_spec_VarOf_ok (N : Nat) (a0 : List SBind) (a1 : List UInt8) {r : Int} (h : m_spec_VarOf N a0 a1 = some r) :
    AC Try.prog GG 9 [.sl false false (a0.map encSBind), V.str a1] [] (V.int r) [] := by
 rw [m_spec_VarOf] at h
 refine AC.enter Try.func9 rfl ?_
 refine cu D_ok mix 1 100 (tl 24 [(0, .sl false false (a0.map encSBind)), (1, V.str a1)]) [] (by kernel_rfl) ?_
 refine CodeOk.seq' ?_
 refine cu D_ok mix 1 100 (tl 24 [(0, .sl false false (a0.map encSBind)), (1, V.str a1), (5, V.int 0)]) [] (by kernel_rfl) ?_
 refine CodeOk.block' ?_
 refine CodeOk.loopJ (fun (⟨a0, a1, y35⟩ : ((List SBind) × (List UInt8) × Int)) => ⟨tl 24 [(0, .sl false false (a0.map encSBind)), (1, V.str a1), (5, V.int y35)], []⟩) (fun n i => m_spec_VarOf_l1 N n i = some r) (n0 := N) (i0 := (a0, a1, 0)) (Weak.sel [] [0, 1, 5] (by kernel_rfl) (by kernel_rfl) (by kernel_rfl)) h (fun i h => by simp [m_spec_VarOf_l1] at h) ?_
 rintro n1 ⟨a0, a1, y35⟩ h63 ih64
 rw [m_spec_VarOf_l1] at h63
 refine CodeOk.seq' ?_
 refine CodeOk.cutR (tl 24 [(0, .sl false false (a0.map encSBind)), (1, V.str a1), (5, V.int y35), (9, V.bool (decide (y35 < (a0.length : Int))))]) [] mix (by
  refine W.run D_ok 2 160 (by kernel_rfl) ?_
  refine W.len D_ok encSBind a0 [] (by kernel_rfl) (by kernel_rfl) ?_
  refine W.run D_ok 1 160 (by kernel_rfl) ?_
  exact W.fi (by kernel_rfl)
  ) ?_
 (revert h63; refine cond_rev (fun hc66 h63 => ?_) (fun hc66 h63 => ?_))
 ·refine CodeOk.ifT hc66 (by kernel_rfl) ?_
  refine CodeOk.skip ?_
  refine CodeOk.seq' ?_
  refine CodeOk.block' ?_
  (revert h63; refine bind_rev fun e50 hx73 h63 => ?_)
  refine CodeOk.cutR (tl 24 [(0, .sl false false (a0.map encSBind)), (1, V.str a1), (5, V.int y35), (18, V.bool (e50.Name == a1))]) [] mix (by
   refine W.run D_ok 2 160 (by kernel_rfl) ?_
   refine W.ixD D_ok encSBind hx73 2 (by kernel_rfl) (by kernel_rfl) ?_
   refine W.run D_ok 4 160 (by kernel_rfl) ?_
   exact W.fi (by kernel_rfl)
   ) ?_
  (revert h63; refine cond_rev (fun hc74 h63 => ?_) (fun hc74 h63 => ?_))
  ·refine CodeOk.ifT hc74 (by kernel_rfl) ?_
   (revert h63; refine bind_rev fun e52 hx76 h63 => ?_)
   refine CodeOk.cutR (tl 24 [(4, V.int e52.Val)]) [] mix (by
    refine W.run D_ok 2 160 (by kernel_rfl) ?_
    refine W.ixD D_ok encSBind hx76 2 (by kernel_rfl) (by kernel_rfl) ?_
    refine W.run D_ok 3 160 (by kernel_rfl) ?_
    exact W.fi (by kernel_rfl)
    ) ?_
   refine CodeOk.ret ?_
   have h63 := Option.some.inj h63
   subst h63
   exact Ends.gen [] (.inr rfl) (RetV.one rfl (OneR.tmp (t := 4) (r := V.int e52.Val) (by kernel_rfl))) (by kernel_rfl) (by kernel_rfl) (by kernel_rfl)
  refine CodeOk.ifF hc74 (by kernel_rfl) ?_
  refine CodeOk.skip ?_
  refine ce D_ok mix 3 160 (tl 24 [(0, .sl false false (a0.map encSBind)), (1, V.str a1), (5, V.int (IntKind.wrap .i64 (y35 + 1)))]) [] (by kernel_rfl) (fun st hw => ?_)
  exact ih64 (a0, a1, (IntKind.wrap .i64 (y35 + 1))) h63 _ (hw.trans (Weak.sel [] [0, 1, 5] (by kernel_rfl) (by kernel_rfl) (by kernel_rfl)))
 refine CodeOk.ifF hc66 (by kernel_rfl) ?_
 refine CodeOk.exit ?_
 refine cu D_ok mix 1 160 (tl 24 [(4, V.int 0)]) [] (by kernel_rfl) ?_
 refine CodeOk.ret ?_
 have h63 := Option.some.inj h63
 subst h63
 exact Ends.gen [] (.inr rfl) (RetV.one rfl (OneR.tmp (t := 4) (r := V.int 0) (by kernel_rfl))) (by kernel_rfl) (by kernel_rfl) (by kernel_rfl)

theorem m_laws_FnVars_ok (N : Nat) (a0 : List UInt8) {r : Bool} (h : m_laws_FnVars N a0 = some r) :
    AC Try.prog GG 3 [.sl false false (a0.map byteRow)] [] (V.bool r) [] := by
 rw [m_laws_FnVars] at h
 refine AC.enter Try.func3 rfl ?_
 refine cu D_ok mix 1 100 (tl 74 [(0, .sl false false (a0.map byteRow))]) [] (by kernel_rfl) ?_
 refine CodeOk.seq' ?_
 (revert h; refine bind_rev fun r4 hx5 h => ?_)
 refine CodeOk.cutR (tl 74 [(0, .sl false false (a0.map byteRow)), (11, V.bool r4)]) [] mix (by
  refine W.run D_ok 1 100 (by kernel_rfl) ?_
  refine W.call0 (m_laws_big_ok a0 hx5) cok5 rfl (by kernel_rfl) ?_
  exact W.fi (by kernel_rfl)
  ) ?_
 (revert h; refine cond_rev (fun hc6 h => ?_) (fun hc6 h => ?_))
 ·refine CodeOk.ifT hc6 (by kernel_rfl) ?_
  refine cu D_ok mix 1 100 (tl 74 [(2, V.bool true)]) [] (by kernel_rfl) ?_
  refine CodeOk.ret ?_
  have h := Option.some.inj h
  subst h
  exact Ends.gen [] (.inr rfl) (RetV.one rfl (OneR.tmp (t := 2) (r := V.bool true) (by kernel_rfl))) (by kernel_rfl) (by kernel_rfl) (by kernel_rfl)
 refine CodeOk.ifF hc6 (by kernel_rfl) ?_
 refine CodeOk.skip ?_
 (revert h; refine bind_rev fun r6 hx8 h => ?_)
 refine CodeOk.cutR (tl 74 [(3, .own 100), (4, V.str r6.2.1), (5, V.int r6.2.2)]) [(100, .vec false 44 2 (r6.1.map encSBind))] mix (by
  refine W.run D_ok 1 100 (by kernel_rfl) ?_
  refine W.call (m_spec_DrawSetVar_ok N a0 hx8) cok6 [] [(100, 100)] [100] (show LayOk _ [] from trivial) (by kernel_rfl) (by kernel_rfl) ?_
  refine W.run D_ok 7 101 (by kernel_rfl) ?_
  exact W.fi (by kernel_rfl)
  ) ?_
 (revert h; refine bind_rev fun r8 hx10 h => ?_)
 refine CodeOk.cutR (tl 74 [(3, .own 100), (4, V.str r6.2.1), (5, V.int r6.2.2), (6, .own 101)]) [(101, .vec false 44 2 (r8.map encSBind)), (100, .vec false 44 2 (r6.1.map encSBind))] mix (by
  refine W.run D_ok 3 101 (by kernel_rfl) ?_
  refine W.lend (m_impl_SetVar_ok N r6.1 r6.2.1 r6.2.2 hx10) cok7 [(100, 101)] [101] (LayOk.cons (j := 100) encSBind encSBind r6.1 (by kernel_rfl) (fun _ => rfl) (show LayOk _ [] from trivial)) (.own _) (.cons (DeepR.map (fun _ => (.cons (.c _) (.cons (.c _) .nil))) _) .nil) (by kernel_rfl) (by kernel_rfl) ?_
  refine W.run D_ok 1 102 (by kernel_rfl) ?_
  exact W.fi (by kernel_rfl)
  ) ?_
 refine cu D_ok mix 2 102 (tl 74 [(3, .own 100), (4, V.str r6.2.1), (5, V.int r6.2.2), (6, .own 101), (7, .own 102)]) [(102, .vec false 9 1 ([[97], [107], [109], [110], [120], [121], [122]].map encS)), (101, .vec false 44 2 (r8.map encSBind)), (100, .vec false 44 2 (r6.1.map encSBind))] (by kernel_rfl) ?_
 refine CodeOk.seq' ?_
 refine cu D_ok mix 1 103 (tl 74 [(3, .own 100), (4, V.str r6.2.1), (5, V.int r6.2.2), (6, .own 101), (7, .own 102), (8, V.int 0)]) [(102, .vec false 9 1 ([[97], [107], [109], [110], [120], [121], [122]].map encS)), (101, .vec false 44 2 (r8.map encSBind)), (100, .vec false 44 2 (r6.1.map encSBind))] (by kernel_rfl) ?_
 refine CodeOk.block' ?_
 refine CodeOk.loopJ (fun (⟨r6, r8, y99⟩ : (((List SBind) × (List UInt8) × Int) × (List SBind) × Int)) => ⟨tl 74 [(3, .own 100), (4, V.str r6.2.1), (5, V.int r6.2.2), (6, .own 101), (7, .own 102), (8, V.int y99)], [(100, .vec false 44 2 (r6.1.map encSBind)), (101, .vec false 44 2 (r8.map encSBind)), (102, .vec false 9 1 ([[97], [107], [109], [110], [120], [121], [122]].map encS))]⟩) (fun n i => m_laws_FnVars_l1 N n i = some r) (n0 := N) (i0 := (r6, r8, 0)) (Weak.sel [(100, 100), (101, 101), (102, 102)] [3, 4, 5, 6, 7, 8] (by kernel_rfl) (by kernel_rfl) (by kernel_rfl)) h (fun i h => by simp [m_laws_FnVars_l1] at h) ?_
 rintro n1 ⟨r6, r8, y99⟩ h159 ih160
 rw [m_laws_FnVars_l1] at h159
 refine CodeOk.seq' ?_
 refine CodeOk.cutR (tl 74 [(3, .own 100), (4, V.str r6.2.1), (5, V.int r6.2.2), (6, .own 101), (7, .own 102), (8, V.int y99), (26, V.bool (decide (y99 < 7)))]) [(100, .vec false 44 2 (r6.1.map encSBind)), (101, .vec false 44 2 (r8.map encSBind)), (102, .vec false 9 1 ([[97], [107], [109], [110], [120], [121], [122]].map encS))] mix (by
  refine W.run D_ok 2 163 (by kernel_rfl) ?_
  refine W.len D_ok encS [[97], [107], [109], [110], [120], [121], [122]] [102] (by kernel_rfl) (by kernel_rfl) ?_
  refine W.run D_ok 1 163 (by kernel_rfl) ?_
  exact W.fi (by kernel_rfl)
  ) ?_
 (revert h159; refine cond_rev (fun hc162 h159 => ?_) (fun hc162 h159 => ?_))
 ·refine CodeOk.ifT hc162 (by kernel_rfl) ?_
  refine CodeOk.skip ?_
  refine CodeOk.seq' ?_
  refine CodeOk.block' ?_
  (revert h159; refine bind_rev fun y139 hv183 h159 => ?_)
  refine CodeOk.cutR (tl 74 [(3, .own 100), (4, V.str r6.2.1), (5, V.int r6.2.2), (6, .own 101), (7, .own 102), (8, V.int y99), (49, V.bool y139)]) [(100, .vec false 44 2 (r6.1.map encSBind)), (101, .vec false 44 2 (r8.map encSBind)), (102, .vec false 9 1 ([[97], [107], [109], [110], [120], [121], [122]].map encS))] mix (by
   refine W.run D_ok 2 163 (by kernel_rfl) ?_
   (revert hv183; refine bind_rev fun e140 hx184 hv183 => ?_)
   refine W.ixO D_ok encS hx184 102 1 (by kernel_rfl) ?_
   refine W.ldO D_ok encS hx184 9 102 0 (V.str e140) (by kernel_rfl) (by kernel_rfl) ?_
   refine W.run D_ok 3 163 (by kernel_rfl) ?_
   (revert hv183; refine cond_rev (fun hc185 hv183 => ?_) (fun hc185 hv183 => ?_))
   ·refine W.is 35 hc185 (by kernel_rfl) ?_
    refine W.run D_ok 3 163 (by kernel_rfl) ?_
    (revert hv183; refine bind_rev fun e141 hx186 hv183 => ?_)
    refine W.ixO D_ok encS hx186 102 1 (by kernel_rfl) ?_
    refine W.ldO D_ok encS hx186 9 102 0 (V.str e141) (by kernel_rfl) (by kernel_rfl) ?_
    (revert hv183; refine bind_rev fun r142 hx187 hv183 => ?_)
    refine W.lend (m_impl_VarOf_ok N r8 e141 hx187) cok8 [] [] (LayOk.cons (j := 101) encSBind encSBind r8 (by kernel_rfl) (fun _ => rfl) (show LayOk _ [] from trivial)) (.c _) .nil (by kernel_rfl) (by kernel_rfl) ?_
    refine W.run D_ok 3 163 (by kernel_rfl) ?_
    (revert hv183; refine bind_rev fun e143 hx188 hv183 => ?_)
    refine W.ixO D_ok encS hx188 102 1 (by kernel_rfl) ?_
    refine W.ldO D_ok encS hx188 9 102 0 (V.str e143) (by kernel_rfl) (by kernel_rfl) ?_
    (revert hv183; refine bind_rev fun r144 hx189 hv183 => ?_)
    refine W.lend (m_spec_VarOf_ok N r6.1 e143 hx189) cok9 [] [] (LayOk.cons (j := 100) encSBind encSBind r6.1 (by kernel_rfl) (fun _ => rfl) (show LayOk _ [] from trivial)) (.c _) .nil (by kernel_rfl) (by kernel_rfl) ?_
    refine W.run D_ok 2 163 (by kernel_rfl) ?_
    have hv183 := Option.some.inj hv183
    subst hv183
    exact W.fs [(100, 100), (101, 101), (102, 102)] [3, 4, 5, 6, 7, 8, 49] (by kernel_rfl)
   refine W.is 35 hc185 (by kernel_rfl) ?_
   refine W.run D_ok 14 163 (by kernel_rfl) ?_
   have hv183 := Option.some.inj hv183
   subst hv183
   exact W.fs [(100, 100), (101, 101), (102, 102)] [3, 4, 5, 6, 7, 8, 49] (by kernel_rfl)
   ) ?_
  (revert h159; refine cond_rev (fun hc190 h159 => ?_) (fun hc190 h159 => ?_))
  ·refine CodeOk.ifT hc190 (by kernel_rfl) ?_
   refine cu D_ok mix 1 163 (tl 74 [(2, V.bool false)]) [] (by kernel_rfl) ?_
   refine CodeOk.ret ?_
   have h159 := Option.some.inj h159
   subst h159
   exact Ends.gen [] (.inr rfl) (RetV.one rfl (OneR.tmp (t := 2) (r := V.bool false) (by kernel_rfl))) (by kernel_rfl) (by kernel_rfl) (by kernel_rfl)
  refine CodeOk.ifF hc190 (by kernel_rfl) ?_
  refine CodeOk.skip ?_
  refine ce D_ok mix 3 163 (tl 74 [(3, .own 100), (4, V.str r6.2.1), (5, V.int r6.2.2), (6, .own 101), (7, .own 102), (8, V.int (IntKind.wrap .i64 (y99 + 1)))]) [(100, .vec false 44 2 (r6.1.map encSBind)), (101, .vec false 44 2 (r8.map encSBind)), (102, .vec false 9 1 ([[97], [107], [109], [110], [120], [121], [122]].map encS))] (by kernel_rfl) (fun st hw => ?_)
  exact ih160 (r6, r8, (IntKind.wrap .i64 (y99 + 1))) h159 _ (hw.trans (Weak.sel [(100, 100), (101, 101), (102, 102)] [3, 4, 5, 6, 7, 8] (by kernel_rfl) (by kernel_rfl) (by kernel_rfl)))
 refine CodeOk.ifF hc162 (by kernel_rfl) ?_
 refine CodeOk.exit ?_
 (revert h159; refine bind_rev fun r146 hx192 h159 => ?_)
 refine CodeOk.cutR (tl 74 [(3, .own 100), (4, V.str r6.2.1), (5, V.int r6.2.2), (6, .own 101), (9, .own 163)]) [(163, .vec false 44 2 (r146.map encSBind)), (100, .vec false 44 2 (r6.1.map encSBind)), (101, .vec false 44 2 (r8.map encSBind))] mix (by
  refine W.run D_ok 3 163 (by kernel_rfl) ?_
  refine W.lend (m_impl_SetVar_ok N r8 r6.2.1 r6.2.2 hx192) cok7 [(100, 163)] [163] (LayOk.cons (j := 101) encSBind encSBind r8 (by kernel_rfl) (fun _ => rfl) (show LayOk _ [] from trivial)) (.own _) (.cons (DeepR.map (fun _ => (.cons (.c _) (.cons (.c _) .nil))) _) .nil) (by kernel_rfl) (by kernel_rfl) ?_
  refine W.run D_ok 1 164 (by kernel_rfl) ?_
  exact W.fi (by kernel_rfl)
  ) ?_
 (revert h159; refine bind_rev fun y148 hv196 h159 => ?_)
 refine CodeOk.cutR (tl 74 [(2, V.bool y148)]) [] mix (by
  refine W.run D_ok 2 164 (by kernel_rfl) ?_
  (revert hv196; refine bind_rev fun r149 hx197 hv196 => ?_)
  refine W.lend (m_impl_VarOf_ok N r8 r6.2.1 hx197) cok8 [] [] (LayOk.cons (j := 101) encSBind encSBind r8 (by kernel_rfl) (fun _ => rfl) (show LayOk _ [] from trivial)) (.c _) .nil (by kernel_rfl) (by kernel_rfl) ?_
  refine W.run D_ok 3 164 (by kernel_rfl) ?_
  (revert hv196; refine cond_rev (fun hc198 hv196 => ?_) (fun hc198 hv196 => ?_))
  ·refine W.is 59 hc198 (by kernel_rfl) ?_
   refine W.run D_ok 1 164 (by kernel_rfl) ?_
   refine W.len D_ok encSBind r8 [101] (by kernel_rfl) (by kernel_rfl) ?_
   refine W.run D_ok 1 164 (by kernel_rfl) ?_
   refine W.len D_ok encSBind r6.1 [100] (by kernel_rfl) (by kernel_rfl) ?_
   refine W.run D_ok 4 164 (by kernel_rfl) ?_
   (revert hv196; refine cond_rev (fun hc199 hv196 => ?_) (fun hc199 hv196 => ?_))
   ·refine W.is 67 hc199 (by kernel_rfl) ?_
    refine W.run D_ok 1 164 (by kernel_rfl) ?_
    refine W.len D_ok encSBind r146 [163] (by kernel_rfl) (by kernel_rfl) ?_
    refine W.run D_ok 1 164 (by kernel_rfl) ?_
    refine W.len D_ok encSBind r8 [101] (by kernel_rfl) (by kernel_rfl) ?_
    refine W.run D_ok 3 164 (by kernel_rfl) ?_
    have hv196 := Option.some.inj hv196
    subst hv196
    exact W.fs [] [2] (by kernel_rfl)
   refine W.is 67 hc199 (by kernel_rfl) ?_
   refine W.run D_ok 7 164 (by kernel_rfl) ?_
   have hv196 := Option.some.inj hv196
   subst hv196
   exact W.fs [] [2] (by kernel_rfl)
  refine W.is 59 hc198 (by kernel_rfl) ?_
  refine W.run D_ok 15 164 (by kernel_rfl) ?_
  have hv196 := Option.some.inj hv196
  subst hv196
  exact W.fs [] [2] (by kernel_rfl)
  ) ?_
 refine CodeOk.ret ?_
 have h159 := Option.some.inj h159
 subst h159
 exact Ends.gen [] (.inr rfl) (RetV.one rfl (OneR.tmp (t := 2) (r := V.bool y148) (by kernel_rfl))) (by kernel_rfl) (by kernel_rfl) (by kernel_rfl)

end Go.Proofs.Try
