/-
  The walks that show that the code computes the models, part 2.
-/
import Derived.Test.YtllanibkffnogaaDoorLeW1
namespace Go.Proofs.Tryd
open Go.Av
set_option maxRecDepth 100000
set_option maxHeartbeats 8000000
set_option linter.unusedSimpArgs false
set_option linter.unusedVariables false

theorem m_impl_parser__name_ok (p0_0 : List SToken) (p0_1 : Int) (p0_2 : Bool) (p1 : List (List UInt8)) {r : ((List UInt8) × Int × Bool)} (h : m_impl_parser__name p0_0 p0_1 p0_2 p1 = some r) :
    AC Tryd.prog (GS []) 150 [.loc 0 0] [(0, .cells 108 [.sl false false (p0_0.map encSToken), V.int p0_1, V.bool p0_2, .own 1]), (1, .vec false 9 1 (p1.map encS))] (V.str r.1) [(0, .cells 108 [.sl false false (p0_0.map encSToken), V.int r.2.1, V.bool r.2.2, .own 1]), (1, .vec false 9 1 (p1.map encS))] := by
 rw [m_impl_parser__name] at h
 refine AC.enter Tryd.func150 rfl ?_
 refine cu D_ok mix 1 100 (tl 17 [(0, .loc 0 0)]) [(0, .cells 108 [.sl false false (p0_0.map encSToken), V.int p0_1, V.bool p0_2, .own 1]), (1, .vec false 9 1 (p1.map encS))] (by kernel_rfl) ?_
 refine CodeOk.seq' ?_
 (revert h; refine bind_rev fun y5 hv9 h => ?_)
 refine CodeOk.cutR (tl 17 [(0, .loc 0 0), (11, V.bool y5)]) [(0, .cells 108 [.sl false false (p0_0.map encSToken), V.int p0_1, V.bool p0_2, .own 1]), (1, .vec false 9 1 (p1.map encS))] mix (by
  refine W.run D_ok 5 100 (by kernel_rfl) ?_
  (revert hv9; refine cond_rev (fun hc10 hv9 => ?_) (fun hc10 hv9 => ?_))
  ·refine W.is 7 hc10 (by kernel_rfl) ?_
   refine W.run D_ok 4 100 (by kernel_rfl) ?_
   have hv9 := Option.some.inj hv9
   subst hv9
   exact W.fs [(0, 0), (1, 1)] [0, 11] (by kernel_rfl)
  refine W.is 7 hc10 (by kernel_rfl) ?_
  refine W.run D_ok 1 100 (by kernel_rfl) ?_
  (revert hv9; refine bind_rev fun r6 hx11 hv9 => ?_)
  refine W.call (m_impl_parser__kind_ok p0_0 p0_1 p0_2 p1 hx11) cok97 [(0, 0), (1, 1)] [(0, 0), (1, 1)] [] (show LayOk _ [] from trivial) (by kernel_rfl) (by kernel_rfl) ?_
  refine W.run D_ok 2 100 (by kernel_rfl) ?_
  have hv9 := Option.some.inj hv9
  subst hv9
  exact W.fs [(0, 0), (1, 1)] [0, 11] (by kernel_rfl)
  ) ?_
 (revert h; refine cond_rev (fun hc12 h => ?_) (fun hc12 h => ?_))
 ·refine CodeOk.ifT hc12 (by kernel_rfl) ?_
  refine cu D_ok mix 4 100 (tl 17 []) [(0, .cells 108 [.sl false false (p0_0.map encSToken), V.int p0_1, V.bool true, .own 1]), (1, .vec false 9 1 (p1.map encS))] (by kernel_rfl) ?_
  refine cu D_ok mix 1 100 (tl 17 [(2, V.str [])]) [(0, .cells 108 [.sl false false (p0_0.map encSToken), V.int p0_1, V.bool true, .own 1]), (1, .vec false 9 1 (p1.map encS))] (by kernel_rfl) ?_
  refine CodeOk.ret ?_
  have h := Option.some.inj h
  subst h
  exact Ends.gen [(0, 0), (1, 1)] (.inr rfl) (RetV.one rfl (OneR.tmp (t := 2) (r := V.str []) (by kernel_rfl))) (by kernel_rfl) (by kernel_rfl) (by kernel_rfl)
 refine CodeOk.ifF hc12 (by kernel_rfl) ?_
 refine CodeOk.skip ?_
 (revert h; refine bind_rev fun r8 hx14 h => ?_)
 refine CodeOk.cutR (tl 17 [(2, V.str r8.1)]) [(0, .cells 108 [.sl false false (p0_0.map encSToken), V.int r8.2, V.bool p0_2, .own 1]), (1, .vec false 9 1 (p1.map encS))] mix (by
  refine W.run D_ok 1 100 (by kernel_rfl) ?_
  refine W.call (m_impl_parser__text_ok p0_0 p0_1 p0_2 p1 hx14) cok152 [(0, 0), (1, 1)] [(0, 0), (1, 1)] [] (show LayOk _ [] from trivial) (by kernel_rfl) (by kernel_rfl) ?_
  refine W.run D_ok 1 100 (by kernel_rfl) ?_
  exact W.fi (by kernel_rfl)
  ) ?_
 refine CodeOk.ret ?_
 have h := Option.some.inj h
 subst h
 exact Ends.gen [(0, 0), (1, 1)] (.inr rfl) (RetV.one rfl (OneR.tmp (t := 2) (r := V.str r8.1) (by kernel_rfl))) (by kernel_rfl) (by kernel_rfl) (by kernel_rfl)

end Go.Proofs.Tryd
