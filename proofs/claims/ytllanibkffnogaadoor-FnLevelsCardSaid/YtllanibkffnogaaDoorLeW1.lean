/-
  The walks that show that the code computes the models, part 1.
-/
import Derived.Test.YtllanibkffnogaaDoorLeM1
namespace Go.Proofs.Tryd
open Go.Av
set_option maxRecDepth 100000
set_option maxHeartbeats 8000000
set_option linter.unusedSimpArgs false
set_option linter.unusedVariables false

theorem ext178 (s : List UInt8) (c : Int) (w : World) : (callFunc 178 #[.string ⟨⟨s⟩⟩, .int .u8 c]).run Tryd.prog w = .ok (.value (.int .i64 (Go.Lib.indexByte s c.toNat.toUInt8))) w := by
  rw [run_callFunc_extern Tryd.func178 (by kernel_rfl) rfl (by kernel_rfl) (by kernel_rfl)]
  rw [show _ = _ from Go.Lib.run_indexByteString ⟨⟨s⟩⟩ c w]
  rfl

theorem cok6 : callOk Tryd.prog 6 := fun _ _ => Tryd.call6 _ _
theorem cok8 : callOk Tryd.prog 8 := fun _ _ => Tryd.call8 _ _
theorem cok13 : callOk Tryd.prog 13 := fun _ _ => Tryd.call13 _ _
theorem cok21 : callOk Tryd.prog 21 := fun _ _ => Tryd.call21 _ _
theorem cok22 : callOk Tryd.prog 22 := fun _ _ => Tryd.call22 _ _
theorem cok23 : callOk Tryd.prog 23 := fun _ _ => Tryd.call23 _ _
theorem cok24 : callOk Tryd.prog 24 := fun _ _ => Tryd.call24 _ _
theorem cok38 : callOk Tryd.prog 38 := fun _ _ => Tryd.call38 _ _
theorem cok44 : callOk Tryd.prog 44 := fun _ _ => Tryd.call44 _ _
theorem cok45 : callOk Tryd.prog 45 := fun _ _ => Tryd.call45 _ _
theorem cok46 : callOk Tryd.prog 46 := fun _ _ => Tryd.call46 _ _
theorem cok47 : callOk Tryd.prog 47 := fun _ _ => Tryd.call47 _ _
theorem cok48 : callOk Tryd.prog 48 := fun _ _ => Tryd.call48 _ _
theorem cok49 : callOk Tryd.prog 49 := fun _ _ => Tryd.call49 _ _
theorem cok50 : callOk Tryd.prog 50 := fun _ _ => Tryd.call50 _ _
theorem cok51 : callOk Tryd.prog 51 := fun _ _ => Tryd.call51 _ _
theorem cok69 : callOk Tryd.prog 69 := fun _ _ => Tryd.call69 _ _
theorem cok70 : callOk Tryd.prog 70 := fun _ _ => Tryd.call70 _ _
theorem cok71 : callOk Tryd.prog 71 := fun _ _ => Tryd.call71 _ _
theorem cok72 : callOk Tryd.prog 72 := fun _ _ => Tryd.call72 _ _
theorem cok73 : callOk Tryd.prog 73 := fun _ _ => Tryd.call73 _ _
theorem cok74 : callOk Tryd.prog 74 := fun _ _ => Tryd.call74 _ _
theorem cok75 : callOk Tryd.prog 75 := fun _ _ => Tryd.call75 _ _
theorem cok76 : callOk Tryd.prog 76 := fun _ _ => Tryd.call76 _ _
theorem cok87 : callOk Tryd.prog 87 := fun _ _ => Tryd.call87 _ _
theorem cok90 : callOk Tryd.prog 90 := fun _ _ => Tryd.call90 _ _
theorem cok91 : callOk Tryd.prog 91 := fun _ _ => Tryd.call91 _ _
theorem cok92 : callOk Tryd.prog 92 := fun _ _ => Tryd.call92 _ _
theorem cok93 : callOk Tryd.prog 93 := fun _ _ => Tryd.call93 _ _
theorem cok94 : callOk Tryd.prog 94 := fun _ _ => Tryd.call94 _ _
theorem cok95 : callOk Tryd.prog 95 := fun _ _ => Tryd.call95 _ _
theorem cok96 : callOk Tryd.prog 96 := fun _ _ => Tryd.call96 _ _
theorem cok97 : callOk Tryd.prog 97 := fun _ _ => Tryd.call97 _ _
theorem cok98 : callOk Tryd.prog 98 := fun _ _ => Tryd.call98 _ _
theorem cok99 : callOk Tryd.prog 99 := fun _ _ => Tryd.call99 _ _
theorem cok100 : callOk Tryd.prog 100 := fun _ _ => Tryd.call100 _ _
theorem cok101 : callOk Tryd.prog 101 := fun _ _ => Tryd.call101 _ _
theorem cok102 : callOk Tryd.prog 102 := fun _ _ => Tryd.call102 _ _
theorem cok103 : callOk Tryd.prog 103 := fun _ _ => Tryd.call103 _ _
theorem cok104 : callOk Tryd.prog 104 := fun _ _ => Tryd.call104 _ _
theorem cok105 : callOk Tryd.prog 105 := fun _ _ => Tryd.call105 _ _
theorem cok106 : callOk Tryd.prog 106 := fun _ _ => Tryd.call106 _ _
theorem cok107 : callOk Tryd.prog 107 := fun _ _ => Tryd.call107 _ _
theorem cok108 : callOk Tryd.prog 108 := fun _ _ => Tryd.call108 _ _
theorem cok109 : callOk Tryd.prog 109 := fun _ _ => Tryd.call109 _ _
theorem cok110 : callOk Tryd.prog 110 := fun _ _ => Tryd.call110 _ _
theorem cok111 : callOk Tryd.prog 111 := fun _ _ => Tryd.call111 _ _
theorem cok112 : callOk Tryd.prog 112 := fun _ _ => Tryd.call112 _ _
theorem cok113 : callOk Tryd.prog 113 := fun _ _ => Tryd.call113 _ _
theorem cok114 : callOk Tryd.prog 114 := fun _ _ => Tryd.call114 _ _
theorem cok115 : callOk Tryd.prog 115 := fun _ _ => Tryd.call115 _ _
theorem cok116 : callOk Tryd.prog 116 := fun _ _ => Tryd.call116 _ _
theorem cok117 : callOk Tryd.prog 117 := fun _ _ => Tryd.call117 _ _
theorem cok124 : callOk Tryd.prog 124 := fun _ _ => Tryd.call124 _ _
theorem cok130 : callOk Tryd.prog 130 := fun _ _ => Tryd.call130 _ _
theorem cok131 : callOk Tryd.prog 131 := fun _ _ => Tryd.call131 _ _
theorem cok132 : callOk Tryd.prog 132 := fun _ _ => Tryd.call132 _ _
theorem cok133 : callOk Tryd.prog 133 := fun _ _ => Tryd.call133 _ _
theorem cok134 : callOk Tryd.prog 134 := fun _ _ => Tryd.call134 _ _
theorem cok135 : callOk Tryd.prog 135 := fun _ _ => Tryd.call135 _ _
theorem cok136 : callOk Tryd.prog 136 := fun _ _ => Tryd.call136 _ _
theorem cok137 : callOk Tryd.prog 137 := fun _ _ => Tryd.call137 _ _
theorem cok138 : callOk Tryd.prog 138 := fun _ _ => Tryd.call138 _ _
theorem cok139 : callOk Tryd.prog 139 := fun _ _ => Tryd.call139 _ _
theorem cok140 : callOk Tryd.prog 140 := fun _ _ => Tryd.call140 _ _
theorem cok141 : callOk Tryd.prog 141 := fun _ _ => Tryd.call141 _ _
theorem cok142 : callOk Tryd.prog 142 := fun _ _ => Tryd.call142 _ _
theorem cok143 : callOk Tryd.prog 143 := fun _ _ => Tryd.call143 _ _
theorem cok144 : callOk Tryd.prog 144 := fun _ _ => Tryd.call144 _ _
theorem cok145 : callOk Tryd.prog 145 := fun _ _ => Tryd.call145 _ _
theorem cok146 : callOk Tryd.prog 146 := fun _ _ => Tryd.call146 _ _
theorem cok147 : callOk Tryd.prog 147 := fun _ _ => Tryd.call147 _ _
theorem cok148 : callOk Tryd.prog 148 := fun _ _ => Tryd.call148 _ _
theorem cok149 : callOk Tryd.prog 149 := fun _ _ => Tryd.call149 _ _
theorem cok150 : callOk Tryd.prog 150 := fun _ _ => Tryd.call150 _ _
theorem cok151 : callOk Tryd.prog 151 := fun _ _ => Tryd.call151 _ _
theorem cok152 : callOk Tryd.prog 152 := fun _ _ => Tryd.call152 _ _
theorem cok153 : callOk Tryd.prog 153 := fun _ _ => Tryd.call153 _ _
theorem cok157 : callOk Tryd.prog 157 := fun _ _ => Tryd.call157 _ _
theorem cok161 : callOk Tryd.prog 161 := fun _ _ => Tryd.call161 _ _
theorem cok165 : callOk Tryd.prog 165 := fun _ _ => Tryd.call165 _ _
theorem cok166 : callOk Tryd.prog 166 := fun _ _ => Tryd.call166 _ _
theorem cok167 : callOk Tryd.prog 167 := fun _ _ => Tryd.call167 _ _
theorem cok168 : callOk Tryd.prog 168 := fun _ _ => Tryd.call168 _ _
theorem cok169 : callOk Tryd.prog 169 := fun _ _ => Tryd.call169 _ _
theorem cok170 : callOk Tryd.prog 170 := fun _ _ => Tryd.call170 _ _
theorem cok171 : callOk Tryd.prog 171 := fun _ _ => Tryd.call171 _ _
theorem cok180 : callOk Tryd.prog 180 := fun _ _ => Tryd.call180 _ _
theorem cok181 : callOk Tryd.prog 181 := fun _ _ => Tryd.call181 _ _

theorem m_laws_big_ok (a0 : List UInt8) {r : Bool} (h : m_laws_big a0 = some r) :
    AC Tryd.prog (GS []) 8 [.sl false false (a0.map byteRow)] [] (V.bool r) [] := by
 rw [m_laws_big] at h
 refine AC.enter Tryd.func8 rfl ?_
 refine cu D_ok mix 1 100 (tl 6 [(0, .sl false false (a0.map byteRow))]) [] (by kernel_rfl) ?_
 refine CodeOk.cutR (tl 6 [(2, V.bool (decide ((a0.length : Int) > 1048576)))]) [] mix (by
  refine W.run D_ok 1 100 (by kernel_rfl) ?_
  refine W.len D_ok byteRow a0 [] (by kernel_rfl) (by kernel_rfl) ?_
  refine W.run D_ok 2 100 (by kernel_rfl) ?_
  exact W.fi (by kernel_rfl)
  ) ?_
 refine CodeOk.ret ?_
 have h := Option.some.inj h
 subst h
 exact Ends.gen [] (.inr rfl) (RetV.one rfl (OneR.tmp (t := 2) (r := V.bool (decide ((a0.length : Int) > 1048576))) (by kernel_rfl))) (by kernel_rfl) (by kernel_rfl) (by kernel_rfl)

theorem m_laws_at_ok (a0 : List UInt8) (a1 : Int) {r : Int} (h : m_laws_at a0 a1 = some r) :
    AC Tryd.prog (GS []) 13 [.sl false false (a0.map byteRow), V.int a1] [] (V.int r) [] := by
 rw [m_laws_at] at h
 refine AC.enter Tryd.func13 rfl ?_
 refine cu D_ok mix 1 100 (tl 21 [(0, .sl false false (a0.map byteRow)), (1, V.int a1)]) [] (by kernel_rfl) ?_
 refine CodeOk.seq' ?_
 refine CodeOk.cutR (tl 21 [(0, .sl false false (a0.map byteRow)), (1, V.int a1), (8, V.bool (decide (a1 < (a0.length : Int))))]) [] mix (by
  refine W.run D_ok 2 100 (by kernel_rfl) ?_
  refine W.len D_ok byteRow a0 [] (by kernel_rfl) (by kernel_rfl) ?_
  refine W.run D_ok 1 100 (by kernel_rfl) ?_
  exact W.fi (by kernel_rfl)
  ) ?_
 (revert h; refine cond_rev (fun hc4 h => ?_) (fun hc4 h => ?_))
 ·refine CodeOk.ifT hc4 (by kernel_rfl) ?_
  (revert h; refine bind_rev fun e4 hx6 h => ?_)
  refine CodeOk.cutR (tl 21 [(4, V.int (IntKind.wrap .i64 ((e4).toNat : Int)))]) [] mix (by
   refine W.run D_ok 2 100 (by kernel_rfl) ?_
   refine W.ixD D_ok byteRow hx6 1 (by kernel_rfl) (by kernel_rfl) ?_
   refine W.run D_ok 3 100 (by kernel_rfl) ?_
   exact W.fi (by kernel_rfl)
   ) ?_
  refine CodeOk.ret ?_
  have h := Option.some.inj h
  subst h
  exact Ends.gen [] (.inr rfl) (RetV.one rfl (OneR.tmp (t := 4) (r := V.int (IntKind.wrap .i64 ((e4).toNat : Int))) (by kernel_rfl))) (by kernel_rfl) (by kernel_rfl) (by kernel_rfl)
 refine CodeOk.ifF hc4 (by kernel_rfl) ?_
 refine CodeOk.skip ?_
 refine CodeOk.cutR (tl 21 [(4, V.int (Int.tmod (IntKind.wrap .i64 ((IntKind.wrap .i64 (a1 * 37)) + (IntKind.wrap .i64 ((a0.length : Int) * 11)))) 256))]) [] mix (by
  refine W.run D_ok 3 100 (by kernel_rfl) ?_
  refine W.len D_ok byteRow a0 [] (by kernel_rfl) (by kernel_rfl) ?_
  refine W.run D_ok 4 100 (by kernel_rfl) ?_
  exact W.fi (by kernel_rfl)
  ) ?_
 refine CodeOk.ret ?_
 have h := Option.some.inj h
 subst h
 exact Ends.gen [] (.inr rfl) (RetV.one rfl (OneR.tmp (t := 4) (r := V.int (Int.tmod (IntKind.wrap .i64 ((IntKind.wrap .i64 (a1 * 37)) + (IntKind.wrap .i64 ((a0.length : Int) * 11)))) 256)) (by kernel_rfl))) (by kernel_rfl) (by kernel_rfl) (by kernel_rfl)

theorem m_impl_OpLevel_ok (a0 : Int) {r : Int} (h : m_impl_OpLevel a0 = some r) :
    AC Tryd.prog (GS []) 22 [V.int a0] [] (V.int r) [] := by
 rw [m_impl_OpLevel] at h
 refine AC.enter Tryd.func22 rfl ?_
 refine cu D_ok mix 1 100 (tl 29 [(0, V.int a0)]) [] (by kernel_rfl) ?_
 refine CodeOk.seq' ?_
 refine cu D_ok mix 1 100 (tl 29 [(3, V.int a0)]) [] (by kernel_rfl) ?_
 refine CodeOk.block' ?_
 refine cu D_ok mix 2 100 (tl 29 [(3, V.int a0), (4, V.bool (a0 == 44))]) [] (by kernel_rfl) ?_
 (revert h; refine cond_rev (fun hc35 h => ?_) (fun hc35 h => ?_))
 ·refine CodeOk.ifT hc35 (by kernel_rfl) ?_
  refine cu D_ok mix 1 100 (tl 29 [(2, V.int 3)]) [] (by kernel_rfl) ?_
  refine CodeOk.ret ?_
  have h := Option.some.inj h
  subst h
  exact Ends.gen [] (.inr rfl) (RetV.one rfl (OneR.tmp (t := 2) (r := V.int 3) (by kernel_rfl))) (by kernel_rfl) (by kernel_rfl) (by kernel_rfl)
 refine CodeOk.ifF hc35 (by kernel_rfl) ?_
 refine cu D_ok mix 2 100 (tl 29 [(3, V.int a0), (6, V.bool (a0 == 45))]) [] (by kernel_rfl) ?_
 (revert h; refine cond_rev (fun hc36 h => ?_) (fun hc36 h => ?_))
 ·refine CodeOk.ifT hc36 (by kernel_rfl) ?_
  refine cu D_ok mix 1 100 (tl 29 [(2, V.int 4)]) [] (by kernel_rfl) ?_
  refine CodeOk.ret ?_
  have h := Option.some.inj h
  subst h
  exact Ends.gen [] (.inr rfl) (RetV.one rfl (OneR.tmp (t := 2) (r := V.int 4) (by kernel_rfl))) (by kernel_rfl) (by kernel_rfl) (by kernel_rfl)
 refine CodeOk.ifF hc36 (by kernel_rfl) ?_
 refine CodeOk.join (fun (⟨a0, y5⟩ : (Int × Bool)) => ⟨tl 29 [(3, V.int a0), (8, V.bool y5)], []⟩) (fun i => m_impl_OpLevel_k1 i = some r) ?_ ?_
 · rintro ⟨a0, y5⟩ h38
   rw [m_impl_OpLevel_k1] at h38
   (revert h38; refine cond_rev (fun hc39 h38 => ?_) (fun hc39 h38 => ?_))
   ·refine CodeOk.ifT hc39 (by kernel_rfl) ?_
    refine cu D_ok mix 1 100 (tl 29 [(2, V.int 6)]) [] (by kernel_rfl) ?_
    refine CodeOk.ret ?_
    have h38 := Option.some.inj h38
    subst h38
    exact Ends.gen [] (.inr rfl) (RetV.one rfl (OneR.tmp (t := 2) (r := V.int 6) (by kernel_rfl))) (by kernel_rfl) (by kernel_rfl) (by kernel_rfl)
   refine CodeOk.ifF hc39 (by kernel_rfl) ?_
   refine CodeOk.join (fun (⟨a0, y6⟩ : (Int × Bool)) => ⟨tl 29 [(3, V.int a0), (11, V.bool y6)], []⟩) (fun i => m_impl_OpLevel_k2 i = some r) ?_ ?_
   · rintro ⟨a0, y6⟩ h45
     rw [m_impl_OpLevel_k2] at h45
     (revert h45; refine cond_rev (fun hc46 h45 => ?_) (fun hc46 h45 => ?_))
     ·refine CodeOk.ifT hc46 (by kernel_rfl) ?_
      refine cu D_ok mix 1 100 (tl 29 [(2, V.int 7)]) [] (by kernel_rfl) ?_
      refine CodeOk.ret ?_
      have h45 := Option.some.inj h45
      subst h45
      exact Ends.gen [] (.inr rfl) (RetV.one rfl (OneR.tmp (t := 2) (r := V.int 7) (by kernel_rfl))) (by kernel_rfl) (by kernel_rfl) (by kernel_rfl)
     refine CodeOk.ifF hc46 (by kernel_rfl) ?_
     refine cu D_ok mix 2 100 (tl 29 [(3, V.int a0), (18, V.bool (a0 == 99))]) [] (by kernel_rfl) ?_
     (revert h45; refine cond_rev (fun hc47 h45 => ?_) (fun hc47 h45 => ?_))
     ·refine CodeOk.ifT hc47 (by kernel_rfl) ?_
      refine cu D_ok mix 1 100 (tl 29 [(2, V.int 8)]) [] (by kernel_rfl) ?_
      refine CodeOk.ret ?_
      have h45 := Option.some.inj h45
      subst h45
      exact Ends.gen [] (.inr rfl) (RetV.one rfl (OneR.tmp (t := 2) (r := V.int 8) (by kernel_rfl))) (by kernel_rfl) (by kernel_rfl) (by kernel_rfl)
     refine CodeOk.ifF hc47 (by kernel_rfl) ?_
     refine CodeOk.join (fun (⟨a0, y7⟩ : (Int × Bool)) => ⟨tl 29 [(3, V.int a0), (20, V.bool y7)], []⟩) (fun i => m_impl_OpLevel_k3 i = some r) ?_ ?_
     · rintro ⟨a0, y7⟩ h49
       rw [m_impl_OpLevel_k3] at h49
       (revert h49; refine cond_rev (fun hc50 h49 => ?_) (fun hc50 h49 => ?_))
       ·refine CodeOk.ifT hc50 (by kernel_rfl) ?_
        refine cu D_ok mix 1 100 (tl 29 [(2, V.int 9)]) [] (by kernel_rfl) ?_
        refine CodeOk.ret ?_
        have h49 := Option.some.inj h49
        subst h49
        exact Ends.gen [] (.inr rfl) (RetV.one rfl (OneR.tmp (t := 2) (r := V.int 9) (by kernel_rfl))) (by kernel_rfl) (by kernel_rfl) (by kernel_rfl)
       refine CodeOk.ifF hc50 (by kernel_rfl) ?_
       refine CodeOk.join (fun (⟨a0, y8⟩ : (Int × Bool)) => ⟨tl 29 [(3, V.int a0), (23, V.bool y8)], []⟩) (fun i => m_impl_OpLevel_k4 i = some r) ?_ ?_
       · rintro ⟨a0, y8⟩ h53
         rw [m_impl_OpLevel_k4] at h53
         (revert h53; refine cond_rev (fun hc54 h53 => ?_) (fun hc54 h53 => ?_))
         ·refine CodeOk.ifT hc54 (by kernel_rfl) ?_
          refine cu D_ok mix 1 100 (tl 29 [(2, V.int 10)]) [] (by kernel_rfl) ?_
          refine CodeOk.ret ?_
          have h53 := Option.some.inj h53
          subst h53
          exact Ends.gen [] (.inr rfl) (RetV.one rfl (OneR.tmp (t := 2) (r := V.int 10) (by kernel_rfl))) (by kernel_rfl) (by kernel_rfl) (by kernel_rfl)
         refine CodeOk.ifF hc54 (by kernel_rfl) ?_
         refine cu D_ok mix 2 100 (tl 29 [(27, V.bool (a0 == 60))]) [] (by kernel_rfl) ?_
         (revert h53; refine cond_rev (fun hc55 h53 => ?_) (fun hc55 h53 => ?_))
         ·refine CodeOk.ifT hc55 (by kernel_rfl) ?_
          refine cu D_ok mix 1 100 (tl 29 [(2, V.int 12)]) [] (by kernel_rfl) ?_
          refine CodeOk.ret ?_
          have h53 := Option.some.inj h53
          subst h53
          exact Ends.gen [] (.inr rfl) (RetV.one rfl (OneR.tmp (t := 2) (r := V.int 12) (by kernel_rfl))) (by kernel_rfl) (by kernel_rfl) (by kernel_rfl)
         refine CodeOk.ifF hc55 (by kernel_rfl) ?_
         refine CodeOk.skip ?_
         refine cu D_ok mix 1 100 (tl 29 [(2, V.int 0)]) [] (by kernel_rfl) ?_
         refine CodeOk.ret ?_
         have h53 := Option.some.inj h53
         subst h53
         exact Ends.gen [] (.inr rfl) (RetV.one rfl (OneR.tmp (t := 2) (r := V.int 0) (by kernel_rfl))) (by kernel_rfl) (by kernel_rfl) (by kernel_rfl)
       intro hk56
       refine cu D_ok mix 2 100 (tl 29 [(3, V.int a0), (23, V.bool (a0 == 57))]) [] (by kernel_rfl) ?_
       (revert h49; refine cond_rev (fun hc57 h49 => ?_) (fun hc57 h49 => ?_))
       ·refine CodeOk.ifT hc57 (by kernel_rfl) ?_
        refine CodeOk.skip ?_
        exact hk56 (a0, (a0 == 57)) h49 _ (Weak.sel [] [3, 23] (by kernel_rfl) (by kernel_rfl) (by kernel_rfl))
       refine CodeOk.ifF hc57 (by kernel_rfl) ?_
       refine cu D_ok mix 2 100 (tl 29 [(3, V.int a0), (23, V.bool (a0 == 58))]) [] (by kernel_rfl) ?_
       (revert h49; refine cond_rev (fun hc58 h49 => ?_) (fun hc58 h49 => ?_))
       ·refine CodeOk.ifT hc58 (by kernel_rfl) ?_
        refine CodeOk.skip ?_
        exact hk56 (a0, (a0 == 58)) h49 _ (Weak.sel [] [3, 23] (by kernel_rfl) (by kernel_rfl) (by kernel_rfl))
       refine CodeOk.ifF hc58 (by kernel_rfl) ?_
       refine ce D_ok mix 2 100 (tl 29 [(3, V.int a0), (23, V.bool (a0 == 59))]) [] (by kernel_rfl) (fun st hw => ?_)
       exact hk56 (a0, (a0 == 59)) h49 _ (hw.trans (Weak.sel [] [3, 23] (by kernel_rfl) (by kernel_rfl) (by kernel_rfl)))
     intro hk59
     refine cu D_ok mix 2 100 (tl 29 [(3, V.int a0), (20, V.bool (a0 == 55))]) [] (by kernel_rfl) ?_
     (revert h45; refine cond_rev (fun hc60 h45 => ?_) (fun hc60 h45 => ?_))
     ·refine CodeOk.ifT hc60 (by kernel_rfl) ?_
      refine CodeOk.skip ?_
      exact hk59 (a0, (a0 == 55)) h45 _ (Weak.sel [] [3, 20] (by kernel_rfl) (by kernel_rfl) (by kernel_rfl))
     refine CodeOk.ifF hc60 (by kernel_rfl) ?_
     refine ce D_ok mix 2 100 (tl 29 [(3, V.int a0), (20, V.bool (a0 == 56))]) [] (by kernel_rfl) (fun st hw => ?_)
     exact hk59 (a0, (a0 == 56)) h45 _ (hw.trans (Weak.sel [] [3, 20] (by kernel_rfl) (by kernel_rfl) (by kernel_rfl)))
   intro hk61
   refine cu D_ok mix 2 100 (tl 29 [(3, V.int a0), (11, V.bool (a0 == 63))]) [] (by kernel_rfl) ?_
   (revert h38; refine cond_rev (fun hc62 h38 => ?_) (fun hc62 h38 => ?_))
   ·refine CodeOk.ifT hc62 (by kernel_rfl) ?_
    refine CodeOk.skip ?_
    exact hk61 (a0, (a0 == 63)) h38 _ (Weak.sel [] [3, 11] (by kernel_rfl) (by kernel_rfl) (by kernel_rfl))
   refine CodeOk.ifF hc62 (by kernel_rfl) ?_
   refine cu D_ok mix 2 100 (tl 29 [(3, V.int a0), (11, V.bool (a0 == 48))]) [] (by kernel_rfl) ?_
   (revert h38; refine cond_rev (fun hc63 h38 => ?_) (fun hc63 h38 => ?_))
   ·refine CodeOk.ifT hc63 (by kernel_rfl) ?_
    refine CodeOk.skip ?_
    exact hk61 (a0, (a0 == 48)) h38 _ (Weak.sel [] [3, 11] (by kernel_rfl) (by kernel_rfl) (by kernel_rfl))
   refine CodeOk.ifF hc63 (by kernel_rfl) ?_
   refine cu D_ok mix 2 100 (tl 29 [(3, V.int a0), (11, V.bool (a0 == 47))]) [] (by kernel_rfl) ?_
   (revert h38; refine cond_rev (fun hc64 h38 => ?_) (fun hc64 h38 => ?_))
   ·refine CodeOk.ifT hc64 (by kernel_rfl) ?_
    refine CodeOk.skip ?_
    exact hk61 (a0, (a0 == 47)) h38 _ (Weak.sel [] [3, 11] (by kernel_rfl) (by kernel_rfl) (by kernel_rfl))
   refine CodeOk.ifF hc64 (by kernel_rfl) ?_
   refine cu D_ok mix 2 100 (tl 29 [(3, V.int a0), (11, V.bool (a0 == 50))]) [] (by kernel_rfl) ?_
   (revert h38; refine cond_rev (fun hc65 h38 => ?_) (fun hc65 h38 => ?_))
   ·refine CodeOk.ifT hc65 (by kernel_rfl) ?_
    refine CodeOk.skip ?_
    exact hk61 (a0, (a0 == 50)) h38 _ (Weak.sel [] [3, 11] (by kernel_rfl) (by kernel_rfl) (by kernel_rfl))
   refine CodeOk.ifF hc65 (by kernel_rfl) ?_
   refine cu D_ok mix 2 100 (tl 29 [(3, V.int a0), (11, V.bool (a0 == 62))]) [] (by kernel_rfl) ?_
   (revert h38; refine cond_rev (fun hc66 h38 => ?_) (fun hc66 h38 => ?_))
   ·refine CodeOk.ifT hc66 (by kernel_rfl) ?_
    refine CodeOk.skip ?_
    exact hk61 (a0, (a0 == 62)) h38 _ (Weak.sel [] [3, 11] (by kernel_rfl) (by kernel_rfl) (by kernel_rfl))
   refine CodeOk.ifF hc66 (by kernel_rfl) ?_
   refine ce D_ok mix 2 100 (tl 29 [(3, V.int a0), (11, V.bool (a0 == 49))]) [] (by kernel_rfl) (fun st hw => ?_)
   exact hk61 (a0, (a0 == 49)) h38 _ (hw.trans (Weak.sel [] [3, 11] (by kernel_rfl) (by kernel_rfl) (by kernel_rfl)))
 intro hk67
 refine cu D_ok mix 2 100 (tl 29 [(3, V.int a0), (8, V.bool (a0 == 67))]) [] (by kernel_rfl) ?_
 (revert h; refine cond_rev (fun hc68 h => ?_) (fun hc68 h => ?_))
 ·refine CodeOk.ifT hc68 (by kernel_rfl) ?_
  refine CodeOk.skip ?_
  exact hk67 (a0, (a0 == 67)) h _ (Weak.sel [] [3, 8] (by kernel_rfl) (by kernel_rfl) (by kernel_rfl))
 refine CodeOk.ifF hc68 (by kernel_rfl) ?_
 refine ce D_ok mix 2 100 (tl 29 [(3, V.int a0), (8, V.bool (a0 == 46))]) [] (by kernel_rfl) (fun st hw => ?_)
 exact hk67 (a0, (a0 == 46)) h _ (hw.trans (Weak.sel [] [3, 8] (by kernel_rfl) (by kernel_rfl) (by kernel_rfl)))

theorem m_impl_within_ok (a0 : Int) (a1 : Int) (a2 : Int) {r : Bool} (h : m_impl_within a0 a1 a2 = some r) :
    AC Tryd.prog (GS []) 38 [V.int a0, V.int a1, V.int a2] [] (V.bool r) [] := by
 rw [m_impl_within] at h
 refine AC.enter Tryd.func38 rfl ?_
 refine cu D_ok mix 1 100 (tl 15 [(0, V.int a0), (1, V.int a1), (2, V.int a2)]) [] (by kernel_rfl) ?_
 (revert h; refine bind_rev fun y1 hv2 h => ?_)
 refine CodeOk.cutR (tl 15 [(6, V.bool y1)]) [] mix (by
  refine W.run D_ok 4 100 (by kernel_rfl) ?_
  (revert hv2; refine cond_rev (fun hc3 hv2 => ?_) (fun hc3 hv2 => ?_))
  ·refine W.is 10 hc3 (by kernel_rfl) ?_
   refine W.run D_ok 5 100 (by kernel_rfl) ?_
   have hv2 := Option.some.inj hv2
   subst hv2
   exact W.fs [] [6] (by kernel_rfl)
  refine W.is 10 hc3 (by kernel_rfl) ?_
  refine W.run D_ok 5 100 (by kernel_rfl) ?_
  have hv2 := Option.some.inj hv2
  subst hv2
  exact W.fs [] [6] (by kernel_rfl)
  ) ?_
 refine CodeOk.ret ?_
 have h := Option.some.inj h
 subst h
 exact Ends.gen [] (.inr rfl) (RetV.one rfl (OneR.tmp (t := 6) (r := V.bool y1) (by kernel_rfl))) (by kernel_rfl) (by kernel_rfl) (by kernel_rfl)

theorem m_impl_isAssign_ok (a0 : Int) {r : Bool} (h : m_impl_isAssign a0 = some r) :
    AC Tryd.prog (GS []) 48 [V.int a0] [] (V.bool r) [] := by
 rw [m_impl_isAssign] at h
 refine AC.enter Tryd.func48 rfl ?_
 refine cu D_ok mix 1 100 (tl 9 [(0, V.int a0)]) [] (by kernel_rfl) ?_
 (revert h; refine bind_rev fun y2 hv3 h => ?_)
 refine CodeOk.cutR (tl 9 [(2, V.bool y2)]) [] mix (by
  refine W.run D_ok 3 100 (by kernel_rfl) ?_
  (revert hv3; refine cond_rev (fun hc4 hv3 => ?_) (fun hc4 hv3 => ?_))
  ·refine W.is 5 hc4 (by kernel_rfl) ?_
   refine W.run D_ok 4 100 (by kernel_rfl) ?_
   have hv3 := Option.some.inj hv3
   subst hv3
   exact W.fs [] [2] (by kernel_rfl)
  refine W.is 5 hc4 (by kernel_rfl) ?_
  refine W.run D_ok 1 100 (by kernel_rfl) ?_
  (revert hv3; refine bind_rev fun r3 hx5 hv3 => ?_)
  refine W.call0 (m_impl_within_ok a0 38 43 hx5) cok38 rfl (by kernel_rfl) ?_
  refine W.run D_ok 2 100 (by kernel_rfl) ?_
  have hv3 := Option.some.inj hv3
  subst hv3
  exact W.fs [] [2] (by kernel_rfl)
  ) ?_
 refine CodeOk.ret ?_
 have h := Option.some.inj h
 subst h
 exact Ends.gen [] (.inr rfl) (RetV.one rfl (OneR.tmp (t := 2) (r := V.bool y2) (by kernel_rfl))) (by kernel_rfl) (by kernel_rfl) (by kernel_rfl)

theorem m_impl_isStep_ok (a0 : Int) {r : Bool} (h : m_impl_isStep a0 = some r) :
    AC Tryd.prog (GS []) 49 [V.int a0] [] (V.bool r) [] := by
 rw [m_impl_isStep] at h
 refine AC.enter Tryd.func49 rfl ?_
 refine cu D_ok mix 1 100 (tl 9 [(0, V.int a0)]) [] (by kernel_rfl) ?_
 (revert h; refine bind_rev fun y1 hv2 h => ?_)
 refine CodeOk.cutR (tl 9 [(2, V.bool y1)]) [] mix (by
  refine W.run D_ok 3 100 (by kernel_rfl) ?_
  (revert hv2; refine cond_rev (fun hc3 hv2 => ?_) (fun hc3 hv2 => ?_))
  ·refine W.is 5 hc3 (by kernel_rfl) ?_
   refine W.run D_ok 4 100 (by kernel_rfl) ?_
   have hv2 := Option.some.inj hv2
   subst hv2
   exact W.fs [] [2] (by kernel_rfl)
  refine W.is 5 hc3 (by kernel_rfl) ?_
  refine W.run D_ok 4 100 (by kernel_rfl) ?_
  have hv2 := Option.some.inj hv2
  subst hv2
  exact W.fs [] [2] (by kernel_rfl)
  ) ?_
 refine CodeOk.ret ?_
 have h := Option.some.inj h
 subst h
 exact Ends.gen [] (.inr rfl) (RetV.one rfl (OneR.tmp (t := 2) (r := V.bool y1) (by kernel_rfl))) (by kernel_rfl) (by kernel_rfl) (by kernel_rfl)

theorem m_impl_isKeywordKind_ok (a0 : Int) {r : Bool} (h : m_impl_isKeywordKind a0 = some r) :
    AC Tryd.prog (GS []) 75 [V.int a0] [] (V.bool r) [] := by
 rw [m_impl_isKeywordKind] at h
 refine AC.enter Tryd.func75 rfl ?_
 refine cu D_ok mix 1 100 (tl 5 [(0, V.int a0)]) [] (by kernel_rfl) ?_
 (revert h; refine bind_rev fun r2 hx2 h => ?_)
 refine CodeOk.cutR (tl 5 [(2, V.bool r2)]) [] mix (by
  refine W.run D_ok 1 100 (by kernel_rfl) ?_
  refine W.call0 (m_impl_within_ok a0 10 26 hx2) cok38 rfl (by kernel_rfl) ?_
  refine W.run D_ok 1 100 (by kernel_rfl) ?_
  exact W.fi (by kernel_rfl)
  ) ?_
 refine CodeOk.ret ?_
 have h := Option.some.inj h
 subst h
 exact Ends.gen [] (.inr rfl) (RetV.one rfl (OneR.tmp (t := 2) (r := V.bool r2) (by kernel_rfl))) (by kernel_rfl) (by kernel_rfl) (by kernel_rfl)

theorem m_impl_isSignKind_ok (a0 : Int) {r : Bool} (h : m_impl_isSignKind a0 = some r) :
    AC Tryd.prog (GS []) 76 [V.int a0] [] (V.bool r) [] := by
 rw [m_impl_isSignKind] at h
 refine AC.enter Tryd.func76 rfl ?_
 refine cu D_ok mix 1 100 (tl 5 [(0, V.int a0)]) [] (by kernel_rfl) ?_
 (revert h; refine bind_rev fun r2 hx2 h => ?_)
 refine CodeOk.cutR (tl 5 [(2, V.bool r2)]) [] mix (by
  refine W.run D_ok 1 100 (by kernel_rfl) ?_
  refine W.call0 (m_impl_within_ok a0 30 68 hx2) cok38 rfl (by kernel_rfl) ?_
  refine W.run D_ok 1 100 (by kernel_rfl) ?_
  exact W.fi (by kernel_rfl)
  ) ?_
 refine CodeOk.ret ?_
 have h := Option.some.inj h
 subst h
 exact Ends.gen [] (.inr rfl) (RetV.one rfl (OneR.tmp (t := 2) (r := V.bool r2) (by kernel_rfl))) (by kernel_rfl) (by kernel_rfl) (by kernel_rfl)

theorem m_impl_SpellOf_ok (a0 : Int) {r : (List UInt8)} (h : m_impl_SpellOf a0 = some r) :
    AC Tryd.prog (GS [0, 1]) 50 [V.int a0] [] (V.str r) [] := by
 rw [m_impl_SpellOf] at h
 refine AC.enter Tryd.func50 rfl ?_
 refine cu D_ok mix 1 100 (tl 20 [(0, V.int a0)]) [] (by kernel_rfl) ?_
 refine CodeOk.seq' ?_
 refine CodeOk.block' ?_
 refine cu D_ok mix 3 100 (tl 20 [(0, V.int a0), (3, V.bool (a0 == 1))]) [] (by kernel_rfl) ?_
 (revert h; refine cond_rev (fun hc12 h => ?_) (fun hc12 h => ?_))
 ·refine CodeOk.ifT hc12 (by kernel_rfl) ?_
  refine cu D_ok mix 1 100 (tl 20 [(2, V.str [10])]) [] (by kernel_rfl) ?_
  refine CodeOk.ret ?_
  have h := Option.some.inj h
  subst h
  exact Ends.gen [] (.inr rfl) (RetV.one rfl (OneR.tmp (t := 2) (r := V.str [10]) (by kernel_rfl))) (by kernel_rfl) (by kernel_rfl) (by kernel_rfl)
 refine CodeOk.ifF hc12 (by kernel_rfl) ?_
 (revert h; refine bind_rev fun r10 hx14 h => ?_)
 refine CodeOk.cutR (tl 20 [(0, V.int a0), (6, V.bool r10)]) [] mix (by
  refine W.run D_ok 1 100 (by kernel_rfl) ?_
  refine W.call0 (AC.gs (m_impl_isKeywordKind_ok a0 hx14) (by decide)) cok75 rfl (by kernel_rfl) ?_
  refine W.run D_ok 1 100 (by kernel_rfl) ?_
  exact W.fi (by kernel_rfl)
  ) ?_
 (revert h; refine cond_rev (fun hc15 h => ?_) (fun hc15 h => ?_))
 ·refine CodeOk.ifT hc15 (by kernel_rfl) ?_
  (revert h; refine bind_rev fun e12 hx17 h => ?_)
  refine CodeOk.cutR (tl 20 [(2, V.str e12)]) [] mix (by
   refine W.run D_ok 2 100 (by kernel_rfl) ?_
   refine W.ixG D_ok V.str (l := tab_keywords) hx17 (by kernel_rfl) ?_
   refine W.run D_ok 2 100 (by kernel_rfl) ?_
   exact W.fi (by kernel_rfl)
   ) ?_
  refine CodeOk.ret ?_
  have h := Option.some.inj h
  subst h
  exact Ends.gen [] (.inr rfl) (RetV.one rfl (OneR.tmp (t := 2) (r := V.str e12) (by kernel_rfl))) (by kernel_rfl) (by kernel_rfl) (by kernel_rfl)
 refine CodeOk.ifF hc15 (by kernel_rfl) ?_
 (revert h; refine bind_rev fun r14 hx19 h => ?_)
 refine CodeOk.cutR (tl 20 [(0, V.int a0), (13, V.bool r14)]) [] mix (by
  refine W.run D_ok 1 100 (by kernel_rfl) ?_
  refine W.call0 (AC.gs (m_impl_isSignKind_ok a0 hx19) (by decide)) cok76 rfl (by kernel_rfl) ?_
  refine W.run D_ok 1 100 (by kernel_rfl) ?_
  exact W.fi (by kernel_rfl)
  ) ?_
 (revert h; refine cond_rev (fun hc20 h => ?_) (fun hc20 h => ?_))
 ·refine CodeOk.ifT hc20 (by kernel_rfl) ?_
  (revert h; refine bind_rev fun e16 hx22 h => ?_)
  refine CodeOk.cutR (tl 20 [(2, V.str e16)]) [] mix (by
   refine W.run D_ok 2 100 (by kernel_rfl) ?_
   refine W.ixG D_ok V.str (l := tab_signs) hx22 (by kernel_rfl) ?_
   refine W.run D_ok 2 100 (by kernel_rfl) ?_
   exact W.fi (by kernel_rfl)
   ) ?_
  refine CodeOk.ret ?_
  have h := Option.some.inj h
  subst h
  exact Ends.gen [] (.inr rfl) (RetV.one rfl (OneR.tmp (t := 2) (r := V.str e16) (by kernel_rfl))) (by kernel_rfl) (by kernel_rfl) (by kernel_rfl)
 refine CodeOk.ifF hc20 (by kernel_rfl) ?_
 refine CodeOk.skip ?_
 refine cu D_ok mix 1 100 (tl 20 [(2, V.str [])]) [] (by kernel_rfl) ?_
 refine CodeOk.ret ?_
 have h := Option.some.inj h
 subst h
 exact Ends.gen [] (.inr rfl) (RetV.one rfl (OneR.tmp (t := 2) (r := V.str []) (by kernel_rfl))) (by kernel_rfl) (by kernel_rfl) (by kernel_rfl)

theorem m_impl_OpSpell_ok (a0 : Int) {r : (List UInt8)} (h : m_impl_OpSpell a0 = some r) :
    AC Tryd.prog (GS [0, 1]) 23 [V.int a0] [] (V.str r) [] := by
 rw [m_impl_OpSpell] at h
 refine AC.enter Tryd.func23 rfl ?_
 refine cu D_ok mix 1 100 (tl 20 [(0, V.int a0)]) [] (by kernel_rfl) ?_
 refine CodeOk.seq' ?_
 (revert h; refine bind_rev fun y13 hv23 h => ?_)
 refine CodeOk.cutR (tl 20 [(0, V.int a0), (17, V.bool y13)]) [] mix (by
  refine W.run D_ok 1 100 (by kernel_rfl) ?_
  (revert hv23; refine bind_rev fun r14 hx24 hv23 => ?_)
  refine W.call0 (AC.gs (m_impl_OpLevel_ok a0 hx24) (by decide)) cok22 rfl (by kernel_rfl) ?_
  refine W.run D_ok 2 100 (by kernel_rfl) ?_
  (revert hv23; refine cond_rev (fun hc25 hv23 => ?_) (fun hc25 hv23 => ?_))
  ·refine W.is 6 hc25 (by kernel_rfl) ?_
   refine W.run D_ok 11 100 (by kernel_rfl) ?_
   have hv23 := Option.some.inj hv23
   subst hv23
   exact W.fs [] [0, 17] (by kernel_rfl)
  refine W.is 6 hc25 (by kernel_rfl) ?_
  refine W.run D_ok 1 100 (by kernel_rfl) ?_
  (revert hv23; refine bind_rev fun r15 hx26 hv23 => ?_)
  refine W.call0 (AC.gs (m_impl_isAssign_ok a0 hx26) (by decide)) cok48 rfl (by kernel_rfl) ?_
  refine W.run D_ok 2 100 (by kernel_rfl) ?_
  (revert hv23; refine cond_rev (fun hc27 hv23 => ?_) (fun hc27 hv23 => ?_))
  ·refine W.is 10 hc27 (by kernel_rfl) ?_
   refine W.run D_ok 7 100 (by kernel_rfl) ?_
   have hv23 := Option.some.inj hv23
   subst hv23
   exact W.fs [] [0, 17] (by kernel_rfl)
  refine W.is 10 hc27 (by kernel_rfl) ?_
  refine W.run D_ok 4 100 (by kernel_rfl) ?_
  (revert hv23; refine cond_rev (fun hc28 hv23 => ?_) (fun hc28 hv23 => ?_))
  ·refine W.is 14 hc28 (by kernel_rfl) ?_
   refine W.run D_ok 3 100 (by kernel_rfl) ?_
   have hv23 := Option.some.inj hv23
   subst hv23
   exact W.fs [] [0, 17] (by kernel_rfl)
  refine W.is 14 hc28 (by kernel_rfl) ?_
  refine W.run D_ok 1 100 (by kernel_rfl) ?_
  (revert hv23; refine bind_rev fun r16 hx29 hv23 => ?_)
  refine W.call0 (AC.gs (m_impl_isStep_ok a0 hx29) (by decide)) cok49 rfl (by kernel_rfl) ?_
  refine W.run D_ok 1 100 (by kernel_rfl) ?_
  have hv23 := Option.some.inj hv23
  subst hv23
  exact W.fs [] [0, 17] (by kernel_rfl)
  ) ?_
 (revert h; refine cond_rev (fun hc30 h => ?_) (fun hc30 h => ?_))
 ·refine CodeOk.ifT hc30 (by kernel_rfl) ?_
  (revert h; refine bind_rev fun r18 hx32 h => ?_)
  refine CodeOk.cutR (tl 20 [(2, V.str r18)]) [] mix (by
   refine W.run D_ok 1 100 (by kernel_rfl) ?_
   refine W.call0 (m_impl_SpellOf_ok a0 hx32) cok50 rfl (by kernel_rfl) ?_
   refine W.run D_ok 1 100 (by kernel_rfl) ?_
   exact W.fi (by kernel_rfl)
   ) ?_
  refine CodeOk.ret ?_
  have h := Option.some.inj h
  subst h
  exact Ends.gen [] (.inr rfl) (RetV.one rfl (OneR.tmp (t := 2) (r := V.str r18) (by kernel_rfl))) (by kernel_rfl) (by kernel_rfl) (by kernel_rfl)
 refine CodeOk.ifF hc30 (by kernel_rfl) ?_
 refine CodeOk.skip ?_
 refine cu D_ok mix 1 100 (tl 20 [(2, V.str [])]) [] (by kernel_rfl) ?_
 refine CodeOk.ret ?_
 have h := Option.some.inj h
 subst h
 exact Ends.gen [] (.inr rfl) (RetV.one rfl (OneR.tmp (t := 2) (r := V.str []) (by kernel_rfl))) (by kernel_rfl) (by kernel_rfl) (by kernel_rfl)

theorem m_impl_IsBlank_ok (a0 : Int) {r : Bool} (h : m_impl_IsBlank a0 = some r) :
    AC Tryd.prog (GS []) 91 [V.int a0] [] (V.bool r) [] := by
 rw [m_impl_IsBlank] at h
 refine AC.enter Tryd.func91 rfl ?_
 refine cu D_ok mix 1 100 (tl 9 [(0, V.int a0)]) [] (by kernel_rfl) ?_
 (revert h; refine bind_rev fun y1 hv2 h => ?_)
 refine CodeOk.cutR (tl 9 [(2, V.bool y1)]) [] mix (by
  refine W.run D_ok 3 100 (by kernel_rfl) ?_
  (revert hv2; refine cond_rev (fun hc3 hv2 => ?_) (fun hc3 hv2 => ?_))
  ·refine W.is 5 hc3 (by kernel_rfl) ?_
   refine W.run D_ok 4 100 (by kernel_rfl) ?_
   have hv2 := Option.some.inj hv2
   subst hv2
   exact W.fs [] [2] (by kernel_rfl)
  refine W.is 5 hc3 (by kernel_rfl) ?_
  refine W.run D_ok 4 100 (by kernel_rfl) ?_
  have hv2 := Option.some.inj hv2
  subst hv2
  exact W.fs [] [2] (by kernel_rfl)
  ) ?_
 refine CodeOk.ret ?_
 have h := Option.some.inj h
 subst h
 exact Ends.gen [] (.inr rfl) (RetV.one rfl (OneR.tmp (t := 2) (r := V.bool y1) (by kernel_rfl))) (by kernel_rfl) (by kernel_rfl) (by kernel_rfl)

theorem m_impl_byteAt_ok (a0 : List UInt8) (a1 : Int) {r : Int} (h : m_impl_byteAt a0 a1 = some r) :
    AC Tryd.prog (GS []) 92 [V.str a0, V.int a1] [] (V.int r) [] := by
 rw [m_impl_byteAt] at h
 refine AC.enter Tryd.func92 rfl ?_
 refine cu D_ok mix 1 100 (tl 15 [(0, V.str a0), (1, V.int a1)]) [] (by kernel_rfl) ?_
 refine CodeOk.seq' ?_
 (revert h; refine bind_rev fun r4 hx5 h => ?_)
 refine CodeOk.cutR (tl 15 [(0, V.str a0), (1, V.int a1), (10, V.bool (!r4))]) [] mix (by
  refine W.run D_ok 4 100 (by kernel_rfl) ?_
  refine W.call0 (m_impl_within_ok a1 0 (IntKind.wrap .i64 ((a0.length : Int) - 1)) hx5) cok38 rfl (by kernel_rfl) ?_
  refine W.run D_ok 1 100 (by kernel_rfl) ?_
  exact W.fi (by kernel_rfl)
  ) ?_
 (revert h; refine cond_rev (fun hc6 h => ?_) (fun hc6 h => ?_))
 ·refine CodeOk.ifT hc6 (by kernel_rfl) ?_
  refine cu D_ok mix 1 100 (tl 15 [(4, V.int (-1))]) [] (by kernel_rfl) ?_
  refine CodeOk.ret ?_
  have h := Option.some.inj h
  subst h
  exact Ends.gen [] (.inr rfl) (RetV.one rfl (OneR.tmp (t := 4) (r := V.int (-1)) (by kernel_rfl))) (by kernel_rfl) (by kernel_rfl) (by kernel_rfl)
 refine CodeOk.ifF hc6 (by kernel_rfl) ?_
 refine CodeOk.skip ?_
 (revert h; refine bind_rev fun b6 hx8 h => ?_)
 refine CodeOk.cutR (tl 15 [(4, V.int (IntKind.wrap .i64 ((b6).toNat : Int)))]) [] mix (by
  refine W.run D_ok 2 100 (by kernel_rfl) ?_
  refine W.ixS D_ok hx8 (by kernel_rfl) ?_
  refine W.run D_ok 2 100 (by kernel_rfl) ?_
  exact W.fi (by kernel_rfl)
  ) ?_
 refine CodeOk.ret ?_
 have h := Option.some.inj h
 subst h
 exact Ends.gen [] (.inr rfl) (RetV.one rfl (OneR.tmp (t := 4) (r := V.int (IntKind.wrap .i64 ((b6).toNat : Int))) (by kernel_rfl))) (by kernel_rfl) (by kernel_rfl) (by kernel_rfl)

theorem m_stringslite_IndexByte_ok (a0 : List UInt8) (a1 : Int) {r : Int} (h : m_stringslite_IndexByte a0 a1 = some r) :
    AC Tryd.prog (GS []) 161 [V.str a0, .c (.int .u8 a1)] [] (V.int r) [] := by
 rw [m_stringslite_IndexByte] at h
 refine AC.enter Tryd.func161 rfl ?_
 refine cu D_ok mix 1 100 (tl 8 [(0, V.str a0), (1, .c (.int .u8 a1))]) [] (by kernel_rfl) ?_
 refine CodeOk.cutR (tl 8 [(4, V.int (Go.Lib.indexByte a0 (Int.toNat a1).toUInt8))]) [] mix (by
  refine W.run D_ok 2 100 (by kernel_rfl) ?_
  refine W.ext (vs := [.string ⟨⟨a0⟩⟩, .int .u8 a1]) (ext178 _ _) (by kernel_rfl) ?_
  refine W.run D_ok 1 100 (by kernel_rfl) ?_
  exact W.fi (by kernel_rfl)
  ) ?_
 refine CodeOk.ret ?_
 have h := Option.some.inj h
 subst h
 exact Ends.gen [] (.inr rfl) (RetV.one rfl (OneR.tmp (t := 4) (r := V.int (Go.Lib.indexByte a0 (Int.toNat a1).toUInt8)) (by kernel_rfl))) (by kernel_rfl) (by kernel_rfl) (by kernel_rfl)

theorem m_strings_IndexByte_ok (a0 : List UInt8) (a1 : Int) {r : Int} (h : m_strings_IndexByte a0 a1 = some r) :
    AC Tryd.prog (GS []) 131 [V.str a0, .c (.int .u8 a1)] [] (V.int r) [] := by
 rw [m_strings_IndexByte] at h
 refine AC.enter Tryd.func131 rfl ?_
 refine cu D_ok mix 1 100 (tl 8 [(0, V.str a0), (1, .c (.int .u8 a1))]) [] (by kernel_rfl) ?_
 (revert h; refine bind_rev fun r2 hx2 h => ?_)
 refine CodeOk.cutR (tl 8 [(4, V.int r2)]) [] mix (by
  refine W.run D_ok 2 100 (by kernel_rfl) ?_
  refine W.call0 (m_stringslite_IndexByte_ok a0 a1 hx2) cok161 rfl (by kernel_rfl) ?_
  refine W.run D_ok 1 100 (by kernel_rfl) ?_
  exact W.fi (by kernel_rfl)
  ) ?_
 refine CodeOk.ret ?_
 have h := Option.some.inj h
 subst h
 exact Ends.gen [] (.inr rfl) (RetV.one rfl (OneR.tmp (t := 4) (r := V.int r2) (by kernel_rfl))) (by kernel_rfl) (by kernel_rfl) (by kernel_rfl)

theorem m_impl_IsDigit_ok (a0 : Int) {r : Bool} (h : m_impl_IsDigit a0 = some r) :
    AC Tryd.prog (GS []) 132 [V.int a0] [] (V.bool r) [] := by
 rw [m_impl_IsDigit] at h
 refine AC.enter Tryd.func132 rfl ?_
 refine cu D_ok mix 1 100 (tl 9 [(0, V.int a0)]) [] (by kernel_rfl) ?_
 (revert h; refine bind_rev fun y1 hv2 h => ?_)
 refine CodeOk.cutR (tl 9 [(2, V.bool y1)]) [] mix (by
  refine W.run D_ok 3 100 (by kernel_rfl) ?_
  (revert hv2; refine cond_rev (fun hc3 hv2 => ?_) (fun hc3 hv2 => ?_))
  ·refine W.is 5 hc3 (by kernel_rfl) ?_
   refine W.run D_ok 4 100 (by kernel_rfl) ?_
   have hv2 := Option.some.inj hv2
   subst hv2
   exact W.fs [] [2] (by kernel_rfl)
  refine W.is 5 hc3 (by kernel_rfl) ?_
  refine W.run D_ok 4 100 (by kernel_rfl) ?_
  have hv2 := Option.some.inj hv2
  subst hv2
  exact W.fs [] [2] (by kernel_rfl)
  ) ?_
 refine CodeOk.ret ?_
 have h := Option.some.inj h
 subst h
 exact Ends.gen [] (.inr rfl) (RetV.one rfl (OneR.tmp (t := 2) (r := V.bool y1) (by kernel_rfl))) (by kernel_rfl) (by kernel_rfl) (by kernel_rfl)

theorem m_impl_digitsEnd_ok (N : Nat) (a0 : List UInt8) (a1 : Int) {r : Int} (h : m_impl_digitsEnd N a0 a1 = some r) :
    AC Tryd.prog (GS []) 165 [V.str a0, V.int a1] [] (V.int r) [] := by
 rw [m_impl_digitsEnd] at h
 refine AC.enter Tryd.func165 rfl ?_
 refine cu D_ok mix 1 100 (tl 12 [(0, V.str a0), (1, V.int a1)]) [] (by kernel_rfl) ?_
 refine CodeOk.seq' ?_
 refine CodeOk.block' ?_
 refine CodeOk.loopJ (fun (⟨a0, a1⟩ : ((List UInt8) × Int)) => ⟨tl 12 [(0, V.str a0), (1, V.int a1)], []⟩) (fun n i => m_impl_digitsEnd_l1 N n i = some r) (n0 := N) (i0 := (a0, a1)) (Weak.sel [] [0, 1] (by kernel_rfl) (by kernel_rfl) (by kernel_rfl)) h (fun i h => by simp [m_impl_digitsEnd_l1] at h) ?_
 rintro n1 ⟨a0, a1⟩ h33 ih34
 rw [m_impl_digitsEnd_l1] at h33
 refine CodeOk.seq' ?_
 (revert h33; refine bind_rev fun r33 hx42 h33 => ?_)
 (revert h33; refine bind_rev fun r34 hx43 h33 => ?_)
 refine CodeOk.cutR (tl 12 [(0, V.str a0), (1, V.int a1), (8, V.bool r34)]) [] mix (by
  refine W.run D_ok 2 140 (by kernel_rfl) ?_
  refine W.call0 (m_impl_byteAt_ok a0 a1 hx42) cok92 rfl (by kernel_rfl) ?_
  refine W.call0 (m_impl_IsDigit_ok r33 hx43) cok132 rfl (by kernel_rfl) ?_
  exact W.fi (by kernel_rfl)
  ) ?_
 (revert h33; refine cond_rev (fun hc44 h33 => ?_) (fun hc44 h33 => ?_))
 ·refine CodeOk.ifT hc44 (by kernel_rfl) ?_
  refine CodeOk.skip ?_
  refine CodeOk.block' ?_
  refine ce D_ok mix 3 140 (tl 12 [(0, V.str a0), (1, V.int (IntKind.wrap .i64 (a1 + 1)))]) [] (by kernel_rfl) (fun st hw => ?_)
  exact ih34 (a0, (IntKind.wrap .i64 (a1 + 1))) h33 _ (hw.trans (Weak.sel [] [0, 1] (by kernel_rfl) (by kernel_rfl) (by kernel_rfl)))
 refine CodeOk.ifF hc44 (by kernel_rfl) ?_
 refine CodeOk.exit ?_
 refine cu D_ok mix 2 140 (tl 12 [(4, V.int a1)]) [] (by kernel_rfl) ?_
 refine CodeOk.ret ?_
 have h33 := Option.some.inj h33
 subst h33
 exact Ends.gen [] (.inr rfl) (RetV.one rfl (OneR.tmp (t := 4) (r := V.int a1) (by kernel_rfl))) (by kernel_rfl) (by kernel_rfl) (by kernel_rfl)

theorem m_impl_NumEnd_ok (N : Nat) (a0 : List UInt8) (a1 : Int) {r : Int} (h : m_impl_NumEnd N a0 a1 = some r) :
    AC Tryd.prog (GS []) 133 [V.str a0, V.int a1] [] (V.int r) [] := by
 rw [m_impl_NumEnd] at h
 refine AC.enter Tryd.func133 rfl ?_
 refine cu D_ok mix 1 100 (tl 71 [(0, V.str a0), (1, V.int a1)]) [] (by kernel_rfl) ?_
 refine CodeOk.seq' ?_
 (revert h; refine bind_rev fun r4 hx5 h => ?_)
 refine CodeOk.cutR (tl 71 [(0, V.str a0), (1, V.int a1), (17, V.bool (!r4))]) [] mix (by
  refine W.run D_ok 4 100 (by kernel_rfl) ?_
  refine W.call0 (m_impl_within_ok a1 0 (IntKind.wrap .i64 ((a0.length : Int) - 1)) hx5) cok38 rfl (by kernel_rfl) ?_
  refine W.run D_ok 1 100 (by kernel_rfl) ?_
  exact W.fi (by kernel_rfl)
  ) ?_
 (revert h; refine cond_rev (fun hc6 h => ?_) (fun hc6 h => ?_))
 ·refine CodeOk.ifT hc6 (by kernel_rfl) ?_
  refine cu D_ok mix 1 100 (tl 71 [(4, V.int (-1))]) [] (by kernel_rfl) ?_
  refine CodeOk.ret ?_
  have h := Option.some.inj h
  subst h
  exact Ends.gen [] (.inr rfl) (RetV.one rfl (OneR.tmp (t := 4) (r := V.int (-1)) (by kernel_rfl))) (by kernel_rfl) (by kernel_rfl) (by kernel_rfl)
 refine CodeOk.ifF hc6 (by kernel_rfl) ?_
 refine CodeOk.skip ?_
 (revert h; refine bind_rev fun r6 hx8 h => ?_)
 refine CodeOk.cutR (tl 71 [(0, V.str a0), (1, V.int a1), (5, V.int r6)]) [] mix (by
  refine W.run D_ok 2 100 (by kernel_rfl) ?_
  refine W.call0 (m_impl_digitsEnd_ok N a0 a1 hx8) cok165 rfl (by kernel_rfl) ?_
  refine W.run D_ok 1 100 (by kernel_rfl) ?_
  exact W.fi (by kernel_rfl)
  ) ?_
 refine cu D_ok mix 4 100 (tl 71 [(0, V.str a0), (5, V.int r6), (6, V.int (IntKind.wrap .i64 (r6 - a1)))]) [] (by kernel_rfl) ?_
 refine CodeOk.join (fun (⟨a0, y11, y12⟩ : ((List UInt8) × Int × Int)) => ⟨tl 71 [(0, V.str a0), (5, V.int y11), (6, V.int y12)], []⟩) (fun i => m_impl_NumEnd_k1 N i = some r) ?_ ?_
 · rintro ⟨a0, y11, y12⟩ h14
   rw [m_impl_NumEnd_k1] at h14
   refine CodeOk.seq' ?_
   refine cu D_ok mix 2 100 (tl 71 [(0, V.str a0), (5, V.int y11), (40, V.bool (y12 == 0))]) [] (by kernel_rfl) ?_
   (revert h14; refine cond_rev (fun hc16 h14 => ?_) (fun hc16 h14 => ?_))
   ·refine CodeOk.ifT hc16 (by kernel_rfl) ?_
    refine cu D_ok mix 1 100 (tl 71 [(4, V.int (-1))]) [] (by kernel_rfl) ?_
    refine CodeOk.ret ?_
    have h14 := Option.some.inj h14
    subst h14
    exact Ends.gen [] (.inr rfl) (RetV.one rfl (OneR.tmp (t := 4) (r := V.int (-1)) (by kernel_rfl))) (by kernel_rfl) (by kernel_rfl) (by kernel_rfl)
   refine CodeOk.ifF hc16 (by kernel_rfl) ?_
   refine CodeOk.skip ?_
   refine CodeOk.join (fun (y11 : Int) => ⟨tl 71 [(5, V.int y11)], []⟩) (fun i => m_impl_NumEnd_k2 N i = some r) ?_ ?_
   · rintro y11 h40
     rw [m_impl_NumEnd_k2] at h40
     refine cu D_ok mix 2 100 (tl 71 [(4, V.int y11)]) [] (by kernel_rfl) ?_
     refine CodeOk.ret ?_
     have h40 := Option.some.inj h40
     subst h40
     exact Ends.gen [] (.inr rfl) (RetV.one rfl (OneR.tmp (t := 4) (r := V.int y11) (by kernel_rfl))) (by kernel_rfl) (by kernel_rfl) (by kernel_rfl)
   intro hk41
   (revert h14; refine bind_rev fun r26 hx43 h14 => ?_)
   refine CodeOk.cutR (tl 71 [(0, V.str a0), (5, V.int y11), (8, V.int r26)]) [] mix (by
    refine W.run D_ok 2 100 (by kernel_rfl) ?_
    refine W.call0 (m_impl_byteAt_ok a0 y11 hx43) cok92 rfl (by kernel_rfl) ?_
    refine W.run D_ok 1 100 (by kernel_rfl) ?_
    exact W.fi (by kernel_rfl)
    ) ?_
   (revert h14; refine bind_rev fun y27 hv45 h14 => ?_)
   refine CodeOk.cutR (tl 71 [(0, V.str a0), (5, V.int y11), (49, V.bool y27)]) [] mix (by
    refine W.run D_ok 3 100 (by kernel_rfl) ?_
    (revert hv45; refine cond_rev (fun hc46 hv45 => ?_) (fun hc46 hv45 => ?_))
    ·refine W.is 46 hc46 (by kernel_rfl) ?_
     refine W.run D_ok 3 100 (by kernel_rfl) ?_
     have hv45 := Option.some.inj hv45
     subst hv45
     exact W.fs [] [0, 5, 49] (by kernel_rfl)
    refine W.is 46 hc46 (by kernel_rfl) ?_
    refine W.run D_ok 3 100 (by kernel_rfl) ?_
    have hv45 := Option.some.inj hv45
    subst hv45
    exact W.fs [] [0, 5, 49] (by kernel_rfl)
    ) ?_
   (revert h14; refine cond_rev (fun hc47 h14 => ?_) (fun hc47 h14 => ?_))
   ·refine CodeOk.ifT hc47 (by kernel_rfl) ?_
    refine cu D_ok mix 3 100 (tl 71 [(0, V.str a0), (5, V.int y11), (9, V.int (IntKind.wrap .i64 (y11 + 1)))]) [] (by kernel_rfl) ?_
    refine CodeOk.join (fun (⟨a0, y11, y31⟩ : ((List UInt8) × Int × Int)) => ⟨tl 71 [(0, V.str a0), (5, V.int y11), (9, V.int y31)], []⟩) (fun i => m_impl_NumEnd_k3 N i = some r) ?_ ?_
    · rintro ⟨a0, y11, y31⟩ h54
      rw [m_impl_NumEnd_k3] at h54
      (revert h54; refine bind_rev fun r33 hx56 h54 => ?_)
      refine CodeOk.cutR (tl 71 [(5, V.int y11), (9, V.int y31), (11, V.int r33)]) [] mix (by
       refine W.run D_ok 2 100 (by kernel_rfl) ?_
       refine W.call0 (m_impl_digitsEnd_ok N a0 y31 hx56) cok165 rfl (by kernel_rfl) ?_
       refine W.run D_ok 1 100 (by kernel_rfl) ?_
       exact W.fi (by kernel_rfl)
       ) ?_
      refine cu D_ok mix 3 100 (tl 71 [(5, V.int y11), (11, V.int r33), (68, V.bool (decide (r33 > y31)))]) [] (by kernel_rfl) ?_
      (revert h54; refine cond_rev (fun hc57 h54 => ?_) (fun hc57 h54 => ?_))
      ·refine CodeOk.ifT hc57 (by kernel_rfl) ?_
       refine cu D_ok mix 2 100 (tl 71 [(4, V.int r33)]) [] (by kernel_rfl) ?_
       refine CodeOk.ret ?_
       have h54 := Option.some.inj h54
       subst h54
       exact Ends.gen [] (.inr rfl) (RetV.one rfl (OneR.tmp (t := 4) (r := V.int r33) (by kernel_rfl))) (by kernel_rfl) (by kernel_rfl) (by kernel_rfl)
      refine CodeOk.ifF hc57 (by kernel_rfl) ?_
      refine CodeOk.skip ?_
      exact hk41 y11 h54 _ (Weak.sel [] [5] (by kernel_rfl) (by kernel_rfl) (by kernel_rfl))
    intro hk58
    (revert h14; refine bind_rev fun r35 hx60 h14 => ?_)
    refine CodeOk.cutR (tl 71 [(0, V.str a0), (5, V.int y11), (9, V.int (IntKind.wrap .i64 (y11 + 1))), (10, V.int r35)]) [] mix (by
     refine W.run D_ok 2 100 (by kernel_rfl) ?_
     refine W.call0 (m_impl_byteAt_ok a0 (IntKind.wrap .i64 (y11 + 1)) hx60) cok92 rfl (by kernel_rfl) ?_
     refine W.run D_ok 1 100 (by kernel_rfl) ?_
     exact W.fi (by kernel_rfl)
     ) ?_
    (revert h14; refine bind_rev fun y36 hv62 h14 => ?_)
    refine CodeOk.cutR (tl 71 [(0, V.str a0), (5, V.int y11), (9, V.int (IntKind.wrap .i64 (y11 + 1))), (60, V.bool y36)]) [] mix (by
     refine W.run D_ok 3 100 (by kernel_rfl) ?_
     (revert hv62; refine cond_rev (fun hc63 hv62 => ?_) (fun hc63 hv62 => ?_))
     ·refine W.is 57 hc63 (by kernel_rfl) ?_
      refine W.run D_ok 3 100 (by kernel_rfl) ?_
      have hv62 := Option.some.inj hv62
      subst hv62
      exact W.fs [] [0, 5, 9, 60] (by kernel_rfl)
     refine W.is 57 hc63 (by kernel_rfl) ?_
     refine W.run D_ok 3 100 (by kernel_rfl) ?_
     have hv62 := Option.some.inj hv62
     subst hv62
     exact W.fs [] [0, 5, 9, 60] (by kernel_rfl)
     ) ?_
    (revert h14; refine cond_rev (fun hc64 h14 => ?_) (fun hc64 h14 => ?_))
    ·refine CodeOk.ifT hc64 (by kernel_rfl) ?_
     refine ce D_ok mix 3 100 (tl 71 [(0, V.str a0), (5, V.int y11), (9, V.int (IntKind.wrap .i64 ((IntKind.wrap .i64 (y11 + 1)) + 1)))]) [] (by kernel_rfl) (fun st hw => ?_)
     exact hk58 (a0, y11, (IntKind.wrap .i64 ((IntKind.wrap .i64 (y11 + 1)) + 1))) h14 _ (hw.trans (Weak.sel [] [0, 5, 9] (by kernel_rfl) (by kernel_rfl) (by kernel_rfl)))
    refine CodeOk.ifF hc64 (by kernel_rfl) ?_
    refine CodeOk.skip ?_
    exact hk58 (a0, y11, (IntKind.wrap .i64 (y11 + 1))) h14 _ (Weak.sel [] [0, 5, 9] (by kernel_rfl) (by kernel_rfl) (by kernel_rfl))
   refine CodeOk.ifF hc47 (by kernel_rfl) ?_
   refine CodeOk.skip ?_
   exact hk41 y11 h14 _ (Weak.sel [] [5] (by kernel_rfl) (by kernel_rfl) (by kernel_rfl))
 intro hk65
 (revert h; refine bind_rev fun r38 hx67 h => ?_)
 refine CodeOk.cutR (tl 71 [(0, V.str a0), (5, V.int r6), (6, V.int (IntKind.wrap .i64 (r6 - a1))), (27, V.bool (r38 == 46))]) [] mix (by
  refine W.run D_ok 2 100 (by kernel_rfl) ?_
  refine W.call0 (m_impl_byteAt_ok a0 r6 hx67) cok92 rfl (by kernel_rfl) ?_
  refine W.run D_ok 1 100 (by kernel_rfl) ?_
  exact W.fi (by kernel_rfl)
  ) ?_
 (revert h; refine cond_rev (fun hc68 h => ?_) (fun hc68 h => ?_))
 ·refine CodeOk.ifT hc68 (by kernel_rfl) ?_
  (revert h; refine bind_rev fun r40 hx70 h => ?_)
  refine CodeOk.cutR (tl 71 [(0, V.str a0), (5, V.int r6), (6, V.int (IntKind.wrap .i64 (r6 - a1))), (7, V.int r40)]) [] mix (by
   refine W.run D_ok 3 100 (by kernel_rfl) ?_
   refine W.call0 (m_impl_digitsEnd_ok N a0 (IntKind.wrap .i64 (r6 + 1)) hx70) cok165 rfl (by kernel_rfl) ?_
   refine W.run D_ok 1 100 (by kernel_rfl) ?_
   exact W.fi (by kernel_rfl)
   ) ?_
  refine cu D_ok mix 7 100 (tl 71 [(0, V.str a0), (6, V.int (IntKind.wrap .i64 ((IntKind.wrap .i64 (r6 - a1)) + (IntKind.wrap .i64 ((IntKind.wrap .i64 (r40 - r6)) - 1))))), (7, V.int r40)]) [] (by kernel_rfl) ?_
  refine ce D_ok mix 2 100 (tl 71 [(0, V.str a0), (5, V.int r40), (6, V.int (IntKind.wrap .i64 ((IntKind.wrap .i64 (r6 - a1)) + (IntKind.wrap .i64 ((IntKind.wrap .i64 (r40 - r6)) - 1)))))]) [] (by kernel_rfl) (fun st hw => ?_)
  exact hk65 (a0, r40, (IntKind.wrap .i64 ((IntKind.wrap .i64 (r6 - a1)) + (IntKind.wrap .i64 ((IntKind.wrap .i64 (r40 - r6)) - 1))))) h _ (hw.trans (Weak.sel [] [0, 5, 6] (by kernel_rfl) (by kernel_rfl) (by kernel_rfl)))
 refine CodeOk.ifF hc68 (by kernel_rfl) ?_
 refine CodeOk.skip ?_
 exact hk65 (a0, r6, (IntKind.wrap .i64 (r6 - a1))) h _ (Weak.sel [] [0, 5, 6] (by kernel_rfl) (by kernel_rfl) (by kernel_rfl))

theorem m_impl_quotedEnd_ok (N : Nat) (a0 : List UInt8) (a1 : Int) (a2 : Int) {r : Int} (h : m_impl_quotedEnd N a0 a1 a2 = some r) :
    AC Tryd.prog (GS []) 166 [V.str a0, V.int a1, V.int a2] [] (V.int r) [] := by
 rw [m_impl_quotedEnd] at h
 refine AC.enter Tryd.func166 rfl ?_
 refine cu D_ok mix 1 100 (tl 50 [(0, V.str a0), (1, V.int a1), (2, V.int a2)]) [] (by kernel_rfl) ?_
 refine CodeOk.seq' ?_
 (revert h; refine bind_rev fun r4 hx5 h => ?_)
 refine CodeOk.cutR (tl 50 [(0, V.str a0), (1, V.int a1), (2, V.int a2), (12, V.bool (r4 != a2))]) [] mix (by
  refine W.run D_ok 2 100 (by kernel_rfl) ?_
  refine W.call0 (m_impl_byteAt_ok a0 a1 hx5) cok92 rfl (by kernel_rfl) ?_
  refine W.run D_ok 2 100 (by kernel_rfl) ?_
  exact W.fi (by kernel_rfl)
  ) ?_
 (revert h; refine cond_rev (fun hc6 h => ?_) (fun hc6 h => ?_))
 ·refine CodeOk.ifT hc6 (by kernel_rfl) ?_
  refine cu D_ok mix 1 100 (tl 50 [(6, V.int (-1))]) [] (by kernel_rfl) ?_
  refine CodeOk.ret ?_
  have h := Option.some.inj h
  subst h
  exact Ends.gen [] (.inr rfl) (RetV.one rfl (OneR.tmp (t := 6) (r := V.int (-1)) (by kernel_rfl))) (by kernel_rfl) (by kernel_rfl) (by kernel_rfl)
 refine CodeOk.ifF hc6 (by kernel_rfl) ?_
 refine CodeOk.skip ?_
 refine CodeOk.seq' ?_
 refine cu D_ok mix 3 100 (tl 50 [(0, V.str a0), (2, V.int a2), (7, V.int (IntKind.wrap .i64 (a1 + 1)))]) [] (by kernel_rfl) ?_
 refine CodeOk.block' ?_
 refine CodeOk.loopJ (fun (⟨a0, a2, y91⟩ : ((List UInt8) × Int × Int)) => ⟨tl 50 [(0, V.str a0), (2, V.int a2), (7, V.int y91)], []⟩) (fun n i => m_impl_quotedEnd_l1 N n i = some r) (n0 := N) (i0 := (a0, a2, (IntKind.wrap .i64 (a1 + 1)))) (Weak.sel [] [0, 2, 7] (by kernel_rfl) (by kernel_rfl) (by kernel_rfl)) h (fun i h => by simp [m_impl_quotedEnd_l1] at h) ?_
 rintro n1 ⟨a0, a2, y91⟩ h189 ih190
 rw [m_impl_quotedEnd_l1] at h189
 refine CodeOk.seq' ?_
 (revert h189; refine bind_rev fun y118 hv199 h189 => ?_)
 refine CodeOk.cutR (tl 50 [(0, V.str a0), (2, V.int a2), (7, V.int y91), (24, V.bool y118)]) [] mix (by
  refine W.run D_ok 5 160 (by kernel_rfl) ?_
  (revert hv199; refine cond_rev (fun hc200 hv199 => ?_) (fun hc200 hv199 => ?_))
  ·refine W.is 19 hc200 (by kernel_rfl) ?_
   refine W.run D_ok 2 160 (by kernel_rfl) ?_
   (revert hv199; refine bind_rev fun b119 hx201 hv199 => ?_)
   refine W.ixS D_ok hx201 (by kernel_rfl) ?_
   refine W.run D_ok 2 160 (by kernel_rfl) ?_
   have hv199 := Option.some.inj hv199
   subst hv199
   exact W.fs [] [0, 2, 7, 24] (by kernel_rfl)
  refine W.is 19 hc200 (by kernel_rfl) ?_
  refine W.run D_ok 5 160 (by kernel_rfl) ?_
  have hv199 := Option.some.inj hv199
  subst hv199
  exact W.fs [] [0, 2, 7, 24] (by kernel_rfl)
  ) ?_
 (revert h189; refine cond_rev (fun hc202 h189 => ?_) (fun hc202 h189 => ?_))
 ·refine CodeOk.ifT hc202 (by kernel_rfl) ?_
  refine CodeOk.skip ?_
  refine CodeOk.join (fun (⟨a0, a2, y127⟩ : ((List UInt8) × Int × Int)) => ⟨tl 50 [(0, V.str a0), (2, V.int a2), (7, V.int y127)], []⟩) (fun i => m_impl_quotedEnd_k2 N (m_impl_quotedEnd_l1 N n1) i = some r) ?_ ?_
  · rintro ⟨a0, a2, y127⟩ h214
    rw [m_impl_quotedEnd_k2] at h214
    refine ce D_ok mix 3 160 (tl 50 [(0, V.str a0), (2, V.int a2), (7, V.int (IntKind.wrap .i64 (y127 + 1)))]) [] (by kernel_rfl) (fun st hw => ?_)
    exact ih190 (a0, a2, (IntKind.wrap .i64 (y127 + 1))) h214 _ (hw.trans (Weak.sel [] [0, 2, 7] (by kernel_rfl) (by kernel_rfl) (by kernel_rfl)))
  intro hk215
  refine CodeOk.block' ?_
  refine CodeOk.block' ?_
  (revert h189; refine bind_rev fun b129 hx217 h189 => ?_)
  refine CodeOk.cutR (tl 50 [(0, V.str a0), (2, V.int a2), (7, V.int y91), (27, V.bool ((IntKind.wrap .i64 ((b129).toNat : Int)) == a2))]) [] mix (by
   refine W.run D_ok 2 160 (by kernel_rfl) ?_
   refine W.ixS D_ok hx217 (by kernel_rfl) ?_
   refine W.run D_ok 4 160 (by kernel_rfl) ?_
   exact W.fi (by kernel_rfl)
   ) ?_
  (revert h189; refine cond_rev (fun hc218 h189 => ?_) (fun hc218 h189 => ?_))
  ·refine CodeOk.ifT hc218 (by kernel_rfl) ?_
   refine cu D_ok mix 3 160 (tl 50 [(6, V.int (IntKind.wrap .i64 (y91 + 1)))]) [] (by kernel_rfl) ?_
   refine CodeOk.ret ?_
   have h189 := Option.some.inj h189
   subst h189
   exact Ends.gen [] (.inr rfl) (RetV.one rfl (OneR.tmp (t := 6) (r := V.int (IntKind.wrap .i64 (y91 + 1))) (by kernel_rfl))) (by kernel_rfl) (by kernel_rfl) (by kernel_rfl)
  refine CodeOk.ifF hc218 (by kernel_rfl) ?_
  (revert h189; refine bind_rev fun y132 hv222 h189 => ?_)
  refine CodeOk.cutR (tl 50 [(0, V.str a0), (2, V.int a2), (7, V.int y91), (36, V.bool y132)]) [] mix (by
   refine W.run D_ok 2 160 (by kernel_rfl) ?_
   (revert hv222; refine bind_rev fun b133 hx223 hv222 => ?_)
   refine W.ixS D_ok hx223 (by kernel_rfl) ?_
   refine W.run D_ok 2 160 (by kernel_rfl) ?_
   (revert hv222; refine cond_rev (fun hc224 hv222 => ?_) (fun hc224 hv222 => ?_))
   ·refine W.is 41 hc224 (by kernel_rfl) ?_
    refine W.run D_ok 3 160 (by kernel_rfl) ?_
    (revert hv222; refine bind_rev fun r134 hx225 hv222 => ?_)
    refine W.call0 (m_impl_byteAt_ok a0 (IntKind.wrap .i64 (y91 + 1)) hx225) cok92 rfl (by kernel_rfl) ?_
    refine W.run D_ok 3 160 (by kernel_rfl) ?_
    have hv222 := Option.some.inj hv222
    subst hv222
    exact W.fs [] [0, 2, 7, 36] (by kernel_rfl)
   refine W.is 41 hc224 (by kernel_rfl) ?_
   refine W.run D_ok 7 160 (by kernel_rfl) ?_
   have hv222 := Option.some.inj hv222
   subst hv222
   exact W.fs [] [0, 2, 7, 36] (by kernel_rfl)
   ) ?_
  (revert h189; refine cond_rev (fun hc226 h189 => ?_) (fun hc226 h189 => ?_))
  ·refine CodeOk.ifT hc226 (by kernel_rfl) ?_
   refine ce D_ok mix 3 160 (tl 50 [(0, V.str a0), (2, V.int a2), (7, V.int (IntKind.wrap .i64 (y91 + 1)))]) [] (by kernel_rfl) (fun st hw => ?_)
   exact hk215 (a0, a2, (IntKind.wrap .i64 (y91 + 1))) h189 _ (hw.trans (Weak.sel [] [0, 2, 7] (by kernel_rfl) (by kernel_rfl) (by kernel_rfl)))
  refine CodeOk.ifF hc226 (by kernel_rfl) ?_
  refine CodeOk.skip ?_
  exact hk215 (a0, a2, y91) h189 _ (Weak.sel [] [0, 2, 7] (by kernel_rfl) (by kernel_rfl) (by kernel_rfl))
 refine CodeOk.ifF hc202 (by kernel_rfl) ?_
 refine CodeOk.exit ?_
 refine cu D_ok mix 1 160 (tl 50 [(6, V.int (-1))]) [] (by kernel_rfl) ?_
 refine CodeOk.ret ?_
 have h189 := Option.some.inj h189
 subst h189
 exact Ends.gen [] (.inr rfl) (RetV.one rfl (OneR.tmp (t := 6) (r := V.int (-1)) (by kernel_rfl))) (by kernel_rfl) (by kernel_rfl) (by kernel_rfl)

theorem m_impl_StrEnd_ok (N : Nat) (a0 : List UInt8) (a1 : Int) {r : Int} (h : m_impl_StrEnd N a0 a1 = some r) :
    AC Tryd.prog (GS []) 134 [V.str a0, V.int a1] [] (V.int r) [] := by
 rw [m_impl_StrEnd] at h
 refine AC.enter Tryd.func134 rfl ?_
 refine cu D_ok mix 1 100 (tl 8 [(0, V.str a0), (1, V.int a1)]) [] (by kernel_rfl) ?_
 (revert h; refine bind_rev fun r2 hx2 h => ?_)
 refine CodeOk.cutR (tl 8 [(4, V.int r2)]) [] mix (by
  refine W.run D_ok 2 100 (by kernel_rfl) ?_
  refine W.call0 (m_impl_quotedEnd_ok N a0 a1 34 hx2) cok166 rfl (by kernel_rfl) ?_
  refine W.run D_ok 1 100 (by kernel_rfl) ?_
  exact W.fi (by kernel_rfl)
  ) ?_
 refine CodeOk.ret ?_
 have h := Option.some.inj h
 subst h
 exact Ends.gen [] (.inr rfl) (RetV.one rfl (OneR.tmp (t := 4) (r := V.int r2) (by kernel_rfl))) (by kernel_rfl) (by kernel_rfl) (by kernel_rfl)

theorem m_impl_EndsOperand_ok (a0 : Int) {r : Bool} (h : m_impl_EndsOperand a0 = some r) :
    AC Tryd.prog (GS []) 135 [V.int a0] [] (V.bool r) [] := by
 rw [m_impl_EndsOperand] at h
 refine AC.enter Tryd.func135 rfl ?_
 refine cu D_ok mix 1 100 (tl 14 [(0, V.int a0)]) [] (by kernel_rfl) ?_
 refine CodeOk.seq' ?_
 refine cu D_ok mix 1 100 (tl 14 [(3, V.int a0)]) [] (by kernel_rfl) ?_
 refine CodeOk.block' ?_
 refine CodeOk.join (fun (y2 : Bool) => ⟨tl 14 [(4, V.bool y2)], []⟩) (fun i => m_impl_EndsOperand_k1 i = some r) ?_ ?_
 · rintro y2 h28
   rw [m_impl_EndsOperand_k1] at h28
   (revert h28; refine cond_rev (fun hc29 h28 => ?_) (fun hc29 h28 => ?_))
   ·refine CodeOk.ifT hc29 (by kernel_rfl) ?_
    refine cu D_ok mix 1 100 (tl 14 [(2, V.bool true)]) [] (by kernel_rfl) ?_
    refine CodeOk.ret ?_
    have h28 := Option.some.inj h28
    subst h28
    exact Ends.gen [] (.inr rfl) (RetV.one rfl (OneR.tmp (t := 2) (r := V.bool true) (by kernel_rfl))) (by kernel_rfl) (by kernel_rfl) (by kernel_rfl)
   refine CodeOk.ifF hc29 (by kernel_rfl) ?_
   refine CodeOk.skip ?_
   refine cu D_ok mix 1 100 (tl 14 [(2, V.bool false)]) [] (by kernel_rfl) ?_
   refine CodeOk.ret ?_
   have h28 := Option.some.inj h28
   subst h28
   exact Ends.gen [] (.inr rfl) (RetV.one rfl (OneR.tmp (t := 2) (r := V.bool false) (by kernel_rfl))) (by kernel_rfl) (by kernel_rfl) (by kernel_rfl)
 intro hk30
 refine cu D_ok mix 2 100 (tl 14 [(3, V.int a0), (4, V.bool (a0 == 3))]) [] (by kernel_rfl) ?_
 (revert h; refine cond_rev (fun hc31 h => ?_) (fun hc31 h => ?_))
 ·refine CodeOk.ifT hc31 (by kernel_rfl) ?_
  refine CodeOk.skip ?_
  exact hk30 (a0 == 3) h _ (Weak.sel [] [4] (by kernel_rfl) (by kernel_rfl) (by kernel_rfl))
 refine CodeOk.ifF hc31 (by kernel_rfl) ?_
 refine cu D_ok mix 2 100 (tl 14 [(3, V.int a0), (4, V.bool (a0 == 4))]) [] (by kernel_rfl) ?_
 (revert h; refine cond_rev (fun hc32 h => ?_) (fun hc32 h => ?_))
 ·refine CodeOk.ifT hc32 (by kernel_rfl) ?_
  refine CodeOk.skip ?_
  exact hk30 (a0 == 4) h _ (Weak.sel [] [4] (by kernel_rfl) (by kernel_rfl) (by kernel_rfl))
 refine CodeOk.ifF hc32 (by kernel_rfl) ?_
 refine cu D_ok mix 2 100 (tl 14 [(3, V.int a0), (4, V.bool (a0 == 5))]) [] (by kernel_rfl) ?_
 (revert h; refine cond_rev (fun hc33 h => ?_) (fun hc33 h => ?_))
 ·refine CodeOk.ifT hc33 (by kernel_rfl) ?_
  refine CodeOk.skip ?_
  exact hk30 (a0 == 5) h _ (Weak.sel [] [4] (by kernel_rfl) (by kernel_rfl) (by kernel_rfl))
 refine CodeOk.ifF hc33 (by kernel_rfl) ?_
 refine cu D_ok mix 2 100 (tl 14 [(3, V.int a0), (4, V.bool (a0 == 6))]) [] (by kernel_rfl) ?_
 (revert h; refine cond_rev (fun hc34 h => ?_) (fun hc34 h => ?_))
 ·refine CodeOk.ifT hc34 (by kernel_rfl) ?_
  refine CodeOk.skip ?_
  exact hk30 (a0 == 6) h _ (Weak.sel [] [4] (by kernel_rfl) (by kernel_rfl) (by kernel_rfl))
 refine CodeOk.ifF hc34 (by kernel_rfl) ?_
 refine cu D_ok mix 2 100 (tl 14 [(3, V.int a0), (4, V.bool (a0 == 8))]) [] (by kernel_rfl) ?_
 (revert h; refine cond_rev (fun hc35 h => ?_) (fun hc35 h => ?_))
 ·refine CodeOk.ifT hc35 (by kernel_rfl) ?_
  refine CodeOk.skip ?_
  exact hk30 (a0 == 8) h _ (Weak.sel [] [4] (by kernel_rfl) (by kernel_rfl) (by kernel_rfl))
 refine CodeOk.ifF hc35 (by kernel_rfl) ?_
 refine cu D_ok mix 2 100 (tl 14 [(3, V.int a0), (4, V.bool (a0 == 33))]) [] (by kernel_rfl) ?_
 (revert h; refine cond_rev (fun hc36 h => ?_) (fun hc36 h => ?_))
 ·refine CodeOk.ifT hc36 (by kernel_rfl) ?_
  refine CodeOk.skip ?_
  exact hk30 (a0 == 33) h _ (Weak.sel [] [4] (by kernel_rfl) (by kernel_rfl) (by kernel_rfl))
 refine CodeOk.ifF hc36 (by kernel_rfl) ?_
 refine cu D_ok mix 2 100 (tl 14 [(3, V.int a0), (4, V.bool (a0 == 35))]) [] (by kernel_rfl) ?_
 (revert h; refine cond_rev (fun hc37 h => ?_) (fun hc37 h => ?_))
 ·refine CodeOk.ifT hc37 (by kernel_rfl) ?_
  refine CodeOk.skip ?_
  exact hk30 (a0 == 35) h _ (Weak.sel [] [4] (by kernel_rfl) (by kernel_rfl) (by kernel_rfl))
 refine CodeOk.ifF hc37 (by kernel_rfl) ?_
 refine cu D_ok mix 2 100 (tl 14 [(3, V.int a0), (4, V.bool (a0 == 51))]) [] (by kernel_rfl) ?_
 (revert h; refine cond_rev (fun hc38 h => ?_) (fun hc38 h => ?_))
 ·refine CodeOk.ifT hc38 (by kernel_rfl) ?_
  refine CodeOk.skip ?_
  exact hk30 (a0 == 51) h _ (Weak.sel [] [4] (by kernel_rfl) (by kernel_rfl) (by kernel_rfl))
 refine CodeOk.ifF hc38 (by kernel_rfl) ?_
 refine ce D_ok mix 2 100 (tl 14 [(4, V.bool (a0 == 52))]) [] (by kernel_rfl) (fun st hw => ?_)
 exact hk30 (a0 == 52) h _ (hw.trans (Weak.sel [] [4] (by kernel_rfl) (by kernel_rfl) (by kernel_rfl)))

theorem m_impl_EreEnd_ok (N : Nat) (a0 : List UInt8) (a1 : Int) {r : Int} (h : m_impl_EreEnd N a0 a1 = some r) :
    AC Tryd.prog (GS []) 136 [V.str a0, V.int a1] [] (V.int r) [] := by
 rw [m_impl_EreEnd] at h
 refine AC.enter Tryd.func136 rfl ?_
 refine cu D_ok mix 1 100 (tl 14 [(0, V.str a0), (1, V.int a1)]) [] (by kernel_rfl) ?_
 (revert h; refine bind_rev fun r2 hx2 h => ?_)
 refine CodeOk.cutR (tl 14 [(1, V.int a1), (5, V.int r2)]) [] mix (by
  refine W.run D_ok 2 100 (by kernel_rfl) ?_
  refine W.call0 (m_impl_quotedEnd_ok N a0 a1 47 hx2) cok166 rfl (by kernel_rfl) ?_
  refine W.run D_ok 1 100 (by kernel_rfl) ?_
  exact W.fi (by kernel_rfl)
  ) ?_
 refine CodeOk.seq' ?_
 refine cu D_ok mix 4 100 (tl 14 [(5, V.int r2), (12, V.bool (r2 == (IntKind.wrap .i64 (a1 + 2))))]) [] (by kernel_rfl) ?_
 (revert h; refine cond_rev (fun hc4 h => ?_) (fun hc4 h => ?_))
 ·refine CodeOk.ifT hc4 (by kernel_rfl) ?_
  refine cu D_ok mix 1 100 (tl 14 [(4, V.int (-1))]) [] (by kernel_rfl) ?_
  refine CodeOk.ret ?_
  have h := Option.some.inj h
  subst h
  exact Ends.gen [] (.inr rfl) (RetV.one rfl (OneR.tmp (t := 4) (r := V.int (-1)) (by kernel_rfl))) (by kernel_rfl) (by kernel_rfl) (by kernel_rfl)
 refine CodeOk.ifF hc4 (by kernel_rfl) ?_
 refine CodeOk.skip ?_
 refine cu D_ok mix 2 100 (tl 14 [(4, V.int r2)]) [] (by kernel_rfl) ?_
 refine CodeOk.ret ?_
 have h := Option.some.inj h
 subst h
 exact Ends.gen [] (.inr rfl) (RetV.one rfl (OneR.tmp (t := 4) (r := V.int r2) (by kernel_rfl))) (by kernel_rfl) (by kernel_rfl) (by kernel_rfl)

theorem m_impl_IsLetter_ok (a0 : Int) {r : Bool} (h : m_impl_IsLetter a0 = some r) :
    AC Tryd.prog (GS []) 137 [V.int a0] [] (V.bool r) [] := by
 rw [m_impl_IsLetter] at h
 refine AC.enter Tryd.func137 rfl ?_
 refine cu D_ok mix 1 100 (tl 21 [(0, V.int a0)]) [] (by kernel_rfl) ?_
 (revert h; refine bind_rev fun y1 hv7 h => ?_)
 refine CodeOk.cutR (tl 21 [(2, V.bool y1)]) [] mix (by
  refine W.run D_ok 3 100 (by kernel_rfl) ?_
  (revert hv7; refine cond_rev (fun hc8 hv7 => ?_) (fun hc8 hv7 => ?_))
  ·refine W.is 5 hc8 (by kernel_rfl) ?_
   refine W.run D_ok 4 100 (by kernel_rfl) ?_
   (revert hv7; refine cond_rev (fun hc9 hv7 => ?_) (fun hc9 hv7 => ?_))
   ·refine W.is 9 hc9 (by kernel_rfl) ?_
    refine W.run D_ok 12 100 (by kernel_rfl) ?_
    have hv7 := Option.some.inj hv7
    subst hv7
    exact W.fs [] [2] (by kernel_rfl)
   refine W.is 9 hc9 (by kernel_rfl) ?_
   refine W.run D_ok 3 100 (by kernel_rfl) ?_
   (revert hv7; refine cond_rev (fun hc10 hv7 => ?_) (fun hc10 hv7 => ?_))
   ·refine W.is 12 hc10 (by kernel_rfl) ?_
    refine W.run D_ok 5 100 (by kernel_rfl) ?_
    (revert hv7; refine cond_rev (fun hc11 hv7 => ?_) (fun hc11 hv7 => ?_))
    ·refine W.is 17 hc11 (by kernel_rfl) ?_
     refine W.run D_ok 4 100 (by kernel_rfl) ?_
     have hv7 := Option.some.inj hv7
     subst hv7
     exact W.fs [] [2] (by kernel_rfl)
    refine W.is 17 hc11 (by kernel_rfl) ?_
    refine W.run D_ok 4 100 (by kernel_rfl) ?_
    have hv7 := Option.some.inj hv7
    subst hv7
    exact W.fs [] [2] (by kernel_rfl)
   refine W.is 12 hc10 (by kernel_rfl) ?_
   refine W.run D_ok 9 100 (by kernel_rfl) ?_
   have hv7 := Option.some.inj hv7
   subst hv7
   exact W.fs [] [2] (by kernel_rfl)
  refine W.is 5 hc8 (by kernel_rfl) ?_
  refine W.run D_ok 7 100 (by kernel_rfl) ?_
  (revert hv7; refine cond_rev (fun hc12 hv7 => ?_) (fun hc12 hv7 => ?_))
  ·refine W.is 12 hc12 (by kernel_rfl) ?_
   refine W.run D_ok 5 100 (by kernel_rfl) ?_
   (revert hv7; refine cond_rev (fun hc13 hv7 => ?_) (fun hc13 hv7 => ?_))
   ·refine W.is 17 hc13 (by kernel_rfl) ?_
    refine W.run D_ok 4 100 (by kernel_rfl) ?_
    have hv7 := Option.some.inj hv7
    subst hv7
    exact W.fs [] [2] (by kernel_rfl)
   refine W.is 17 hc13 (by kernel_rfl) ?_
   refine W.run D_ok 4 100 (by kernel_rfl) ?_
   have hv7 := Option.some.inj hv7
   subst hv7
   exact W.fs [] [2] (by kernel_rfl)
  refine W.is 12 hc12 (by kernel_rfl) ?_
  refine W.run D_ok 9 100 (by kernel_rfl) ?_
  have hv7 := Option.some.inj hv7
  subst hv7
  exact W.fs [] [2] (by kernel_rfl)
  ) ?_
 refine CodeOk.ret ?_
 have h := Option.some.inj h
 subst h
 exact Ends.gen [] (.inr rfl) (RetV.one rfl (OneR.tmp (t := 2) (r := V.bool y1) (by kernel_rfl))) (by kernel_rfl) (by kernel_rfl) (by kernel_rfl)

theorem m_impl_IsWordByte_ok (a0 : Int) {r : Bool} (h : m_impl_IsWordByte a0 = some r) :
    AC Tryd.prog (GS []) 167 [V.int a0] [] (V.bool r) [] := by
 rw [m_impl_IsWordByte] at h
 refine AC.enter Tryd.func167 rfl ?_
 refine cu D_ok mix 1 100 (tl 9 [(0, V.int a0)]) [] (by kernel_rfl) ?_
 (revert h; refine bind_rev fun y3 hv4 h => ?_)
 refine CodeOk.cutR (tl 9 [(2, V.bool y3)]) [] mix (by
  refine W.run D_ok 1 100 (by kernel_rfl) ?_
  (revert hv4; refine bind_rev fun r4 hx5 hv4 => ?_)
  refine W.call0 (m_impl_IsLetter_ok a0 hx5) cok137 rfl (by kernel_rfl) ?_
  refine W.run D_ok 1 100 (by kernel_rfl) ?_
  (revert hv4; refine cond_rev (fun hc6 hv4 => ?_) (fun hc6 hv4 => ?_))
  ·refine W.is 5 hc6 (by kernel_rfl) ?_
   refine W.run D_ok 4 100 (by kernel_rfl) ?_
   have hv4 := Option.some.inj hv4
   subst hv4
   exact W.fs [] [2] (by kernel_rfl)
  refine W.is 5 hc6 (by kernel_rfl) ?_
  refine W.run D_ok 1 100 (by kernel_rfl) ?_
  (revert hv4; refine bind_rev fun r5 hx7 hv4 => ?_)
  refine W.call0 (m_impl_IsDigit_ok a0 hx7) cok132 rfl (by kernel_rfl) ?_
  refine W.run D_ok 2 100 (by kernel_rfl) ?_
  have hv4 := Option.some.inj hv4
  subst hv4
  exact W.fs [] [2] (by kernel_rfl)
  ) ?_
 refine CodeOk.ret ?_
 have h := Option.some.inj h
 subst h
 exact Ends.gen [] (.inr rfl) (RetV.one rfl (OneR.tmp (t := 2) (r := V.bool y3) (by kernel_rfl))) (by kernel_rfl) (by kernel_rfl) (by kernel_rfl)

theorem m_impl_NameEnd_ok (N : Nat) (a0 : List UInt8) (a1 : Int) {r : Int} (h : m_impl_NameEnd N a0 a1 = some r) :
    AC Tryd.prog (GS []) 138 [V.str a0, V.int a1] [] (V.int r) [] := by
 rw [m_impl_NameEnd] at h
 refine AC.enter Tryd.func138 rfl ?_
 refine cu D_ok mix 1 100 (tl 17 [(0, V.str a0), (1, V.int a1)]) [] (by kernel_rfl) ?_
 refine CodeOk.seq' ?_
 (revert h; refine bind_rev fun r7 hx8 h => ?_)
 (revert h; refine bind_rev fun r8 hx9 h => ?_)
 refine CodeOk.cutR (tl 17 [(0, V.str a0), (1, V.int a1), (9, V.bool (!r8))]) [] mix (by
  refine W.run D_ok 2 100 (by kernel_rfl) ?_
  refine W.call0 (m_impl_byteAt_ok a0 a1 hx8) cok92 rfl (by kernel_rfl) ?_
  refine W.call0 (m_impl_IsLetter_ok r7 hx9) cok137 rfl (by kernel_rfl) ?_
  refine W.run D_ok 1 100 (by kernel_rfl) ?_
  exact W.fi (by kernel_rfl)
  ) ?_
 (revert h; refine cond_rev (fun hc10 h => ?_) (fun hc10 h => ?_))
 ·refine CodeOk.ifT hc10 (by kernel_rfl) ?_
  refine cu D_ok mix 1 100 (tl 17 [(4, V.int (-1))]) [] (by kernel_rfl) ?_
  refine CodeOk.ret ?_
  have h := Option.some.inj h
  subst h
  exact Ends.gen [] (.inr rfl) (RetV.one rfl (OneR.tmp (t := 4) (r := V.int (-1)) (by kernel_rfl))) (by kernel_rfl) (by kernel_rfl) (by kernel_rfl)
 refine CodeOk.ifF hc10 (by kernel_rfl) ?_
 refine CodeOk.skip ?_
 refine CodeOk.seq' ?_
 refine CodeOk.block' ?_
 refine CodeOk.loopJ (fun (⟨a0, a1⟩ : ((List UInt8) × Int)) => ⟨tl 17 [(0, V.str a0), (1, V.int a1)], []⟩) (fun n i => m_impl_NameEnd_l1 N n i = some r) (n0 := N) (i0 := (a0, a1)) (Weak.sel [] [0, 1] (by kernel_rfl) (by kernel_rfl) (by kernel_rfl)) h (fun i h => by simp [m_impl_NameEnd_l1] at h) ?_
 rintro n1 ⟨a0, a1⟩ h43 ih44
 rw [m_impl_NameEnd_l1] at h43
 refine CodeOk.seq' ?_
 (revert h43; refine bind_rev fun r41 hx52 h43 => ?_)
 (revert h43; refine bind_rev fun r42 hx53 h43 => ?_)
 refine CodeOk.cutR (tl 17 [(0, V.str a0), (1, V.int a1), (13, V.bool r42)]) [] mix (by
  refine W.run D_ok 2 140 (by kernel_rfl) ?_
  refine W.call0 (m_impl_byteAt_ok a0 a1 hx52) cok92 rfl (by kernel_rfl) ?_
  refine W.call0 (m_impl_IsWordByte_ok r41 hx53) cok167 rfl (by kernel_rfl) ?_
  exact W.fi (by kernel_rfl)
  ) ?_
 (revert h43; refine cond_rev (fun hc54 h43 => ?_) (fun hc54 h43 => ?_))
 ·refine CodeOk.ifT hc54 (by kernel_rfl) ?_
  refine CodeOk.skip ?_
  refine CodeOk.block' ?_
  refine ce D_ok mix 3 140 (tl 17 [(0, V.str a0), (1, V.int (IntKind.wrap .i64 (a1 + 1)))]) [] (by kernel_rfl) (fun st hw => ?_)
  exact ih44 (a0, (IntKind.wrap .i64 (a1 + 1))) h43 _ (hw.trans (Weak.sel [] [0, 1] (by kernel_rfl) (by kernel_rfl) (by kernel_rfl)))
 refine CodeOk.ifF hc54 (by kernel_rfl) ?_
 refine CodeOk.exit ?_
 refine cu D_ok mix 2 140 (tl 17 [(4, V.int a1)]) [] (by kernel_rfl) ?_
 refine CodeOk.ret ?_
 have h43 := Option.some.inj h43
 subst h43
 exact Ends.gen [] (.inr rfl) (RetV.one rfl (OneR.tmp (t := 4) (r := V.int a1) (by kernel_rfl))) (by kernel_rfl) (by kernel_rfl) (by kernel_rfl)

theorem m_impl_NameShape_ok (N : Nat) (a0 : List UInt8) {r : Bool} (h : m_impl_NameShape N a0 = some r) :
    AC Tryd.prog (GS []) 139 [V.str a0] [] (V.bool r) [] := by
 rw [m_impl_NameShape] at h
 refine AC.enter Tryd.func139 rfl ?_
 refine cu D_ok mix 1 100 (tl 25 [(0, V.str a0)]) [] (by kernel_rfl) ?_
 refine CodeOk.seq' ?_
 refine cu D_ok mix 3 100 (tl 25 [(0, V.str a0), (5, V.int (a0.length : Int)), (6, V.int 0)]) [] (by kernel_rfl) ?_
 refine CodeOk.block' ?_
 refine CodeOk.loopJ (fun (⟨a0, y35⟩ : ((List UInt8) × Int)) => ⟨tl 25 [(0, V.str a0), (5, V.int (a0.length : Int)), (6, V.int y35)], []⟩) (fun n i => m_impl_NameShape_l1 N n i = some r) (n0 := N) (i0 := (a0, 0)) (Weak.sel [] [0, 5, 6] (by kernel_rfl) (by kernel_rfl) (by kernel_rfl)) h (fun i h => by simp [m_impl_NameShape_l1] at h) ?_
 rintro n1 ⟨a0, y35⟩ h63 ih64
 rw [m_impl_NameShape_l1] at h63
 refine cu D_ok mix 1 160 (tl 25 [(0, V.str a0), (5, V.int (a0.length : Int)), (6, V.int y35), (7, V.bool (decide (y35 < (a0.length : Int))))]) [] (by kernel_rfl) ?_
 refine CodeOk.seq' ?_
 (revert h63; refine cond_rev (fun hc66 h63 => ?_) (fun hc66 h63 => ?_))
 ·refine CodeOk.ifT hc66 (by kernel_rfl) ?_
  refine CodeOk.skip ?_
  refine CodeOk.seq' ?_
  refine CodeOk.block' ?_
  refine cu D_ok mix 2 160 (tl 25 [(0, V.str a0), (3, V.int y35), (5, V.int (a0.length : Int)), (6, V.int y35)]) [] (by kernel_rfl) ?_
  (revert h63; refine bind_rev fun b51 hx74 h63 => ?_)
  (revert h63; refine bind_rev fun r52 hx75 h63 => ?_)
  refine CodeOk.cutR (tl 25 [(0, V.str a0), (5, V.int (a0.length : Int)), (6, V.int y35), (14, V.bool (!r52))]) [] mix (by
   refine W.run D_ok 2 160 (by kernel_rfl) ?_
   refine W.ixS D_ok hx74 (by kernel_rfl) ?_
   refine W.run D_ok 1 160 (by kernel_rfl) ?_
   refine W.call0 (m_impl_IsWordByte_ok (IntKind.wrap .i64 ((b51).toNat : Int)) hx75) cok167 rfl (by kernel_rfl) ?_
   refine W.run D_ok 1 160 (by kernel_rfl) ?_
   exact W.fi (by kernel_rfl)
   ) ?_
  (revert h63; refine cond_rev (fun hc76 h63 => ?_) (fun hc76 h63 => ?_))
  ·refine CodeOk.ifT hc76 (by kernel_rfl) ?_
   refine cu D_ok mix 1 160 (tl 25 [(2, V.bool false)]) [] (by kernel_rfl) ?_
   refine CodeOk.ret ?_
   have h63 := Option.some.inj h63
   subst h63
   exact Ends.gen [] (.inr rfl) (RetV.one rfl (OneR.tmp (t := 2) (r := V.bool false) (by kernel_rfl))) (by kernel_rfl) (by kernel_rfl) (by kernel_rfl)
  refine CodeOk.ifF hc76 (by kernel_rfl) ?_
  refine CodeOk.skip ?_
  refine ce D_ok mix 2 160 (tl 25 [(0, V.str a0), (5, V.int (a0.length : Int)), (6, V.int (IntKind.wrap .i64 (y35 + 1)))]) [] (by kernel_rfl) (fun st hw => ?_)
  exact ih64 (a0, (IntKind.wrap .i64 (y35 + 1))) h63 _ (hw.trans (Weak.sel [] [0, 5, 6] (by kernel_rfl) (by kernel_rfl) (by kernel_rfl)))
 refine CodeOk.ifF hc66 (by kernel_rfl) ?_
 refine CodeOk.exit ?_
 (revert h63; refine bind_rev fun y56 hv81 h63 => ?_)
 refine CodeOk.cutR (tl 25 [(2, V.bool y56)]) [] mix (by
  refine W.run D_ok 2 160 (by kernel_rfl) ?_
  (revert hv81; refine bind_rev fun r57 hx82 hv81 => ?_)
  refine W.call0 (m_impl_within_ok (a0.length : Int) 1 12 hx82) cok38 rfl (by kernel_rfl) ?_
  refine W.run D_ok 1 160 (by kernel_rfl) ?_
  (revert hv81; refine cond_rev (fun hc83 hv81 => ?_) (fun hc83 hv81 => ?_))
  ·refine W.is 19 hc83 (by kernel_rfl) ?_
   refine W.run D_ok 1 160 (by kernel_rfl) ?_
   (revert hv81; refine bind_rev fun b58 hx84 hv81 => ?_)
   refine W.ixS D_ok hx84 (by kernel_rfl) ?_
   refine W.run D_ok 1 160 (by kernel_rfl) ?_
   (revert hv81; refine bind_rev fun r59 hx85 hv81 => ?_)
   refine W.call0 (m_impl_IsLetter_ok (IntKind.wrap .i64 ((b58).toNat : Int)) hx85) cok137 rfl (by kernel_rfl) ?_
   refine W.run D_ok 2 160 (by kernel_rfl) ?_
   have hv81 := Option.some.inj hv81
   subst hv81
   exact W.fs [] [2] (by kernel_rfl)
  refine W.is 19 hc83 (by kernel_rfl) ?_
  refine W.run D_ok 6 160 (by kernel_rfl) ?_
  have hv81 := Option.some.inj hv81
  subst hv81
  exact W.fs [] [2] (by kernel_rfl)
  ) ?_
 refine CodeOk.ret ?_
 have h63 := Option.some.inj h63
 subst h63
 exact Ends.gen [] (.inr rfl) (RetV.one rfl (OneR.tmp (t := 2) (r := V.bool y56) (by kernel_rfl))) (by kernel_rfl) (by kernel_rfl) (by kernel_rfl)

theorem m_slices_Index_string_ok (N : Nat) (a0 : List (List UInt8)) (a1 : List UInt8) {r : Int} (h : m_slices_Index_string N a0 a1 = some r) :
    AC Tryd.prog (GS []) 180 [.sl false false (a0.map encS), V.str a1] [] (V.int r) [] := by
 rw [m_slices_Index_string] at h
 refine AC.enter Tryd.func180 rfl ?_
 refine cu D_ok mix 1 100 (tl 19 [(0, .sl false false (a0.map encS)), (1, V.str a1)]) [] (by kernel_rfl) ?_
 refine CodeOk.seq' ?_
 refine CodeOk.cutR (tl 19 [(0, .sl false false (a0.map encS)), (1, V.str a1), (7, V.int (a0.length : Int)), (8, V.int 0)]) [] mix (by
  refine W.run D_ok 1 100 (by kernel_rfl) ?_
  refine W.len D_ok encS a0 [] (by kernel_rfl) (by kernel_rfl) ?_
  refine W.run D_ok 1 100 (by kernel_rfl) ?_
  exact W.fi (by kernel_rfl)
  ) ?_
 refine CodeOk.block' ?_
 refine CodeOk.loopJ (fun (⟨a0, a1, y19⟩ : ((List (List UInt8)) × (List UInt8) × Int)) => ⟨tl 19 [(0, .sl false false (a0.map encS)), (1, V.str a1), (7, V.int (a0.length : Int)), (8, V.int y19)], []⟩) (fun n i => m_slices_Index_string_l1 N n i = some r) (n0 := N) (i0 := (a0, a1, 0)) (Weak.sel [] [0, 1, 7, 8] (by kernel_rfl) (by kernel_rfl) (by kernel_rfl)) h (fun i h => by simp [m_slices_Index_string_l1] at h) ?_
 rintro n1 ⟨a0, a1, y19⟩ h43 ih44
 rw [m_slices_Index_string_l1] at h43
 refine cu D_ok mix 1 160 (tl 19 [(0, .sl false false (a0.map encS)), (1, V.str a1), (7, V.int (a0.length : Int)), (8, V.int y19), (9, V.bool (decide (y19 < (a0.length : Int))))]) [] (by kernel_rfl) ?_
 refine CodeOk.seq' ?_
 (revert h43; refine cond_rev (fun hc46 h43 => ?_) (fun hc46 h43 => ?_))
 ·refine CodeOk.ifT hc46 (by kernel_rfl) ?_
  refine CodeOk.skip ?_
  refine CodeOk.seq' ?_
  refine CodeOk.block' ?_
  refine cu D_ok mix 2 160 (tl 19 [(0, .sl false false (a0.map encS)), (1, V.str a1), (5, V.int y19), (7, V.int (a0.length : Int)), (8, V.int y19)]) [] (by kernel_rfl) ?_
  (revert h43; refine bind_rev fun e28 hx51 h43 => ?_)
  refine CodeOk.cutR (tl 19 [(0, .sl false false (a0.map encS)), (1, V.str a1), (5, V.int y19), (7, V.int (a0.length : Int)), (8, V.int y19), (16, V.bool (a1 == e28))]) [] mix (by
   refine W.run D_ok 3 160 (by kernel_rfl) ?_
   refine W.ixD D_ok encS hx51 1 (by kernel_rfl) (by kernel_rfl) ?_
   refine W.run D_ok 2 160 (by kernel_rfl) ?_
   exact W.fi (by kernel_rfl)
   ) ?_
  (revert h43; refine cond_rev (fun hc52 h43 => ?_) (fun hc52 h43 => ?_))
  ·refine CodeOk.ifT hc52 (by kernel_rfl) ?_
   refine cu D_ok mix 2 160 (tl 19 [(4, V.int y19)]) [] (by kernel_rfl) ?_
   refine CodeOk.ret ?_
   have h43 := Option.some.inj h43
   subst h43
   exact Ends.gen [] (.inr rfl) (RetV.one rfl (OneR.tmp (t := 4) (r := V.int y19) (by kernel_rfl))) (by kernel_rfl) (by kernel_rfl) (by kernel_rfl)
  refine CodeOk.ifF hc52 (by kernel_rfl) ?_
  refine CodeOk.skip ?_
  refine ce D_ok mix 2 160 (tl 19 [(0, .sl false false (a0.map encS)), (1, V.str a1), (7, V.int (a0.length : Int)), (8, V.int (IntKind.wrap .i64 (y19 + 1)))]) [] (by kernel_rfl) (fun st hw => ?_)
  exact ih44 (a0, a1, (IntKind.wrap .i64 (y19 + 1))) h43 _ (hw.trans (Weak.sel [] [0, 1, 7, 8] (by kernel_rfl) (by kernel_rfl) (by kernel_rfl)))
 refine CodeOk.ifF hc46 (by kernel_rfl) ?_
 refine CodeOk.exit ?_
 refine cu D_ok mix 1 160 (tl 19 [(4, V.int (-1))]) [] (by kernel_rfl) ?_
 refine CodeOk.ret ?_
 have h43 := Option.some.inj h43
 subst h43
 exact Ends.gen [] (.inr rfl) (RetV.one rfl (OneR.tmp (t := 4) (r := V.int (-1)) (by kernel_rfl))) (by kernel_rfl) (by kernel_rfl) (by kernel_rfl)

theorem m_impl_KeywordOf_ok (N : Nat) (a0 : List UInt8) {r : Int} (h : m_impl_KeywordOf N a0 = some r) :
    AC Tryd.prog (GS [0]) 168 [V.str a0] [] (V.int r) [] := by
 rw [m_impl_KeywordOf] at h
 refine AC.enter Tryd.func168 rfl ?_
 refine cu D_ok mix 1 100 (tl 11 [(0, V.str a0)]) [] (by kernel_rfl) ?_
 (revert h; refine bind_rev fun r2 hx2 h => ?_)
 refine CodeOk.cutR (tl 11 [(3, V.int r2)]) [] mix (by
  refine W.cutG D_ok V.str tab_keywords (by kernel_rfl) ?_
  refine W.run D_ok 1 100 (by kernel_rfl) ?_
  refine W.call0 (AC.gs (m_slices_Index_string_ok N tab_keywords a0 hx2) (by decide)) cok180 rfl (by kernel_rfl) ?_
  refine W.run D_ok 1 100 (by kernel_rfl) ?_
  exact W.fi (by kernel_rfl)
  ) ?_
 refine CodeOk.seq' ?_
 refine cu D_ok mix 2 100 (tl 11 [(3, V.int r2), (8, V.bool (decide (r2 < 0)))]) [] (by kernel_rfl) ?_
 (revert h; refine cond_rev (fun hc4 h => ?_) (fun hc4 h => ?_))
 ·refine CodeOk.ifT hc4 (by kernel_rfl) ?_
  refine cu D_ok mix 1 100 (tl 11 [(2, V.int 0)]) [] (by kernel_rfl) ?_
  refine CodeOk.ret ?_
  have h := Option.some.inj h
  subst h
  exact Ends.gen [] (.inr rfl) (RetV.one rfl (OneR.tmp (t := 2) (r := V.int 0) (by kernel_rfl))) (by kernel_rfl) (by kernel_rfl) (by kernel_rfl)
 refine CodeOk.ifF hc4 (by kernel_rfl) ?_
 refine CodeOk.skip ?_
 refine cu D_ok mix 3 100 (tl 11 [(2, V.int (IntKind.wrap .i64 (10 + r2)))]) [] (by kernel_rfl) ?_
 refine CodeOk.ret ?_
 have h := Option.some.inj h
 subst h
 exact Ends.gen [] (.inr rfl) (RetV.one rfl (OneR.tmp (t := 2) (r := V.int (IntKind.wrap .i64 (10 + r2))) (by kernel_rfl))) (by kernel_rfl) (by kernel_rfl) (by kernel_rfl)

theorem m_slices_Contains_string_ok (N : Nat) (a0 : List (List UInt8)) (a1 : List UInt8) {r : Bool} (h : m_slices_Contains_string N a0 a1 = some r) :
    AC Tryd.prog (GS []) 181 [.sl false false (a0.map encS), V.str a1] [] (V.bool r) [] := by
 rw [m_slices_Contains_string] at h
 refine AC.enter Tryd.func181 rfl ?_
 refine cu D_ok mix 1 100 (tl 9 [(0, .sl false false (a0.map encS)), (1, V.str a1)]) [] (by kernel_rfl) ?_
 (revert h; refine bind_rev fun r2 hx2 h => ?_)
 refine CodeOk.cutR (tl 9 [(4, V.bool (decide (r2 ≥ 0)))]) [] mix (by
  refine W.run D_ok 2 100 (by kernel_rfl) ?_
  refine W.call0 (m_slices_Index_string_ok N a0 a1 hx2) cok180 rfl (by kernel_rfl) ?_
  refine W.run D_ok 2 100 (by kernel_rfl) ?_
  exact W.fi (by kernel_rfl)
  ) ?_
 refine CodeOk.ret ?_
 have h := Option.some.inj h
 subst h
 exact Ends.gen [] (.inr rfl) (RetV.one rfl (OneR.tmp (t := 4) (r := V.bool (decide (r2 ≥ 0))) (by kernel_rfl))) (by kernel_rfl) (by kernel_rfl) (by kernel_rfl)

theorem m_impl_IsBuiltin_ok (N : Nat) (a0 : List UInt8) {r : Bool} (h : m_impl_IsBuiltin N a0 = some r) :
    AC Tryd.prog (GS [5]) 169 [V.str a0] [] (V.bool r) [] := by
 rw [m_impl_IsBuiltin] at h
 refine AC.enter Tryd.func169 rfl ?_
 refine cu D_ok mix 1 100 (tl 6 [(0, V.str a0)]) [] (by kernel_rfl) ?_
 (revert h; refine bind_rev fun r2 hx2 h => ?_)
 refine CodeOk.cutR (tl 6 [(2, V.bool r2)]) [] mix (by
  refine W.cutG D_ok V.str tab_builtins (by kernel_rfl) ?_
  refine W.run D_ok 1 100 (by kernel_rfl) ?_
  refine W.call0 (AC.gs (m_slices_Contains_string_ok N tab_builtins a0 hx2) (by decide)) cok181 rfl (by kernel_rfl) ?_
  refine W.run D_ok 1 100 (by kernel_rfl) ?_
  exact W.fi (by kernel_rfl)
  ) ?_
 refine CodeOk.ret ?_
 have h := Option.some.inj h
 subst h
 exact Ends.gen [] (.inr rfl) (RetV.one rfl (OneR.tmp (t := 2) (r := V.bool r2) (by kernel_rfl))) (by kernel_rfl) (by kernel_rfl) (by kernel_rfl)

theorem m_impl_wordToken_ok (N : Nat) (a0 : List UInt8) (a1 : Int) (a2 : Int) {r : SToken} (h : m_impl_wordToken N a0 a1 a2 = some r) :
    AC Tryd.prog (GS [0, 5]) 140 [V.str a0, V.int a1, V.int a2] [] (.agg [V.int r.Kind, V.str r.Text, V.int r.At]) [] := by
 rw [m_impl_wordToken] at h
 refine AC.enter Tryd.func140 rfl ?_
 refine cu D_ok mix 1 100 (tl 38 [(0, V.str a0), (1, V.int a1), (2, V.int a2), (6, .loc 100 0)]) [(100, .cells 118 [V.int 0, V.str [], V.int 0])] (by kernel_rfl) ?_
 (revert h; refine bind_rev fun s2 hx2 h => ?_)
 refine CodeOk.cutR (tl 38 [(0, V.str a0), (1, V.int a1), (2, V.int a2), (6, .loc 100 0), (7, V.str s2)]) [(100, .cells 118 [V.int 0, V.str [], V.int 0])] mix (by
  refine W.run D_ok 3 101 (by kernel_rfl) ?_
  refine W.cutS D_ok hx2 (by kernel_rfl) ?_
  refine W.run D_ok 1 101 (by kernel_rfl) ?_
  exact W.fi (by kernel_rfl)
  ) ?_
 refine CodeOk.seq' ?_
 refine CodeOk.block' ?_
 (revert h; refine bind_rev fun r12 hx15 h => ?_)
 refine CodeOk.cutR (tl 38 [(0, V.str a0), (1, V.int a1), (2, V.int a2), (6, .loc 100 0), (7, V.str s2), (12, V.bool (r12 != 0))]) [(100, .cells 118 [V.int 0, V.str [], V.int 0])] mix (by
  refine W.run D_ok 1 101 (by kernel_rfl) ?_
  refine W.call0 (AC.gs (m_impl_KeywordOf_ok N s2 hx15) (by decide)) cok168 rfl (by kernel_rfl) ?_
  refine W.run D_ok 2 101 (by kernel_rfl) ?_
  exact W.fi (by kernel_rfl)
  ) ?_
 (revert h; refine cond_rev (fun hc16 h => ?_) (fun hc16 h => ?_))
 ·refine CodeOk.ifT hc16 (by kernel_rfl) ?_
  (revert h; refine bind_rev fun r14 hx18 h => ?_)
  refine CodeOk.cutR (tl 38 [(6, .loc 100 0)]) [(100, .cells 118 [V.int r14, V.str s2, V.int a1])] mix (by
   refine W.run D_ok 1 101 (by kernel_rfl) ?_
   refine W.call0 (AC.gs (m_impl_KeywordOf_ok N s2 hx18) (by decide)) cok168 rfl (by kernel_rfl) ?_
   refine W.run D_ok 4 101 (by kernel_rfl) ?_
   exact W.fi (by kernel_rfl)
   ) ?_
  refine CodeOk.ret ?_
  have h := Option.some.inj h
  subst h
  exact Ends.gen [] (.inr rfl) (RetV.one rfl (OneR.cell D_ok (r := .agg [V.int r14, V.str s2, V.int a1]) (i := 100) (ety := 118) (cs := [V.int r14, V.str s2, V.int a1]) (by kernel_rfl) (by kernel_rfl) (by kernel_rfl))) (by kernel_rfl) (by kernel_rfl) (by kernel_rfl)
 refine CodeOk.ifF hc16 (by kernel_rfl) ?_
 (revert h; refine bind_rev fun r16 hx20 h => ?_)
 refine CodeOk.cutR (tl 38 [(0, V.str a0), (1, V.int a1), (2, V.int a2), (6, .loc 100 0), (7, V.str s2), (21, V.bool r16)]) [(100, .cells 118 [V.int 0, V.str [], V.int 0])] mix (by
  refine W.run D_ok 1 101 (by kernel_rfl) ?_
  refine W.call0 (AC.gs (m_impl_IsBuiltin_ok N s2 hx20) (by decide)) cok169 rfl (by kernel_rfl) ?_
  refine W.run D_ok 1 101 (by kernel_rfl) ?_
  exact W.fi (by kernel_rfl)
  ) ?_
 (revert h; refine cond_rev (fun hc21 h => ?_) (fun hc21 h => ?_))
 ·refine CodeOk.ifT hc21 (by kernel_rfl) ?_
  refine cu D_ok mix 4 101 (tl 38 [(6, .loc 100 0)]) [(100, .cells 118 [V.int 8, V.str s2, V.int a1])] (by kernel_rfl) ?_
  refine CodeOk.ret ?_
  have h := Option.some.inj h
  subst h
  exact Ends.gen [] (.inr rfl) (RetV.one rfl (OneR.cell D_ok (r := .agg [V.int 8, V.str s2, V.int a1]) (i := 100) (ety := 118) (cs := [V.int 8, V.str s2, V.int a1]) (by kernel_rfl) (by kernel_rfl) (by kernel_rfl))) (by kernel_rfl) (by kernel_rfl) (by kernel_rfl)
 refine CodeOk.ifF hc21 (by kernel_rfl) ?_
 (revert h; refine bind_rev fun r18 hx23 h => ?_)
 refine CodeOk.cutR (tl 38 [(1, V.int a1), (6, .loc 100 0), (7, V.str s2), (27, V.bool (r18 == 40))]) [(100, .cells 118 [V.int 0, V.str [], V.int 0])] mix (by
  refine W.run D_ok 2 101 (by kernel_rfl) ?_
  refine W.call0 (AC.gs (m_impl_byteAt_ok a0 a2 hx23) (by decide)) cok92 rfl (by kernel_rfl) ?_
  refine W.run D_ok 2 101 (by kernel_rfl) ?_
  exact W.fi (by kernel_rfl)
  ) ?_
 (revert h; refine cond_rev (fun hc24 h => ?_) (fun hc24 h => ?_))
 ·refine CodeOk.ifT hc24 (by kernel_rfl) ?_
  refine cu D_ok mix 4 101 (tl 38 [(6, .loc 100 0)]) [(100, .cells 118 [V.int 7, V.str s2, V.int a1])] (by kernel_rfl) ?_
  refine CodeOk.ret ?_
  have h := Option.some.inj h
  subst h
  exact Ends.gen [] (.inr rfl) (RetV.one rfl (OneR.cell D_ok (r := .agg [V.int 7, V.str s2, V.int a1]) (i := 100) (ety := 118) (cs := [V.int 7, V.str s2, V.int a1]) (by kernel_rfl) (by kernel_rfl) (by kernel_rfl))) (by kernel_rfl) (by kernel_rfl) (by kernel_rfl)
 refine CodeOk.ifF hc24 (by kernel_rfl) ?_
 refine CodeOk.skip ?_
 refine cu D_ok mix 4 101 (tl 38 [(6, .loc 100 0)]) [(100, .cells 118 [V.int 6, V.str s2, V.int a1])] (by kernel_rfl) ?_
 refine CodeOk.ret ?_
 have h := Option.some.inj h
 subst h
 exact Ends.gen [] (.inr rfl) (RetV.one rfl (OneR.cell D_ok (r := .agg [V.int 6, V.str s2, V.int a1]) (i := 100) (ety := 118) (cs := [V.int 6, V.str s2, V.int a1]) (by kernel_rfl) (by kernel_rfl) (by kernel_rfl))) (by kernel_rfl) (by kernel_rfl) (by kernel_rfl)

theorem m_stringslite_HasPrefix_ok (a0 : List UInt8) (a1 : List UInt8) {r : Bool} (h : m_stringslite_HasPrefix a0 a1 = some r) :
    AC Tryd.prog (GS []) 157 [V.str a0, V.str a1] [] (V.bool r) [] := by
 rw [m_stringslite_HasPrefix] at h
 refine AC.enter Tryd.func157 rfl ?_
 refine cu D_ok mix 1 100 (tl 18 [(0, V.str a0), (1, V.str a1)]) [] (by kernel_rfl) ?_
 (revert h; refine bind_rev fun y2 hv3 h => ?_)
 refine CodeOk.cutR (tl 18 [(4, V.bool y2)]) [] mix (by
  refine W.run D_ok 6 100 (by kernel_rfl) ?_
  (revert hv3; refine cond_rev (fun hc4 hv3 => ?_) (fun hc4 hv3 => ?_))
  ·refine W.is 10 hc4 (by kernel_rfl) ?_
   refine W.run D_ok 3 100 (by kernel_rfl) ?_
   (revert hv3; refine bind_rev fun s3 hx5 hv3 => ?_)
   refine W.cutS D_ok hx5 (by kernel_rfl) ?_
   refine W.run D_ok 4 100 (by kernel_rfl) ?_
   have hv3 := Option.some.inj hv3
   subst hv3
   exact W.fs [] [4] (by kernel_rfl)
  refine W.is 10 hc4 (by kernel_rfl) ?_
  refine W.run D_ok 8 100 (by kernel_rfl) ?_
  have hv3 := Option.some.inj hv3
  subst hv3
  exact W.fs [] [4] (by kernel_rfl)
  ) ?_
 refine CodeOk.ret ?_
 have h := Option.some.inj h
 subst h
 exact Ends.gen [] (.inr rfl) (RetV.one rfl (OneR.tmp (t := 4) (r := V.bool y2) (by kernel_rfl))) (by kernel_rfl) (by kernel_rfl) (by kernel_rfl)

theorem m_strings_HasPrefix_ok (a0 : List UInt8) (a1 : List UInt8) {r : Bool} (h : m_strings_HasPrefix a0 a1 = some r) :
    AC Tryd.prog (GS []) 124 [V.str a0, V.str a1] [] (V.bool r) [] := by
 rw [m_strings_HasPrefix] at h
 refine AC.enter Tryd.func124 rfl ?_
 refine cu D_ok mix 1 100 (tl 8 [(0, V.str a0), (1, V.str a1)]) [] (by kernel_rfl) ?_
 (revert h; refine bind_rev fun r2 hx2 h => ?_)
 refine CodeOk.cutR (tl 8 [(4, V.bool r2)]) [] mix (by
  refine W.run D_ok 2 100 (by kernel_rfl) ?_
  refine W.call0 (m_stringslite_HasPrefix_ok a0 a1 hx2) cok157 rfl (by kernel_rfl) ?_
  refine W.run D_ok 1 100 (by kernel_rfl) ?_
  exact W.fi (by kernel_rfl)
  ) ?_
 refine CodeOk.ret ?_
 have h := Option.some.inj h
 subst h
 exact Ends.gen [] (.inr rfl) (RetV.one rfl (OneR.tmp (t := 4) (r := V.bool r2) (by kernel_rfl))) (by kernel_rfl) (by kernel_rfl) (by kernel_rfl)

theorem m_impl_OpAt_ok (N : Nat) (a0 : List UInt8) (a1 : Int) {r : (Int × Int)} (h : m_impl_OpAt N a0 a1 = some r) :
    AC Tryd.prog (GS [1]) 141 [V.str a0, V.int a1] [] (.tup [V.int r.1, V.int r.2]) [] := by
 rw [m_impl_OpAt] at h
 refine AC.enter Tryd.func141 rfl ?_
 refine cu D_ok mix 2 100 (tl 39 [(0, V.str a0), (1, V.int a1)]) [] (by kernel_rfl) ?_
 refine CodeOk.seq' ?_
 (revert h; refine bind_rev fun r4 hx5 h => ?_)
 refine CodeOk.cutR (tl 39 [(0, V.str a0), (1, V.int a1), (15, V.bool (!r4))]) [] mix (by
  refine W.run D_ok 4 100 (by kernel_rfl) ?_
  refine W.call0 (AC.gs (m_impl_within_ok a1 0 (IntKind.wrap .i64 ((a0.length : Int) - 1)) hx5) (by decide)) cok38 rfl (by kernel_rfl) ?_
  refine W.run D_ok 1 100 (by kernel_rfl) ?_
  exact W.fi (by kernel_rfl)
  ) ?_
 (revert h; refine cond_rev (fun hc6 h => ?_) (fun hc6 h => ?_))
 ·refine CodeOk.ifT hc6 (by kernel_rfl) ?_
  refine cu D_ok mix 2 100 (tl 39 [(4, V.int 0), (5, V.int 0)]) [] (by kernel_rfl) ?_
  refine CodeOk.ret ?_
  have h := Option.some.inj h
  subst h
  exact Ends.gen [] (.inr rfl) (RetV.two rfl (OneR.tmp (t := 4) (r := V.int 0) (by kernel_rfl)) (OneR.tmp (t := 5) (r := V.int 0) (by kernel_rfl))) (by kernel_rfl) (by kernel_rfl) (by kernel_rfl)
 refine CodeOk.ifF hc6 (by kernel_rfl) ?_
 refine CodeOk.skip ?_
 refine cu D_ok mix 2 100 (tl 39 [(0, V.str a0), (1, V.int a1), (6, V.int 0), (7, V.int 0)]) [] (by kernel_rfl) ?_
 refine CodeOk.seq' ?_
 refine cu D_ok mix 2 100 (tl 39 [(0, V.str a0), (1, V.int a1), (6, V.int 0), (7, V.int 0), (16, .agg (tab_signs.map V.str)), (17, V.int 0)]) [] (by kernel_rfl) ?_
 refine CodeOk.block' ?_
 refine CodeOk.loopJ (fun (⟨a0, a1, y75, y76, y77⟩ : ((List UInt8) × Int × Int × Int × Int)) => ⟨tl 39 [(0, V.str a0), (1, V.int a1), (6, V.int y75), (7, V.int y76), (16, .agg (tab_signs.map V.str)), (17, V.int y77)], []⟩) (fun n i => m_impl_OpAt_l1 N n i = some r) (n0 := N) (i0 := (a0, a1, 0, 0, 0)) (Weak.sel [] [0, 1, 6, 7, 16, 17] (by kernel_rfl) (by kernel_rfl) (by kernel_rfl)) h (fun i h => by simp [m_impl_OpAt_l1] at h) ?_
 rintro n1 ⟨a0, a1, y75, y76, y77⟩ h125 ih126
 rw [m_impl_OpAt_l1] at h125
 refine cu D_ok mix 1 160 (tl 39 [(0, V.str a0), (1, V.int a1), (6, V.int y75), (7, V.int y76), (16, .agg (tab_signs.map V.str)), (17, V.int y77), (18, V.bool (decide (y77 < 39)))]) [] (by kernel_rfl) ?_
 refine CodeOk.seq' ?_
 (revert h125; refine cond_rev (fun hc128 h125 => ?_) (fun hc128 h125 => ?_))
 ·refine CodeOk.ifT hc128 (by kernel_rfl) ?_
  refine CodeOk.skip ?_
  refine CodeOk.join (fun (⟨a0, a1, y77, y104, y105⟩ : ((List UInt8) × Int × Int × Int × Int)) => ⟨tl 39 [(0, V.str a0), (1, V.int a1), (6, V.int y104), (7, V.int y105), (16, .agg (tab_signs.map V.str)), (17, V.int y77)], []⟩) (fun i => m_impl_OpAt_k2 N (m_impl_OpAt_l1 N n1) i = some r) ?_ ?_
  · rintro ⟨a0, a1, y77, y104, y105⟩ h139
    rw [m_impl_OpAt_k2] at h139
    refine ce D_ok mix 2 160 (tl 39 [(0, V.str a0), (1, V.int a1), (6, V.int y104), (7, V.int y105), (16, .agg (tab_signs.map V.str)), (17, V.int (IntKind.wrap .i64 (y77 + 1)))]) [] (by kernel_rfl) (fun st hw => ?_)
    exact ih126 (a0, a1, y104, y105, (IntKind.wrap .i64 (y77 + 1))) h139 _ (hw.trans (Weak.sel [] [0, 1, 6, 7, 16, 17] (by kernel_rfl) (by kernel_rfl) (by kernel_rfl)))
  intro hk140
  refine CodeOk.block' ?_
  (revert h125; refine bind_rev fun e107 hx142 h125 => ?_)
  refine CodeOk.cutR (tl 39 [(0, V.str a0), (1, V.int a1), (6, V.int y75), (7, V.int y76), (8, V.int y77), (9, V.str e107), (16, .agg (tab_signs.map V.str)), (17, V.int y77)]) [] mix (by
   refine W.run D_ok 1 160 (by kernel_rfl) ?_
   refine W.ixA D_ok V.str (l := tab_signs) hx142 (by kernel_rfl) ?_
   refine W.run D_ok 2 160 (by kernel_rfl) ?_
   exact W.fi (by kernel_rfl)
   ) ?_
  (revert h125; refine bind_rev fun y110 hv146 h125 => ?_)
  refine CodeOk.cutR (tl 39 [(0, V.str a0), (1, V.int a1), (6, V.int y75), (7, V.int y76), (8, V.int y77), (9, V.str e107), (16, .agg (tab_signs.map V.str)), (17, V.int y77), (31, V.bool y110)]) [] mix (by
   refine W.run D_ok 5 160 (by kernel_rfl) ?_
   (revert hv146; refine cond_rev (fun hc147 hv146 => ?_) (fun hc147 hv146 => ?_))
   ·refine W.is 25 hc147 (by kernel_rfl) ?_
    refine W.run D_ok 2 160 (by kernel_rfl) ?_
    (revert hv146; refine bind_rev fun s111 hx148 hv146 => ?_)
    refine W.cutS D_ok hx148 (by kernel_rfl) ?_
    refine W.run D_ok 1 160 (by kernel_rfl) ?_
    (revert hv146; refine bind_rev fun r112 hx149 hv146 => ?_)
    refine W.call0 (AC.gs (m_strings_HasPrefix_ok s111 e107 hx149) (by decide)) cok124 rfl (by kernel_rfl) ?_
    refine W.run D_ok 1 160 (by kernel_rfl) ?_
    have hv146 := Option.some.inj hv146
    subst hv146
    exact W.fs [] [0, 1, 6, 7, 8, 9, 16, 17, 31] (by kernel_rfl)
   refine W.is 25 hc147 (by kernel_rfl) ?_
   refine W.run D_ok 6 160 (by kernel_rfl) ?_
   have hv146 := Option.some.inj hv146
   subst hv146
   exact W.fs [] [0, 1, 6, 7, 8, 9, 16, 17, 31] (by kernel_rfl)
   ) ?_
  (revert h125; refine cond_rev (fun hc150 h125 => ?_) (fun hc150 h125 => ?_))
  ·refine CodeOk.ifT hc150 (by kernel_rfl) ?_
   refine ce D_ok mix 6 160 (tl 39 [(0, V.str a0), (1, V.int a1), (6, V.int (IntKind.wrap .i64 (30 + y77))), (7, V.int (e107.length : Int)), (16, .agg (tab_signs.map V.str)), (17, V.int y77)]) [] (by kernel_rfl) (fun st hw => ?_)
   exact hk140 (a0, a1, y77, (IntKind.wrap .i64 (30 + y77)), (e107.length : Int)) h125 _ (hw.trans (Weak.sel [] [0, 1, 6, 7, 16, 17] (by kernel_rfl) (by kernel_rfl) (by kernel_rfl)))
  refine CodeOk.ifF hc150 (by kernel_rfl) ?_
  refine CodeOk.skip ?_
  exact hk140 (a0, a1, y77, y75, y76) h125 _ (Weak.sel [] [0, 1, 6, 7, 16, 17] (by kernel_rfl) (by kernel_rfl) (by kernel_rfl))
 refine CodeOk.ifF hc128 (by kernel_rfl) ?_
 refine CodeOk.exit ?_
 refine cu D_ok mix 4 160 (tl 39 [(4, V.int y75), (5, V.int y76)]) [] (by kernel_rfl) ?_
 refine CodeOk.ret ?_
 have h125 := Option.some.inj h125
 subst h125
 exact Ends.gen [] (.inr rfl) (RetV.two rfl (OneR.tmp (t := 4) (r := V.int y75) (by kernel_rfl)) (OneR.tmp (t := 5) (r := V.int y76) (by kernel_rfl))) (by kernel_rfl) (by kernel_rfl) (by kernel_rfl)

theorem m_impl_tokenAt_ok (N : Nat) (a0 : List UInt8) (a1 : Int) (a2 : Int) {r : SToken} (h : m_impl_tokenAt N a0 a1 a2 = some r) :
    AC Tryd.prog (GS [0, 1, 5]) 93 [V.str a0, V.int a1, V.int a2] [] (.agg [V.int r.Kind, V.str r.Text, V.int r.At]) [] := by
 rw [m_impl_tokenAt] at h
 refine AC.enter Tryd.func93 rfl ?_
 refine cu D_ok mix 1 100 (tl 102 [(0, V.str a0), (1, V.int a1), (2, V.int a2), (6, .loc 100 0)]) [(100, .cells 118 [V.int 0, V.str [], V.int 0])] (by kernel_rfl) ?_
 refine cu D_ok mix 2 101 (tl 102 [(0, V.str a0), (1, V.int a1), (2, V.int a2), (6, .loc 100 0), (7, V.int 0)]) [(100, .cells 118 [V.int 0, V.str [], V.int 0])] (by kernel_rfl) ?_
 refine CodeOk.join (fun (⟨a0, a1, y31, y32⟩ : ((List UInt8) × Int × Int × Int)) => ⟨tl 102 [(0, V.str a0), (1, V.int a1), (6, .loc 100 0), (7, V.int y31), (8, V.int y32)], [(100, .cells 118 [V.int 0, V.str [], V.int 0])]⟩) (fun i => m_impl_tokenAt_k1 N i = some r) ?_ ?_
 · rintro ⟨a0, a1, y31, y32⟩ h43
   rw [m_impl_tokenAt_k1] at h43
   refine CodeOk.seq' ?_
   (revert h43; refine bind_rev fun y34 hv49 h43 => ?_)
   refine CodeOk.cutR (tl 102 [(0, V.str a0), (1, V.int a1), (6, .loc 100 0), (7, V.int y31), (8, V.int y32), (93, V.bool y34)]) [(100, .cells 118 [V.int 0, V.str [], V.int 0])] mix (by
    refine W.run D_ok 3 101 (by kernel_rfl) ?_
    (revert hv49; refine cond_rev (fun hc50 hv49 => ?_) (fun hc50 hv49 => ?_))
    ·refine W.is 90 hc50 (by kernel_rfl) ?_
     refine W.run D_ok 3 101 (by kernel_rfl) ?_
     have hv49 := Option.some.inj hv49
     subst hv49
     exact W.fs [(100, 100)] [0, 1, 6, 7, 8, 93] (by kernel_rfl)
    refine W.is 90 hc50 (by kernel_rfl) ?_
    refine W.run D_ok 3 101 (by kernel_rfl) ?_
    have hv49 := Option.some.inj hv49
    subst hv49
    exact W.fs [(100, 100)] [0, 1, 6, 7, 8, 93] (by kernel_rfl)
    ) ?_
   (revert h43; refine cond_rev (fun hc51 h43 => ?_) (fun hc51 h43 => ?_))
   ·refine CodeOk.ifT hc51 (by kernel_rfl) ?_
    refine cu D_ok mix 2 101 (tl 102 [(6, .loc 100 0)]) [(100, .cells 118 [V.int 0, V.str [], V.int 0])] (by kernel_rfl) ?_
    refine CodeOk.ret ?_
    have h43 := Option.some.inj h43
    subst h43
    exact Ends.gen [] (.inr rfl) (RetV.one rfl (OneR.cell D_ok (r := .agg [V.int 0, V.str [], V.int 0]) (i := 100) (ety := 118) (cs := [V.int 0, V.str [], V.int 0]) (by kernel_rfl) (by kernel_rfl) (by kernel_rfl))) (by kernel_rfl) (by kernel_rfl) (by kernel_rfl)
   refine CodeOk.ifF hc51 (by kernel_rfl) ?_
   refine CodeOk.skip ?_
   (revert h43; refine bind_rev fun s36 hx53 h43 => ?_)
   refine CodeOk.cutR (tl 102 [(6, .loc 100 0)]) [(100, .cells 118 [V.int y31, V.str s36, V.int a1])] mix (by
    refine W.run D_ok 4 101 (by kernel_rfl) ?_
    refine W.cutS D_ok hx53 (by kernel_rfl) ?_
    refine W.run D_ok 3 101 (by kernel_rfl) ?_
    exact W.fi (by kernel_rfl)
    ) ?_
   refine CodeOk.ret ?_
   have h43 := Option.some.inj h43
   subst h43
   exact Ends.gen [] (.inr rfl) (RetV.one rfl (OneR.cell D_ok (r := .agg [V.int y31, V.str s36, V.int a1]) (i := 100) (ety := 118) (cs := [V.int y31, V.str s36, V.int a1]) (by kernel_rfl) (by kernel_rfl) (by kernel_rfl))) (by kernel_rfl) (by kernel_rfl) (by kernel_rfl)
 intro hk54
 (revert h; refine bind_rev fun b38 hx56 h => ?_)
 refine CodeOk.cutR (tl 102 [(0, V.str a0), (1, V.int a1), (2, V.int a2), (6, .loc 100 0), (7, V.int 0), (9, V.int (IntKind.wrap .i64 ((b38).toNat : Int)))]) [(100, .cells 118 [V.int 0, V.str [], V.int 0])] mix (by
  refine W.run D_ok 2 101 (by kernel_rfl) ?_
  refine W.ixS D_ok hx56 (by kernel_rfl) ?_
  refine W.run D_ok 2 101 (by kernel_rfl) ?_
  exact W.fi (by kernel_rfl)
  ) ?_
 refine CodeOk.block' ?_
 refine cu D_ok mix 3 101 (tl 102 [(0, V.str a0), (1, V.int a1), (2, V.int a2), (6, .loc 100 0), (7, V.int 0), (9, V.int (IntKind.wrap .i64 ((b38).toNat : Int))), (27, V.bool ((IntKind.wrap .i64 ((b38).toNat : Int)) == 10))]) [(100, .cells 118 [V.int 0, V.str [], V.int 0])] (by kernel_rfl) ?_
 (revert h; refine cond_rev (fun hc57 h => ?_) (fun hc57 h => ?_))
 ·refine CodeOk.ifT hc57 (by kernel_rfl) ?_
  refine ce D_ok mix 4 101 (tl 102 [(0, V.str a0), (1, V.int a1), (6, .loc 100 0), (7, V.int 1), (8, V.int (IntKind.wrap .i64 (a1 + 1)))]) [(100, .cells 118 [V.int 0, V.str [], V.int 0])] (by kernel_rfl) (fun st hw => ?_)
  exact hk54 (a0, a1, 1, (IntKind.wrap .i64 (a1 + 1))) h _ (hw.trans (Weak.sel [(100, 100)] [0, 1, 6, 7, 8] (by kernel_rfl) (by kernel_rfl) (by kernel_rfl)))
 refine CodeOk.ifF hc57 (by kernel_rfl) ?_
 refine cu D_ok mix 3 101 (tl 102 [(0, V.str a0), (1, V.int a1), (2, V.int a2), (6, .loc 100 0), (7, V.int 0), (9, V.int (IntKind.wrap .i64 ((b38).toNat : Int))), (32, V.bool ((IntKind.wrap .i64 ((b38).toNat : Int)) == 35))]) [(100, .cells 118 [V.int 0, V.str [], V.int 0])] (by kernel_rfl) ?_
 (revert h; refine cond_rev (fun hc58 h => ?_) (fun hc58 h => ?_))
 ·refine CodeOk.ifT hc58 (by kernel_rfl) ?_
  refine cu D_ok mix 4 101 (tl 102 [(0, V.str a0), (1, V.int a1), (6, .loc 100 0), (7, V.int 2), (8, V.int (a0.length : Int))]) [(100, .cells 118 [V.int 0, V.str [], V.int 0])] (by kernel_rfl) ?_
  (revert h; refine bind_rev fun s41 hx61 h => ?_)
  (revert h; refine bind_rev fun r42 hx62 h => ?_)
  refine CodeOk.cutR (tl 102 [(0, V.str a0), (1, V.int a1), (6, .loc 100 0), (7, V.int 2), (8, V.int (a0.length : Int)), (10, V.int r42)]) [(100, .cells 118 [V.int 0, V.str [], V.int 0])] mix (by
   refine W.run D_ok 2 101 (by kernel_rfl) ?_
   refine W.cutS D_ok hx61 (by kernel_rfl) ?_
   refine W.call0 (AC.gs (m_strings_IndexByte_ok s41 10 hx62) (by decide)) cok131 rfl (by kernel_rfl) ?_
   refine W.run D_ok 1 101 (by kernel_rfl) ?_
   exact W.fi (by kernel_rfl)
   ) ?_
  refine cu D_ok mix 2 101 (tl 102 [(0, V.str a0), (1, V.int a1), (6, .loc 100 0), (7, V.int 2), (8, V.int (a0.length : Int)), (10, V.int r42), (42, V.bool (decide (r42 ≥ 0)))]) [(100, .cells 118 [V.int 0, V.str [], V.int 0])] (by kernel_rfl) ?_
  (revert h; refine cond_rev (fun hc63 h => ?_) (fun hc63 h => ?_))
  ·refine CodeOk.ifT hc63 (by kernel_rfl) ?_
   refine ce D_ok mix 4 101 (tl 102 [(0, V.str a0), (1, V.int a1), (6, .loc 100 0), (7, V.int 2), (8, V.int (IntKind.wrap .i64 (a1 + r42)))]) [(100, .cells 118 [V.int 0, V.str [], V.int 0])] (by kernel_rfl) (fun st hw => ?_)
   exact hk54 (a0, a1, 2, (IntKind.wrap .i64 (a1 + r42))) h _ (hw.trans (Weak.sel [(100, 100)] [0, 1, 6, 7, 8] (by kernel_rfl) (by kernel_rfl) (by kernel_rfl)))
  refine CodeOk.ifF hc63 (by kernel_rfl) ?_
  refine CodeOk.skip ?_
  exact hk54 (a0, a1, 2, (a0.length : Int)) h _ (Weak.sel [(100, 100)] [0, 1, 6, 7, 8] (by kernel_rfl) (by kernel_rfl) (by kernel_rfl))
 refine CodeOk.ifF hc58 (by kernel_rfl) ?_
 (revert h; refine bind_rev fun y44 hv66 h => ?_)
 refine CodeOk.cutR (tl 102 [(0, V.str a0), (1, V.int a1), (2, V.int a2), (6, .loc 100 0), (7, V.int 0), (9, V.int (IntKind.wrap .i64 ((b38).toNat : Int))), (46, V.bool y44)]) [(100, .cells 118 [V.int 0, V.str [], V.int 0])] mix (by
  refine W.run D_ok 1 101 (by kernel_rfl) ?_
  (revert hv66; refine bind_rev fun r45 hx67 hv66 => ?_)
  refine W.call0 (AC.gs (m_impl_IsDigit_ok (IntKind.wrap .i64 ((b38).toNat : Int)) hx67) (by decide)) cok132 rfl (by kernel_rfl) ?_
  refine W.run D_ok 1 101 (by kernel_rfl) ?_
  (revert hv66; refine cond_rev (fun hc68 hv66 => ?_) (fun hc68 hv66 => ?_))
  ·refine W.is 49 hc68 (by kernel_rfl) ?_
   refine W.run D_ok 4 101 (by kernel_rfl) ?_
   have hv66 := Option.some.inj hv66
   subst hv66
   exact W.fs [(100, 100)] [0, 1, 2, 6, 7, 9, 46] (by kernel_rfl)
  refine W.is 49 hc68 (by kernel_rfl) ?_
  refine W.run D_ok 4 101 (by kernel_rfl) ?_
  have hv66 := Option.some.inj hv66
  subst hv66
  exact W.fs [(100, 100)] [0, 1, 2, 6, 7, 9, 46] (by kernel_rfl)
  ) ?_
 (revert h; refine cond_rev (fun hc69 h => ?_) (fun hc69 h => ?_))
 ·refine CodeOk.ifT hc69 (by kernel_rfl) ?_
  (revert h; refine bind_rev fun r47 hx71 h => ?_)
  refine CodeOk.endR (tl 102 [(0, V.str a0), (1, V.int a1), (6, .loc 100 0), (7, V.int 3), (8, V.int r47)]) [(100, .cells 118 [V.int 0, V.str [], V.int 0])] mix (by
   refine W.run D_ok 2 101 (by kernel_rfl) ?_
   refine W.call0 (AC.gs (m_impl_NumEnd_ok N a0 a1 hx71) (by decide)) cok133 rfl (by kernel_rfl) ?_
   refine W.run D_ok 2 101 (by kernel_rfl) ?_
   exact W.fi (by kernel_rfl)
   ) (fun st hw => ?_)
  exact hk54 (a0, a1, 3, r47) h _ (hw.trans (Weak.sel [(100, 100)] [0, 1, 6, 7, 8] (by kernel_rfl) (by kernel_rfl) (by kernel_rfl)))
 refine CodeOk.ifF hc69 (by kernel_rfl) ?_
 refine cu D_ok mix 3 101 (tl 102 [(0, V.str a0), (1, V.int a1), (2, V.int a2), (6, .loc 100 0), (7, V.int 0), (9, V.int (IntKind.wrap .i64 ((b38).toNat : Int))), (56, V.bool ((IntKind.wrap .i64 ((b38).toNat : Int)) == 34))]) [(100, .cells 118 [V.int 0, V.str [], V.int 0])] (by kernel_rfl) ?_
 (revert h; refine cond_rev (fun hc72 h => ?_) (fun hc72 h => ?_))
 ·refine CodeOk.ifT hc72 (by kernel_rfl) ?_
  (revert h; refine bind_rev fun r49 hx74 h => ?_)
  refine CodeOk.endR (tl 102 [(0, V.str a0), (1, V.int a1), (6, .loc 100 0), (7, V.int 4), (8, V.int r49)]) [(100, .cells 118 [V.int 0, V.str [], V.int 0])] mix (by
   refine W.run D_ok 2 101 (by kernel_rfl) ?_
   refine W.call0 (AC.gs (m_impl_StrEnd_ok N a0 a1 hx74) (by decide)) cok134 rfl (by kernel_rfl) ?_
   refine W.run D_ok 2 101 (by kernel_rfl) ?_
   exact W.fi (by kernel_rfl)
   ) (fun st hw => ?_)
  exact hk54 (a0, a1, 4, r49) h _ (hw.trans (Weak.sel [(100, 100)] [0, 1, 6, 7, 8] (by kernel_rfl) (by kernel_rfl) (by kernel_rfl)))
 refine CodeOk.ifF hc72 (by kernel_rfl) ?_
 (revert h; refine bind_rev fun y51 hv77 h => ?_)
 refine CodeOk.cutR (tl 102 [(0, V.str a0), (1, V.int a1), (6, .loc 100 0), (7, V.int 0), (9, V.int (IntKind.wrap .i64 ((b38).toNat : Int))), (62, V.bool y51)]) [(100, .cells 118 [V.int 0, V.str [], V.int 0])] mix (by
  refine W.run D_ok 3 101 (by kernel_rfl) ?_
  (revert hv77; refine cond_rev (fun hc78 hv77 => ?_) (fun hc78 hv77 => ?_))
  ·refine W.is 65 hc78 (by kernel_rfl) ?_
   refine W.run D_ok 1 101 (by kernel_rfl) ?_
   (revert hv77; refine bind_rev fun r52 hx79 hv77 => ?_)
   refine W.call0 (AC.gs (m_impl_EndsOperand_ok a2 hx79) (by decide)) cok135 rfl (by kernel_rfl) ?_
   refine W.run D_ok 3 101 (by kernel_rfl) ?_
   have hv77 := Option.some.inj hv77
   subst hv77
   exact W.fs [(100, 100)] [0, 1, 6, 7, 9, 62] (by kernel_rfl)
  refine W.is 65 hc78 (by kernel_rfl) ?_
  refine W.run D_ok 5 101 (by kernel_rfl) ?_
  have hv77 := Option.some.inj hv77
  subst hv77
  exact W.fs [(100, 100)] [0, 1, 6, 7, 9, 62] (by kernel_rfl)
  ) ?_
 (revert h; refine cond_rev (fun hc80 h => ?_) (fun hc80 h => ?_))
 ·refine CodeOk.ifT hc80 (by kernel_rfl) ?_
  (revert h; refine bind_rev fun r54 hx82 h => ?_)
  refine CodeOk.endR (tl 102 [(0, V.str a0), (1, V.int a1), (6, .loc 100 0), (7, V.int 5), (8, V.int r54)]) [(100, .cells 118 [V.int 0, V.str [], V.int 0])] mix (by
   refine W.run D_ok 2 101 (by kernel_rfl) ?_
   refine W.call0 (AC.gs (m_impl_EreEnd_ok N a0 a1 hx82) (by decide)) cok136 rfl (by kernel_rfl) ?_
   refine W.run D_ok 2 101 (by kernel_rfl) ?_
   exact W.fi (by kernel_rfl)
   ) (fun st hw => ?_)
  exact hk54 (a0, a1, 5, r54) h _ (hw.trans (Weak.sel [(100, 100)] [0, 1, 6, 7, 8] (by kernel_rfl) (by kernel_rfl) (by kernel_rfl)))
 refine CodeOk.ifF hc80 (by kernel_rfl) ?_
 (revert h; refine bind_rev fun r56 hx84 h => ?_)
 refine CodeOk.cutR (tl 102 [(0, V.str a0), (1, V.int a1), (6, .loc 100 0), (7, V.int 0), (73, V.bool r56)]) [(100, .cells 118 [V.int 0, V.str [], V.int 0])] mix (by
  refine W.run D_ok 1 101 (by kernel_rfl) ?_
  refine W.call0 (AC.gs (m_impl_IsLetter_ok (IntKind.wrap .i64 ((b38).toNat : Int)) hx84) (by decide)) cok137 rfl (by kernel_rfl) ?_
  refine W.run D_ok 1 101 (by kernel_rfl) ?_
  exact W.fi (by kernel_rfl)
  ) ?_
 (revert h; refine cond_rev (fun hc85 h => ?_) (fun hc85 h => ?_))
 ·refine CodeOk.ifT hc85 (by kernel_rfl) ?_
  (revert h; refine bind_rev fun r58 hx87 h => ?_)
  refine CodeOk.cutR (tl 102 [(0, V.str a0), (1, V.int a1), (6, .loc 100 0), (7, V.int 0), (8, V.int r58)]) [(100, .cells 118 [V.int 0, V.str [], V.int 0])] mix (by
   refine W.run D_ok 2 101 (by kernel_rfl) ?_
   refine W.call0 (AC.gs (m_impl_NameEnd_ok N a0 a1 hx87) (by decide)) cok138 rfl (by kernel_rfl) ?_
   refine W.run D_ok 1 101 (by kernel_rfl) ?_
   exact W.fi (by kernel_rfl)
   ) ?_
  (revert h; refine bind_rev fun s61 hx90 h => ?_)
  (revert h; refine bind_rev fun r62 hx91 h => ?_)
  refine CodeOk.cutR (tl 102 [(0, V.str a0), (1, V.int a1), (6, .loc 100 0), (7, V.int 0), (8, V.int r58), (83, V.bool r62)]) [(100, .cells 118 [V.int 0, V.str [], V.int 0])] mix (by
   refine W.run D_ok 3 101 (by kernel_rfl) ?_
   refine W.cutS D_ok hx90 (by kernel_rfl) ?_
   refine W.call0 (AC.gs (m_impl_NameShape_ok N s61 hx91) (by decide)) cok139 rfl (by kernel_rfl) ?_
   exact W.fi (by kernel_rfl)
   ) ?_
  (revert h; refine cond_rev (fun hc92 h => ?_) (fun hc92 h => ?_))
  ·refine CodeOk.ifT hc92 (by kernel_rfl) ?_
   (revert h; refine bind_rev fun r64 hx94 h => ?_)
   refine CodeOk.cutR (tl 102 [(6, .loc 100 0)]) [(100, .cells 118 [V.int r64.Kind, V.str r64.Text, V.int r64.At])] mix (by
    refine W.run D_ok 3 101 (by kernel_rfl) ?_
    refine W.call0 (AC.gs (m_impl_wordToken_ok N a0 a1 r58 hx94) (by decide)) cok140 rfl (by kernel_rfl) ?_
    refine W.run D_ok 1 101 (by kernel_rfl) ?_
    exact W.fi (by kernel_rfl)
    ) ?_
   refine CodeOk.ret ?_
   have h := Option.some.inj h
   subst h
   exact Ends.gen [] (.inr rfl) (RetV.one rfl (OneR.cell D_ok (r := .agg [V.int r64.Kind, V.str r64.Text, V.int r64.At]) (i := 100) (ety := 118) (cs := [V.int r64.Kind, V.str r64.Text, V.int r64.At]) (by kernel_rfl) (by kernel_rfl) (by kernel_rfl))) (by kernel_rfl) (by kernel_rfl) (by kernel_rfl)
  refine CodeOk.ifF hc92 (by kernel_rfl) ?_
  refine CodeOk.skip ?_
  exact hk54 (a0, a1, 0, r58) h _ (Weak.sel [(100, 100)] [0, 1, 6, 7, 8] (by kernel_rfl) (by kernel_rfl) (by kernel_rfl))
 refine CodeOk.ifF hc85 (by kernel_rfl) ?_
 (revert h; refine bind_rev fun r66 hx96 h => ?_)
 refine CodeOk.cutR (tl 102 [(0, V.str a0), (1, V.int a1), (6, .loc 100 0), (11, V.int r66.1), (12, V.int r66.2)]) [(100, .cells 118 [V.int 0, V.str [], V.int 0])] mix (by
  refine W.run D_ok 2 101 (by kernel_rfl) ?_
  refine W.call0 (AC.gs (m_impl_OpAt_ok N a0 a1 hx96) (by decide)) cok141 rfl (by kernel_rfl) ?_
  refine W.run D_ok 5 101 (by kernel_rfl) ?_
  exact W.fi (by kernel_rfl)
  ) ?_
 refine ce D_ok mix 6 101 (tl 102 [(0, V.str a0), (1, V.int a1), (6, .loc 100 0), (7, V.int r66.1), (8, V.int (IntKind.wrap .i64 (a1 + r66.2)))]) [(100, .cells 118 [V.int 0, V.str [], V.int 0])] (by kernel_rfl) (fun st hw => ?_)
 exact hk54 (a0, a1, r66.1, (IntKind.wrap .i64 (a1 + r66.2))) h _ (hw.trans (Weak.sel [(100, 100)] [0, 1, 6, 7, 8] (by kernel_rfl) (by kernel_rfl) (by kernel_rfl)))

theorem m_impl_lexFrom_ok (N : Nat) (a0 : List UInt8) (a1 : Int) (a2 : Int) {r : ((List SToken) × SFault)} (h : m_impl_lexFrom N a0 a1 a2 = some r) :
    AC Tryd.prog (GS [0, 1, 5]) 69 [V.str a0, V.int a1, V.int a2] [] (.tup [.own 100, .agg [V.int r.2.Kind, V.int r.2.At]]) [(100, .vec false 118 3 (r.1.map encSToken))] := by
 rw [m_impl_lexFrom] at h
 refine AC.enter Tryd.func69 rfl ?_
 refine cu D_ok mix 2 100 (tl 59 [(0, V.str a0), (1, V.int a1), (2, V.int a2), (7, .loc 100 0)]) [(100, .cells 40 [V.int 0, V.int 0])] (by kernel_rfl) ?_
 refine cu D_ok mix 2 101 (tl 59 [(0, V.str a0), (1, V.int a1), (2, V.int a2), (7, .loc 100 0), (8, .own 101)]) [(101, .vec false 118 3 ([].map encSToken)), (100, .cells 40 [V.int 0, V.int 0])] (by kernel_rfl) ?_
 refine CodeOk.seq' ?_
 refine CodeOk.block' ?_
 refine CodeOk.loopJ (fun (⟨a0, y95, y96, y97⟩ : ((List UInt8) × Int × Int × (List SToken))) => ⟨tl 59 [(0, V.str a0), (1, V.int y95), (2, V.int y96), (7, .loc 100 0), (8, .own 101)], [(100, .cells 40 [V.int 0, V.int 0]), (101, .vec false 118 3 (y97.map encSToken))]⟩) (fun n i => m_impl_lexFrom_l1 N n i = some r) (n0 := N) (i0 := (a0, a1, a2, [])) (Weak.sel [(100, 100), (101, 101)] [0, 1, 2, 7, 8] (by kernel_rfl) (by kernel_rfl) (by kernel_rfl)) h (fun i h => by simp [m_impl_lexFrom_l1] at h) ?_
 rintro n1 ⟨a0, y95, y96, y97⟩ h173 ih174
 rw [m_impl_lexFrom_l1] at h173
 refine CodeOk.seq' ?_
 refine cu D_ok mix 4 168 (tl 59 [(0, V.str a0), (1, V.int y95), (2, V.int y96), (7, .loc 100 0), (8, .own 101), (14, V.bool (decide (y95 < (a0.length : Int))))]) [(100, .cells 40 [V.int 0, V.int 0]), (101, .vec false 118 3 (y97.map encSToken))] (by kernel_rfl) ?_
 (revert h173; refine cond_rev (fun hc176 h173 => ?_) (fun hc176 h173 => ?_))
 ·refine CodeOk.ifT hc176 (by kernel_rfl) ?_
  refine CodeOk.skip ?_
  refine CodeOk.block' ?_
  refine CodeOk.seq' ?_
  refine CodeOk.block' ?_
  (revert h173; refine bind_rev fun b134 hx192 h173 => ?_)
  (revert h173; refine bind_rev fun r135 hx193 h173 => ?_)
  refine CodeOk.cutR (tl 59 [(0, V.str a0), (1, V.int y95), (2, V.int y96), (7, .loc 100 0), (8, .own 101), (15, V.bool r135)]) [(100, .cells 40 [V.int 0, V.int 0]), (101, .vec false 118 3 (y97.map encSToken))] mix (by
   refine W.run D_ok 2 168 (by kernel_rfl) ?_
   refine W.ixS D_ok hx192 (by kernel_rfl) ?_
   refine W.run D_ok 1 168 (by kernel_rfl) ?_
   refine W.call0 (AC.gs (m_impl_IsBlank_ok (IntKind.wrap .i64 ((b134).toNat : Int)) hx193) (by decide)) cok91 rfl (by kernel_rfl) ?_
   refine W.run D_ok 1 168 (by kernel_rfl) ?_
   exact W.fi (by kernel_rfl)
   ) ?_
  (revert h173; refine cond_rev (fun hc194 h173 => ?_) (fun hc194 h173 => ?_))
  ·refine CodeOk.ifT hc194 (by kernel_rfl) ?_
   refine cu D_ok mix 3 168 (tl 59 [(0, V.str a0), (1, V.int (IntKind.wrap .i64 (y95 + 1))), (2, V.int y96), (7, .loc 100 0), (8, .own 101)]) [(100, .cells 40 [V.int 0, V.int 0]), (101, .vec false 118 3 (y97.map encSToken))] (by kernel_rfl) ?_
   refine CodeOk.exit ?_
   exact ih174 (a0, (IntKind.wrap .i64 (y95 + 1)), y96, y97) h173 _ (Weak.sel [(100, 100), (101, 101)] [0, 1, 2, 7, 8] (by kernel_rfl) (by kernel_rfl) (by kernel_rfl))
  refine CodeOk.ifF hc194 (by kernel_rfl) ?_
  (revert h173; refine bind_rev fun y138 hv198 h173 => ?_)
  refine CodeOk.cutR (tl 59 [(0, V.str a0), (1, V.int y95), (2, V.int y96), (7, .loc 100 0), (8, .own 101), (23, V.bool y138)]) [(100, .cells 40 [V.int 0, V.int 0]), (101, .vec false 118 3 (y97.map encSToken))] mix (by
   refine W.run D_ok 2 168 (by kernel_rfl) ?_
   (revert hv198; refine bind_rev fun b139 hx199 hv198 => ?_)
   refine W.ixS D_ok hx199 (by kernel_rfl) ?_
   refine W.run D_ok 2 168 (by kernel_rfl) ?_
   (revert hv198; refine cond_rev (fun hc200 hv198 => ?_) (fun hc200 hv198 => ?_))
   ·refine W.is 28 hc200 (by kernel_rfl) ?_
    refine W.run D_ok 3 168 (by kernel_rfl) ?_
    (revert hv198; refine bind_rev fun r140 hx201 hv198 => ?_)
    refine W.call0 (AC.gs (m_impl_byteAt_ok a0 (IntKind.wrap .i64 (y95 + 1)) hx201) (by decide)) cok92 rfl (by kernel_rfl) ?_
    refine W.run D_ok 3 168 (by kernel_rfl) ?_
    have hv198 := Option.some.inj hv198
    subst hv198
    exact W.fs [(100, 100), (101, 101)] [0, 1, 2, 7, 8, 23] (by kernel_rfl)
   refine W.is 28 hc200 (by kernel_rfl) ?_
   refine W.run D_ok 7 168 (by kernel_rfl) ?_
   have hv198 := Option.some.inj hv198
   subst hv198
   exact W.fs [(100, 100), (101, 101)] [0, 1, 2, 7, 8, 23] (by kernel_rfl)
   ) ?_
  (revert h173; refine cond_rev (fun hc202 h173 => ?_) (fun hc202 h173 => ?_))
  ·refine CodeOk.ifT hc202 (by kernel_rfl) ?_
   refine cu D_ok mix 3 168 (tl 59 [(0, V.str a0), (1, V.int (IntKind.wrap .i64 (y95 + 2))), (2, V.int y96), (7, .loc 100 0), (8, .own 101)]) [(100, .cells 40 [V.int 0, V.int 0]), (101, .vec false 118 3 (y97.map encSToken))] (by kernel_rfl) ?_
   refine CodeOk.exit ?_
   exact ih174 (a0, (IntKind.wrap .i64 (y95 + 2)), y96, y97) h173 _ (Weak.sel [(100, 100), (101, 101)] [0, 1, 2, 7, 8] (by kernel_rfl) (by kernel_rfl) (by kernel_rfl))
  refine CodeOk.ifF hc202 (by kernel_rfl) ?_
  refine CodeOk.skip ?_
  (revert h173; refine bind_rev fun r142 hx204 h173 => ?_)
  refine CodeOk.cutR (tl 59 [(0, V.str a0), (1, V.int y95), (7, .loc 100 0), (8, .own 101), (9, .loc 168 0)]) [(168, .cells 118 [V.int r142.Kind, V.str r142.Text, V.int r142.At]), (100, .cells 40 [V.int 0, V.int 0]), (101, .vec false 118 3 (y97.map encSToken))] mix (by
   refine W.run D_ok 3 168 (by kernel_rfl) ?_
   refine W.call0 (m_impl_tokenAt_ok N a0 y95 y96 hx204) cok93 rfl (by kernel_rfl) ?_
   refine W.run D_ok 2 168 (by kernel_rfl) ?_
   exact W.fi (by kernel_rfl)
   ) ?_
  refine CodeOk.seq' ?_
  refine cu D_ok mix 3 169 (tl 59 [(0, V.str a0), (1, V.int y95), (7, .loc 100 0), (8, .own 101), (9, .loc 168 0), (43, V.bool (r142.Kind == 0))]) [(168, .cells 118 [V.int r142.Kind, V.str r142.Text, V.int r142.At]), (100, .cells 40 [V.int 0, V.int 0]), (101, .vec false 118 3 (y97.map encSToken))] (by kernel_rfl) ?_
  (revert h173; refine cond_rev (fun hc206 h173 => ?_) (fun hc206 h173 => ?_))
  ·refine CodeOk.ifT hc206 (by kernel_rfl) ?_
   refine cu D_ok mix 4 169 (tl 59 [(6, .c (.slice none 0 0)), (7, .loc 100 0)]) [(100, .cells 40 [V.int 2, V.int y95])] (by kernel_rfl) ?_
   refine CodeOk.weak (Weak.nil 6 169 118 3 (by kernel_rfl) (by kernel_rfl)) ?_
   refine CodeOk.ret ?_
   have h173 := Option.some.inj h173
   subst h173
   exact Ends.gen [(169, 100)] (.inr rfl) (RetV.two rfl (OneR.tmp (t := 6) (r := .own 169) (by kernel_rfl)) (OneR.cell D_ok (r := .agg [V.int 2, V.int y95]) (i := 100) (ety := 40) (cs := [V.int 2, V.int y95]) (by kernel_rfl) (by kernel_rfl) (by kernel_rfl))) (by kernel_rfl) (by kernel_rfl) (by kernel_rfl)
  refine CodeOk.ifF hc206 (by kernel_rfl) ?_
  refine CodeOk.skip ?_
  (revert h173; refine bind_rev fun x144 hx208 h173 => ?_)
  refine CodeOk.cutR (tl 59 [(0, V.str a0), (1, V.int y95), (7, .loc 100 0), (8, .own 170), (9, .loc 168 0)]) [(170, .vec false 118 3 (x144.map encSToken)), (168, .cells 118 [V.int r142.Kind, V.str r142.Text, V.int r142.At]), (100, .cells 40 [V.int 0, V.int 0])] mix (by
   refine W.run D_ok 3 169 (by kernel_rfl) ?_
   refine W.appO D_ok encSToken (a := 101) (c := 169) (el := 118) (sz := 3) 32 hx208 rfl 170 (by kernel_rfl) ?_
   refine W.run D_ok 1 171 (by kernel_rfl) ?_
   exact W.fi (by kernel_rfl)
   ) ?_
  refine ce D_ok mix 9 171 (tl 59 [(0, V.str a0), (1, V.int (IntKind.wrap .i64 (y95 + (r142.Text.length : Int)))), (2, V.int r142.Kind), (7, .loc 100 0), (8, .own 170)]) [(170, .vec false 118 3 (x144.map encSToken)), (100, .cells 40 [V.int 0, V.int 0])] (by kernel_rfl) (fun st hw => ?_)
  exact ih174 (a0, (IntKind.wrap .i64 (y95 + (r142.Text.length : Int))), r142.Kind, x144) h173 _ (hw.trans (Weak.sel [(100, 100), (170, 101)] [0, 1, 2, 7, 8] (by kernel_rfl) (by kernel_rfl) (by kernel_rfl)))
 refine CodeOk.ifF hc176 (by kernel_rfl) ?_
 refine CodeOk.exit ?_
 refine cu D_ok mix 4 168 (tl 59 [(6, .own 101), (7, .loc 100 0)]) [(100, .cells 40 [V.int 0, V.int 0]), (101, .vec false 118 3 (y97.map encSToken))] (by kernel_rfl) ?_
 refine CodeOk.ret ?_
 have h173 := Option.some.inj h173
 subst h173
 exact Ends.gen [(101, 100)] (.inr rfl) (RetV.two rfl (OneR.tmp (t := 6) (r := .own 101) (by kernel_rfl)) (OneR.cell D_ok (r := .agg [V.int 0, V.int 0]) (i := 100) (ety := 40) (cs := [V.int 0, V.int 0]) (by kernel_rfl) (by kernel_rfl) (by kernel_rfl))) (by kernel_rfl) (by kernel_rfl) (by kernel_rfl)

theorem m_impl_Lex_ok (N : Nat) (a0 : List UInt8) {r : ((List SToken) × SFault)} (h : m_impl_Lex N a0 = some r) :
    AC Tryd.prog (GS [0, 1, 5]) 44 [V.str a0] [] (.tup [.own 100, .agg [V.int r.2.Kind, V.int r.2.At]]) [(100, .vec false 118 3 (r.1.map encSToken))] := by
 rw [m_impl_Lex] at h
 refine AC.enter Tryd.func44 rfl ?_
 refine cu D_ok mix 2 100 (tl 12 [(0, V.str a0), (3, .loc 100 0)]) [(100, .cells 40 [V.int 0, V.int 0])] (by kernel_rfl) ?_
 refine CodeOk.seq' ?_
 refine cu D_ok mix 3 101 (tl 12 [(0, V.str a0), (3, .loc 100 0), (6, V.bool (decide ((a0.length : Int) > 3000)))]) [(100, .cells 40 [V.int 0, V.int 0])] (by kernel_rfl) ?_
 (revert h; refine cond_rev (fun hc2 h => ?_) (fun hc2 h => ?_))
 ·refine CodeOk.ifT hc2 (by kernel_rfl) ?_
  refine cu D_ok mix 3 101 (tl 12 [(2, .c (.slice none 0 0)), (3, .loc 100 0)]) [(100, .cells 40 [V.int 1, V.int 0])] (by kernel_rfl) ?_
  refine CodeOk.weak (Weak.nil 2 101 118 3 (by kernel_rfl) (by kernel_rfl)) ?_
  refine CodeOk.ret ?_
  have h := Option.some.inj h
  subst h
  exact Ends.gen [(101, 100)] (.inr rfl) (RetV.two rfl (OneR.tmp (t := 2) (r := .own 101) (by kernel_rfl)) (OneR.cell D_ok (r := .agg [V.int 1, V.int 0]) (i := 100) (ety := 40) (cs := [V.int 1, V.int 0]) (by kernel_rfl) (by kernel_rfl) (by kernel_rfl))) (by kernel_rfl) (by kernel_rfl) (by kernel_rfl)
 refine CodeOk.ifF hc2 (by kernel_rfl) ?_
 refine CodeOk.skip ?_
 (revert h; refine bind_rev fun r2 hx4 h => ?_)
 refine CodeOk.cutR (tl 12 [(2, .own 101), (3, .loc 100 0)]) [(100, .cells 40 [V.int r2.2.Kind, V.int r2.2.At]), (101, .vec false 118 3 (r2.1.map encSToken))] mix (by
  refine W.run D_ok 1 101 (by kernel_rfl) ?_
  refine W.call (m_impl_lexFrom_ok N a0 0 0 hx4) cok69 [] [(100, 101)] [101] (show LayOk _ [] from trivial) (by kernel_rfl) (by kernel_rfl) ?_
  refine W.run D_ok 4 102 (by kernel_rfl) ?_
  exact W.fi (by kernel_rfl)
  ) ?_
 refine CodeOk.ret ?_
 have h := Option.some.inj h
 subst h
 exact Ends.gen [(101, 100)] (.inr rfl) (RetV.two rfl (OneR.tmp (t := 2) (r := .own 101) (by kernel_rfl)) (OneR.cell D_ok (r := .agg [V.int r2.2.Kind, V.int r2.2.At]) (i := 100) (ety := 40) (cs := [V.int r2.2.Kind, V.int r2.2.At]) (by kernel_rfl) (by kernel_rfl) (by kernel_rfl))) (by kernel_rfl) (by kernel_rfl) (by kernel_rfl)

theorem m_impl_Top_ok {r : SPos} (h : m_impl_Top = some r) :
    AC Tryd.prog (GS []) 46 [] [] (.agg [V.int r.Level, V.bool r.Dollar, V.bool r.NoIn, V.bool r.NoGt, V.bool r.NoSign]) [] := by
 rw [m_impl_Top] at h
 refine AC.enter Tryd.func46 rfl ?_
 refine cu D_ok mix 1 100 (tl 2 [(0, .loc 100 0)]) [(100, .cells 84 [V.int 0, V.bool false, V.bool false, V.bool false, V.bool false])] (by kernel_rfl) ?_
 refine cu D_ok mix 2 101 (tl 2 [(0, .loc 100 0)]) [(100, .cells 84 [V.int 1, V.bool false, V.bool false, V.bool false, V.bool false])] (by kernel_rfl) ?_
 refine CodeOk.ret ?_
 have h := Option.some.inj h
 subst h
 exact Ends.gen [] (.inr rfl) (RetV.one rfl (OneR.cell D_ok (r := .agg [V.int 1, V.bool false, V.bool false, V.bool false, V.bool false]) (i := 100) (ety := 84) (cs := [V.int 1, V.bool false, V.bool false, V.bool false, V.bool false]) (by kernel_rfl) (by kernel_rfl) (by kernel_rfl))) (by kernel_rfl) (by kernel_rfl) (by kernel_rfl)

theorem m_impl_PosOk_ok (a0 : SPos) {r : Bool} (h : m_impl_PosOk a0 = some r) :
    AC Tryd.prog (GS []) 70 [.agg [V.int a0.Level, V.bool a0.Dollar, V.bool a0.NoIn, V.bool a0.NoGt, V.bool a0.NoSign]] [] (V.bool r) [] := by
 rw [m_impl_PosOk] at h
 refine AC.enter Tryd.func70 rfl ?_
 refine cu D_ok mix 2 100 (tl 16 [(1, .loc 100 0)]) [(100, .cells 84 [V.int a0.Level, V.bool a0.Dollar, V.bool a0.NoIn, V.bool a0.NoGt, V.bool a0.NoSign])] (by kernel_rfl) ?_
 (revert h; refine bind_rev fun y2 hv4 h => ?_)
 refine CodeOk.cutR (tl 16 [(2, V.bool y2)]) [] mix (by
  refine W.run D_ok 2 101 (by kernel_rfl) ?_
  (revert hv4; refine bind_rev fun r3 hx5 hv4 => ?_)
  refine W.call0 (m_impl_within_ok a0.Level 1 15 hx5) cok38 rfl (by kernel_rfl) ?_
  refine W.run D_ok 1 101 (by kernel_rfl) ?_
  (revert hv4; refine cond_rev (fun hc6 hv4 => ?_) (fun hc6 hv4 => ?_))
  ·refine W.is 6 hc6 (by kernel_rfl) ?_
   refine W.run D_ok 4 101 (by kernel_rfl) ?_
   (revert hv4; refine cond_rev (fun hc7 hv4 => ?_) (fun hc7 hv4 => ?_))
   ·refine W.is 10 hc7 (by kernel_rfl) ?_
    refine W.run D_ok 6 101 (by kernel_rfl) ?_
    have hv4 := Option.some.inj hv4
    subst hv4
    exact W.fs [] [2] (by kernel_rfl)
   refine W.is 10 hc7 (by kernel_rfl) ?_
   refine W.run D_ok 6 101 (by kernel_rfl) ?_
   have hv4 := Option.some.inj hv4
   subst hv4
   exact W.fs [] [2] (by kernel_rfl)
  refine W.is 6 hc6 (by kernel_rfl) ?_
  refine W.run D_ok 10 101 (by kernel_rfl) ?_
  have hv4 := Option.some.inj hv4
  subst hv4
  exact W.fs [] [2] (by kernel_rfl)
  ) ?_
 refine CodeOk.ret ?_
 have h := Option.some.inj h
 subst h
 exact Ends.gen [] (.inr rfl) (RetV.one rfl (OneR.tmp (t := 2) (r := V.bool y2) (by kernel_rfl))) (by kernel_rfl) (by kernel_rfl) (by kernel_rfl)

theorem m_stringslite_Index_ok (a0 : List UInt8) {r : Int} (h : m_stringslite_Index a0 = some r) :
    AC Tryd.prog (GS []) 130 [V.str a0, V.str [10]] [] (V.int r) [] := by
 rw [m_stringslite_Index] at h
 refine AC.enter Tryd.func130 rfl ?_
 refine cu D_ok mix 1 100 (tl 143 [(0, V.str a0), (1, V.str [10])]) [] (by kernel_rfl) ?_
 refine cu D_ok mix 3 100 (tl 143 [(0, V.str a0), (1, V.str [10]), (5, V.int 1)]) [] (by kernel_rfl) ?_
 refine CodeOk.seq' ?_
 refine CodeOk.block' ?_
 refine cu D_ok mix 8 100 (tl 143 [(0, V.str a0), (1, V.str [10]), (5, V.int 1), (16, V.bool (([10] : List UInt8) == a0))]) [] (by kernel_rfl) ?_
 (revert h; refine cond_rev (fun hc6 h => ?_) (fun hc6 h => ?_))
 ·refine CodeOk.ifT hc6 (by kernel_rfl) ?_
  refine cu D_ok mix 1 100 (tl 143 [(4, V.int 0)]) [] (by kernel_rfl) ?_
  refine CodeOk.ret ?_
  have h := Option.some.inj h
  subst h
  exact Ends.gen [] (.inr rfl) (RetV.one rfl (OneR.tmp (t := 4) (r := V.int 0) (by kernel_rfl))) (by kernel_rfl) (by kernel_rfl) (by kernel_rfl)
 refine CodeOk.ifF hc6 (by kernel_rfl) ?_
 refine cu D_ok mix 3 100 (tl 143 [(0, V.str a0), (1, V.str [10]), (5, V.int 1), (24, V.bool true)]) [] (by kernel_rfl) ?_
 refine CodeOk.ifT (c := true) rfl (by kernel_rfl) ?_
 (revert h; refine bind_rev fun b7 hx9 h => ?_)
 (revert h; refine bind_rev fun r8 hx10 h => ?_)
 refine CodeOk.cutR (tl 143 [(4, V.int r8)]) [] mix (by
  refine W.run D_ok 2 100 (by kernel_rfl) ?_
  refine W.ixS D_ok hx9 (by kernel_rfl) ?_
  refine W.call0 (m_stringslite_IndexByte_ok a0 ((b7).toNat : Int) hx10) cok161 rfl (by kernel_rfl) ?_
  refine W.run D_ok 1 100 (by kernel_rfl) ?_
  exact W.fi (by kernel_rfl)
  ) ?_
 refine CodeOk.ret ?_
 have h := Option.some.inj h
 subst h
 exact Ends.gen [] (.inr rfl) (RetV.one rfl (OneR.tmp (t := 4) (r := V.int r8) (by kernel_rfl))) (by kernel_rfl) (by kernel_rfl) (by kernel_rfl)

theorem m_strings_Index_ok (a0 : List UInt8) {r : Int} (h : m_strings_Index a0 = some r) :
    AC Tryd.prog (GS []) 90 [V.str a0, V.str [10]] [] (V.int r) [] := by
 rw [m_strings_Index] at h
 refine AC.enter Tryd.func90 rfl ?_
 refine cu D_ok mix 1 100 (tl 8 [(0, V.str a0), (1, V.str [10])]) [] (by kernel_rfl) ?_
 (revert h; refine bind_rev fun r2 hx2 h => ?_)
 refine CodeOk.cutR (tl 8 [(4, V.int r2)]) [] mix (by
  refine W.run D_ok 2 100 (by kernel_rfl) ?_
  refine W.call0 (m_stringslite_Index_ok a0 hx2) cok130 rfl (by kernel_rfl) ?_
  refine W.run D_ok 1 100 (by kernel_rfl) ?_
  exact W.fi (by kernel_rfl)
  ) ?_
 refine CodeOk.ret ?_
 have h := Option.some.inj h
 subst h
 exact Ends.gen [] (.inr rfl) (RetV.one rfl (OneR.tmp (t := 4) (r := V.int r2) (by kernel_rfl))) (by kernel_rfl) (by kernel_rfl) (by kernel_rfl)

theorem m_strings_Contains_ok (a0 : List UInt8) {r : Bool} (h : m_strings_Contains a0 = some r) :
    AC Tryd.prog (GS []) 87 [V.str a0, V.str [10]] [] (V.bool r) [] := by
 rw [m_strings_Contains] at h
 refine AC.enter Tryd.func87 rfl ?_
 refine cu D_ok mix 1 100 (tl 9 [(0, V.str a0), (1, V.str [10])]) [] (by kernel_rfl) ?_
 (revert h; refine bind_rev fun r2 hx2 h => ?_)
 refine CodeOk.cutR (tl 9 [(4, V.bool (decide (r2 ≥ 0)))]) [] mix (by
  refine W.run D_ok 2 100 (by kernel_rfl) ?_
  refine W.call0 (m_strings_Index_ok a0 hx2) cok90 rfl (by kernel_rfl) ?_
  refine W.run D_ok 2 100 (by kernel_rfl) ?_
  exact W.fi (by kernel_rfl)
  ) ?_
 refine CodeOk.ret ?_
 have h := Option.some.inj h
 subst h
 exact Ends.gen [] (.inr rfl) (RetV.one rfl (OneR.tmp (t := 4) (r := V.bool (decide (r2 ≥ 0))) (by kernel_rfl))) (by kernel_rfl) (by kernel_rfl) (by kernel_rfl)

theorem m_impl_NameOk_ok (N : Nat) (a0 : List UInt8) {r : Bool} (h : m_impl_NameOk N a0 = some r) :
    AC Tryd.prog (GS [0, 5]) 170 [V.str a0] [] (V.bool r) [] := by
 rw [m_impl_NameOk] at h
 refine AC.enter Tryd.func170 rfl ?_
 refine cu D_ok mix 1 100 (tl 15 [(0, V.str a0)]) [] (by kernel_rfl) ?_
 (revert h; refine bind_rev fun y4 hv6 h => ?_)
 refine CodeOk.cutR (tl 15 [(2, V.bool y4)]) [] mix (by
  refine W.run D_ok 1 100 (by kernel_rfl) ?_
  (revert hv6; refine bind_rev fun r5 hx7 hv6 => ?_)
  refine W.call0 (AC.gs (m_impl_NameShape_ok N a0 hx7) (by decide)) cok139 rfl (by kernel_rfl) ?_
  refine W.run D_ok 1 100 (by kernel_rfl) ?_
  (revert hv6; refine cond_rev (fun hc8 hv6 => ?_) (fun hc8 hv6 => ?_))
  ·refine W.is 5 hc8 (by kernel_rfl) ?_
   refine W.run D_ok 1 100 (by kernel_rfl) ?_
   (revert hv6; refine bind_rev fun r6 hx9 hv6 => ?_)
   refine W.call0 (AC.gs (m_impl_KeywordOf_ok N a0 hx9) (by decide)) cok168 rfl (by kernel_rfl) ?_
   refine W.run D_ok 3 100 (by kernel_rfl) ?_
   (revert hv6; refine cond_rev (fun hc10 hv6 => ?_) (fun hc10 hv6 => ?_))
   ·refine W.is 10 hc10 (by kernel_rfl) ?_
    refine W.run D_ok 1 100 (by kernel_rfl) ?_
    (revert hv6; refine bind_rev fun r7 hx11 hv6 => ?_)
    refine W.call0 (AC.gs (m_impl_IsBuiltin_ok N a0 hx11) (by decide)) cok169 rfl (by kernel_rfl) ?_
    refine W.run D_ok 3 100 (by kernel_rfl) ?_
    have hv6 := Option.some.inj hv6
    subst hv6
    exact W.fs [] [2] (by kernel_rfl)
   refine W.is 10 hc10 (by kernel_rfl) ?_
   refine W.run D_ok 5 100 (by kernel_rfl) ?_
   have hv6 := Option.some.inj hv6
   subst hv6
   exact W.fs [] [2] (by kernel_rfl)
  refine W.is 5 hc8 (by kernel_rfl) ?_
  refine W.run D_ok 10 100 (by kernel_rfl) ?_
  have hv6 := Option.some.inj hv6
  subst hv6
  exact W.fs [] [2] (by kernel_rfl)
  ) ?_
 refine CodeOk.ret ?_
 have h := Option.some.inj h
 subst h
 exact Ends.gen [] (.inr rfl) (RetV.one rfl (OneR.tmp (t := 2) (r := V.bool y4) (by kernel_rfl))) (by kernel_rfl) (by kernel_rfl) (by kernel_rfl)

theorem m_impl_TokenOk_ok (N : Nat) (a0 : SToken) {r : Bool} (h : m_impl_TokenOk N a0 = some r) :
    AC Tryd.prog (GS [0, 1, 5]) 142 [.agg [V.int a0.Kind, V.str a0.Text, V.int a0.At]] [] (V.bool r) [] := by
 rw [m_impl_TokenOk] at h
 refine AC.enter Tryd.func142 rfl ?_
 refine cu D_ok mix 2 100 (tl 64 [(1, .loc 100 0)]) [(100, .cells 118 [V.int a0.Kind, V.str a0.Text, V.int a0.At])] (by kernel_rfl) ?_
 refine CodeOk.seq' ?_
 refine cu D_ok mix 3 101 (tl 64 [(1, .loc 100 0), (5, V.bool (a0.Text == []))]) [(100, .cells 118 [V.int a0.Kind, V.str a0.Text, V.int a0.At])] (by kernel_rfl) ?_
 (revert h; refine cond_rev (fun hc2 h => ?_) (fun hc2 h => ?_))
 ·refine CodeOk.ifT hc2 (by kernel_rfl) ?_
  refine cu D_ok mix 1 101 (tl 64 [(2, V.bool false)]) [] (by kernel_rfl) ?_
  refine CodeOk.ret ?_
  have h := Option.some.inj h
  subst h
  exact Ends.gen [] (.inr rfl) (RetV.one rfl (OneR.tmp (t := 2) (r := V.bool false) (by kernel_rfl))) (by kernel_rfl) (by kernel_rfl) (by kernel_rfl)
 refine CodeOk.ifF hc2 (by kernel_rfl) ?_
 refine CodeOk.skip ?_
 refine CodeOk.seq' ?_
 refine cu D_ok mix 2 101 (tl 64 [(1, .loc 100 0), (7, V.int a0.Kind)]) [(100, .cells 118 [V.int a0.Kind, V.str a0.Text, V.int a0.At])] (by kernel_rfl) ?_
 refine CodeOk.block' ?_
 refine cu D_ok mix 2 101 (tl 64 [(1, .loc 100 0), (7, V.int a0.Kind), (8, V.bool (a0.Kind == 2))]) [(100, .cells 118 [V.int a0.Kind, V.str a0.Text, V.int a0.At])] (by kernel_rfl) ?_
 (revert h; refine cond_rev (fun hc30 h => ?_) (fun hc30 h => ?_))
 ·refine CodeOk.ifT hc30 (by kernel_rfl) ?_
  (revert h; refine bind_rev fun y19 hv34 h => ?_)
  refine CodeOk.cutR (tl 64 [(2, V.bool y19)]) [] mix (by
   refine W.run D_ok 2 101 (by kernel_rfl) ?_
   (revert hv34; refine bind_rev fun b20 hx35 hv34 => ?_)
   refine W.ixS D_ok hx35 (by kernel_rfl) ?_
   refine W.run D_ok 2 101 (by kernel_rfl) ?_
   (revert hv34; refine cond_rev (fun hc36 hv34 => ?_) (fun hc36 hv34 => ?_))
   ·refine W.is 14 hc36 (by kernel_rfl) ?_
    refine W.run D_ok 2 101 (by kernel_rfl) ?_
    (revert hv34; refine bind_rev fun r21 hx37 hv34 => ?_)
    refine W.call0 (AC.gs (m_strings_Contains_ok a0.Text hx37) (by decide)) cok87 rfl (by kernel_rfl) ?_
    refine W.run D_ok 3 101 (by kernel_rfl) ?_
    have hv34 := Option.some.inj hv34
    subst hv34
    exact W.fs [] [2] (by kernel_rfl)
   refine W.is 14 hc36 (by kernel_rfl) ?_
   refine W.run D_ok 6 101 (by kernel_rfl) ?_
   have hv34 := Option.some.inj hv34
   subst hv34
   exact W.fs [] [2] (by kernel_rfl)
   ) ?_
  refine CodeOk.ret ?_
  have h := Option.some.inj h
  subst h
  exact Ends.gen [] (.inr rfl) (RetV.one rfl (OneR.tmp (t := 2) (r := V.bool y19) (by kernel_rfl))) (by kernel_rfl) (by kernel_rfl) (by kernel_rfl)
 refine CodeOk.ifF hc30 (by kernel_rfl) ?_
 refine cu D_ok mix 2 101 (tl 64 [(1, .loc 100 0), (7, V.int a0.Kind), (20, V.bool (a0.Kind == 3))]) [(100, .cells 118 [V.int a0.Kind, V.str a0.Text, V.int a0.At])] (by kernel_rfl) ?_
 (revert h; refine cond_rev (fun hc38 h => ?_) (fun hc38 h => ?_))
 ·refine CodeOk.ifT hc38 (by kernel_rfl) ?_
  (revert h; refine bind_rev fun r23 hx40 h => ?_)
  refine CodeOk.cutR (tl 64 [(2, V.bool (r23 == (a0.Text.length : Int)))]) [] mix (by
   refine W.run D_ok 2 101 (by kernel_rfl) ?_
   refine W.call0 (AC.gs (m_impl_NumEnd_ok N a0.Text 0 hx40) (by decide)) cok133 rfl (by kernel_rfl) ?_
   refine W.run D_ok 5 101 (by kernel_rfl) ?_
   exact W.fi (by kernel_rfl)
   ) ?_
  refine CodeOk.ret ?_
  have h := Option.some.inj h
  subst h
  exact Ends.gen [] (.inr rfl) (RetV.one rfl (OneR.tmp (t := 2) (r := V.bool (r23 == (a0.Text.length : Int))) (by kernel_rfl))) (by kernel_rfl) (by kernel_rfl) (by kernel_rfl)
 refine CodeOk.ifF hc38 (by kernel_rfl) ?_
 refine cu D_ok mix 2 101 (tl 64 [(1, .loc 100 0), (7, V.int a0.Kind), (29, V.bool (a0.Kind == 4))]) [(100, .cells 118 [V.int a0.Kind, V.str a0.Text, V.int a0.At])] (by kernel_rfl) ?_
 (revert h; refine cond_rev (fun hc41 h => ?_) (fun hc41 h => ?_))
 ·refine CodeOk.ifT hc41 (by kernel_rfl) ?_
  (revert h; refine bind_rev fun r25 hx43 h => ?_)
  refine CodeOk.cutR (tl 64 [(2, V.bool (r25 == (a0.Text.length : Int)))]) [] mix (by
   refine W.run D_ok 2 101 (by kernel_rfl) ?_
   refine W.call0 (AC.gs (m_impl_StrEnd_ok N a0.Text 0 hx43) (by decide)) cok134 rfl (by kernel_rfl) ?_
   refine W.run D_ok 5 101 (by kernel_rfl) ?_
   exact W.fi (by kernel_rfl)
   ) ?_
  refine CodeOk.ret ?_
  have h := Option.some.inj h
  subst h
  exact Ends.gen [] (.inr rfl) (RetV.one rfl (OneR.tmp (t := 2) (r := V.bool (r25 == (a0.Text.length : Int))) (by kernel_rfl))) (by kernel_rfl) (by kernel_rfl) (by kernel_rfl)
 refine CodeOk.ifF hc41 (by kernel_rfl) ?_
 refine cu D_ok mix 2 101 (tl 64 [(1, .loc 100 0), (7, V.int a0.Kind), (38, V.bool (a0.Kind == 5))]) [(100, .cells 118 [V.int a0.Kind, V.str a0.Text, V.int a0.At])] (by kernel_rfl) ?_
 (revert h; refine cond_rev (fun hc44 h => ?_) (fun hc44 h => ?_))
 ·refine CodeOk.ifT hc44 (by kernel_rfl) ?_
  (revert h; refine bind_rev fun r27 hx46 h => ?_)
  refine CodeOk.cutR (tl 64 [(2, V.bool (r27 == (a0.Text.length : Int)))]) [] mix (by
   refine W.run D_ok 2 101 (by kernel_rfl) ?_
   refine W.call0 (AC.gs (m_impl_EreEnd_ok N a0.Text 0 hx46) (by decide)) cok136 rfl (by kernel_rfl) ?_
   refine W.run D_ok 5 101 (by kernel_rfl) ?_
   exact W.fi (by kernel_rfl)
   ) ?_
  refine CodeOk.ret ?_
  have h := Option.some.inj h
  subst h
  exact Ends.gen [] (.inr rfl) (RetV.one rfl (OneR.tmp (t := 2) (r := V.bool (r27 == (a0.Text.length : Int))) (by kernel_rfl))) (by kernel_rfl) (by kernel_rfl) (by kernel_rfl)
 refine CodeOk.ifF hc44 (by kernel_rfl) ?_
 refine CodeOk.join (fun (⟨a0, y28⟩ : (SToken × Bool)) => ⟨tl 64 [(1, .loc 100 0), (7, V.int a0.Kind), (47, V.bool y28)], [(100, .cells 118 [V.int a0.Kind, V.str a0.Text, V.int a0.At])]⟩) (fun i => m_impl_TokenOk_k1 N i = some r) ?_ ?_
 · rintro ⟨a0, y28⟩ h48
   rw [m_impl_TokenOk_k1] at h48
   (revert h48; refine cond_rev (fun hc49 h48 => ?_) (fun hc49 h48 => ?_))
   ·refine CodeOk.ifT hc49 (by kernel_rfl) ?_
    (revert h48; refine bind_rev fun r30 hx51 h48 => ?_)
    refine CodeOk.cutR (tl 64 [(2, V.bool r30)]) [] mix (by
     refine W.run D_ok 2 101 (by kernel_rfl) ?_
     refine W.call0 (AC.gs (m_impl_NameOk_ok N a0.Text hx51) (by decide)) cok170 rfl (by kernel_rfl) ?_
     refine W.run D_ok 1 101 (by kernel_rfl) ?_
     exact W.fi (by kernel_rfl)
     ) ?_
    refine CodeOk.ret ?_
    have h48 := Option.some.inj h48
    subst h48
    exact Ends.gen [] (.inr rfl) (RetV.one rfl (OneR.tmp (t := 2) (r := V.bool r30) (by kernel_rfl))) (by kernel_rfl) (by kernel_rfl) (by kernel_rfl)
   refine CodeOk.ifF hc49 (by kernel_rfl) ?_
   refine cu D_ok mix 2 101 (tl 64 [(1, .loc 100 0), (53, V.bool (a0.Kind == 8))]) [(100, .cells 118 [V.int a0.Kind, V.str a0.Text, V.int a0.At])] (by kernel_rfl) ?_
   (revert h48; refine cond_rev (fun hc52 h48 => ?_) (fun hc52 h48 => ?_))
   ·refine CodeOk.ifT hc52 (by kernel_rfl) ?_
    (revert h48; refine bind_rev fun r32 hx54 h48 => ?_)
    refine CodeOk.cutR (tl 64 [(2, V.bool r32)]) [] mix (by
     refine W.run D_ok 2 101 (by kernel_rfl) ?_
     refine W.call0 (AC.gs (m_impl_IsBuiltin_ok N a0.Text hx54) (by decide)) cok169 rfl (by kernel_rfl) ?_
     refine W.run D_ok 1 101 (by kernel_rfl) ?_
     exact W.fi (by kernel_rfl)
     ) ?_
    refine CodeOk.ret ?_
    have h48 := Option.some.inj h48
    subst h48
    exact Ends.gen [] (.inr rfl) (RetV.one rfl (OneR.tmp (t := 2) (r := V.bool r32) (by kernel_rfl))) (by kernel_rfl) (by kernel_rfl) (by kernel_rfl)
   refine CodeOk.ifF hc52 (by kernel_rfl) ?_
   refine CodeOk.skip ?_
   (revert h48; refine bind_rev fun r34 hx56 h48 => ?_)
   refine CodeOk.cutR (tl 64 [(2, V.bool (a0.Text == r34))]) [] mix (by
    refine W.run D_ok 4 101 (by kernel_rfl) ?_
    refine W.call0 (AC.gs (m_impl_SpellOf_ok a0.Kind hx56) (by decide)) cok50 rfl (by kernel_rfl) ?_
    refine W.run D_ok 2 101 (by kernel_rfl) ?_
    exact W.fi (by kernel_rfl)
    ) ?_
   refine CodeOk.ret ?_
   have h48 := Option.some.inj h48
   subst h48
   exact Ends.gen [] (.inr rfl) (RetV.one rfl (OneR.tmp (t := 2) (r := V.bool (a0.Text == r34)) (by kernel_rfl))) (by kernel_rfl) (by kernel_rfl) (by kernel_rfl)
 intro hk57
 refine cu D_ok mix 2 101 (tl 64 [(1, .loc 100 0), (7, V.int a0.Kind), (47, V.bool (a0.Kind == 6))]) [(100, .cells 118 [V.int a0.Kind, V.str a0.Text, V.int a0.At])] (by kernel_rfl) ?_
 (revert h; refine cond_rev (fun hc58 h => ?_) (fun hc58 h => ?_))
 ·refine CodeOk.ifT hc58 (by kernel_rfl) ?_
  refine CodeOk.skip ?_
  exact hk57 (a0, (a0.Kind == 6)) h _ (Weak.sel [(100, 100)] [1, 7, 47] (by kernel_rfl) (by kernel_rfl) (by kernel_rfl))
 refine CodeOk.ifF hc58 (by kernel_rfl) ?_
 refine ce D_ok mix 2 101 (tl 64 [(1, .loc 100 0), (7, V.int a0.Kind), (47, V.bool (a0.Kind == 7))]) [(100, .cells 118 [V.int a0.Kind, V.str a0.Text, V.int a0.At])] (by kernel_rfl) (fun st hw => ?_)
 exact hk57 (a0, (a0.Kind == 7)) h _ (hw.trans (Weak.sel [(100, 100)] [1, 7, 47] (by kernel_rfl) (by kernel_rfl) (by kernel_rfl)))

theorem m_impl_TokensOk_ok (N : Nat) (a0 : List SToken) {r : Bool} (h : m_impl_TokensOk N a0 = some r) :
    AC Tryd.prog (GS [0, 1, 5]) 94 [.sl false false (a0.map encSToken)] [] (V.bool r) [] := by
 rw [m_impl_TokensOk] at h
 refine AC.enter Tryd.func94 rfl ?_
 refine cu D_ok mix 1 100 (tl 76 [(0, .sl false false (a0.map encSToken))]) [] (by kernel_rfl) ?_
 refine CodeOk.seq' ?_
 refine CodeOk.cutR (tl 76 [(0, .sl false false (a0.map encSToken)), (9, V.bool (decide ((a0.length : Int) > 3000)))]) [] mix (by
  refine W.run D_ok 1 100 (by kernel_rfl) ?_
  refine W.len D_ok encSToken a0 [] (by kernel_rfl) (by kernel_rfl) ?_
  refine W.run D_ok 1 100 (by kernel_rfl) ?_
  exact W.fi (by kernel_rfl)
  ) ?_
 (revert h; refine cond_rev (fun hc2 h => ?_) (fun hc2 h => ?_))
 ·refine CodeOk.ifT hc2 (by kernel_rfl) ?_
  refine cu D_ok mix 1 100 (tl 76 [(2, V.bool false)]) [] (by kernel_rfl) ?_
  refine CodeOk.ret ?_
  have h := Option.some.inj h
  subst h
  exact Ends.gen [] (.inr rfl) (RetV.one rfl (OneR.tmp (t := 2) (r := V.bool false) (by kernel_rfl))) (by kernel_rfl) (by kernel_rfl) (by kernel_rfl)
 refine CodeOk.ifF hc2 (by kernel_rfl) ?_
 refine CodeOk.skip ?_
 refine cu D_ok mix 1 100 (tl 76 [(0, .sl false false (a0.map encSToken)), (3, V.int 0)]) [] (by kernel_rfl) ?_
 refine CodeOk.seq' ?_
 refine CodeOk.cutR (tl 76 [(0, .sl false false (a0.map encSToken)), (3, V.int 0), (10, .sl false false (a0.map encSToken)), (11, V.int (a0.length : Int)), (12, V.int 0)]) [] mix (by
  refine W.run D_ok 1 100 (by kernel_rfl) ?_
  refine W.len D_ok encSToken a0 [] (by kernel_rfl) (by kernel_rfl) ?_
  refine W.run D_ok 1 100 (by kernel_rfl) ?_
  exact W.fi (by kernel_rfl)
  ) ?_
 refine CodeOk.block' ?_
 refine CodeOk.loopJ (fun (⟨a0, y397, y398⟩ : ((List SToken) × Int × Int)) => ⟨tl 76 [(0, .sl false false (a0.map encSToken)), (3, V.int y397), (10, .sl false false (a0.map encSToken)), (11, V.int (a0.length : Int)), (12, V.int y398)], []⟩) (fun n i => m_impl_TokensOk_l1 N n i = some r) (n0 := N) (i0 := (a0, 0, 0)) (Weak.sel [] [0, 3, 10, 11, 12] (by kernel_rfl) (by kernel_rfl) (by kernel_rfl)) h (fun i h => by simp [m_impl_TokensOk_l1] at h) ?_
 rintro n1 ⟨a0, y397, y398⟩ h1035 ih1036
 rw [m_impl_TokensOk_l1] at h1035
 refine cu D_ok mix 1 162 (tl 76 [(0, .sl false false (a0.map encSToken)), (3, V.int y397), (10, .sl false false (a0.map encSToken)), (11, V.int (a0.length : Int)), (12, V.int y398), (13, V.bool (decide (y398 < (a0.length : Int))))]) [] (by kernel_rfl) ?_
 refine CodeOk.seq' ?_
 (revert h1035; refine cond_rev (fun hc1038 h1035 => ?_) (fun hc1038 h1035 => ?_))
 ·refine CodeOk.ifT hc1038 (by kernel_rfl) ?_
  refine CodeOk.skip ?_
  refine CodeOk.seq' ?_
  refine CodeOk.block' ?_
  (revert h1035; refine bind_rev fun e549 hx1142 h1035 => ?_)
  refine CodeOk.cutR (tl 76 [(0, .sl false false (a0.map encSToken)), (3, V.int y397), (4, V.int y398), (5, .loc 162 0), (10, .sl false false (a0.map encSToken)), (11, V.int (a0.length : Int)), (12, V.int y398)]) [(162, .cells 118 [V.int e549.Kind, V.str e549.Text, V.int e549.At])] mix (by
   refine W.run D_ok 1 162 (by kernel_rfl) ?_
   refine W.ixD D_ok encSToken hx1142 3 (by kernel_rfl) (by kernel_rfl) ?_
   refine W.run D_ok 4 162 (by kernel_rfl) ?_
   exact W.fi (by kernel_rfl)
   ) ?_
  refine cu D_ok mix 1 163 (tl 76 [(0, .sl false false (a0.map encSToken)), (3, V.int y397), (4, V.int y398), (5, .loc 162 0), (6, V.int 0), (10, .sl false false (a0.map encSToken)), (11, V.int (a0.length : Int)), (12, V.int y398)]) [(162, .cells 118 [V.int e549.Kind, V.str e549.Text, V.int e549.At])] (by kernel_rfl) ?_
  refine CodeOk.join (fun (⟨a0, y397, y398, e549, y552⟩ : ((List SToken) × Int × Int × SToken × Int)) => ⟨tl 76 [(0, .sl false false (a0.map encSToken)), (3, V.int y397), (5, .loc 100 0), (6, V.int y552), (10, .sl false false (a0.map encSToken)), (11, V.int (a0.length : Int)), (12, V.int y398)], [(100, .cells 118 [V.int e549.Kind, V.str e549.Text, V.int e549.At])]⟩) (fun i => m_impl_TokensOk_k2 N (m_impl_TokensOk_l1 N n1) i = some r) ?_ ?_
  · rintro ⟨a0, y397, y398, e549, y552⟩ h1146
    rw [m_impl_TokensOk_k2] at h1146
    refine CodeOk.seq' ?_
    refine CodeOk.block' ?_
    (revert h1146; refine bind_rev fun r575 hx1194 h1146 => ?_)
    refine CodeOk.cutR (tl 76 [(0, .sl false false (a0.map encSToken)), (3, V.int y397), (5, .loc 100 0), (6, V.int y552), (10, .sl false false (a0.map encSToken)), (11, V.int (a0.length : Int)), (12, V.int y398), (28, V.bool (!r575))]) [(100, .cells 118 [V.int e549.Kind, V.str e549.Text, V.int e549.At])] mix (by
     refine W.run D_ok 1 163 (by kernel_rfl) ?_
     refine W.call0 (m_impl_TokenOk_ok N e549 hx1194) cok142 rfl (by kernel_rfl) ?_
     refine W.run D_ok 2 163 (by kernel_rfl) ?_
     exact W.fi (by kernel_rfl)
     ) ?_
    (revert h1146; refine cond_rev (fun hc1195 h1146 => ?_) (fun hc1195 h1146 => ?_))
    ·refine CodeOk.ifT hc1195 (by kernel_rfl) ?_
     refine cu D_ok mix 1 163 (tl 76 [(2, V.bool false)]) [] (by kernel_rfl) ?_
     refine CodeOk.ret ?_
     have h1146 := Option.some.inj h1146
     subst h1146
     exact Ends.gen [] (.inr rfl) (RetV.one rfl (OneR.tmp (t := 2) (r := V.bool false) (by kernel_rfl))) (by kernel_rfl) (by kernel_rfl) (by kernel_rfl)
    refine CodeOk.ifF hc1195 (by kernel_rfl) ?_
    (revert h1146; refine bind_rev fun y576 hv1197 h1146 => ?_)
    refine CodeOk.cutR (tl 76 [(0, .sl false false (a0.map encSToken)), (3, V.int y397), (5, .loc 100 0), (6, V.int y552), (10, .sl false false (a0.map encSToken)), (11, V.int (a0.length : Int)), (12, V.int y398), (32, V.bool y576)]) [(100, .cells 118 [V.int e549.Kind, V.str e549.Text, V.int e549.At])] mix (by
     refine W.run D_ok 4 163 (by kernel_rfl) ?_
     (revert hv1197; refine cond_rev (fun hc1198 hv1197 => ?_) (fun hc1198 hv1197 => ?_))
     ·refine W.is 36 hc1198 (by kernel_rfl) ?_
      refine W.run D_ok 4 163 (by kernel_rfl) ?_
      have hv1197 := Option.some.inj hv1197
      subst hv1197
      exact W.fs [(100, 100)] [0, 3, 5, 6, 10, 11, 12, 32] (by kernel_rfl)
     refine W.is 36 hc1198 (by kernel_rfl) ?_
     refine W.run D_ok 4 163 (by kernel_rfl) ?_
     have hv1197 := Option.some.inj hv1197
     subst hv1197
     exact W.fs [(100, 100)] [0, 3, 5, 6, 10, 11, 12, 32] (by kernel_rfl)
     ) ?_
    (revert h1146; refine cond_rev (fun hc1199 h1146 => ?_) (fun hc1199 h1146 => ?_))
    ·refine CodeOk.ifT hc1199 (by kernel_rfl) ?_
     refine cu D_ok mix 1 163 (tl 76 [(2, V.bool false)]) [] (by kernel_rfl) ?_
     refine CodeOk.ret ?_
     have h1146 := Option.some.inj h1146
     subst h1146
     exact Ends.gen [] (.inr rfl) (RetV.one rfl (OneR.tmp (t := 2) (r := V.bool false) (by kernel_rfl))) (by kernel_rfl) (by kernel_rfl) (by kernel_rfl)
    refine CodeOk.ifF hc1199 (by kernel_rfl) ?_
    (revert h1146; refine bind_rev fun y577 hv1202 h1146 => ?_)
    refine CodeOk.cutR (tl 76 [(0, .sl false false (a0.map encSToken)), (3, V.int y397), (5, .loc 100 0), (10, .sl false false (a0.map encSToken)), (11, V.int (a0.length : Int)), (12, V.int y398), (40, V.bool y577)]) [(100, .cells 118 [V.int e549.Kind, V.str e549.Text, V.int e549.At])] mix (by
     refine W.run D_ok 4 163 (by kernel_rfl) ?_
     (revert hv1202; refine cond_rev (fun hc1203 hv1202 => ?_) (fun hc1203 hv1202 => ?_))
     ·refine W.is 44 hc1203 (by kernel_rfl) ?_
      refine W.run D_ok 4 163 (by kernel_rfl) ?_
      (revert hv1202; refine cond_rev (fun hc1204 hv1202 => ?_) (fun hc1204 hv1202 => ?_))
      ·refine W.is 48 hc1204 (by kernel_rfl) ?_
       refine W.run D_ok 4 163 (by kernel_rfl) ?_
       have hv1202 := Option.some.inj hv1202
       subst hv1202
       exact W.fs [(100, 100)] [0, 3, 5, 10, 11, 12, 40] (by kernel_rfl)
      refine W.is 48 hc1204 (by kernel_rfl) ?_
      refine W.run D_ok 4 163 (by kernel_rfl) ?_
      have hv1202 := Option.some.inj hv1202
      subst hv1202
      exact W.fs [(100, 100)] [0, 3, 5, 10, 11, 12, 40] (by kernel_rfl)
     refine W.is 44 hc1203 (by kernel_rfl) ?_
     refine W.run D_ok 8 163 (by kernel_rfl) ?_
     have hv1202 := Option.some.inj hv1202
     subst hv1202
     exact W.fs [(100, 100)] [0, 3, 5, 10, 11, 12, 40] (by kernel_rfl)
     ) ?_
    (revert h1146; refine cond_rev (fun hc1205 h1146 => ?_) (fun hc1205 h1146 => ?_))
    ·refine CodeOk.ifT hc1205 (by kernel_rfl) ?_
     refine cu D_ok mix 1 163 (tl 76 [(2, V.bool false)]) [] (by kernel_rfl) ?_
     refine CodeOk.ret ?_
     have h1146 := Option.some.inj h1146
     subst h1146
     exact Ends.gen [] (.inr rfl) (RetV.one rfl (OneR.tmp (t := 2) (r := V.bool false) (by kernel_rfl))) (by kernel_rfl) (by kernel_rfl) (by kernel_rfl)
    refine CodeOk.ifF hc1205 (by kernel_rfl) ?_
    refine CodeOk.join (fun (⟨a0, y398, e549, y586⟩ : ((List SToken) × Int × SToken × Bool)) => ⟨tl 76 [(0, .sl false false (a0.map encSToken)), (5, .loc 100 0), (10, .sl false false (a0.map encSToken)), (11, V.int (a0.length : Int)), (12, V.int y398), (52, V.bool y586)], [(100, .cells 118 [V.int e549.Kind, V.str e549.Text, V.int e549.At])]⟩) (fun i => m_impl_TokensOk_k3 N (m_impl_TokensOk_l1 N n1) i = some r) ?_ ?_
    · rintro ⟨a0, y398, e549, y586⟩ h1221
      rw [m_impl_TokensOk_k3] at h1221
      (revert h1221; refine cond_rev (fun hc1222 h1221 => ?_) (fun hc1222 h1221 => ?_))
      ·refine CodeOk.ifT hc1222 (by kernel_rfl) ?_
       refine cu D_ok mix 1 163 (tl 76 [(2, V.bool false)]) [] (by kernel_rfl) ?_
       refine CodeOk.ret ?_
       have h1221 := Option.some.inj h1221
       subst h1221
       exact Ends.gen [] (.inr rfl) (RetV.one rfl (OneR.tmp (t := 2) (r := V.bool false) (by kernel_rfl))) (by kernel_rfl) (by kernel_rfl) (by kernel_rfl)
      refine CodeOk.ifF hc1222 (by kernel_rfl) ?_
      refine CodeOk.skip ?_
      refine ce D_ok mix 3 163 (tl 76 [(0, .sl false false (a0.map encSToken)), (3, V.int e549.Kind), (10, .sl false false (a0.map encSToken)), (11, V.int (a0.length : Int)), (12, V.int y398)]) [] (by kernel_rfl) (fun st hw => ?_)
      refine CodeOk.weak hw ?_
      refine ce D_ok mix 2 163 (tl 76 [(0, .sl false false (a0.map encSToken)), (3, V.int e549.Kind), (10, .sl false false (a0.map encSToken)), (11, V.int (a0.length : Int)), (12, V.int (IntKind.wrap .i64 (y398 + 1)))]) [] (by kernel_rfl) (fun st hw => ?_)
      exact ih1036 (a0, e549.Kind, (IntKind.wrap .i64 (y398 + 1))) h1221 _ (hw.trans (Weak.sel [] [0, 3, 10, 11, 12] (by kernel_rfl) (by kernel_rfl) (by kernel_rfl)))
    intro hk1223
    (revert h1146; refine bind_rev fun y588 hv1226 h1146 => ?_)
    refine CodeOk.cutR (tl 76 [(0, .sl false false (a0.map encSToken)), (3, V.int y397), (5, .loc 100 0), (10, .sl false false (a0.map encSToken)), (11, V.int (a0.length : Int)), (12, V.int y398), (52, V.bool y588)]) [(100, .cells 118 [V.int e549.Kind, V.str e549.Text, V.int e549.At])] mix (by
     refine W.run D_ok 4 163 (by kernel_rfl) ?_
     (revert hv1226; refine cond_rev (fun hc1227 hv1226 => ?_) (fun hc1227 hv1226 => ?_))
     ·refine W.is 56 hc1227 (by kernel_rfl) ?_
      refine W.run D_ok 1 163 (by kernel_rfl) ?_
      (revert hv1226; refine bind_rev fun r589 hx1228 hv1226 => ?_)
      refine W.call0 (AC.gs (m_impl_EndsOperand_ok y397 hx1228) (by decide)) cok135 rfl (by kernel_rfl) ?_
      refine W.run D_ok 2 163 (by kernel_rfl) ?_
      have hv1226 := Option.some.inj hv1226
      subst hv1226
      exact W.fs [(100, 100)] [0, 3, 5, 10, 11, 12, 52] (by kernel_rfl)
     refine W.is 56 hc1227 (by kernel_rfl) ?_
     refine W.run D_ok 4 163 (by kernel_rfl) ?_
     have hv1226 := Option.some.inj hv1226
     subst hv1226
     exact W.fs [(100, 100)] [0, 3, 5, 10, 11, 12, 52] (by kernel_rfl)
     ) ?_
    (revert h1146; refine cond_rev (fun hc1229 h1146 => ?_) (fun hc1229 h1146 => ?_))
    ·refine CodeOk.ifT hc1229 (by kernel_rfl) ?_
     refine CodeOk.skip ?_
     exact hk1223 (a0, y398, e549, y588) h1146 _ (Weak.sel [(100, 100)] [0, 5, 10, 11, 12, 52] (by kernel_rfl) (by kernel_rfl) (by kernel_rfl))
    refine CodeOk.ifF hc1229 (by kernel_rfl) ?_
    (revert h1146; refine bind_rev fun y592 hv1234 h1146 => ?_)
    refine CodeOk.endR (tl 76 [(0, .sl false false (a0.map encSToken)), (5, .loc 100 0), (10, .sl false false (a0.map encSToken)), (11, V.int (a0.length : Int)), (12, V.int y398), (52, V.bool y592)]) [(100, .cells 118 [V.int e549.Kind, V.str e549.Text, V.int e549.At])] mix (by
     refine W.run D_ok 4 163 (by kernel_rfl) ?_
     (revert hv1234; refine cond_rev (fun hc1235 hv1234 => ?_) (fun hc1235 hv1234 => ?_))
     ·refine W.is 63 hc1235 (by kernel_rfl) ?_
      refine W.run D_ok 6 163 (by kernel_rfl) ?_
      (revert hv1234; refine bind_rev fun r593 hx1236 hv1234 => ?_)
      refine W.call0 (AC.gs (m_impl_EndsOperand_ok y397 hx1236) (by decide)) cok135 rfl (by kernel_rfl) ?_
      refine W.run D_ok 3 163 (by kernel_rfl) ?_
      have hv1234 := Option.some.inj hv1234
      subst hv1234
      exact W.fs [(100, 100)] [0, 5, 10, 11, 12, 52] (by kernel_rfl)
     refine W.is 63 hc1235 (by kernel_rfl) ?_
     refine W.run D_ok 5 163 (by kernel_rfl) ?_
     (revert hv1234; refine cond_rev (fun hc1237 hv1234 => ?_) (fun hc1237 hv1234 => ?_))
     ·refine W.is 68 hc1237 (by kernel_rfl) ?_
      refine W.run D_ok 1 163 (by kernel_rfl) ?_
      (revert hv1234; refine bind_rev fun r594 hx1238 hv1234 => ?_)
      refine W.call0 (AC.gs (m_impl_EndsOperand_ok y397 hx1238) (by decide)) cok135 rfl (by kernel_rfl) ?_
      refine W.run D_ok 3 163 (by kernel_rfl) ?_
      have hv1234 := Option.some.inj hv1234
      subst hv1234
      exact W.fs [(100, 100)] [0, 5, 10, 11, 12, 52] (by kernel_rfl)
     refine W.is 68 hc1237 (by kernel_rfl) ?_
     refine W.run D_ok 5 163 (by kernel_rfl) ?_
     have hv1234 := Option.some.inj hv1234
     subst hv1234
     exact W.fs [(100, 100)] [0, 5, 10, 11, 12, 52] (by kernel_rfl)
     ) (fun st hw => ?_)
    exact hk1223 (a0, y398, e549, y592) h1146 _ (hw.trans (Weak.sel [(100, 100)] [0, 5, 10, 11, 12, 52] (by kernel_rfl) (by kernel_rfl) (by kernel_rfl)))
  intro hk1239
  refine CodeOk.cutR (tl 76 [(0, .sl false false (a0.map encSToken)), (3, V.int y397), (4, V.int y398), (5, .loc 162 0), (6, V.int 0), (10, .sl false false (a0.map encSToken)), (11, V.int (a0.length : Int)), (12, V.int y398), (21, V.bool (decide ((IntKind.wrap .i64 (y398 + 1)) < (a0.length : Int))))]) [(162, .cells 118 [V.int e549.Kind, V.str e549.Text, V.int e549.At])] mix (by
   refine W.run D_ok 3 163 (by kernel_rfl) ?_
   refine W.len D_ok encSToken a0 [] (by kernel_rfl) (by kernel_rfl) ?_
   refine W.run D_ok 1 163 (by kernel_rfl) ?_
   exact W.fi (by kernel_rfl)
   ) ?_
  (revert h1035; refine cond_rev (fun hc1240 h1035 => ?_) (fun hc1240 h1035 => ?_))
  ·refine CodeOk.ifT hc1240 (by kernel_rfl) ?_
   (revert h1035; refine bind_rev fun e596 hx1242 h1035 => ?_)
   refine CodeOk.endR (tl 76 [(0, .sl false false (a0.map encSToken)), (3, V.int y397), (5, .loc 162 0), (6, V.int e596.Kind), (10, .sl false false (a0.map encSToken)), (11, V.int (a0.length : Int)), (12, V.int y398)]) [(162, .cells 118 [V.int e549.Kind, V.str e549.Text, V.int e549.At])] mix (by
    refine W.run D_ok 3 163 (by kernel_rfl) ?_
    refine W.ixD D_ok encSToken hx1242 3 (by kernel_rfl) (by kernel_rfl) ?_
    refine W.run D_ok 3 163 (by kernel_rfl) ?_
    exact W.fi (by kernel_rfl)
    ) (fun st hw => ?_)
   exact hk1239 (a0, y397, y398, e549, e596.Kind) h1035 _ (hw.trans (Weak.sel [(162, 100)] [0, 3, 5, 6, 10, 11, 12] (by kernel_rfl) (by kernel_rfl) (by kernel_rfl)))
  refine CodeOk.ifF hc1240 (by kernel_rfl) ?_
  refine CodeOk.skip ?_
  exact hk1239 (a0, y397, y398, e549, 0) h1035 _ (Weak.sel [(162, 100)] [0, 3, 5, 6, 10, 11, 12] (by kernel_rfl) (by kernel_rfl) (by kernel_rfl))
 refine CodeOk.ifF hc1038 (by kernel_rfl) ?_
 refine CodeOk.exit ?_
 refine cu D_ok mix 1 162 (tl 76 [(2, V.bool true)]) [] (by kernel_rfl) ?_
 refine CodeOk.ret ?_
 have h1035 := Option.some.inj h1035
 subst h1035
 exact Ends.gen [] (.inr rfl) (RetV.one rfl (OneR.tmp (t := 2) (r := V.bool true) (by kernel_rfl))) (by kernel_rfl) (by kernel_rfl) (by kernel_rfl)

theorem m_impl_opens_ok (a0 : Int) {r : Bool} (h : m_impl_opens a0 = some r) :
    AC Tryd.prog (GS []) 143 [V.int a0] [] (V.bool r) [] := by
 rw [m_impl_opens] at h
 refine AC.enter Tryd.func143 rfl ?_
 refine cu D_ok mix 1 100 (tl 13 [(0, V.int a0)]) [] (by kernel_rfl) ?_
 (revert h; refine bind_rev fun y1 hv3 h => ?_)
 refine CodeOk.cutR (tl 13 [(2, V.bool y1)]) [] mix (by
  refine W.run D_ok 3 100 (by kernel_rfl) ?_
  (revert hv3; refine cond_rev (fun hc4 hv3 => ?_) (fun hc4 hv3 => ?_))
  ·refine W.is 5 hc4 (by kernel_rfl) ?_
   refine W.run D_ok 8 100 (by kernel_rfl) ?_
   have hv3 := Option.some.inj hv3
   subst hv3
   exact W.fs [] [2] (by kernel_rfl)
  refine W.is 5 hc4 (by kernel_rfl) ?_
  refine W.run D_ok 4 100 (by kernel_rfl) ?_
  (revert hv3; refine cond_rev (fun hc5 hv3 => ?_) (fun hc5 hv3 => ?_))
  ·refine W.is 9 hc5 (by kernel_rfl) ?_
   refine W.run D_ok 4 100 (by kernel_rfl) ?_
   have hv3 := Option.some.inj hv3
   subst hv3
   exact W.fs [] [2] (by kernel_rfl)
  refine W.is 9 hc5 (by kernel_rfl) ?_
  refine W.run D_ok 4 100 (by kernel_rfl) ?_
  have hv3 := Option.some.inj hv3
  subst hv3
  exact W.fs [] [2] (by kernel_rfl)
  ) ?_
 refine CodeOk.ret ?_
 have h := Option.some.inj h
 subst h
 exact Ends.gen [] (.inr rfl) (RetV.one rfl (OneR.tmp (t := 2) (r := V.bool y1) (by kernel_rfl))) (by kernel_rfl) (by kernel_rfl) (by kernel_rfl)

theorem m_impl_shuts_ok (a0 : Int) {r : Bool} (h : m_impl_shuts a0 = some r) :
    AC Tryd.prog (GS []) 144 [V.int a0] [] (V.bool r) [] := by
 rw [m_impl_shuts] at h
 refine AC.enter Tryd.func144 rfl ?_
 refine cu D_ok mix 1 100 (tl 13 [(0, V.int a0)]) [] (by kernel_rfl) ?_
 (revert h; refine bind_rev fun y1 hv3 h => ?_)
 refine CodeOk.cutR (tl 13 [(2, V.bool y1)]) [] mix (by
  refine W.run D_ok 3 100 (by kernel_rfl) ?_
  (revert hv3; refine cond_rev (fun hc4 hv3 => ?_) (fun hc4 hv3 => ?_))
  ·refine W.is 5 hc4 (by kernel_rfl) ?_
   refine W.run D_ok 8 100 (by kernel_rfl) ?_
   have hv3 := Option.some.inj hv3
   subst hv3
   exact W.fs [] [2] (by kernel_rfl)
  refine W.is 5 hc4 (by kernel_rfl) ?_
  refine W.run D_ok 4 100 (by kernel_rfl) ?_
  (revert hv3; refine cond_rev (fun hc5 hv3 => ?_) (fun hc5 hv3 => ?_))
  ·refine W.is 9 hc5 (by kernel_rfl) ?_
   refine W.run D_ok 4 100 (by kernel_rfl) ?_
   have hv3 := Option.some.inj hv3
   subst hv3
   exact W.fs [] [2] (by kernel_rfl)
  refine W.is 9 hc5 (by kernel_rfl) ?_
  refine W.run D_ok 4 100 (by kernel_rfl) ?_
  have hv3 := Option.some.inj hv3
  subst hv3
  exact W.fs [] [2] (by kernel_rfl)
  ) ?_
 refine CodeOk.ret ?_
 have h := Option.some.inj h
 subst h
 exact Ends.gen [] (.inr rfl) (RetV.one rfl (OneR.tmp (t := 2) (r := V.bool y1) (by kernel_rfl))) (by kernel_rfl) (by kernel_rfl) (by kernel_rfl)

theorem m_impl_NestOf_ok (N : Nat) (a0 : List SToken) {r : Int} (h : m_impl_NestOf N a0 = some r) :
    AC Tryd.prog (GS []) 95 [.sl false false (a0.map encSToken)] [] (V.int r) [] := by
 rw [m_impl_NestOf] at h
 refine AC.enter Tryd.func95 rfl ?_
 refine cu D_ok mix 1 100 (tl 30 [(0, .sl false false (a0.map encSToken))]) [] (by kernel_rfl) ?_
 refine cu D_ok mix 1 100 (tl 30 [(0, .sl false false (a0.map encSToken)), (3, V.int 0)]) [] (by kernel_rfl) ?_
 refine CodeOk.seq' ?_
 refine CodeOk.cutR (tl 30 [(3, V.int 0), (6, .sl false false (a0.map encSToken)), (7, V.int (a0.length : Int)), (8, V.int 0)]) [] mix (by
  refine W.run D_ok 1 100 (by kernel_rfl) ?_
  refine W.len D_ok encSToken a0 [] (by kernel_rfl) (by kernel_rfl) ?_
  refine W.run D_ok 1 100 (by kernel_rfl) ?_
  exact W.fi (by kernel_rfl)
  ) ?_
 refine CodeOk.block' ?_
 refine CodeOk.loopJ (fun (⟨a0, y93, y94⟩ : ((List SToken) × Int × Int)) => ⟨tl 30 [(3, V.int y93), (6, .sl false false (a0.map encSToken)), (7, V.int (a0.length : Int)), (8, V.int y94)], []⟩) (fun n i => m_impl_NestOf_l1 N n i = some r) (n0 := N) (i0 := (a0, 0, 0)) (Weak.sel [] [3, 6, 7, 8] (by kernel_rfl) (by kernel_rfl) (by kernel_rfl)) h (fun i h => by simp [m_impl_NestOf_l1] at h) ?_
 rintro n1 ⟨a0, y93, y94⟩ h183 ih184
 rw [m_impl_NestOf_l1] at h183
 refine cu D_ok mix 1 162 (tl 30 [(3, V.int y93), (6, .sl false false (a0.map encSToken)), (7, V.int (a0.length : Int)), (8, V.int y94), (9, V.bool (decide (y94 < (a0.length : Int))))]) [] (by kernel_rfl) ?_
 refine CodeOk.seq' ?_
 (revert h183; refine cond_rev (fun hc186 h183 => ?_) (fun hc186 h183 => ?_))
 ·refine CodeOk.ifT hc186 (by kernel_rfl) ?_
  refine CodeOk.skip ?_
  refine CodeOk.seq' ?_
  refine CodeOk.block' ?_
  (revert h183; refine bind_rev fun e131 hx205 h183 => ?_)
  refine CodeOk.cutR (tl 30 [(3, V.int y93), (4, V.int y94), (5, .loc 162 0), (6, .sl false false (a0.map encSToken)), (7, V.int (a0.length : Int)), (8, V.int y94)]) [(162, .cells 118 [V.int e131.Kind, V.str e131.Text, V.int e131.At])] mix (by
   refine W.run D_ok 1 162 (by kernel_rfl) ?_
   refine W.ixD D_ok encSToken hx205 3 (by kernel_rfl) (by kernel_rfl) ?_
   refine W.run D_ok 4 162 (by kernel_rfl) ?_
   exact W.fi (by kernel_rfl)
   ) ?_
  refine CodeOk.join (fun (⟨y94, a0, y136⟩ : (Int × (List SToken) × Int)) => ⟨tl 30 [(3, V.int y136), (4, V.int y94), (6, .sl false false (a0.map encSToken)), (7, V.int (a0.length : Int)), (8, V.int y94)], []⟩) (fun i => m_impl_NestOf_k2 N (m_impl_NestOf_l1 N n1) i = some r) ?_ ?_
  · rintro ⟨y94, a0, y136⟩ h212
    rw [m_impl_NestOf_k2] at h212
    refine cu D_ok mix 2 163 (tl 30 [(3, V.int y136), (4, V.int y94), (6, .sl false false (a0.map encSToken)), (7, V.int (a0.length : Int)), (8, V.int y94), (27, V.bool (decide (y136 > 40)))]) [] (by kernel_rfl) ?_
    (revert h212; refine cond_rev (fun hc213 h212 => ?_) (fun hc213 h212 => ?_))
    ·refine CodeOk.ifT hc213 (by kernel_rfl) ?_
     refine cu D_ok mix 2 163 (tl 30 [(2, V.int y94)]) [] (by kernel_rfl) ?_
     refine CodeOk.ret ?_
     have h212 := Option.some.inj h212
     subst h212
     exact Ends.gen [] (.inr rfl) (RetV.one rfl (OneR.tmp (t := 2) (r := V.int y94) (by kernel_rfl))) (by kernel_rfl) (by kernel_rfl) (by kernel_rfl)
    refine CodeOk.ifF hc213 (by kernel_rfl) ?_
    refine CodeOk.skip ?_
    refine ce D_ok mix 2 163 (tl 30 [(3, V.int y136), (6, .sl false false (a0.map encSToken)), (7, V.int (a0.length : Int)), (8, V.int (IntKind.wrap .i64 (y94 + 1)))]) [] (by kernel_rfl) (fun st hw => ?_)
    exact ih184 (a0, y136, (IntKind.wrap .i64 (y94 + 1))) h212 _ (hw.trans (Weak.sel [] [3, 6, 7, 8] (by kernel_rfl) (by kernel_rfl) (by kernel_rfl)))
  intro hk214
  refine CodeOk.block' ?_
  (revert h183; refine bind_rev fun r138 hx216 h183 => ?_)
  refine CodeOk.cutR (tl 30 [(3, V.int y93), (4, V.int y94), (5, .loc 162 0), (6, .sl false false (a0.map encSToken)), (7, V.int (a0.length : Int)), (8, V.int y94), (13, V.bool r138)]) [(162, .cells 118 [V.int e131.Kind, V.str e131.Text, V.int e131.At])] mix (by
   refine W.run D_ok 2 163 (by kernel_rfl) ?_
   refine W.call0 (m_impl_opens_ok e131.Kind hx216) cok143 rfl (by kernel_rfl) ?_
   refine W.run D_ok 1 163 (by kernel_rfl) ?_
   exact W.fi (by kernel_rfl)
   ) ?_
  (revert h183; refine cond_rev (fun hc217 h183 => ?_) (fun hc217 h183 => ?_))
  ·refine CodeOk.ifT hc217 (by kernel_rfl) ?_
   refine ce D_ok mix 3 163 (tl 30 [(3, V.int (IntKind.wrap .i64 (y93 + 1))), (4, V.int y94), (6, .sl false false (a0.map encSToken)), (7, V.int (a0.length : Int)), (8, V.int y94)]) [] (by kernel_rfl) (fun st hw => ?_)
   exact hk214 (y94, a0, (IntKind.wrap .i64 (y93 + 1))) h183 _ (hw.trans (Weak.sel [] [3, 4, 6, 7, 8] (by kernel_rfl) (by kernel_rfl) (by kernel_rfl)))
  refine CodeOk.ifF hc217 (by kernel_rfl) ?_
  (revert h183; refine bind_rev fun r140 hx219 h183 => ?_)
  refine CodeOk.cutR (tl 30 [(3, V.int y93), (4, V.int y94), (6, .sl false false (a0.map encSToken)), (7, V.int (a0.length : Int)), (8, V.int y94), (19, V.bool r140)]) [] mix (by
   refine W.run D_ok 2 163 (by kernel_rfl) ?_
   refine W.call0 (m_impl_shuts_ok e131.Kind hx219) cok144 rfl (by kernel_rfl) ?_
   refine W.run D_ok 1 163 (by kernel_rfl) ?_
   exact W.fi (by kernel_rfl)
   ) ?_
  (revert h183; refine cond_rev (fun hc220 h183 => ?_) (fun hc220 h183 => ?_))
  ·refine CodeOk.ifT hc220 (by kernel_rfl) ?_
   refine ce D_ok mix 4 163 (tl 30 [(3, V.int (if 0 > (IntKind.wrap .i64 (y93 - 1)) then 0 else (IntKind.wrap .i64 (y93 - 1)))), (4, V.int y94), (6, .sl false false (a0.map encSToken)), (7, V.int (a0.length : Int)), (8, V.int y94)]) [] (by kernel_rfl) (fun st hw => ?_)
   exact hk214 (y94, a0, (if 0 > (IntKind.wrap .i64 (y93 - 1)) then 0 else (IntKind.wrap .i64 (y93 - 1)))) h183 _ (hw.trans (Weak.sel [] [3, 4, 6, 7, 8] (by kernel_rfl) (by kernel_rfl) (by kernel_rfl)))
  refine CodeOk.ifF hc220 (by kernel_rfl) ?_
  refine CodeOk.skip ?_
  exact hk214 (y94, a0, y93) h183 _ (Weak.sel [] [3, 4, 6, 7, 8] (by kernel_rfl) (by kernel_rfl) (by kernel_rfl))
 refine CodeOk.ifF hc186 (by kernel_rfl) ?_
 refine CodeOk.exit ?_
 refine cu D_ok mix 1 162 (tl 30 [(2, V.int (-1))]) [] (by kernel_rfl) ?_
 refine CodeOk.ret ?_
 have h183 := Option.some.inj h183
 subst h183
 exact Ends.gen [] (.inr rfl) (RetV.one rfl (OneR.tmp (t := 2) (r := V.int (-1)) (by kernel_rfl))) (by kernel_rfl) (by kernel_rfl) (by kernel_rfl)

theorem m_impl_placeOf_ok (a0 : List SToken) (a1 : Int) {r : Int} (h : m_impl_placeOf a0 a1 = some r) :
    AC Tryd.prog (GS []) 47 [.sl false false (a0.map encSToken), V.int a1] [] (V.int r) [] := by
 rw [m_impl_placeOf] at h
 refine AC.enter Tryd.func47 rfl ?_
 refine cu D_ok mix 1 100 (tl 35 [(0, .sl false false (a0.map encSToken)), (1, V.int a1)]) [] (by kernel_rfl) ?_
 refine CodeOk.seq' ?_
 refine CodeOk.block' ?_
 refine CodeOk.cutR (tl 35 [(0, .sl false false (a0.map encSToken)), (1, V.int a1), (5, V.bool (decide (a1 < (a0.length : Int))))]) [] mix (by
  refine W.run D_ok 2 100 (by kernel_rfl) ?_
  refine W.len D_ok encSToken a0 [] (by kernel_rfl) (by kernel_rfl) ?_
  refine W.run D_ok 2 100 (by kernel_rfl) ?_
  exact W.fi (by kernel_rfl)
  ) ?_
 (revert h; refine cond_rev (fun hc5 h => ?_) (fun hc5 h => ?_))
 ·refine CodeOk.ifT hc5 (by kernel_rfl) ?_
  (revert h; refine bind_rev fun e4 hx7 h => ?_)
  refine CodeOk.cutR (tl 35 [(4, V.int e4.At)]) [] mix (by
   refine W.run D_ok 2 100 (by kernel_rfl) ?_
   refine W.ixD D_ok encSToken hx7 3 (by kernel_rfl) (by kernel_rfl) ?_
   refine W.run D_ok 3 100 (by kernel_rfl) ?_
   exact W.fi (by kernel_rfl)
   ) ?_
  refine CodeOk.ret ?_
  have h := Option.some.inj h
  subst h
  exact Ends.gen [] (.inr rfl) (RetV.one rfl (OneR.tmp (t := 4) (r := V.int e4.At) (by kernel_rfl))) (by kernel_rfl) (by kernel_rfl) (by kernel_rfl)
 refine CodeOk.ifF hc5 (by kernel_rfl) ?_
 refine CodeOk.cutR (tl 35 [(0, .sl false false (a0.map encSToken)), (15, V.bool ((a0.length : Int) == 0))]) [] mix (by
  refine W.run D_ok 1 100 (by kernel_rfl) ?_
  refine W.len D_ok encSToken a0 [] (by kernel_rfl) (by kernel_rfl) ?_
  refine W.run D_ok 2 100 (by kernel_rfl) ?_
  exact W.fi (by kernel_rfl)
  ) ?_
 (revert h; refine cond_rev (fun hc8 h => ?_) (fun hc8 h => ?_))
 ·refine CodeOk.ifT hc8 (by kernel_rfl) ?_
  refine cu D_ok mix 1 100 (tl 35 [(4, V.int 0)]) [] (by kernel_rfl) ?_
  refine CodeOk.ret ?_
  have h := Option.some.inj h
  subst h
  exact Ends.gen [] (.inr rfl) (RetV.one rfl (OneR.tmp (t := 4) (r := V.int 0) (by kernel_rfl))) (by kernel_rfl) (by kernel_rfl) (by kernel_rfl)
 refine CodeOk.ifF hc8 (by kernel_rfl) ?_
 refine CodeOk.skip ?_
 (revert h; refine bind_rev fun e7 hx11 h => ?_)
 (revert h; refine bind_rev fun e8 hx12 h => ?_)
 refine CodeOk.cutR (tl 35 [(4, V.int (IntKind.wrap .i64 (e7.At + (e8.Text.length : Int))))]) [] mix (by
  refine W.run D_ok 2 100 (by kernel_rfl) ?_
  refine W.len D_ok encSToken a0 [] (by kernel_rfl) (by kernel_rfl) ?_
  refine W.run D_ok 1 100 (by kernel_rfl) ?_
  refine W.ixD D_ok encSToken hx11 3 (by kernel_rfl) (by kernel_rfl) ?_
  refine W.run D_ok 4 100 (by kernel_rfl) ?_
  refine W.len D_ok encSToken a0 [] (by kernel_rfl) (by kernel_rfl) ?_
  refine W.run D_ok 1 100 (by kernel_rfl) ?_
  refine W.ixD D_ok encSToken hx12 3 (by kernel_rfl) (by kernel_rfl) ?_
  refine W.run D_ok 5 100 (by kernel_rfl) ?_
  exact W.fi (by kernel_rfl)
  ) ?_
 refine CodeOk.ret ?_
 have h := Option.some.inj h
 subst h
 exact Ends.gen [] (.inr rfl) (RetV.one rfl (OneR.tmp (t := 4) (r := V.int (IntKind.wrap .i64 (e7.At + (e8.Text.length : Int)))) (by kernel_rfl))) (by kernel_rfl) (by kernel_rfl) (by kernel_rfl)

theorem m_impl_checked_ok (N : Nat) (a0 : List SToken) {r : SFault} (h : m_impl_checked N a0 = some r) :
    AC Tryd.prog (GS [0, 1, 5]) 71 [.sl false false (a0.map encSToken)] [] (.agg [V.int r.Kind, V.int r.At]) [] := by
 rw [m_impl_checked] at h
 refine AC.enter Tryd.func71 rfl ?_
 refine cu D_ok mix 1 100 (tl 17 [(0, .sl false false (a0.map encSToken)), (2, .loc 100 0)]) [(100, .cells 40 [V.int 0, V.int 0])] (by kernel_rfl) ?_
 refine CodeOk.seq' ?_
 (revert h; refine bind_rev fun r4 hx5 h => ?_)
 refine CodeOk.cutR (tl 17 [(0, .sl false false (a0.map encSToken)), (2, .loc 100 0), (6, V.bool (!r4))]) [(100, .cells 40 [V.int 0, V.int 0])] mix (by
  refine W.run D_ok 1 101 (by kernel_rfl) ?_
  refine W.call0 (m_impl_TokensOk_ok N a0 hx5) cok94 rfl (by kernel_rfl) ?_
  refine W.run D_ok 1 101 (by kernel_rfl) ?_
  exact W.fi (by kernel_rfl)
  ) ?_
 (revert h; refine cond_rev (fun hc6 h => ?_) (fun hc6 h => ?_))
 ·refine CodeOk.ifT hc6 (by kernel_rfl) ?_
  refine cu D_ok mix 2 101 (tl 17 [(2, .loc 100 0)]) [(100, .cells 40 [V.int 2, V.int 0])] (by kernel_rfl) ?_
  refine CodeOk.ret ?_
  have h := Option.some.inj h
  subst h
  exact Ends.gen [] (.inr rfl) (RetV.one rfl (OneR.cell D_ok (r := .agg [V.int 2, V.int 0]) (i := 100) (ety := 40) (cs := [V.int 2, V.int 0]) (by kernel_rfl) (by kernel_rfl) (by kernel_rfl))) (by kernel_rfl) (by kernel_rfl) (by kernel_rfl)
 refine CodeOk.ifF hc6 (by kernel_rfl) ?_
 refine CodeOk.skip ?_
 refine CodeOk.seq' ?_
 (revert h; refine bind_rev fun r10 hx13 h => ?_)
 refine CodeOk.cutR (tl 17 [(0, .sl false false (a0.map encSToken)), (2, .loc 100 0), (3, V.int r10)]) [(100, .cells 40 [V.int 0, V.int 0])] mix (by
  refine W.run D_ok 1 101 (by kernel_rfl) ?_
  refine W.call0 (AC.gs (m_impl_NestOf_ok N a0 hx13) (by decide)) cok95 rfl (by kernel_rfl) ?_
  refine W.run D_ok 1 101 (by kernel_rfl) ?_
  exact W.fi (by kernel_rfl)
  ) ?_
 refine cu D_ok mix 2 101 (tl 17 [(0, .sl false false (a0.map encSToken)), (2, .loc 100 0), (3, V.int r10), (11, V.bool (decide (r10 ≥ 0)))]) [(100, .cells 40 [V.int 0, V.int 0])] (by kernel_rfl) ?_
 (revert h; refine cond_rev (fun hc14 h => ?_) (fun hc14 h => ?_))
 ·refine CodeOk.ifT hc14 (by kernel_rfl) ?_
  (revert h; refine bind_rev fun r12 hx16 h => ?_)
  refine CodeOk.cutR (tl 17 [(2, .loc 100 0)]) [(100, .cells 40 [V.int 4, V.int r12])] mix (by
   refine W.run D_ok 2 101 (by kernel_rfl) ?_
   refine W.call0 (AC.gs (m_impl_placeOf_ok a0 r10 hx16) (by decide)) cok47 rfl (by kernel_rfl) ?_
   refine W.run D_ok 2 101 (by kernel_rfl) ?_
   exact W.fi (by kernel_rfl)
   ) ?_
  refine CodeOk.ret ?_
  have h := Option.some.inj h
  subst h
  exact Ends.gen [] (.inr rfl) (RetV.one rfl (OneR.cell D_ok (r := .agg [V.int 4, V.int r12]) (i := 100) (ety := 40) (cs := [V.int 4, V.int r12]) (by kernel_rfl) (by kernel_rfl) (by kernel_rfl))) (by kernel_rfl) (by kernel_rfl) (by kernel_rfl)
 refine CodeOk.ifF hc14 (by kernel_rfl) ?_
 refine CodeOk.skip ?_
 refine cu D_ok mix 2 101 (tl 17 [(2, .loc 100 0)]) [(100, .cells 40 [V.int 0, V.int 0])] (by kernel_rfl) ?_
 refine CodeOk.ret ?_
 have h := Option.some.inj h
 subst h
 exact Ends.gen [] (.inr rfl) (RetV.one rfl (OneR.cell D_ok (r := .agg [V.int 0, V.int 0]) (i := 100) (ety := 40) (cs := [V.int 0, V.int 0]) (by kernel_rfl) (by kernel_rfl) (by kernel_rfl))) (by kernel_rfl) (by kernel_rfl) (by kernel_rfl)

theorem m_impl_parser__kind_ok (p0_0 : List SToken) (p0_1 : Int) (p0_2 : Bool) (p1 : List (List UInt8)) {r : Int} (h : m_impl_parser__kind p0_0 p0_1 p0_2 p1 = some r) :
    AC Tryd.prog (GS []) 97 [.loc 0 0] [(0, .cells 108 [.sl false false (p0_0.map encSToken), V.int p0_1, V.bool p0_2, .own 1]), (1, .vec false 9 1 (p1.map encS))] (V.int r) [(0, .cells 108 [.sl false false (p0_0.map encSToken), V.int p0_1, V.bool p0_2, .own 1]), (1, .vec false 9 1 (p1.map encS))] := by
 rw [m_impl_parser__kind] at h
 refine AC.enter Tryd.func97 rfl ?_
 refine cu D_ok mix 1 100 (tl 24 [(0, .loc 0 0)]) [(0, .cells 108 [.sl false false (p0_0.map encSToken), V.int p0_1, V.bool p0_2, .own 1]), (1, .vec false 9 1 (p1.map encS))] (by kernel_rfl) ?_
 refine CodeOk.seq' ?_
 refine CodeOk.cutR (tl 24 [(0, .loc 0 0), (12, V.bool (decide (p0_1 ≥ (p0_0.length : Int))))]) [(0, .cells 108 [.sl false false (p0_0.map encSToken), V.int p0_1, V.bool p0_2, .own 1]), (1, .vec false 9 1 (p1.map encS))] mix (by
  refine W.run D_ok 8 100 (by kernel_rfl) ?_
  refine W.len D_ok encSToken p0_0 [] (by kernel_rfl) (by kernel_rfl) ?_
  refine W.run D_ok 1 100 (by kernel_rfl) ?_
  exact W.fi (by kernel_rfl)
  ) ?_
 (revert h; refine cond_rev (fun hc2 h => ?_) (fun hc2 h => ?_))
 ·refine CodeOk.ifT hc2 (by kernel_rfl) ?_
  refine cu D_ok mix 1 100 (tl 24 [(2, V.int 0)]) [(0, .cells 108 [.sl false false (p0_0.map encSToken), V.int p0_1, V.bool p0_2, .own 1]), (1, .vec false 9 1 (p1.map encS))] (by kernel_rfl) ?_
  refine CodeOk.ret ?_
  have h := Option.some.inj h
  subst h
  exact Ends.gen [(0, 0), (1, 1)] (.inr rfl) (RetV.one rfl (OneR.tmp (t := 2) (r := V.int 0) (by kernel_rfl))) (by kernel_rfl) (by kernel_rfl) (by kernel_rfl)
 refine CodeOk.ifF hc2 (by kernel_rfl) ?_
 refine CodeOk.skip ?_
 (revert h; refine bind_rev fun e2 hx4 h => ?_)
 refine CodeOk.cutR (tl 24 [(2, V.int e2.Kind)]) [(0, .cells 108 [.sl false false (p0_0.map encSToken), V.int p0_1, V.bool p0_2, .own 1]), (1, .vec false 9 1 (p1.map encS))] mix (by
  refine W.run D_ok 8 100 (by kernel_rfl) ?_
  refine W.ixD D_ok encSToken hx4 3 (by kernel_rfl) (by kernel_rfl) ?_
  refine W.run D_ok 3 100 (by kernel_rfl) ?_
  exact W.fi (by kernel_rfl)
  ) ?_
 refine CodeOk.ret ?_
 have h := Option.some.inj h
 subst h
 exact Ends.gen [(0, 0), (1, 1)] (.inr rfl) (RetV.one rfl (OneR.tmp (t := 2) (r := V.int e2.Kind) (by kernel_rfl))) (by kernel_rfl) (by kernel_rfl) (by kernel_rfl)

theorem m_impl_BeginsOperand_ok (a0 : Int) {r : Bool} (h : m_impl_BeginsOperand a0 = some r) :
    AC Tryd.prog (GS []) 96 [V.int a0] [] (V.bool r) [] := by
 rw [m_impl_BeginsOperand] at h
 refine AC.enter Tryd.func96 rfl ?_
 refine cu D_ok mix 1 100 (tl 12 [(0, V.int a0)]) [] (by kernel_rfl) ?_
 refine CodeOk.seq' ?_
 refine cu D_ok mix 1 100 (tl 12 [(3, V.int a0)]) [] (by kernel_rfl) ?_
 refine CodeOk.block' ?_
 refine CodeOk.join (fun (y2 : Bool) => ⟨tl 12 [(4, V.bool y2)], []⟩) (fun i => m_impl_BeginsOperand_k1 i = some r) ?_ ?_
 · rintro y2 h22
   rw [m_impl_BeginsOperand_k1] at h22
   (revert h22; refine cond_rev (fun hc23 h22 => ?_) (fun hc23 h22 => ?_))
   ·refine CodeOk.ifT hc23 (by kernel_rfl) ?_
    refine cu D_ok mix 1 100 (tl 12 [(2, V.bool true)]) [] (by kernel_rfl) ?_
    refine CodeOk.ret ?_
    have h22 := Option.some.inj h22
    subst h22
    exact Ends.gen [] (.inr rfl) (RetV.one rfl (OneR.tmp (t := 2) (r := V.bool true) (by kernel_rfl))) (by kernel_rfl) (by kernel_rfl) (by kernel_rfl)
   refine CodeOk.ifF hc23 (by kernel_rfl) ?_
   refine CodeOk.skip ?_
   refine cu D_ok mix 1 100 (tl 12 [(2, V.bool false)]) [] (by kernel_rfl) ?_
   refine CodeOk.ret ?_
   have h22 := Option.some.inj h22
   subst h22
   exact Ends.gen [] (.inr rfl) (RetV.one rfl (OneR.tmp (t := 2) (r := V.bool false) (by kernel_rfl))) (by kernel_rfl) (by kernel_rfl) (by kernel_rfl)
 intro hk24
 refine cu D_ok mix 2 100 (tl 12 [(3, V.int a0), (4, V.bool (a0 == 3))]) [] (by kernel_rfl) ?_
 (revert h; refine cond_rev (fun hc25 h => ?_) (fun hc25 h => ?_))
 ·refine CodeOk.ifT hc25 (by kernel_rfl) ?_
  refine CodeOk.skip ?_
  exact hk24 (a0 == 3) h _ (Weak.sel [] [4] (by kernel_rfl) (by kernel_rfl) (by kernel_rfl))
 refine CodeOk.ifF hc25 (by kernel_rfl) ?_
 refine cu D_ok mix 2 100 (tl 12 [(3, V.int a0), (4, V.bool (a0 == 4))]) [] (by kernel_rfl) ?_
 (revert h; refine cond_rev (fun hc26 h => ?_) (fun hc26 h => ?_))
 ·refine CodeOk.ifT hc26 (by kernel_rfl) ?_
  refine CodeOk.skip ?_
  exact hk24 (a0 == 4) h _ (Weak.sel [] [4] (by kernel_rfl) (by kernel_rfl) (by kernel_rfl))
 refine CodeOk.ifF hc26 (by kernel_rfl) ?_
 refine cu D_ok mix 2 100 (tl 12 [(3, V.int a0), (4, V.bool (a0 == 6))]) [] (by kernel_rfl) ?_
 (revert h; refine cond_rev (fun hc27 h => ?_) (fun hc27 h => ?_))
 ·refine CodeOk.ifT hc27 (by kernel_rfl) ?_
  refine CodeOk.skip ?_
  exact hk24 (a0 == 6) h _ (Weak.sel [] [4] (by kernel_rfl) (by kernel_rfl) (by kernel_rfl))
 refine CodeOk.ifF hc27 (by kernel_rfl) ?_
 refine cu D_ok mix 2 100 (tl 12 [(3, V.int a0), (4, V.bool (a0 == 7))]) [] (by kernel_rfl) ?_
 (revert h; refine cond_rev (fun hc28 h => ?_) (fun hc28 h => ?_))
 ·refine CodeOk.ifT hc28 (by kernel_rfl) ?_
  refine CodeOk.skip ?_
  exact hk24 (a0 == 7) h _ (Weak.sel [] [4] (by kernel_rfl) (by kernel_rfl) (by kernel_rfl))
 refine CodeOk.ifF hc28 (by kernel_rfl) ?_
 refine cu D_ok mix 2 100 (tl 12 [(3, V.int a0), (4, V.bool (a0 == 8))]) [] (by kernel_rfl) ?_
 (revert h; refine cond_rev (fun hc29 h => ?_) (fun hc29 h => ?_))
 ·refine CodeOk.ifT hc29 (by kernel_rfl) ?_
  refine CodeOk.skip ?_
  exact hk24 (a0 == 8) h _ (Weak.sel [] [4] (by kernel_rfl) (by kernel_rfl) (by kernel_rfl))
 refine CodeOk.ifF hc29 (by kernel_rfl) ?_
 refine cu D_ok mix 2 100 (tl 12 [(3, V.int a0), (4, V.bool (a0 == 32))]) [] (by kernel_rfl) ?_
 (revert h; refine cond_rev (fun hc30 h => ?_) (fun hc30 h => ?_))
 ·refine CodeOk.ifT hc30 (by kernel_rfl) ?_
  refine CodeOk.skip ?_
  exact hk24 (a0 == 32) h _ (Weak.sel [] [4] (by kernel_rfl) (by kernel_rfl) (by kernel_rfl))
 refine CodeOk.ifF hc30 (by kernel_rfl) ?_
 refine ce D_ok mix 2 100 (tl 12 [(4, V.bool (a0 == 68))]) [] (by kernel_rfl) (fun st hw => ?_)
 exact hk24 (a0 == 68) h _ (hw.trans (Weak.sel [] [4] (by kernel_rfl) (by kernel_rfl) (by kernel_rfl)))

theorem m_impl_parser__fail_ok (p0_0 : List SToken) (p0_1 : Int) (p0_2 : Bool) (p1 : List (List UInt8)) {r : (SPart × Bool)} (h : m_impl_parser__fail p0_0 p0_1 p0_2 p1 = some r) :
    AC Tryd.prog (GS []) 98 [.loc 0 0] [(0, .cells 108 [.sl false false (p0_0.map encSToken), V.int p0_1, V.bool p0_2, .own 1]), (1, .vec false 9 1 (p1.map encS))] (.agg [V.int r.1.tree.kind, V.int r.1.tree.op, V.str r.1.tree.text, V.str r.1.tree.other, .sl false false (r.1.tree.kids.map encSTree), V.bool r.1.target]) [(0, .cells 108 [.sl false false (p0_0.map encSToken), V.int p0_1, V.bool r.2, .own 1]), (1, .vec false 9 1 (p1.map encS))] := by
 rw [m_impl_parser__fail] at h
 refine AC.enter Tryd.func98 rfl ?_
 refine cu D_ok mix 1 100 (tl 7 [(0, .loc 0 0), (2, .loc 100 0)]) [(100, .cells 113 [V.int 0, V.int 0, V.str [], V.str [], .c (.slice none 0 0), V.bool false]), (0, .cells 108 [.sl false false (p0_0.map encSToken), V.int p0_1, V.bool p0_2, .own 1]), (1, .vec false 9 1 (p1.map encS))] (by kernel_rfl) ?_
 refine cu D_ok mix 4 101 (tl 7 [(2, .loc 100 0)]) [(0, .cells 108 [.sl false false (p0_0.map encSToken), V.int p0_1, V.bool true, .own 1]), (100, .cells 113 [V.int 0, V.int 0, V.str [], V.str [], .c (.slice none 0 0), V.bool false]), (1, .vec false 9 1 (p1.map encS))] (by kernel_rfl) ?_
 refine cu D_ok mix 2 101 (tl 7 [(2, .loc 100 0)]) [(100, .cells 113 [V.int 0, V.int 0, V.str [], V.str [], .c (.slice none 0 0), V.bool false]), (0, .cells 108 [.sl false false (p0_0.map encSToken), V.int p0_1, V.bool true, .own 1]), (1, .vec false 9 1 (p1.map encS))] (by kernel_rfl) ?_
 refine CodeOk.lay (tl 7 [(2, .loc 100 0)]) [(100, .cells 113 [V.int 0, V.int 0, V.str [], V.str [], .sl false false ([].map encSTree), V.bool false]), (0, .cells 108 [.sl false false (p0_0.map encSToken), V.int p0_1, V.bool true, .own 1]), (1, .vec false 9 1 (p1.map encS))] (show LayOk _ [] from trivial) (by kernel_rfl) (by kernel_rfl) (by kernel_rfl) ?_
 refine CodeOk.ret ?_
 have h := Option.some.inj h
 subst h
 exact Ends.gen [(0, 0), (1, 1)] (.inr rfl) (RetV.one rfl (OneR.cell D_ok (r := .agg [V.int 0, V.int 0, V.str [], V.str [], .sl false false ([].map encSTree), V.bool false]) (i := 100) (ety := 113) (cs := [V.int 0, V.int 0, V.str [], V.str [], .sl false false ([].map encSTree), V.bool false]) (by kernel_rfl) (by kernel_rfl) (by kernel_rfl))) (by kernel_rfl) (by kernel_rfl) (by kernel_rfl)

theorem m_impl_parser__listAhead_ok (N : Nat) (p0_0 : List SToken) (p0_1 : Int) (p0_2 : Bool) (p1 : List (List UInt8)) {r : Bool} (h : m_impl_parser__listAhead N p0_0 p0_1 p0_2 p1 = some r) :
    AC Tryd.prog (GS []) 148 [.loc 0 0] [(0, .cells 108 [.sl false false (p0_0.map encSToken), V.int p0_1, V.bool p0_2, .own 1]), (1, .vec false 9 1 (p1.map encS))] (V.bool r) [(0, .cells 108 [.sl false false (p0_0.map encSToken), V.int p0_1, V.bool p0_2, .own 1]), (1, .vec false 9 1 (p1.map encS))] := by
 rw [m_impl_parser__listAhead] at h
 refine AC.enter Tryd.func148 rfl ?_
 refine cu D_ok mix 1 100 (tl 43 [(0, .loc 0 0)]) [(0, .cells 108 [.sl false false (p0_0.map encSToken), V.int p0_1, V.bool p0_2, .own 1]), (1, .vec false 9 1 (p1.map encS))] (by kernel_rfl) ?_
 refine cu D_ok mix 1 100 (tl 43 [(0, .loc 0 0), (3, V.int 0)]) [(0, .cells 108 [.sl false false (p0_0.map encSToken), V.int p0_1, V.bool p0_2, .own 1]), (1, .vec false 9 1 (p1.map encS))] (by kernel_rfl) ?_
 refine CodeOk.join (fun (_ : Unit) => ⟨tl 43 [], [(0, .cells 108 [.sl false false (p0_0.map encSToken), V.int p0_1, V.bool p0_2, .own 1]), (1, .vec false 9 1 (p1.map encS))]⟩) (fun i => m_impl_parser__listAhead_k1 N p0_0 p0_1 p0_2 p1 i = some r) ?_ ?_
 · rintro ⟨⟩ h157
   rw [m_impl_parser__listAhead_k1] at h157
   refine cu D_ok mix 1 163 (tl 43 [(2, V.bool false)]) [(0, .cells 108 [.sl false false (p0_0.map encSToken), V.int p0_1, V.bool p0_2, .own 1]), (1, .vec false 9 1 (p1.map encS))] (by kernel_rfl) ?_
   refine CodeOk.ret ?_
   have h157 := Option.some.inj h157
   subst h157
   exact Ends.gen [(0, 0), (1, 1)] (.inr rfl) (RetV.one rfl (OneR.tmp (t := 2) (r := V.bool false) (by kernel_rfl))) (by kernel_rfl) (by kernel_rfl) (by kernel_rfl)
 intro hk158
 (revert h; refine bind_rev fun l82 hx160 h => ?_)
 refine CodeOk.cutR (tl 43 [(3, V.int 0), (14, .sl false false (l82.map encSToken)), (15, V.int (l82.length : Int)), (16, V.int 0)]) [(0, .cells 108 [.sl false false (p0_0.map encSToken), V.int p0_1, V.bool p0_2, .own 1]), (1, .vec false 9 1 (p1.map encS))] mix (by
  refine W.run D_ok 8 100 (by kernel_rfl) ?_
  refine W.cutD D_ok encSToken hx160 false 3 (fun _ => by first | rfl | kernel_rfl) (by kernel_rfl) ?_
  refine W.len D_ok encSToken l82 [] (by kernel_rfl) (by kernel_rfl) ?_
  refine W.run D_ok 1 100 (by kernel_rfl) ?_
  exact W.fi (by kernel_rfl)
  ) ?_
 refine CodeOk.block' ?_
 refine CodeOk.loopJ (fun (⟨l82, y105, y106⟩ : ((List SToken) × Int × Int)) => ⟨tl 43 [(3, V.int y105), (14, .sl false false (l82.map encSToken)), (15, V.int (l82.length : Int)), (16, V.int y106)], [(0, .cells 108 [.sl false false (p0_0.map encSToken), V.int p0_1, V.bool p0_2, .own 1]), (1, .vec false 9 1 (p1.map encS))]⟩) (fun n i => m_impl_parser__listAhead_l2 N p0_0 p0_1 p0_2 p1 n i = some r) (n0 := N) (i0 := (l82, 0, 0)) (Weak.sel [(0, 0), (1, 1)] [3, 14, 15, 16] (by kernel_rfl) (by kernel_rfl) (by kernel_rfl)) h (fun i h => by simp [m_impl_parser__listAhead_l2] at h) ?_
 rintro n2 ⟨l82, y105, y106⟩ h261 ih262
 rw [m_impl_parser__listAhead_l2] at h261
 refine cu D_ok mix 1 162 (tl 43 [(3, V.int y105), (14, .sl false false (l82.map encSToken)), (15, V.int (l82.length : Int)), (16, V.int y106), (17, V.bool (decide (y106 < (l82.length : Int))))]) [(0, .cells 108 [.sl false false (p0_0.map encSToken), V.int p0_1, V.bool p0_2, .own 1]), (1, .vec false 9 1 (p1.map encS))] (by kernel_rfl) ?_
 refine CodeOk.seq' ?_
 (revert h261; refine cond_rev (fun hc264 h261 => ?_) (fun hc264 h261 => ?_))
 ·refine CodeOk.ifT hc264 (by kernel_rfl) ?_
  refine CodeOk.skip ?_
  refine CodeOk.seq' ?_
  refine CodeOk.block' ?_
  (revert h261; refine bind_rev fun e149 hx291 h261 => ?_)
  refine CodeOk.cutR (tl 43 [(3, V.int y105), (5, .loc 162 0), (14, .sl false false (l82.map encSToken)), (15, V.int (l82.length : Int)), (16, V.int y106)]) [(162, .cells 118 [V.int e149.Kind, V.str e149.Text, V.int e149.At]), (0, .cells 108 [.sl false false (p0_0.map encSToken), V.int p0_1, V.bool p0_2, .own 1]), (1, .vec false 9 1 (p1.map encS))] mix (by
   refine W.ixD D_ok encSToken hx291 3 (by kernel_rfl) (by kernel_rfl) ?_
   refine W.run D_ok 3 162 (by kernel_rfl) ?_
   exact W.fi (by kernel_rfl)
   ) ?_
  refine CodeOk.join (fun (⟨l82, y106, y155⟩ : ((List SToken) × Int × Int)) => ⟨tl 43 [(3, V.int y155), (14, .sl false false (l82.map encSToken)), (15, V.int (l82.length : Int)), (16, V.int y106)], [(0, .cells 108 [.sl false false (p0_0.map encSToken), V.int p0_1, V.bool p0_2, .own 1]), (1, .vec false 9 1 (p1.map encS))]⟩) (fun i => m_impl_parser__listAhead_k3 N p0_0 p0_1 p0_2 p1 (m_impl_parser__listAhead_l2 N p0_0 p0_1 p0_2 p1 n2) i = some r) ?_ ?_
  · rintro ⟨l82, y106, y155⟩ h302
    rw [m_impl_parser__listAhead_k3] at h302
    refine cu D_ok mix 2 163 (tl 43 [(3, V.int y155), (14, .sl false false (l82.map encSToken)), (15, V.int (l82.length : Int)), (16, V.int y106), (41, V.bool (decide (y155 ≤ 0)))]) [(0, .cells 108 [.sl false false (p0_0.map encSToken), V.int p0_1, V.bool p0_2, .own 1]), (1, .vec false 9 1 (p1.map encS))] (by kernel_rfl) ?_
    (revert h302; refine cond_rev (fun hc303 h302 => ?_) (fun hc303 h302 => ?_))
    ·refine CodeOk.ifT hc303 (by kernel_rfl) ?_
     refine CodeOk.exit ?_
     exact hk158 () h302 _ (Weak.sel [(0, 0), (1, 1)] [] (by kernel_rfl) (by kernel_rfl) (by kernel_rfl))
    refine CodeOk.ifF hc303 (by kernel_rfl) ?_
    refine CodeOk.skip ?_
    refine ce D_ok mix 2 163 (tl 43 [(3, V.int y155), (14, .sl false false (l82.map encSToken)), (15, V.int (l82.length : Int)), (16, V.int (IntKind.wrap .i64 (y106 + 1)))]) [(0, .cells 108 [.sl false false (p0_0.map encSToken), V.int p0_1, V.bool p0_2, .own 1]), (1, .vec false 9 1 (p1.map encS))] (by kernel_rfl) (fun st hw => ?_)
    exact ih262 (l82, y155, (IntKind.wrap .i64 (y106 + 1))) h302 _ (hw.trans (Weak.sel [(0, 0), (1, 1)] [3, 14, 15, 16] (by kernel_rfl) (by kernel_rfl) (by kernel_rfl)))
  intro hk304
  refine CodeOk.block' ?_
  (revert h261; refine bind_rev fun r157 hx306 h261 => ?_)
  refine CodeOk.cutR (tl 43 [(3, V.int y105), (5, .loc 162 0), (14, .sl false false (l82.map encSToken)), (15, V.int (l82.length : Int)), (16, V.int y106), (20, V.bool r157)]) [(162, .cells 118 [V.int e149.Kind, V.str e149.Text, V.int e149.At]), (0, .cells 108 [.sl false false (p0_0.map encSToken), V.int p0_1, V.bool p0_2, .own 1]), (1, .vec false 9 1 (p1.map encS))] mix (by
   refine W.run D_ok 2 163 (by kernel_rfl) ?_
   refine W.call0 (m_impl_opens_ok e149.Kind hx306) cok143 rfl (by kernel_rfl) ?_
   refine W.run D_ok 1 163 (by kernel_rfl) ?_
   exact W.fi (by kernel_rfl)
   ) ?_
  (revert h261; refine cond_rev (fun hc307 h261 => ?_) (fun hc307 h261 => ?_))
  ·refine CodeOk.ifT hc307 (by kernel_rfl) ?_
   refine ce D_ok mix 3 163 (tl 43 [(3, V.int (IntKind.wrap .i64 (y105 + 1))), (14, .sl false false (l82.map encSToken)), (15, V.int (l82.length : Int)), (16, V.int y106)]) [(0, .cells 108 [.sl false false (p0_0.map encSToken), V.int p0_1, V.bool p0_2, .own 1]), (1, .vec false 9 1 (p1.map encS))] (by kernel_rfl) (fun st hw => ?_)
   exact hk304 (l82, y106, (IntKind.wrap .i64 (y105 + 1))) h261 _ (hw.trans (Weak.sel [(0, 0), (1, 1)] [3, 14, 15, 16] (by kernel_rfl) (by kernel_rfl) (by kernel_rfl)))
  refine CodeOk.ifF hc307 (by kernel_rfl) ?_
  (revert h261; refine bind_rev fun r159 hx309 h261 => ?_)
  refine CodeOk.cutR (tl 43 [(3, V.int y105), (5, .loc 162 0), (14, .sl false false (l82.map encSToken)), (15, V.int (l82.length : Int)), (16, V.int y106), (26, V.bool r159)]) [(162, .cells 118 [V.int e149.Kind, V.str e149.Text, V.int e149.At]), (0, .cells 108 [.sl false false (p0_0.map encSToken), V.int p0_1, V.bool p0_2, .own 1]), (1, .vec false 9 1 (p1.map encS))] mix (by
   refine W.run D_ok 2 163 (by kernel_rfl) ?_
   refine W.call0 (m_impl_shuts_ok e149.Kind hx309) cok144 rfl (by kernel_rfl) ?_
   refine W.run D_ok 1 163 (by kernel_rfl) ?_
   exact W.fi (by kernel_rfl)
   ) ?_
  (revert h261; refine cond_rev (fun hc310 h261 => ?_) (fun hc310 h261 => ?_))
  ·refine CodeOk.ifT hc310 (by kernel_rfl) ?_
   refine ce D_ok mix 3 163 (tl 43 [(3, V.int (IntKind.wrap .i64 (y105 - 1))), (14, .sl false false (l82.map encSToken)), (15, V.int (l82.length : Int)), (16, V.int y106)]) [(0, .cells 108 [.sl false false (p0_0.map encSToken), V.int p0_1, V.bool p0_2, .own 1]), (1, .vec false 9 1 (p1.map encS))] (by kernel_rfl) (fun st hw => ?_)
   exact hk304 (l82, y106, (IntKind.wrap .i64 (y105 - 1))) h261 _ (hw.trans (Weak.sel [(0, 0), (1, 1)] [3, 14, 15, 16] (by kernel_rfl) (by kernel_rfl) (by kernel_rfl)))
  refine CodeOk.ifF hc310 (by kernel_rfl) ?_
  (revert h261; refine bind_rev fun y160 hv312 h261 => ?_)
  refine CodeOk.cutR (tl 43 [(3, V.int y105), (14, .sl false false (l82.map encSToken)), (15, V.int (l82.length : Int)), (16, V.int y106), (32, V.bool y160)]) [(0, .cells 108 [.sl false false (p0_0.map encSToken), V.int p0_1, V.bool p0_2, .own 1]), (1, .vec false 9 1 (p1.map encS))] mix (by
   refine W.run D_ok 4 163 (by kernel_rfl) ?_
   (revert hv312; refine cond_rev (fun hc313 hv312 => ?_) (fun hc313 hv312 => ?_))
   ·refine W.is 36 hc313 (by kernel_rfl) ?_
    refine W.run D_ok 4 163 (by kernel_rfl) ?_
    have hv312 := Option.some.inj hv312
    subst hv312
    exact W.fs [(0, 0), (1, 1)] [3, 14, 15, 16, 32] (by kernel_rfl)
   refine W.is 36 hc313 (by kernel_rfl) ?_
   refine W.run D_ok 4 163 (by kernel_rfl) ?_
   have hv312 := Option.some.inj hv312
   subst hv312
   exact W.fs [(0, 0), (1, 1)] [3, 14, 15, 16, 32] (by kernel_rfl)
   ) ?_
  (revert h261; refine cond_rev (fun hc314 h261 => ?_) (fun hc314 h261 => ?_))
  ·refine CodeOk.ifT hc314 (by kernel_rfl) ?_
   refine cu D_ok mix 1 163 (tl 43 [(2, V.bool true)]) [(0, .cells 108 [.sl false false (p0_0.map encSToken), V.int p0_1, V.bool p0_2, .own 1]), (1, .vec false 9 1 (p1.map encS))] (by kernel_rfl) ?_
   refine CodeOk.ret ?_
   have h261 := Option.some.inj h261
   subst h261
   exact Ends.gen [(0, 0), (1, 1)] (.inr rfl) (RetV.one rfl (OneR.tmp (t := 2) (r := V.bool true) (by kernel_rfl))) (by kernel_rfl) (by kernel_rfl) (by kernel_rfl)
  refine CodeOk.ifF hc314 (by kernel_rfl) ?_
  refine CodeOk.skip ?_
  exact hk304 (l82, y106, y105) h261 _ (Weak.sel [(0, 0), (1, 1)] [3, 14, 15, 16] (by kernel_rfl) (by kernel_rfl) (by kernel_rfl))
 refine CodeOk.ifF hc264 (by kernel_rfl) ?_
 refine CodeOk.exit ?_
 exact hk158 () h261 _ (Weak.sel [(0, 0), (1, 1)] [] (by kernel_rfl) (by kernel_rfl) (by kernel_rfl))

theorem m_impl_parser__newlines_ok (N : Nat) (p0_0 : List SToken) (p0_1 : Int) (p0_2 : Bool) (p1 : List (List UInt8)) {r : (Int × (List (List UInt8)))} (h : m_impl_parser__newlines N p0_0 p0_1 p0_2 p1 = some r) :
    AC Tryd.prog (GS []) 146 [.loc 0 0] [(0, .cells 108 [.sl false false (p0_0.map encSToken), V.int p0_1, V.bool p0_2, .own 1]), (1, .vec false 9 1 (p1.map encS))] (.tup []) [(0, .cells 108 [.sl false false (p0_0.map encSToken), V.int r.1, V.bool p0_2, .own 100]), (100, .vec false 9 1 (r.2.map encS))] := by
 rw [m_impl_parser__newlines] at h
 refine AC.enter Tryd.func146 rfl ?_
 refine CodeOk.block' ?_
 refine CodeOk.loopJ (fun (⟨y14, y15⟩ : (Int × (List (List UInt8)))) => ⟨tl 40 [(0, .loc 0 0)], [(0, .cells 108 [.sl false false (p0_0.map encSToken), V.int y14, V.bool p0_2, .own 100]), (100, .vec false 9 1 (y15.map encS))]⟩) (fun n i => m_impl_parser__newlines_l1 N p0_0 p0_2 n i = some r) (n0 := N) (i0 := (p0_1, p1)) (Weak.sel [(0, 0), (1, 100)] [0] (by kernel_rfl) (by kernel_rfl) (by kernel_rfl)) h (fun i h => by simp [m_impl_parser__newlines_l1] at h) ?_
 rintro n1 ⟨y14, y15⟩ h41 ih42
 rw [m_impl_parser__newlines_l1] at h41
 refine CodeOk.seq' ?_
 refine cu D_ok mix 5 164 (tl 40 [(0, .loc 0 0), (6, V.bool (!p0_2))]) [(0, .cells 108 [.sl false false (p0_0.map encSToken), V.int y14, V.bool p0_2, .own 100]), (100, .vec false 9 1 (y15.map encS))] (by kernel_rfl) ?_
 (revert h41; refine cond_rev (fun hc44 h41 => ?_) (fun hc44 h41 => ?_))
 ·refine CodeOk.ifT hc44 (by kernel_rfl) ?_
  refine CodeOk.skip ?_
  refine CodeOk.block' ?_
  refine CodeOk.join (fun (⟨y14, y37⟩ : (Int × (List (List UInt8)))) => ⟨tl 40 [(0, .loc 0 0)], [(0, .cells 108 [.sl false false (p0_0.map encSToken), V.int y14, V.bool p0_2, .own 100]), (100, .vec false 9 1 (y37.map encS))]⟩) (fun i => m_impl_parser__newlines_k2 N p0_0 p0_2 (m_impl_parser__newlines_l1 N p0_0 p0_2 n1) i = some r) ?_ ?_
  · rintro ⟨y14, y37⟩ h53
    rw [m_impl_parser__newlines_k2] at h53
    refine ce D_ok mix 8 166 (tl 40 [(0, .loc 0 0)]) [(0, .cells 108 [.sl false false (p0_0.map encSToken), V.int (IntKind.wrap .i64 (y14 + 1)), V.bool p0_2, .own 100]), (100, .vec false 9 1 (y37.map encS))] (by kernel_rfl) (fun st hw => ?_)
    exact ih42 ((IntKind.wrap .i64 (y14 + 1)), y37) h53 _ (hw.trans (Weak.sel [(0, 0), (100, 100)] [0] (by kernel_rfl) (by kernel_rfl) (by kernel_rfl)))
  intro hk54
  (revert h41; refine bind_rev fun r39 hx56 h41 => ?_)
  refine CodeOk.cutR (tl 40 [(0, .loc 0 0), (8, V.int r39)]) [(0, .cells 108 [.sl false false (p0_0.map encSToken), V.int y14, V.bool p0_2, .own 100]), (100, .vec false 9 1 (y15.map encS))] mix (by
   refine W.run D_ok 1 164 (by kernel_rfl) ?_
   refine W.call (m_impl_parser__kind_ok p0_0 y14 p0_2 y15 hx56) cok97 [(0, 0), (100, 1)] [(0, 0), (1, 100)] [] (show LayOk _ [] from trivial) (by kernel_rfl) (by kernel_rfl) ?_
   exact W.fi (by kernel_rfl)
   ) ?_
  refine CodeOk.block' ?_
  refine cu D_ok mix 2 164 (tl 40 [(0, .loc 0 0), (8, V.int r39), (9, V.bool (r39 == 1))]) [(0, .cells 108 [.sl false false (p0_0.map encSToken), V.int y14, V.bool p0_2, .own 100]), (100, .vec false 9 1 (y15.map encS))] (by kernel_rfl) ?_
  (revert h41; refine cond_rev (fun hc57 h41 => ?_) (fun hc57 h41 => ?_))
  ·refine CodeOk.ifT hc57 (by kernel_rfl) ?_
   refine CodeOk.skip ?_
   exact hk54 (y14, y15) h41 _ (Weak.sel [(0, 0), (100, 100)] [0] (by kernel_rfl) (by kernel_rfl) (by kernel_rfl))
  refine CodeOk.ifF hc57 (by kernel_rfl) ?_
  refine cu D_ok mix 2 164 (tl 40 [(0, .loc 0 0), (11, V.bool (r39 == 2))]) [(0, .cells 108 [.sl false false (p0_0.map encSToken), V.int y14, V.bool p0_2, .own 100]), (100, .vec false 9 1 (y15.map encS))] (by kernel_rfl) ?_
  (revert h41; refine cond_rev (fun hc58 h41 => ?_) (fun hc58 h41 => ?_))
  ·refine CodeOk.ifT hc58 (by kernel_rfl) ?_
   (revert h41; refine bind_rev fun e42 hx61 h41 => ?_)
   (revert h41; refine bind_rev fun x43 hx62 h41 => ?_)
   refine CodeOk.endR (tl 40 [(0, .loc 0 0)]) [(0, .cells 108 [.sl false false (p0_0.map encSToken), V.int y14, V.bool p0_2, .own 165]), (165, .vec false 9 1 (x43.map encS))] mix (by
    refine W.run D_ok 13 164 (by kernel_rfl) ?_
    refine W.ixD D_ok encSToken hx61 3 (by kernel_rfl) (by kernel_rfl) ?_
    refine W.run D_ok 3 164 (by kernel_rfl) ?_
    refine W.appO D_ok encS (a := 100) (c := 164) (el := 9) (sz := 1) 16 hx62 rfl 165 (by kernel_rfl) ?_
    refine W.run D_ok 3 166 (by kernel_rfl) ?_
    exact W.fi (by kernel_rfl)
    ) (fun st hw => ?_)
   exact hk54 (y14, x43) h41 _ (hw.trans (Weak.sel [(0, 0), (165, 100)] [0] (by kernel_rfl) (by kernel_rfl) (by kernel_rfl)))
  refine CodeOk.ifF hc58 (by kernel_rfl) ?_
  refine CodeOk.ret ?_
  have h41 := Option.some.inj h41
  subst h41
  exact Ends.gen [(0, 0), (100, 100)] (.inr rfl) (RetV.none rfl) (by kernel_rfl) (by kernel_rfl) (by kernel_rfl)
 refine CodeOk.ifF hc44 (by kernel_rfl) ?_
 refine CodeOk.exit ?_
 have h41 := Option.some.inj h41
 subst h41
 exact Ends.gen [(0, 0), (100, 100)] (.inl rfl) (RetV.none rfl) (by kernel_rfl) (by kernel_rfl) (by kernel_rfl)

theorem m_impl_parser__take_ok (a1 : Int) (p0_0 : List SToken) (p0_1 : Int) (p0_2 : Bool) (p1 : List (List UInt8)) {r : (Bool × Int × Bool)} (h : m_impl_parser__take a1 p0_0 p0_1 p0_2 p1 = some r) :
    AC Tryd.prog (GS []) 145 [.loc 0 0, V.int a1] [(0, .cells 108 [.sl false false (p0_0.map encSToken), V.int p0_1, V.bool p0_2, .own 1]), (1, .vec false 9 1 (p1.map encS))] (V.bool r.1) [(0, .cells 108 [.sl false false (p0_0.map encSToken), V.int r.2.1, V.bool r.2.2, .own 1]), (1, .vec false 9 1 (p1.map encS))] := by
 rw [m_impl_parser__take] at h
 refine AC.enter Tryd.func145 rfl ?_
 refine cu D_ok mix 1 100 (tl 25 [(0, .loc 0 0), (1, V.int a1)]) [(0, .cells 108 [.sl false false (p0_0.map encSToken), V.int p0_1, V.bool p0_2, .own 1]), (1, .vec false 9 1 (p1.map encS))] (by kernel_rfl) ?_
 refine CodeOk.seq' ?_
 (revert h; refine bind_rev fun y5 hv9 h => ?_)
 refine CodeOk.cutR (tl 25 [(0, .loc 0 0), (14, V.bool y5)]) [(0, .cells 108 [.sl false false (p0_0.map encSToken), V.int p0_1, V.bool p0_2, .own 1]), (1, .vec false 9 1 (p1.map encS))] mix (by
  refine W.run D_ok 5 100 (by kernel_rfl) ?_
  (revert hv9; refine cond_rev (fun hc10 hv9 => ?_) (fun hc10 hv9 => ?_))
  ·refine W.is 9 hc10 (by kernel_rfl) ?_
   refine W.run D_ok 5 100 (by kernel_rfl) ?_
   have hv9 := Option.some.inj hv9
   subst hv9
   exact W.fs [(0, 0), (1, 1)] [0, 14] (by kernel_rfl)
  refine W.is 9 hc10 (by kernel_rfl) ?_
  refine W.run D_ok 1 100 (by kernel_rfl) ?_
  (revert hv9; refine bind_rev fun r6 hx11 hv9 => ?_)
  refine W.call (m_impl_parser__kind_ok p0_0 p0_1 p0_2 p1 hx11) cok97 [(0, 0), (1, 1)] [(0, 0), (1, 1)] [] (show LayOk _ [] from trivial) (by kernel_rfl) (by kernel_rfl) ?_
  refine W.run D_ok 3 100 (by kernel_rfl) ?_
  have hv9 := Option.some.inj hv9
  subst hv9
  exact W.fs [(0, 0), (1, 1)] [0, 14] (by kernel_rfl)
  ) ?_
 (revert h; refine cond_rev (fun hc12 h => ?_) (fun hc12 h => ?_))
 ·refine CodeOk.ifT hc12 (by kernel_rfl) ?_
  refine cu D_ok mix 4 100 (tl 25 []) [(0, .cells 108 [.sl false false (p0_0.map encSToken), V.int p0_1, V.bool true, .own 1]), (1, .vec false 9 1 (p1.map encS))] (by kernel_rfl) ?_
  refine cu D_ok mix 1 100 (tl 25 [(4, V.bool false)]) [(0, .cells 108 [.sl false false (p0_0.map encSToken), V.int p0_1, V.bool true, .own 1]), (1, .vec false 9 1 (p1.map encS))] (by kernel_rfl) ?_
  refine CodeOk.ret ?_
  have h := Option.some.inj h
  subst h
  exact Ends.gen [(0, 0), (1, 1)] (.inr rfl) (RetV.one rfl (OneR.tmp (t := 4) (r := V.bool false) (by kernel_rfl))) (by kernel_rfl) (by kernel_rfl) (by kernel_rfl)
 refine CodeOk.ifF hc12 (by kernel_rfl) ?_
 refine CodeOk.skip ?_
 refine cu D_ok mix 8 100 (tl 25 []) [(0, .cells 108 [.sl false false (p0_0.map encSToken), V.int (IntKind.wrap .i64 (p0_1 + 1)), V.bool p0_2, .own 1]), (1, .vec false 9 1 (p1.map encS))] (by kernel_rfl) ?_
 refine cu D_ok mix 1 100 (tl 25 [(4, V.bool true)]) [(0, .cells 108 [.sl false false (p0_0.map encSToken), V.int (IntKind.wrap .i64 (p0_1 + 1)), V.bool p0_2, .own 1]), (1, .vec false 9 1 (p1.map encS))] (by kernel_rfl) ?_
 refine CodeOk.ret ?_
 have h := Option.some.inj h
 subst h
 exact Ends.gen [(0, 0), (1, 1)] (.inr rfl) (RetV.one rfl (OneR.tmp (t := 4) (r := V.bool true) (by kernel_rfl))) (by kernel_rfl) (by kernel_rfl) (by kernel_rfl)

theorem m_impl_parser__text_ok (p0_0 : List SToken) (p0_1 : Int) (p0_2 : Bool) (p1 : List (List UInt8)) {r : ((List UInt8) × Int)} (h : m_impl_parser__text p0_0 p0_1 p0_2 p1 = some r) :
    AC Tryd.prog (GS []) 152 [.loc 0 0] [(0, .cells 108 [.sl false false (p0_0.map encSToken), V.int p0_1, V.bool p0_2, .own 1]), (1, .vec false 9 1 (p1.map encS))] (V.str r.1) [(0, .cells 108 [.sl false false (p0_0.map encSToken), V.int r.2, V.bool p0_2, .own 1]), (1, .vec false 9 1 (p1.map encS))] := by
 rw [m_impl_parser__text] at h
 refine AC.enter Tryd.func152 rfl ?_
 refine cu D_ok mix 1 100 (tl 23 [(0, .loc 0 0)]) [(0, .cells 108 [.sl false false (p0_0.map encSToken), V.int p0_1, V.bool p0_2, .own 1]), (1, .vec false 9 1 (p1.map encS))] (by kernel_rfl) ?_
 (revert h; refine bind_rev fun e2 hx2 h => ?_)
 refine CodeOk.cutR (tl 23 [(0, .loc 0 0), (3, V.str e2.Text)]) [(0, .cells 108 [.sl false false (p0_0.map encSToken), V.int p0_1, V.bool p0_2, .own 1]), (1, .vec false 9 1 (p1.map encS))] mix (by
  refine W.run D_ok 8 100 (by kernel_rfl) ?_
  refine W.ixD D_ok encSToken hx2 3 (by kernel_rfl) (by kernel_rfl) ?_
  refine W.run D_ok 3 100 (by kernel_rfl) ?_
  exact W.fi (by kernel_rfl)
  ) ?_
 refine cu D_ok mix 8 100 (tl 23 [(3, V.str e2.Text)]) [(0, .cells 108 [.sl false false (p0_0.map encSToken), V.int (IntKind.wrap .i64 (p0_1 + 1)), V.bool p0_2, .own 1]), (1, .vec false 9 1 (p1.map encS))] (by kernel_rfl) ?_
 refine cu D_ok mix 2 100 (tl 23 [(2, V.str e2.Text)]) [(0, .cells 108 [.sl false false (p0_0.map encSToken), V.int (IntKind.wrap .i64 (p0_1 + 1)), V.bool p0_2, .own 1]), (1, .vec false 9 1 (p1.map encS))] (by kernel_rfl) ?_
 refine CodeOk.ret ?_
 have h := Option.some.inj h
 subst h
 exact Ends.gen [(0, 0), (1, 1)] (.inr rfl) (RetV.one rfl (OneR.tmp (t := 2) (r := V.str e2.Text) (by kernel_rfl))) (by kernel_rfl) (by kernel_rfl) (by kernel_rfl)

theorem m_impl_bin_ok (a0 : Int) (a1 : SPart) (a2 : SPart) {r : SPart} (h : m_impl_bin a0 a1 a2 = some r) :
    AC Tryd.prog (GS []) 147 [V.int a0, .agg [V.int a1.tree.kind, V.int a1.tree.op, V.str a1.tree.text, V.str a1.tree.other, .sl false false (a1.tree.kids.map encSTree), V.bool a1.target], .agg [V.int a2.tree.kind, V.int a2.tree.op, V.str a2.tree.text, V.str a2.tree.other, .sl false false (a2.tree.kids.map encSTree), V.bool a2.target]] [] (.agg [V.int r.tree.kind, V.int r.tree.op, V.str r.tree.text, V.str r.tree.other, .sl false false (r.tree.kids.map encSTree), V.bool r.target]) [] := by
 rw [m_impl_bin] at h
 refine AC.enter Tryd.func147 rfl ?_
 refine cu D_ok mix 3 100 (tl 15 [(0, V.int a0), (4, .loc 100 0), (5, .loc 101 0), (6, .loc 102 0)]) [(102, .cells 113 [V.int 0, V.int 0, V.str [], V.str [], .c (.slice none 0 0), V.bool false]), (101, .cells 113 [V.int a2.tree.kind, V.int a2.tree.op, V.str a2.tree.text, V.str a2.tree.other, .sl false false (a2.tree.kids.map encSTree), V.bool a2.target]), (100, .cells 113 [V.int a1.tree.kind, V.int a1.tree.op, V.str a1.tree.text, V.str a1.tree.other, .sl false false (a1.tree.kids.map encSTree), V.bool a1.target])] (by kernel_rfl) ?_
 refine CodeOk.cutR (tl 15 [(6, .loc 102 0)]) [(102, .cells 113 [V.int 12, V.int a0, V.str [], V.str [], .own 103, V.bool false]), (103, .vec false 111 5 ([a1.tree, a2.tree].map encSTree))] mix (by
  refine W.run D_ok 5 103 (by kernel_rfl) ?_
  refine W.layop D_ok (show LayOk _ [] from trivial) (by kernel_rfl) 103 { v := .own 103, R := [], new := [(103, .vec true 111 5 [[V.int a1.tree.kind, V.int a1.tree.op, V.str a1.tree.text, V.str a1.tree.other, .sl false false (a1.tree.kids.map encSTree)], [V.int a2.tree.kind, V.int a2.tree.op, V.str a2.tree.text, V.str a2.tree.other, .sl false false (a2.tree.kids.map encSTree)]])], N := [103] } (by kernel_rfl) ?_
  refine W.vecEq 103 (nn := true) (e := 111) (k := 5) (rows := [[V.int a1.tree.kind, V.int a1.tree.op, V.str a1.tree.text, V.str a1.tree.other, .sl false false (a1.tree.kids.map encSTree)], [V.int a2.tree.kind, V.int a2.tree.op, V.str a2.tree.text, V.str a2.tree.other, .sl false false (a2.tree.kids.map encSTree)]]) (rows' := [a1.tree, a2.tree].map encSTree) (by kernel_rfl) (by simp only [List.map_cons, List.map_nil, encSTree_eq]) ?_
  refine W.run D_ok 3 104 (by kernel_rfl) ?_
  exact W.fi (by kernel_rfl)
  ) ?_
 refine CodeOk.lay (tl 15 [(6, .loc 102 0)]) [(102, .cells 113 [V.int 12, V.int a0, V.str [], V.str [], .sl false false ([a1.tree, a2.tree].map encSTree), V.bool false])] (LayOk.cons (j := 103) encSTree encSTree ([a1.tree, a2.tree] : List STree) (by kernel_rfl) (share_encSTree) (show LayOk _ [] from trivial)) (by kernel_rfl) (by kernel_rfl) (by kernel_rfl) ?_
 refine CodeOk.ret ?_
 have h := Option.some.inj h
 subst h
 exact Ends.gen [] (.inr rfl) (RetV.one rfl (OneR.cell D_ok (r := .agg [V.int 12, V.int a0, V.str [], V.str [], .sl false false ([a1.tree, a2.tree].map encSTree), V.bool false]) (i := 102) (ety := 113) (cs := [V.int 12, V.int a0, V.str [], V.str [], .sl false false ([a1.tree, a2.tree].map encSTree), V.bool false]) (by kernel_rfl) (by kernel_rfl) (by kernel_rfl))) (by kernel_rfl) (by kernel_rfl) (by kernel_rfl)

end Go.Proofs.Tryd
