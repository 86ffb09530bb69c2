/-
 The walks that show that the code computes the models, part 1.
-/
import Derived.Test.YthgednmgmjmmpaaGreatDoorRcSM1
namespace Go.Proofs.Tryz
open Go.Av
set_option maxRecDepth 100000
set_option maxHeartbeats 8000000
set_option linter.unusedSimpArgs false
set_option linter.unusedVariables false

theorem ext199 (s : LU) (c : Int) (w : World) : (callFunc 199 #[.string ⟨⟨s⟩⟩, .int .u8 c]).run Tryz.prog w = .ok (.value (.int .i64 (Go.Lib.indexByte s c.toNat.toUInt8))) w := by
 rw [run_callFunc_extern Tryz.func199 (by kernel_rfl) rfl (by kernel_rfl) (by kernel_rfl)]
 rw [show _ = _ from Go.Lib.run_indexByteString ⟨⟨s⟩⟩ c w]
 rfl

theorem cok4 : callOk Tryz.prog 4 := fun _ _ => Tryz.call4 _ _
theorem cok6 : callOk Tryz.prog 6 := fun _ _ => Tryz.call6 _ _
theorem cok8 : callOk Tryz.prog 8 := fun _ _ => Tryz.call8 _ _
theorem cok9 : callOk Tryz.prog 9 := fun _ _ => Tryz.call9 _ _
theorem cok12 : callOk Tryz.prog 12 := fun _ _ => Tryz.call12 _ _
theorem cok13 : callOk Tryz.prog 13 := fun _ _ => Tryz.call13 _ _
theorem cok16 : callOk Tryz.prog 16 := fun _ _ => Tryz.call16 _ _
theorem cok17 : callOk Tryz.prog 17 := fun _ _ => Tryz.call17 _ _
theorem cok18 : callOk Tryz.prog 18 := fun _ _ => Tryz.call18 _ _
theorem cok25 : callOk Tryz.prog 25 := fun _ _ => Tryz.call25 _ _
theorem cok26 : callOk Tryz.prog 26 := fun _ _ => Tryz.call26 _ _
theorem cok27 : callOk Tryz.prog 27 := fun _ _ => Tryz.call27 _ _
theorem cok28 : callOk Tryz.prog 28 := fun _ _ => Tryz.call28 _ _
theorem cok29 : callOk Tryz.prog 29 := fun _ _ => Tryz.call29 _ _
theorem cok30 : callOk Tryz.prog 30 := fun _ _ => Tryz.call30 _ _
theorem cok31 : callOk Tryz.prog 31 := fun _ _ => Tryz.call31 _ _
theorem cok33 : callOk Tryz.prog 33 := fun _ _ => Tryz.call33 _ _
theorem cok34 : callOk Tryz.prog 34 := fun _ _ => Tryz.call34 _ _
theorem cok35 : callOk Tryz.prog 35 := fun _ _ => Tryz.call35 _ _
theorem cok36 : callOk Tryz.prog 36 := fun _ _ => Tryz.call36 _ _
theorem cok37 : callOk Tryz.prog 37 := fun _ _ => Tryz.call37 _ _
theorem cok38 : callOk Tryz.prog 38 := fun _ _ => Tryz.call38 _ _
theorem cok40 : callOk Tryz.prog 40 := fun _ _ => Tryz.call40 _ _
theorem cok41 : callOk Tryz.prog 41 := fun _ _ => Tryz.call41 _ _
theorem cok42 : callOk Tryz.prog 42 := fun _ _ => Tryz.call42 _ _
theorem cok44 : callOk Tryz.prog 44 := fun _ _ => Tryz.call44 _ _
theorem cok46 : callOk Tryz.prog 46 := fun _ _ => Tryz.call46 _ _
theorem cok50 : callOk Tryz.prog 50 := fun _ _ => Tryz.call50 _ _
theorem cok51 : callOk Tryz.prog 51 := fun _ _ => Tryz.call51 _ _
theorem cok52 : callOk Tryz.prog 52 := fun _ _ => Tryz.call52 _ _
theorem cok53 : callOk Tryz.prog 53 := fun _ _ => Tryz.call53 _ _
theorem cok55 : callOk Tryz.prog 55 := fun _ _ => Tryz.call55 _ _
theorem cok57 : callOk Tryz.prog 57 := fun _ _ => Tryz.call57 _ _
theorem cok58 : callOk Tryz.prog 58 := fun _ _ => Tryz.call58 _ _
theorem cok59 : callOk Tryz.prog 59 := fun _ _ => Tryz.call59 _ _
theorem cok60 : callOk Tryz.prog 60 := fun _ _ => Tryz.call60 _ _
theorem cok61 : callOk Tryz.prog 61 := fun _ _ => Tryz.call61 _ _
theorem cok62 : callOk Tryz.prog 62 := fun _ _ => Tryz.call62 _ _
theorem cok63 : callOk Tryz.prog 63 := fun _ _ => Tryz.call63 _ _
theorem cok64 : callOk Tryz.prog 64 := fun _ _ => Tryz.call64 _ _
theorem cok65 : callOk Tryz.prog 65 := fun _ _ => Tryz.call65 _ _
theorem cok66 : callOk Tryz.prog 66 := fun _ _ => Tryz.call66 _ _
theorem cok68 : callOk Tryz.prog 68 := fun _ _ => Tryz.call68 _ _
theorem cok69 : callOk Tryz.prog 69 := fun _ _ => Tryz.call69 _ _
theorem cok70 : callOk Tryz.prog 70 := fun _ _ => Tryz.call70 _ _
theorem cok71 : callOk Tryz.prog 71 := fun _ _ => Tryz.call71 _ _
theorem cok72 : callOk Tryz.prog 72 := fun _ _ => Tryz.call72 _ _
theorem cok74 : callOk Tryz.prog 74 := fun _ _ => Tryz.call74 _ _
theorem cok75 : callOk Tryz.prog 75 := fun _ _ => Tryz.call75 _ _
theorem cok76 : callOk Tryz.prog 76 := fun _ _ => Tryz.call76 _ _
theorem cok77 : callOk Tryz.prog 77 := fun _ _ => Tryz.call77 _ _
theorem cok78 : callOk Tryz.prog 78 := fun _ _ => Tryz.call78 _ _
theorem cok79 : callOk Tryz.prog 79 := fun _ _ => Tryz.call79 _ _
theorem cok80 : callOk Tryz.prog 80 := fun _ _ => Tryz.call80 _ _
theorem cok81 : callOk Tryz.prog 81 := fun _ _ => Tryz.call81 _ _
theorem cok82 : callOk Tryz.prog 82 := fun _ _ => Tryz.call82 _ _
theorem cok85 : callOk Tryz.prog 85 := fun _ _ => Tryz.call85 _ _
theorem cok87 : callOk Tryz.prog 87 := fun _ _ => Tryz.call87 _ _
theorem cok88 : callOk Tryz.prog 88 := fun _ _ => Tryz.call88 _ _
theorem cok89 : callOk Tryz.prog 89 := fun _ _ => Tryz.call89 _ _
theorem cok90 : callOk Tryz.prog 90 := fun _ _ => Tryz.call90 _ _
theorem cok91 : callOk Tryz.prog 91 := fun _ _ => Tryz.call91 _ _
theorem cok92 : callOk Tryz.prog 92 := fun _ _ => Tryz.call92 _ _
theorem cok93 : callOk Tryz.prog 93 := fun _ _ => Tryz.call93 _ _
theorem cok94 : callOk Tryz.prog 94 := fun _ _ => Tryz.call94 _ _
theorem cok95 : callOk Tryz.prog 95 := fun _ _ => Tryz.call95 _ _
theorem cok96 : callOk Tryz.prog 96 := fun _ _ => Tryz.call96 _ _
theorem cok97 : callOk Tryz.prog 97 := fun _ _ => Tryz.call97 _ _
theorem cok98 : callOk Tryz.prog 98 := fun _ _ => Tryz.call98 _ _
theorem cok99 : callOk Tryz.prog 99 := fun _ _ => Tryz.call99 _ _
theorem cok100 : callOk Tryz.prog 100 := fun _ _ => Tryz.call100 _ _
theorem cok101 : callOk Tryz.prog 101 := fun _ _ => Tryz.call101 _ _
theorem cok102 : callOk Tryz.prog 102 := fun _ _ => Tryz.call102 _ _
theorem cok103 : callOk Tryz.prog 103 := fun _ _ => Tryz.call103 _ _
theorem cok105 : callOk Tryz.prog 105 := fun _ _ => Tryz.call105 _ _
theorem cok107 : callOk Tryz.prog 107 := fun _ _ => Tryz.call107 _ _
theorem cok108 : callOk Tryz.prog 108 := fun _ _ => Tryz.call108 _ _
theorem cok109 : callOk Tryz.prog 109 := fun _ _ => Tryz.call109 _ _
theorem cok110 : callOk Tryz.prog 110 := fun _ _ => Tryz.call110 _ _
theorem cok111 : callOk Tryz.prog 111 := fun _ _ => Tryz.call111 _ _
theorem cok112 : callOk Tryz.prog 112 := fun _ _ => Tryz.call112 _ _
theorem cok113 : callOk Tryz.prog 113 := fun _ _ => Tryz.call113 _ _
theorem cok114 : callOk Tryz.prog 114 := fun _ _ => Tryz.call114 _ _
theorem cok115 : callOk Tryz.prog 115 := fun _ _ => Tryz.call115 _ _
theorem cok116 : callOk Tryz.prog 116 := fun _ _ => Tryz.call116 _ _
theorem cok117 : callOk Tryz.prog 117 := fun _ _ => Tryz.call117 _ _
theorem cok118 : callOk Tryz.prog 118 := fun _ _ => Tryz.call118 _ _
theorem cok119 : callOk Tryz.prog 119 := fun _ _ => Tryz.call119 _ _
theorem cok120 : callOk Tryz.prog 120 := fun _ _ => Tryz.call120 _ _
theorem cok121 : callOk Tryz.prog 121 := fun _ _ => Tryz.call121 _ _
theorem cok122 : callOk Tryz.prog 122 := fun _ _ => Tryz.call122 _ _
theorem cok123 : callOk Tryz.prog 123 := fun _ _ => Tryz.call123 _ _
theorem cok124 : callOk Tryz.prog 124 := fun _ _ => Tryz.call124 _ _
theorem cok125 : callOk Tryz.prog 125 := fun _ _ => Tryz.call125 _ _
theorem cok126 : callOk Tryz.prog 126 := fun _ _ => Tryz.call126 _ _
theorem cok127 : callOk Tryz.prog 127 := fun _ _ => Tryz.call127 _ _
theorem cok128 : callOk Tryz.prog 128 := fun _ _ => Tryz.call128 _ _
theorem cok129 : callOk Tryz.prog 129 := fun _ _ => Tryz.call129 _ _
theorem cok130 : callOk Tryz.prog 130 := fun _ _ => Tryz.call130 _ _
theorem cok131 : callOk Tryz.prog 131 := fun _ _ => Tryz.call131 _ _
theorem cok132 : callOk Tryz.prog 132 := fun _ _ => Tryz.call132 _ _
theorem cok133 : callOk Tryz.prog 133 := fun _ _ => Tryz.call133 _ _
theorem cok134 : callOk Tryz.prog 134 := fun _ _ => Tryz.call134 _ _
theorem cok135 : callOk Tryz.prog 135 := fun _ _ => Tryz.call135 _ _
theorem cok136 : callOk Tryz.prog 136 := fun _ _ => Tryz.call136 _ _
theorem cok137 : callOk Tryz.prog 137 := fun _ _ => Tryz.call137 _ _
theorem cok138 : callOk Tryz.prog 138 := fun _ _ => Tryz.call138 _ _
theorem cok139 : callOk Tryz.prog 139 := fun _ _ => Tryz.call139 _ _
theorem cok140 : callOk Tryz.prog 140 := fun _ _ => Tryz.call140 _ _
theorem cok141 : callOk Tryz.prog 141 := fun _ _ => Tryz.call141 _ _
theorem cok142 : callOk Tryz.prog 142 := fun _ _ => Tryz.call142 _ _
theorem cok143 : callOk Tryz.prog 143 := fun _ _ => Tryz.call143 _ _
theorem cok144 : callOk Tryz.prog 144 := fun _ _ => Tryz.call144 _ _
theorem cok145 : callOk Tryz.prog 145 := fun _ _ => Tryz.call145 _ _
theorem cok146 : callOk Tryz.prog 146 := fun _ _ => Tryz.call146 _ _
theorem cok147 : callOk Tryz.prog 147 := fun _ _ => Tryz.call147 _ _
theorem cok148 : callOk Tryz.prog 148 := fun _ _ => Tryz.call148 _ _
theorem cok149 : callOk Tryz.prog 149 := fun _ _ => Tryz.call149 _ _
theorem cok150 : callOk Tryz.prog 150 := fun _ _ => Tryz.call150 _ _
theorem cok151 : callOk Tryz.prog 151 := fun _ _ => Tryz.call151 _ _
theorem cok152 : callOk Tryz.prog 152 := fun _ _ => Tryz.call152 _ _
theorem cok153 : callOk Tryz.prog 153 := fun _ _ => Tryz.call153 _ _
theorem cok154 : callOk Tryz.prog 154 := fun _ _ => Tryz.call154 _ _
theorem cok156 : callOk Tryz.prog 156 := fun _ _ => Tryz.call156 _ _
theorem cok157 : callOk Tryz.prog 157 := fun _ _ => Tryz.call157 _ _
theorem cok158 : callOk Tryz.prog 158 := fun _ _ => Tryz.call158 _ _
theorem cok159 : callOk Tryz.prog 159 := fun _ _ => Tryz.call159 _ _
theorem cok160 : callOk Tryz.prog 160 := fun _ _ => Tryz.call160 _ _
theorem cok161 : callOk Tryz.prog 161 := fun _ _ => Tryz.call161 _ _
theorem cok163 : callOk Tryz.prog 163 := fun _ _ => Tryz.call163 _ _
theorem cok166 : callOk Tryz.prog 166 := fun _ _ => Tryz.call166 _ _
theorem cok167 : callOk Tryz.prog 167 := fun _ _ => Tryz.call167 _ _
theorem cok168 : callOk Tryz.prog 168 := fun _ _ => Tryz.call168 _ _
theorem cok169 : callOk Tryz.prog 169 := fun _ _ => Tryz.call169 _ _
theorem cok170 : callOk Tryz.prog 170 := fun _ _ => Tryz.call170 _ _
theorem cok171 : callOk Tryz.prog 171 := fun _ _ => Tryz.call171 _ _
theorem cok172 : callOk Tryz.prog 172 := fun _ _ => Tryz.call172 _ _
theorem cok173 : callOk Tryz.prog 173 := fun _ _ => Tryz.call173 _ _
theorem cok174 : callOk Tryz.prog 174 := fun _ _ => Tryz.call174 _ _
theorem cok175 : callOk Tryz.prog 175 := fun _ _ => Tryz.call175 _ _
theorem cok176 : callOk Tryz.prog 176 := fun _ _ => Tryz.call176 _ _
theorem cok177 : callOk Tryz.prog 177 := fun _ _ => Tryz.call177 _ _
theorem cok178 : callOk Tryz.prog 178 := fun _ _ => Tryz.call178 _ _
theorem cok179 : callOk Tryz.prog 179 := fun _ _ => Tryz.call179 _ _
theorem cok180 : callOk Tryz.prog 180 := fun _ _ => Tryz.call180 _ _
theorem cok181 : callOk Tryz.prog 181 := fun _ _ => Tryz.call181 _ _
theorem cok182 : callOk Tryz.prog 182 := fun _ _ => Tryz.call182 _ _
theorem cok183 : callOk Tryz.prog 183 := fun _ _ => Tryz.call183 _ _
theorem cok184 : callOk Tryz.prog 184 := fun _ _ => Tryz.call184 _ _
theorem cok185 : callOk Tryz.prog 185 := fun _ _ => Tryz.call185 _ _
theorem cok186 : callOk Tryz.prog 186 := fun _ _ => Tryz.call186 _ _
theorem cok187 : callOk Tryz.prog 187 := fun _ _ => Tryz.call187 _ _
theorem cok188 : callOk Tryz.prog 188 := fun _ _ => Tryz.call188 _ _
theorem cok189 : callOk Tryz.prog 189 := fun _ _ => Tryz.call189 _ _
theorem cok190 : callOk Tryz.prog 190 := fun _ _ => Tryz.call190 _ _
theorem cok191 : callOk Tryz.prog 191 := fun _ _ => Tryz.call191 _ _
theorem cok192 : callOk Tryz.prog 192 := fun _ _ => Tryz.call192 _ _
theorem cok193 : callOk Tryz.prog 193 := fun _ _ => Tryz.call193 _ _
theorem cok195 : callOk Tryz.prog 195 := fun _ _ => Tryz.call195 _ _
theorem cok196 : callOk Tryz.prog 196 := fun _ _ => Tryz.call196 _ _
theorem cok197 : callOk Tryz.prog 197 := fun _ _ => Tryz.call197 _ _
theorem cok198 : callOk Tryz.prog 198 := fun _ _ => Tryz.call198 _ _
theorem cok200 : callOk Tryz.prog 200 := fun _ _ => Tryz.call200 _ _
theorem cok201 : callOk Tryz.prog 201 := fun _ _ => Tryz.call201 _ _
theorem cok203 : callOk Tryz.prog 203 := fun _ _ => Tryz.call203 _ _
theorem cok204 : callOk Tryz.prog 204 := fun _ _ => Tryz.call204 _ _
theorem cok205 : callOk Tryz.prog 205 := fun _ _ => Tryz.call205 _ _
theorem cok206 : callOk Tryz.prog 206 := fun _ _ => Tryz.call206 _ _

theorem ml_szToken_ok (a0 : SToken) (a1 : Int) {r : Int} (h : ml_szToken a0 a1 = some r) :
    AC0 25 [.agg [V.i a0.Kind, V.s a0.Text, V.i a0.At], V.i a1] [] (V.i r) [] := by
 rw [ml_szToken] at h
 refine AC.enter Tryz.func25 rfl (cV 100 (cV 101 (CO.seq' (cV 101 ?_))))
 refine cI h (fun _ h => ?_) (fun _ h => ?_)
 ·refine cV 101 ?_
  cases h
  exact e1 4 id
 refine CO.skip (cV 101 ?_)
 cases h
 exact e1 4 id

theorem ml_szTokenS_ok (N : Nat) (a0 : LT) (a1 : Int) {r : Int} (h : ml_szTokenS N a0 a1 = some r) :
    AC0 6 [sL eTk a0, V.i a1] [] (V.i r) [] := by
 rw [ml_szTokenS] at h
 refine AC.enter Tryz.func6 rfl (cV 100 (CO.sw mix (wR 2 100 (W.len Dk eTk a0 [] (by kernel_rfl) (by kernel_rfl) (wR 2 100 (wF (CO.seq' (cV 100 ?_))))))))
 refine cI h (fun _ h => ?_) (fun _ h => ?_)
 ·refine cV 100 ?_
  cases h
  exact e1 4 id
 refine CO.skip (CO.seq' (cV 100 (CO.block' (CO.loopJ (fun (⟨a0, y37, y38⟩ : (LT × Int × Int)) => ⟨tl 27 [(0, sL eTk a0), (1, V.i y37), (5, V.i y38)], []⟩) (fun n i => ml_szTokenS_l1 N n i = some r) (n0 := N) (i0 := (a0, (IntKind.wrap .i64 (a1 - (a0.length : Int))), 0)) (wS [] [0, 1, 5]) h (fun i h => by simp [ml_szTokenS_l1] at h) ?_))))
 rintro n1 ⟨a0, y37, y38⟩ h65 ih66
 rw [ml_szTokenS_l1] at h65
 refine CO.seq' (CO.sw mix (wR 2 160 (W.len Dk eTk a0 [] (by kernel_rfl) (by kernel_rfl) (wR 1 160 (wF ?_)))))
 refine cI h65 (fun _ h65 => ?_) (fun _ h65 => ?_)
 ·refine CO.skip (CO.seq' (CO.block' (bB h65 fun e55 hx76 h65 => (bB h65 fun r56 hx77 h65 => (CO.sw mix (wR 2 160 (W.ixD Dk eTk hx76 3 (by kernel_rfl) (by kernel_rfl) (wR 2 160 ?_))))))))
  refine W.call0 (ml_szToken_ok e55 y37 hx77) cok25 rfl (by kernel_rfl) (wR 1 160 (wF (cV 160 ?_)))
  refine cI h65 (fun _ h65 => ?_) (fun _ h65 => ?_)
  ·refine cV 160 ?_
   cases h65
   exact e1 4 id
  refine CO.skip ?_
  exact cK 160 ih66 (a0, r56, (IntKind.wrap .i64 (y38 + 1))) h65 [] [0, 1, 5]
 refine CO.exit (cV 160 ?_)
 cases h65
 exact e1 4 id

theorem ml_toToken_ok (a0 : SToken) {r : SToken} (h : ml_toToken a0 = some r) :
    AC0 29 [.agg [V.i a0.Kind, V.s a0.Text, V.i a0.At]] [] (.agg [V.i r.Kind, V.s r.Text, V.i r.At]) [] := by
 rw [ml_toToken] at h
 refine AC.enter Tryz.func29 rfl (cV 100 (cV 102 (cV 103 (cV 103 (cV 103 (cV 103 (CO.ret ?_)))))))
 have h := sI h
 subst h
 exact eG [] (.inr rfl) (RetV.one rfl (OneR.cell Dk (r := .agg [V.i a0.Kind, V.s a0.Text, V.i a0.At]) (i := 101) (ety := 55) (cs := [V.i a0.Kind, V.s a0.Text, V.i a0.At]) (by kernel_rfl) (by kernel_rfl) (by kernel_rfl)))

theorem ml_toTokenS_ok (N : Nat) (a0 : LT) {r : LT} (h : ml_toTokenS N a0 = some r) :
    AC0 8 [sL eTk a0] [] (.own 100) [(100, vX 55 3 eTk r)] := by
 rw [ml_toTokenS] at h
 refine AC.enter Tryz.func8 rfl (cV 100 (bB h fun x2 hx2 h => (CO.sw mix (wR 1 100 (W.len Dk eTk a0 [] (by kernel_rfl) (by kernel_rfl) (W.mk Dk eTk 32 hx2 100 55 3 [.int .i64 0, .string ⟨#[]⟩, .int .i64 0] (by kernel_rfl) (by kernel_rfl) (wR 1 101 (wF ?_))))))))
 refine CO.seq' (cV 101 (CO.block' (CO.loopJ (fun (⟨a0, y71, y72⟩ : (LT × Int × LT)) => ⟨tl 23 [(0, sL eTk a0), (3, .own 100), (4, V.i y71)], [(100, vX 55 3 eTk y72)]⟩) (fun n i => ml_toTokenS_l1 N n i = some r) (n0 := N) (i0 := (a0, 0, x2)) (wS [(100, 100)] [0, 3, 4]) h (fun i h => by simp [ml_toTokenS_l1] at h) ?_)))
 rintro n1 ⟨a0, y71, y72⟩ h95 ih96
 rw [ml_toTokenS_l1] at h95
 refine CO.seq' (CO.sw mix (wR 2 161 (W.len Dk eTk a0 [] (by kernel_rfl) (by kernel_rfl) (wR 1 161 (wF ?_)))))
 refine cI h95 (fun _ h95 => ?_) (fun _ h95 => ?_)
 ·refine CO.skip (CO.seq' (CO.block' (bB h95 fun e103 hx111 h95 => (bB h95 fun r104 hx112 h95 => (bB h95 fun e105 hx113 h95 => (bB h95 fun x106 hu114 h95 => ?_))))))
  refine CO.endR (tl 23 [(0, sL eTk a0), (3, .own 100), (4, V.i y71)]) [(100, vX 55 3 eTk x106)] mix (by
   refine wR 4 161 (W.ixD Dk eTk hx111 3 (by kernel_rfl) (by kernel_rfl) (wR 1 161 (W.call0 (ml_toToken_ok e103 hx112) cok29 rfl (by kernel_rfl) (W.ixO Dk eTk hx113 100 3 (by kernel_rfl) (W.stO Dk eTk (x' := r104) hx113 hu114 (j := 100) (nn := false) (ety := 55) (sz := 3) (b := 0) (ys := [V.i r104.Kind, V.s r104.Text, V.i r104.At]) (C := []) (R := []) (by kernel_rfl) (by kernel_rfl) ?_)))))
   exact fI
   ) (fun st hw => ?_)
  refine CO.weak hw ?_
  exact cK 161 ih96 (a0, (IntKind.wrap .i64 (y71 + 1)), x106) h95 [(100, 100)] [0, 3, 4]
 refine CO.exit (cV 161 (CO.ret ?_))
 cases h95
 exact eG [(100, 100)] (.inr rfl) (RetV.one rfl (oT (t := 2) (r := .own 100)))

theorem ml_toPos_ok (a0 : SPos) {r : SPos} (h : ml_toPos a0 = some r) :
    AC0 9 [.agg [V.i a0.Level, V.b a0.Dollar, V.b a0.NoIn, V.b a0.NoGt, V.b a0.NoSign]] [] (.agg [V.i r.Level, V.b r.Dollar, V.b r.NoIn, V.b r.NoGt, V.b r.NoSign]) [] := by
 rw [ml_toPos] at h
 refine AC.enter Tryz.func9 rfl (cV 100 (cV 102 (cV 103 (cV 103 (cV 103 (cV 103 (cV 103 (cV 103 ?_))))))))
 refine CO.ret ?_
 have h := sI h
 subst h
 exact eG [] (.inr rfl) (RetV.one rfl (OneR.cell Dk (r := .agg [V.i a0.Level, V.b a0.Dollar, V.b a0.NoIn, V.b a0.NoGt, V.b a0.NoSign]) (i := 101) (ety := 30) (cs := [V.i a0.Level, V.b a0.Dollar, V.b a0.NoIn, V.b a0.NoGt, V.b a0.NoSign]) (by kernel_rfl) (by kernel_rfl) (by kernel_rfl)))

theorem ms_PairsOf_ok (N : Nat) (a0 : LT) {r : (List SSpan)} (h : ms_PairsOf N a0 = some r) :
    AC0 26 [sL eTk a0] [] (.own 100) [(100, vX 54 2 encSSpan r)] := by
 rw [ms_PairsOf] at h
 refine AC.enter Tryz.func26 rfl (cV 100 (cV 100 (CO.seq' (cV 101 (CO.block' (CO.loopJ (fun (⟨a0, y697, y698⟩ : (LT × Int × (List SSpan))) => ⟨tl 74 [(0, sL eTk a0), (3, .own 100), (4, V.i y697)], [(100, vX 54 2 encSSpan y698)]⟩) (fun n i => ms_PairsOf_l1 N n i = some r) (n0 := N) (i0 := (a0, 0, [])) (wS [(100, 100)] [0, 3, 4]) h (fun i h => by simp [ms_PairsOf_l1] at h) ?_))))))
 rintro n1 ⟨a0, y697, y698⟩ h1459 ih1460
 rw [ms_PairsOf_l1] at h1459
 refine CO.seq' (CO.sw mix (wR 2 285 (W.len Dk eTk a0 [] (by kernel_rfl) (by kernel_rfl) (wR 1 285 (wF ?_)))))
 refine cI h1459 (fun _ h1459 => ?_) (fun _ h1459 => ?_)
 ·refine CO.skip ?_
  refine CO.join (fun (⟨a0, y697, y972⟩ : (LT × Int × (List SSpan))) => ⟨tl 74 [(0, sL eTk a0), (3, .own 100), (4, V.i y697)], [(100, vX 54 2 encSSpan y972)]⟩) (fun i => ms_PairsOf_k2 N (ms_PairsOf_l1 N n1) i = some r) ?_ ?_
  · rintro ⟨a0, y697, y972⟩ h1613
    rw [ms_PairsOf_k2] at h1613
    exact cK 347 ih1460 (a0, (IntKind.wrap .i64 (y697 + 1)), y972) h1613 [(100, 100)] [0, 3, 4]
  intro hk1614
  refine CO.block' (CO.seq' (bB h1459 fun y983 hv1635 h1459 => ?_))
  refine CO.cutR (tl 74 [(0, sL eTk a0), (3, .own 100), (4, V.i y697), (41, V.b y983)]) [(100, vX 54 2 encSSpan y698)] mix (by
   refine wR 2 285 (bB hv1635 fun e984 hx1636 hv1635 => (W.ixD Dk eTk hx1636 3 (by kernel_rfl) (by kernel_rfl) (wR 4 285 ?_)))
   refine wJ 20 hv1635 (fun hv1635 => ?_) (fun hv1635 => ?_)
   ·refine wR 21 285 ?_
    cases hv1635
    exact fS [(100, 100)] [0, 3, 4, 41]
   refine wR 3 285 ?_
   refine wJ 23 hv1635 (fun hv1635 => ?_) (fun hv1635 => ?_)
   ·refine wR 3 285 (bB hv1635 fun e985 hx1639 hv1635 => (W.ixD Dk eTk hx1639 3 (by kernel_rfl) (by kernel_rfl) (wR 4 285 ?_)))
    refine wJ 31 hv1635 (fun hv1635 => ?_) (fun hv1635 => ?_)
    ·refine wR 10 285 ?_
     cases hv1635
     exact fS [(100, 100)] [0, 3, 4, 41]
    refine wR 3 285 (bB hv1635 fun e986 hx1641 hv1635 => (W.ixD Dk eTk hx1641 3 (by kernel_rfl) (by kernel_rfl) (wR 6 285 ?_)))
    cases hv1635
    exact fS [(100, 100)] [0, 3, 4, 41]
   refine wR 18 285 ?_
   cases hv1635
   exact fS [(100, 100)] [0, 3, 4, 41]
   ) ?_
  refine cI h1459 (fun _ h1459 => ?_) (fun _ h1459 => ?_)
  ·refine CO.exit ?_
   exact hk1614 (a0, y697, y698) h1459 _ (wS [(100, 100)] [0, 3, 4])
  refine CO.skip (cV 285 (cV 285 (CO.block' (CO.loopJ (fun (⟨a0, y697, y698, y1011, y1012⟩ : (LT × Int × (List SSpan) × Int × Int)) => ⟨tl 74 [(0, sL eTk a0), (3, .own 100), (4, V.i y697), (5, V.i y1011), (6, V.i y1012)], [(100, vX 54 2 encSSpan y698)]⟩) (fun n i => ms_PairsOf_l3 N (ms_PairsOf_l1 N n1) n i = some r) (n0 := N) (i0 := (a0, y697, y698, 0, y697)) (wS [(100, 100)] [0, 3, 4, 5, 6]) h1459 (fun i h => by simp [ms_PairsOf_l3] at h) ?_))))
  rintro n3 ⟨a0, y697, y698, y1011, y1012⟩ h1723 ih1724
  rw [ms_PairsOf_l3] at h1723
  refine CO.seq' (CO.sw mix (wR 2 345 (W.len Dk eTk a0 [] (by kernel_rfl) (by kernel_rfl) (wR 1 345 (wF ?_)))))
  refine cI h1723 (fun _ h1723 => ?_) (fun _ h1723 => ?_)
  ·refine CO.skip (CO.seq' (CO.block' ?_))
   refine CO.join (fun (⟨a0, y697, y1012, y698, y1053⟩ : (LT × Int × Int × (List SSpan) × Int)) => ⟨tl 74 [(0, sL eTk a0), (3, .own 100), (4, V.i y697), (5, V.i y1053), (6, V.i y1012)], [(100, vX 54 2 encSSpan y698)]⟩) (fun i => ms_PairsOf_k4 N (ms_PairsOf_l1 N n1) (ms_PairsOf_l3 N (ms_PairsOf_l1 N n1) n3) i = some r) ?_ ?_
   · rintro ⟨a0, y697, y1012, y698, y1053⟩ h1749
     rw [ms_PairsOf_k4] at h1749
     refine CO.join (fun (⟨a0, y697, y1012, y698, y1056⟩ : (LT × Int × Int × (List SSpan) × Int)) => ⟨tl 74 [(0, sL eTk a0), (3, .own 100), (4, V.i y697), (5, V.i y1056), (6, V.i y1012)], [(100, vX 54 2 encSSpan y698)]⟩) (fun i => ms_PairsOf_k5 N (ms_PairsOf_l1 N n1) (ms_PairsOf_l3 N (ms_PairsOf_l1 N n1) n3) i = some r) ?_ ?_
     · rintro ⟨a0, y697, y1012, y698, y1056⟩ h1753
       rw [ms_PairsOf_k5] at h1753
       refine cV 345 ?_
       refine cI h1753 (fun _ h1753 => ?_) (fun _ h1753 => ?_)
       ·refine bB h1753 fun x1058 hx1756 h1753 => (CO.sw mix (wR 5 345 (W.appO Dk encSSpan (a := 100) (c := 345) (el := 54) (sz := 2) 16 hx1756 rfl 346 (by kernel_rfl) (wR 1 347 (wF (CO.exit ?_))))))
        exact hk1614 (a0, y697, x1058) h1753 _ (wS [(346, 100)] [0, 3, 4])
       refine CO.skip ?_
       exact cK 345 ih1724 (a0, y697, y698, y1056, (IntKind.wrap .i64 (y1012 + 1))) h1753 [(100, 100)] [0, 3, 4, 5, 6]
     intro hk1757
     refine bB h1749 fun e1060 hx1759 h1749 => (CO.sw mix (wR 2 345 (W.ixD Dk eTk hx1759 3 (by kernel_rfl) (by kernel_rfl) (wR 3 345 (wF ?_)))))
     refine cI h1749 (fun _ h1749 => ?_) (fun _ h1749 => ?_)
     ·exact cK 345 hk1757 (a0, y697, y1012, y698, (IntKind.wrap .i64 (y1053 - 1))) h1749 [(100, 100)] [0, 3, 4, 5, 6]
     exact sK hk1757 (a0, y697, y1012, y698, y1053) h1749 [(100, 100)] [0, 3, 4, 5, 6]
   intro hk1761
   refine bB h1723 fun e1062 hx1763 h1723 => (CO.sw mix (wR 2 345 (W.ixD Dk eTk hx1763 3 (by kernel_rfl) (by kernel_rfl) (wR 3 345 (wF ?_)))))
   refine cI h1723 (fun _ h1723 => ?_) (fun _ h1723 => ?_)
   ·exact cK 345 hk1761 (a0, y697, y1012, y698, (IntKind.wrap .i64 (y1011 + 1))) h1723 [(100, 100)] [0, 3, 4, 5, 6]
   exact sK hk1761 (a0, y697, y1012, y698, y1011) h1723 [(100, 100)] [0, 3, 4, 5, 6]
  refine CO.exit ?_
  exact hk1614 (a0, y697, y698) h1723 _ (wS [(100, 100)] [0, 3, 4])
 refine CO.exit (cV 285 (CO.ret ?_))
 cases h1459
 exact eG [(100, 100)] (.inr rfl) (RetV.one rfl (oT (t := 2) (r := .own 100)))

theorem ms_Without_ok (N : Nat) (a0 : LT) (a1 : SSpan) {r : LT} (h : ms_Without N a0 a1 = some r) :
    AC0 28 [sL eTk a0, .agg [V.i a1.From, V.i a1.To]] [] (.own 100) [(100, vX 55 3 eTk r)] := by
 rw [ms_Without] at h
 refine AC.enter Tryz.func28 rfl (cV 100 (cV 101 (CO.seq' (cV 102 (CO.block' (CO.loopJ (fun (⟨a0, a1, y49, y50⟩ : (LT × SSpan × Int × LT)) => ⟨tl 32 [(0, sL eTk a0), (3, .loc 100 0), (5, .own 101), (6, V.i y49)], [(100, .cells 54 [V.i a1.From, V.i a1.To]), (101, vX 55 3 eTk y50)]⟩) (fun n i => ms_Without_l1 N n i = some r) (n0 := N) (i0 := (a0, a1, 0, [])) (wS [(100, 100), (101, 101)] [0, 3, 5, 6]) h (fun i h => by simp [ms_Without_l1] at h) ?_))))))
 rintro n1 ⟨a0, a1, y49, y50⟩ h103 ih104
 rw [ms_Without_l1] at h103
 refine CO.seq' (CO.sw mix (wR 2 166 (W.len Dk eTk a0 [] (by kernel_rfl) (by kernel_rfl) (wR 1 166 (wF ?_)))))
 refine cI h103 (fun _ h103 => ?_) (fun _ h103 => ?_)
 ·refine CO.skip ?_
  refine CO.join (fun (⟨a0, y49, a1, y69⟩ : (LT × Int × SSpan × LT)) => ⟨tl 32 [(0, sL eTk a0), (3, .loc 100 0), (5, .own 101), (6, V.i y49)], [(100, .cells 54 [V.i a1.From, V.i a1.To]), (101, vX 55 3 eTk y69)]⟩) (fun i => ms_Without_k2 N (ms_Without_l1 N n1) i = some r) ?_ ?_
  · rintro ⟨a0, y49, a1, y69⟩ h115
    rw [ms_Without_k2] at h115
    exact cK 168 ih104 (a0, a1, (IntKind.wrap .i64 (y49 + 1)), y69) h115 [(100, 100), (101, 101)] [0, 3, 5, 6]
  intro hk116
  refine CO.block' (bB h103 fun y70 hv118 h103 => ?_)
  refine CO.cutR (tl 32 [(0, sL eTk a0), (3, .loc 100 0), (5, .own 101), (6, V.i y49), (23, V.b y70)]) [(100, .cells 54 [V.i a1.From, V.i a1.To]), (101, vX 55 3 eTk y50)] mix (by
   refine wR 5 166 ?_
   refine wJ 18 hv118 (fun hv118 => ?_) (fun hv118 => ?_)
   ·refine wR 5 166 ?_
    cases hv118
    exact fS [(100, 100), (101, 101)] [0, 3, 5, 6, 23]
   refine wR 5 166 ?_
   cases hv118
   exact fS [(100, 100), (101, 101)] [0, 3, 5, 6, 23]
   ) ?_
  refine cI h103 (fun _ h103 => ?_) (fun _ h103 => ?_)
  ·refine bB h103 fun e73 hx123 h103 => (bB h103 fun x74 hx124 h103 => (CO.w mix (wR 3 166 (W.ixD Dk eTk hx123 3 (by kernel_rfl) (by kernel_rfl) (wR 2 166 (W.appO Dk eTk (a := 101) (c := 166) (el := 55) (sz := 3) 32 hx124 rfl 167 (by kernel_rfl) (wR 1 168 ?_)))))))
   exact wK hk116 (a0, y49, a1, x74) h103 [(100, 100), (167, 101)] [0, 3, 5, 6]
  exact sK hk116 (a0, y49, a1, y50) h103 [(100, 100), (101, 101)] [0, 3, 5, 6]
 refine CO.exit (cV 166 (CO.ret ?_))
 cases h103
 exact eG [(101, 100)] (.inr rfl) (RetV.one rfl (oT (t := 4) (r := .own 101)))

theorem ms_l1In_ok (a0 : Int) (a1 : Int) (a2 : Int) {r : Bool} (h : ms_l1In a0 a1 a2 = some r) :
    AC0 87 [V.i a0, V.i a1, V.i a2] [] (V.b r) [] := by
 rw [ms_l1In] at h
 refine AC.enter Tryz.func87 rfl (cV 100 (bB h fun y1 hv2 h => ?_))
 refine CO.cutR (tl 15 [(6, V.b y1)]) [] mix (by
  refine wR 4 100 ?_
  refine wJ 10 hv2 (fun hv2 => ?_) (fun hv2 => ?_)
  ·refine wR 5 100 ?_
   cases hv2
   exact fS [] [6]
  refine wR 5 100 ?_
  cases hv2
  exact fS [] [6]
  ) ?_
 cases h
 exact e1 6 id

theorem ms_PosOk_ok (a0 : SPos) {r : Bool} (h : ms_PosOk a0 = some r) :
    AC0 58 [.agg [V.i a0.Level, V.b a0.Dollar, V.b a0.NoIn, V.b a0.NoGt, V.b a0.NoSign]] [] (V.b r) [] := by
 rw [ms_PosOk] at h
 refine AC.enter Tryz.func58 rfl (cV 100 (bB h fun y2 hv4 h => ?_))
 refine CO.cutR (tl 16 [(2, V.b y2)]) [] mix (by
  refine wR 2 101 (bB hv4 fun r3 hx5 hv4 => (W.call0 (ms_l1In_ok a0.Level 1 15 hx5) cok87 rfl (by kernel_rfl) (wR 1 101 ?_)))
  refine wJ 6 hv4 (fun hv4 => ?_) (fun hv4 => ?_)
  ·refine wR 4 101 ?_
   refine wJ 10 hv4 (fun hv4 => ?_) (fun hv4 => ?_)
   ·refine wR 6 101 ?_
    cases hv4
    exact fS [] [2]
   refine wR 6 101 ?_
   cases hv4
   exact fS [] [2]
  refine wR 10 101 ?_
  cases hv4
  exact fS [] [2]
  ) ?_
 cases h
 exact e1 2 id

theorem ms_l4Plain_ok (N : Nat) (a0 : LU) {r : Bool} (h : ms_l4Plain N a0 = some r) :
    AC0 139 [V.s a0] [] (V.b r) [] := by
 rw [ms_l4Plain] at h
 refine AC.enter Tryz.func139 rfl (cV 100 (CO.seq' (cV 100 (CO.block' (CO.loopJ (fun (⟨a0, y19⟩ : (LU × Int)) => ⟨tl 14 [(0, V.s a0), (3, V.i y19)], []⟩) (fun n i => ms_l4Plain_l1 N n i = some r) (n0 := N) (i0 := (a0, 0)) (wS [] [0, 3]) h (fun i h => by simp [ms_l4Plain_l1] at h) ?_)))))
 rintro n1 ⟨a0, y19⟩ h43 ih44
 rw [ms_l4Plain_l1] at h43
 refine CO.seq' (cV 160 ?_)
 refine cI h43 (fun _ h43 => ?_) (fun _ h43 => ?_)
 ·refine CO.skip (CO.seq' (CO.block' (bB h43 fun b28 hx51 h43 => (CO.sw mix (wR 2 160 (W.ixS Dk hx51 (by kernel_rfl) (wR 1 160 (wF ?_))))))))
  refine cI h43 (fun _ h43 => ?_) (fun _ h43 => ?_)
  ·refine cV 160 ?_
   cases h43
   exact e1 2 id
  refine CO.skip ?_
  exact cK 160 ih44 (a0, (IntKind.wrap .i64 (y19 + 1))) h43 [] [0, 3]
 refine CO.exit (cV 160 ?_)
 cases h43
 exact e1 2 id

theorem ms_l4Byte_ok (a0 : LU) (a1 : Int) {r : Int} (h : ms_l4Byte a0 a1 = some r) :
    AC0 55 [V.s a0, V.i a1] [] (V.i r) [] := by
 rw [ms_l4Byte] at h
 refine AC.enter Tryz.func55 rfl (cV 100 (CO.seq' (bB h fun y2 hv6 h => ?_)))
 refine CO.cutR (tl 17 [(0, V.s a0), (1, V.i a1), (12, V.b y2)]) [] mix (by
  refine wR 3 100 ?_
  refine wJ 7 hv6 (fun hv6 => ?_) (fun hv6 => ?_)
  ·refine wR 5 100 ?_
   cases hv6
   exact fS [] [0, 1, 12]
  refine wR 5 100 ?_
  cases hv6
  exact fS [] [0, 1, 12]
  ) ?_
 refine cI h (fun _ h => ?_) (fun _ h => ?_)
 ·refine cV 100 ?_
  cases h
  exact e1 4 id
 refine CO.skip (bB h fun b4 hx10 h => (CO.sw mix (wR 2 100 (W.ixS Dk hx10 (by kernel_rfl) (wR 2 100 (wF ?_))))))
 cases h
 exact e1 4 id

theorem ms_IsDigit_ok (a0 : Int) {r : Bool} (h : ms_IsDigit a0 = some r) :
    AC0 78 [V.i a0] [] (V.b r) [] := by
 rw [ms_IsDigit] at h
 refine AC.enter Tryz.func78 rfl (cV 100 (bB h fun r2 hx2 h => (cC 1 100 (ms_l1In_ok a0 48 57 hx2) cok87 ?_)))
 cases h
 exact e1 2 id

theorem ms_l4Digits_ok (N : Nat) (a0 : LU) (a1 : Int) {r : Int} (h : ms_l4Digits N a0 a1 = some r) :
    AC0 133 [V.s a0, V.i a1] [] (V.i r) [] := by
 rw [ms_l4Digits] at h
 refine AC.enter Tryz.func133 rfl (cV 100 (CO.seq' (CO.block' (CO.loopJ (fun (⟨a0, a1⟩ : (LU × Int)) => ⟨tl 12 [(0, V.s a0), (1, V.i a1)], []⟩) (fun n i => ms_l4Digits_l1 N n i = some r) (n0 := N) (i0 := (a0, a1)) (wS [] [0, 1]) h (fun i h => by simp [ms_l4Digits_l1] at h) ?_))))
 rintro n1 ⟨a0, a1⟩ h33 ih34
 rw [ms_l4Digits_l1] at h33
 refine CO.seq' (bB h33 fun r33 hx42 h33 => (bB h33 fun r34 hx43 h33 => (CO.sw mix (wR 2 140 (W.call0 (ms_l4Byte_ok a0 a1 hx42) cok55 rfl (by kernel_rfl) (W.call0 (ms_IsDigit_ok r33 hx43) cok78 rfl (by kernel_rfl) (wF ?_)))))))
 refine cI h33 (fun _ h33 => ?_) (fun _ h33 => ?_)
 ·refine CO.skip (CO.block' ?_)
  exact cK 140 ih34 (a0, (IntKind.wrap .i64 (a1 + 1))) h33 [] [0, 1]
 refine CO.exit (cV 140 ?_)
 cases h33
 exact e1 4 id

theorem ms_NumEnd_ok (N : Nat) (a0 : LU) (a1 : Int) {r : Int} (h : ms_NumEnd N a0 a1 = some r) :
    AC0 79 [V.s a0, V.i a1] [] (V.i r) [] := by
 rw [ms_NumEnd] at h
 refine AC.enter Tryz.func79 rfl (cV 100 (CO.seq' (cV 100 ?_)))
 refine cI h (fun _ h => ?_) (fun _ h => ?_)
 ·refine cV 100 ?_
  cases h
  exact e1 4 id
 refine CO.skip (bB h fun r2 hx4 h => (cC 2 100 (ms_l4Digits_ok N a0 a1 hx4) cok133 ?_))
 refine CO.join (fun (⟨a0, a1, y9⟩ : (LU × Int × Int)) => ⟨tl 67 [(0, V.s a0), (1, V.i a1), (5, V.i y9)], []⟩) (fun i => ms_NumEnd_k1 N i = some r) ?_ ?_
 · rintro ⟨a0, a1, y9⟩ h18
   rw [ms_NumEnd_k1] at h18
   refine CO.seq' (cV 100 ?_)
   refine cI h18 (fun _ h18 => ?_) (fun _ h18 => ?_)
   ·refine cV 100 ?_
    cases h18
    exact e1 4 id
   refine CO.skip ?_
   refine CO.join (fun (y9 : Int) => ⟨tl 67 [(5, V.i y9)], []⟩) (fun i => ms_NumEnd_k2 N i = some r) ?_ ?_
   · rintro y9 h52
     rw [ms_NumEnd_k2] at h52
     refine cV 100 ?_
     cases h52
     exact e1 4 id
   intro hk53
   refine bB h18 fun y32 hv57 h18 => ?_
   refine CO.cutR (tl 67 [(0, V.s a0), (5, V.i y9), (43, V.b y32)]) [] mix (by
    refine wR 2 100 (bB hv57 fun r33 hx58 hv57 => (W.call0 (ms_l4Byte_ok a0 y9 hx58) cok55 rfl (by kernel_rfl) (wR 2 100 ?_)))
    refine wJ 38 hv57 (fun hv57 => ?_) (fun hv57 => ?_)
    ·refine wR 5 100 ?_
     cases hv57
     exact fS [] [0, 5, 43]
    refine wR 2 100 (bB hv57 fun r34 hx60 hv57 => (W.call0 (ms_l4Byte_ok a0 y9 hx60) cok55 rfl (by kernel_rfl) (wR 2 100 ?_)))
    cases hv57
    exact fS [] [0, 5, 43]
    ) ?_
   refine cI h18 (fun _ h18 => ?_) (fun _ h18 => ?_)
   ·refine cV 100 ?_
    refine CO.join (fun (⟨a0, y9, y40⟩ : (LU × Int × Int)) => ⟨tl 67 [(0, V.s a0), (5, V.i y9), (7, V.i y40)], []⟩) (fun i => ms_NumEnd_k3 N i = some r) ?_ ?_
    · rintro ⟨a0, y9, y40⟩ h70
      rw [ms_NumEnd_k3] at h70
      refine bB h70 fun r42 hx72 h70 => (cC 2 100 (ms_l4Digits_ok N a0 y40 hx72) cok133 ?_)
      refine cI h70 (fun _ h70 => ?_) (fun _ h70 => ?_)
      ·refine bB h70 fun r44 hx75 h70 => (cC 2 100 (ms_l4Digits_ok N a0 y40 hx75) cok133 ?_)
       cases h70
       exact e1 4 id
      exact sK hk53 y9 h70 [] [5]
    intro hk76
    refine bB h18 fun y47 hv80 h18 => ?_
    refine CO.cutR (tl 67 [(0, V.s a0), (5, V.i y9), (7, V.i (IntKind.wrap .i64 (y9 + 1))), (55, V.b y47)]) [] mix (by
     refine wR 2 100 (bB hv80 fun r48 hx81 hv80 => (W.call0 (ms_l4Byte_ok a0 (IntKind.wrap .i64 (y9 + 1)) hx81) cok55 rfl (by kernel_rfl) (wR 2 100 ?_)))
     refine wJ 50 hv80 (fun hv80 => ?_) (fun hv80 => ?_)
     ·refine wR 5 100 ?_
      cases hv80
      exact fS [] [0, 5, 7, 55]
     refine wR 2 100 (bB hv80 fun r49 hx83 hv80 => (W.call0 (ms_l4Byte_ok a0 (IntKind.wrap .i64 (y9 + 1)) hx83) cok55 rfl (by kernel_rfl) (wR 2 100 ?_)))
     cases hv80
     exact fS [] [0, 5, 7, 55]
     ) ?_
    refine cI h18 (fun _ h18 => ?_) (fun _ h18 => ?_)
    ·exact cK 100 hk76 (a0, y9, (IntKind.wrap .i64 ((IntKind.wrap .i64 (y9 + 1)) + 1))) h18 [] [0, 5, 7]
    exact sK hk76 (a0, y9, (IntKind.wrap .i64 (y9 + 1))) h18 [] [0, 5, 7]
   exact sK hk53 y9 h18 [] [5]
 intro hk85
 refine bB h fun r51 hx87 h => (cC 2 100 (ms_l4Byte_ok a0 r2 hx87) cok55 ?_)
 refine cI h (fun _ h => ?_) (fun _ h => ?_)
 ·refine bB h fun r53 hx90 h => (cC 3 100 (ms_l4Digits_ok N a0 (IntKind.wrap .i64 (r2 + 1)) hx90) cok133 (CO.seq' (bB h fun y55 hv96 h => ?_)))
  refine CO.cutR (tl 67 [(0, V.s a0), (1, V.i a1), (6, V.i r53), (29, V.b y55)]) [] mix (by
   refine wR 4 100 ?_
   refine wJ 24 hv96 (fun hv96 => ?_) (fun hv96 => ?_)
   ·refine wR 5 100 ?_
    cases hv96
    exact fS [] [0, 1, 6, 29]
   refine wR 5 100 ?_
   cases hv96
   exact fS [] [0, 1, 6, 29]
   ) ?_
  refine cI h (fun _ h => ?_) (fun _ h => ?_)
  ·refine cV 100 ?_
   cases h
   exact e1 4 id
  refine CO.skip ?_
  exact cK 100 hk85 (a0, a1, r53) h [] [0, 1, 5]
 exact sK hk85 (a0, a1, r2) h [] [0, 1, 5]

theorem ms_l4Quoted_ok (N : Nat) (a0 : LU) (a1 : Int) (a2 : Int) {r : Int} (h : ms_l4Quoted N a0 a1 a2 = some r) :
    AC0 134 [V.s a0, V.i a1, V.i a2] [] (V.i r) [] := by
 rw [ms_l4Quoted] at h
 refine AC.enter Tryz.func134 rfl (cV 100 (CO.seq' (bB h fun r4 hx5 h => (cC 2 100 (ms_l4Byte_ok a0 a1 hx5) cok55 ?_))))
 refine cI h (fun _ h => ?_) (fun _ h => ?_)
 ·refine cV 100 ?_
  cases h
  exact e1 6 id
 refine CO.skip (CO.seq' (cV 100 (CO.block' (CO.loopJ (fun (⟨a0, a2, y43⟩ : (LU × Int × Int)) => ⟨tl 40 [(0, V.s a0), (2, V.i a2), (7, V.i y43)], []⟩) (fun n i => ms_l4Quoted_l1 N n i = some r) (n0 := N) (i0 := (a0, a2, (IntKind.wrap .i64 (a1 + 1)))) (wS [] [0, 2, 7]) h (fun i h => by simp [ms_l4Quoted_l1] at h) ?_))))
 rintro n1 ⟨a0, a2, y43⟩ h109 ih110
 rw [ms_l4Quoted_l1] at h109
 refine CO.seq' (cV 160 ?_)
 refine cI h109 (fun _ h109 => ?_) (fun _ h109 => ?_)
 ·refine CO.skip ?_
  refine CO.join (fun (⟨a0, a2, y58⟩ : (LU × Int × Int)) => ⟨tl 40 [(0, V.s a0), (2, V.i a2), (7, V.i y58)], []⟩) (fun i => ms_l4Quoted_k2 N (ms_l4Quoted_l1 N n1) i = some r) ?_ ?_
  · rintro ⟨a0, a2, y58⟩ h121
    rw [ms_l4Quoted_k2] at h121
    exact cK 160 ih110 (a0, a2, (IntKind.wrap .i64 (y58 + 1))) h121 [] [0, 2, 7]
  intro hk122
  refine CO.block' (bB h109 fun b60 hx124 h109 => (CO.sw mix (wR 2 160 (W.ixS Dk hx124 (by kernel_rfl) (wR 1 160 (wF (CO.block' (cV 160 ?_))))))))
  refine cI h109 (fun _ h109 => ?_) (fun _ h109 => ?_)
  ·refine cV 160 ?_
   cases h109
   exact e1 6 id
  refine cV 160 ?_
  refine cI h109 (fun _ h109 => ?_) (fun _ h109 => ?_)
  ·refine cV 160 ?_
   cases h109
   exact e1 6 id
  refine cV 160 ?_
  refine cI h109 (fun _ h109 => ?_) (fun _ h109 => ?_)
  ·refine cV 160 (bB h109 fun r62 hx129 h109 => (cC 2 160 (ms_l4Byte_ok a0 (IntKind.wrap .i64 (y43 + 1)) hx129) cok55 ?_))
   refine cI h109 (fun _ h109 => ?_) (fun _ h109 => ?_)
   ·refine cV 160 ?_
    cases h109
    exact e1 6 id
   exact sK hk122 (a0, a2, (IntKind.wrap .i64 (y43 + 1))) h109 [] [0, 2, 7]
  exact sK hk122 (a0, a2, y43) h109 [] [0, 2, 7]
 refine CO.exit (cV 160 ?_)
 cases h109
 exact e1 6 id

theorem ms_StrEnd_ok (N : Nat) (a0 : LU) (a1 : Int) {r : Int} (h : ms_StrEnd N a0 a1 = some r) :
    AC0 80 [V.s a0, V.i a1] [] (V.i r) [] := by
 rw [ms_StrEnd] at h
 refine AC.enter Tryz.func80 rfl (cV 100 (bB h fun r2 hx2 h => (cC 2 100 (ms_l4Quoted_ok N a0 a1 34 hx2) cok134 ?_)))
 cases h
 exact e1 4 id

theorem ms_EreEnd_ok (N : Nat) (a0 : LU) (a1 : Int) {r : Int} (h : ms_EreEnd N a0 a1 = some r) :
    AC0 81 [V.s a0, V.i a1] [] (V.i r) [] := by
 rw [ms_EreEnd] at h
 refine AC.enter Tryz.func81 rfl (cV 100 (bB h fun r2 hx2 h => (cC 2 100 (ms_l4Quoted_ok N a0 a1 47 hx2) cok134 (CO.seq' (cV 100 ?_)))))
 refine cI h (fun _ h => ?_) (fun _ h => ?_)
 ·refine cV 100 ?_
  cases h
  exact e1 4 id
 refine CO.skip (cV 100 ?_)
 cases h
 exact e1 4 id

theorem ms_IsLetter_ok (a0 : Int) {r : Bool} (h : ms_IsLetter a0 = some r) :
    AC0 82 [V.i a0] [] (V.b r) [] := by
 rw [ms_IsLetter] at h
 refine AC.enter Tryz.func82 rfl (cV 100 (bB h fun y3 hv5 h => ?_))
 refine CO.cutR (tl 13 [(2, V.b y3)]) [] mix (by
  refine wR 1 100 (bB hv5 fun r4 hx6 hv5 => (W.call0 (ms_l1In_ok a0 97 122 hx6) cok87 rfl (by kernel_rfl) (wR 1 100 ?_)))
  refine wJ 5 hv5 (fun hv5 => ?_) (fun hv5 => ?_)
  ·refine wR 8 100 ?_
   cases hv5
   exact fS [] [2]
  refine wR 1 100 (bB hv5 fun r5 hx8 hv5 => (W.call0 (ms_l1In_ok a0 65 90 hx8) cok87 rfl (by kernel_rfl) (wR 2 100 ?_)))
  refine wJ 9 hv5 (fun hv5 => ?_) (fun hv5 => ?_)
  ·refine wR 4 100 ?_
   cases hv5
   exact fS [] [2]
  refine wR 4 100 ?_
  cases hv5
  exact fS [] [2]
  ) ?_
 cases h
 exact e1 2 id

theorem ms_IsWordByte_ok (a0 : Int) {r : Bool} (h : ms_IsWordByte a0 = some r) :
    AC0 137 [V.i a0] [] (V.b r) [] := by
 rw [ms_IsWordByte] at h
 refine AC.enter Tryz.func137 rfl (cV 100 (bB h fun y3 hv4 h => ?_))
 refine CO.cutR (tl 9 [(2, V.b y3)]) [] mix (by
  refine wR 1 100 (bB hv4 fun r4 hx5 hv4 => (W.call0 (ms_IsLetter_ok a0 hx5) cok82 rfl (by kernel_rfl) (wR 1 100 ?_)))
  refine wJ 5 hv4 (fun hv4 => ?_) (fun hv4 => ?_)
  ·refine wR 4 100 ?_
   cases hv4
   exact fS [] [2]
  refine wR 1 100 (bB hv4 fun r5 hx7 hv4 => (W.call0 (ms_IsDigit_ok a0 hx7) cok78 rfl (by kernel_rfl) (wR 2 100 ?_)))
  cases hv4
  exact fS [] [2]
  ) ?_
 cases h
 exact e1 2 id

theorem ms_NameShape_ok (N : Nat) (a0 : LU) {r : Bool} (h : ms_NameShape N a0 = some r) :
    AC0 85 [V.s a0] [] (V.b r) [] := by
 rw [ms_NameShape] at h
 refine AC.enter Tryz.func85 rfl (cV 100 (CO.seq' (cV 100 (CO.block' (CO.loopJ (fun (⟨a0, y35⟩ : (LU × Int)) => ⟨tl 25 [(0, V.s a0), (3, V.i y35)], []⟩) (fun n i => ms_NameShape_l1 N n i = some r) (n0 := N) (i0 := (a0, 0)) (wS [] [0, 3]) h (fun i h => by simp [ms_NameShape_l1] at h) ?_)))))
 rintro n1 ⟨a0, y35⟩ h63 ih64
 rw [ms_NameShape_l1] at h63
 refine CO.seq' (cV 160 ?_)
 refine cI h63 (fun _ h63 => ?_) (fun _ h63 => ?_)
 ·refine CO.skip (CO.seq' (CO.block' (bB h63 fun b51 hx74 h63 => (bB h63 fun r52 hx75 h63 => (CO.sw mix (wR 2 160 (W.ixS Dk hx74 (by kernel_rfl) (wR 1 160 ?_))))))))
  refine W.call0 (ms_IsWordByte_ok (IntKind.wrap .i64 ((b51).toNat : Int)) hx75) cok137 rfl (by kernel_rfl) (wR 1 160 (wF ?_))
  refine cI h63 (fun _ h63 => ?_) (fun _ h63 => ?_)
  ·refine cV 160 ?_
   cases h63
   exact e1 2 id
  refine CO.skip ?_
  exact cK 160 ih64 (a0, (IntKind.wrap .i64 (y35 + 1))) h63 [] [0, 3]
 refine CO.exit (bB h63 fun y56 hv81 h63 => ?_)
 refine CO.cutR (tl 25 [(2, V.b y56)]) [] mix (by
  refine wR 2 160 (bB hv81 fun r57 hx82 hv81 => (W.call0 (ms_l1In_ok (a0.length : Int) 1 12 hx82) cok87 rfl (by kernel_rfl) (wR 1 160 ?_)))
  refine wJ 19 hv81 (fun hv81 => ?_) (fun hv81 => ?_)
  ·refine wR 1 160 (bB hv81 fun b58 hx84 hv81 => (W.ixS Dk hx84 (by kernel_rfl) (wR 1 160 (bB hv81 fun r59 hx85 hv81 => (W.call0 (ms_IsLetter_ok (IntKind.wrap .i64 ((b58).toNat : Int)) hx85) cok82 rfl (by kernel_rfl) (wR 2 160 ?_))))))
   cases hv81
   exact fS [] [2]
  refine wR 6 160 ?_
  cases hv81
  exact fS [] [2]
  ) ?_
 cases h63
 exact e1 2 id

theorem ms_l3Words_ok {r : LLU} (h : ms_l3Words = some r) :
    AC0 181 [] [] (.own 100) [(100, vN r)] := by
 rw [ms_l3Words] at h
 refine AC.enter Tryz.func181 rfl (cV 100 (cV 100 (CO.ret ?_)))
 cases h
 exact eG [(100, 100)] (.inr rfl) (RetV.one rfl (oT (t := 0) (r := .own 100)))

theorem ms_l3Find_ok (N : Nat) (a0 : LLU) (a1 : LU) {r : Int} (h : ms_l3Find N a0 a1 = some r) :
    AC0 180 [sL eNS a0, V.s a1] [] (V.i r) [] := by
 rw [ms_l3Find] at h
 refine AC.enter Tryz.func180 rfl (cV 100 (CO.seq' (cV 100 (CO.block' (CO.loopJ (fun (⟨a0, a1, y19⟩ : (LLU × LU × Int)) => ⟨tl 19 [(0, sL eNS a0), (1, V.s a1), (5, V.i y19)], []⟩) (fun n i => ms_l3Find_l1 N n i = some r) (n0 := N) (i0 := (a0, a1, 0)) (wS [] [0, 1, 5]) h (fun i h => by simp [ms_l3Find_l1] at h) ?_)))))
 rintro n1 ⟨a0, a1, y19⟩ h43 ih44
 rw [ms_l3Find_l1] at h43
 refine CO.seq' (CO.sw mix (wR 2 160 (W.len Dk eNS a0 [] (by kernel_rfl) (by kernel_rfl) (wR 1 160 (wF ?_)))))
 refine cI h43 (fun _ h43 => ?_) (fun _ h43 => ?_)
 ·refine CO.skip (CO.seq' (CO.block' (bB h43 fun e28 hx51 h43 => (CO.sw mix (wR 2 160 (W.ixD Dk eNS hx51 1 (by kernel_rfl) (by kernel_rfl) (wR 3 160 (wF ?_))))))))
  refine cI h43 (fun _ h43 => ?_) (fun _ h43 => ?_)
  ·refine cV 160 ?_
   cases h43
   exact e1 4 id
  refine CO.skip ?_
  exact cK 160 ih44 (a0, a1, (IntKind.wrap .i64 (y19 + 1))) h43 [] [0, 1, 5]
 refine CO.exit (cV 160 ?_)
 cases h43
 exact e1 4 id

theorem ms_KeywordOf_ok (N : Nat) (a0 : LU) {r : Int} (h : ms_KeywordOf N a0 = some r) :
    AC0 135 [V.s a0] [] (V.i r) [] := by
 rw [ms_KeywordOf] at h
 refine AC.enter Tryz.func135 rfl (cV 100 (bB h fun r3 hx3 h => (bB h fun r4 hx4 h => (CO.sw mix (W.call (ms_l3Words_ok  hx3) cok181 [] [(100, 100)] [100] lO (by kernel_rfl) (by kernel_rfl) (wR 1 101 (W.lend (ms_l3Find_ok N r3 a0 hx4) cok180 [] [] (LayOk.cons (j := 100) eNS eNS r3 (by kernel_rfl) (fun _ => rfl) lO) (.c _) .nil (by kernel_rfl) (by kernel_rfl) (wR 1 101 ?_))))))))
 refine wF (CO.seq' (cV 101 ?_))
 refine cI h (fun _ h => ?_) (fun _ h => ?_)
 ·refine cV 101 ?_
  cases h
  exact e1 2 id
 refine CO.skip (cV 101 ?_)
 cases h
 exact e1 2 id

theorem ms_l3Builtins_ok {r : LLU} (h : ms_l3Builtins = some r) :
    AC0 182 [] [] (.own 100) [(100, vN r)] := by
 rw [ms_l3Builtins] at h
 refine AC.enter Tryz.func182 rfl (cV 100 (cV 100 (CO.ret ?_)))
 cases h
 exact eG [(100, 100)] (.inr rfl) (RetV.one rfl (oT (t := 0) (r := .own 100)))

theorem ms_IsBuiltin_ok (N : Nat) (a0 : LU) {r : Bool} (h : ms_IsBuiltin N a0 = some r) :
    AC0 136 [V.s a0] [] (V.b r) [] := by
 rw [ms_IsBuiltin] at h
 refine AC.enter Tryz.func136 rfl (cV 100 (bB h fun r3 hx3 h => (bB h fun r4 hx4 h => (CO.sw mix (W.call (ms_l3Builtins_ok  hx3) cok182 [] [(100, 100)] [100] lO (by kernel_rfl) (by kernel_rfl) (wR 1 101 (W.lend (ms_l3Find_ok N r3 a0 hx4) cok180 [] [] (LayOk.cons (j := 100) eNS eNS r3 (by kernel_rfl) (fun _ => rfl) lO) (.c _) .nil (by kernel_rfl) (by kernel_rfl) (wR 2 101 ?_))))))))
 refine wF ?_
 cases h
 exact e1 2 id

theorem ms_NameOk_ok (N : Nat) (a0 : LU) {r : Bool} (h : ms_NameOk N a0 = some r) :
    AC0 140 [V.s a0] [] (V.b r) [] := by
 rw [ms_NameOk] at h
 refine AC.enter Tryz.func140 rfl (cV 100 (bB h fun y4 hv6 h => ?_))
 refine CO.cutR (tl 15 [(2, V.b y4)]) [] mix (by
  refine wR 1 100 (bB hv6 fun r5 hx7 hv6 => (W.call0 (ms_NameShape_ok N a0 hx7) cok85 rfl (by kernel_rfl) (wR 1 100 ?_)))
  refine wJ 5 hv6 (fun hv6 => ?_) (fun hv6 => ?_)
  ·refine wR 1 100 (bB hv6 fun r6 hx9 hv6 => (W.call0 (ms_KeywordOf_ok N a0 hx9) cok135 rfl (by kernel_rfl) (wR 3 100 ?_)))
   refine wJ 10 hv6 (fun hv6 => ?_) (fun hv6 => ?_)
   ·refine wR 1 100 (bB hv6 fun r7 hx11 hv6 => (W.call0 (ms_IsBuiltin_ok N a0 hx11) cok136 rfl (by kernel_rfl) (wR 3 100 ?_)))
    cases hv6
    exact fS [] [2]
   refine wR 5 100 ?_
   cases hv6
   exact fS [] [2]
  refine wR 10 100 ?_
  cases hv6
  exact fS [] [2]
  ) ?_
 cases h
 exact e1 2 id

theorem ms_l3Signs_ok {r : LLU} (h : ms_l3Signs = some r) :
    AC0 138 [] [] (.own 100) [(100, vN r)] := by
 rw [ms_l3Signs] at h
 refine AC.enter Tryz.func138 rfl (cV 100 (cV 100 (CO.ret ?_)))
 cases h
 exact eG [(100, 100)] (.inr rfl) (RetV.one rfl (oT (t := 0) (r := .own 100)))

theorem ms_SpellOf_ok (a0 : Int) {r : LU} (h : ms_SpellOf a0 = some r) :
    AC0 141 [V.i a0] [] (V.s r) [] := by
 rw [ms_SpellOf] at h
 refine AC.enter Tryz.func141 rfl (cV 100 (CO.seq' (CO.block' (cV 100 ?_))))
 refine cI h (fun _ h => ?_) (fun _ h => ?_)
 ·refine cV 100 ?_
  cases h
  exact e1 2 id
 refine bB h fun r14 hx18 h => (cC 1 100 (ms_l1In_ok a0 10 26 hx18) cok87 ?_)
 refine cI h (fun _ h => ?_) (fun _ h => ?_)
 ·refine bB h fun r17 hx22 h => (bB h fun e18 hx23 h => (CO.sw mix (W.call (ms_l3Words_ok  hx22) cok181 [] [(100, 100)] [100] lO (by kernel_rfl) (by kernel_rfl) (wR 2 101 (W.ixO Dk eNS hx23 100 1 (by kernel_rfl) (W.ldO Dk eNS hx23 9 100 0 (V.s e18) (by kernel_rfl) (by kernel_rfl) (wR 1 101 (wF ?_))))))))
  cases h
  exact e1 2 id
 refine bB h fun r20 hx25 h => (cC 1 100 (ms_l1In_ok a0 30 68 hx25) cok87 ?_)
 refine cI h (fun _ h => ?_) (fun _ h => ?_)
 ·refine bB h fun r23 hx29 h => (bB h fun e24 hx30 h => (CO.sw mix (W.call (ms_l3Signs_ok  hx29) cok138 [] [(100, 100)] [100] lO (by kernel_rfl) (by kernel_rfl) (wR 2 101 (W.ixO Dk eNS hx30 100 1 (by kernel_rfl) (W.ldO Dk eNS hx30 9 100 0 (V.s e24) (by kernel_rfl) (by kernel_rfl) (wR 1 101 (wF ?_))))))))
  cases h
  exact e1 2 id
 refine CO.skip (cV 100 ?_)
 cases h
 exact e1 2 id

theorem ms_TokenOk_ok (N : Nat) (a0 : SToken) {r : Bool} (h : ms_TokenOk N a0 = some r) :
    AC0 88 [.agg [V.i a0.Kind, V.s a0.Text, V.i a0.At]] [] (V.b r) [] := by
 rw [ms_TokenOk] at h
 refine AC.enter Tryz.func88 rfl (cV 100 (cV 101 (CO.seq' (cV 101 (CO.block' (cV 101 ?_))))))
 refine cI h (fun _ h => ?_) (fun _ h => ?_)
 ·refine bB h fun y20 hv38 h => ?_
  refine CO.cutR (tl 71 [(2, V.b y20)]) [] mix (by
   refine wR 3 101 ?_
   refine wJ 13 hv38 (fun hv38 => ?_) (fun hv38 => ?_)
   ·refine wR 2 101 (bB hv38 fun b21 hx40 hv38 => (W.ixS Dk hx40 (by kernel_rfl) (wR 3 101 ?_)))
    refine wJ 19 hv38 (fun hv38 => ?_) (fun hv38 => ?_)
    ·refine wR 2 101 (bB hv38 fun r22 hx42 hv38 => (W.call0 (ms_l4Plain_ok N a0.Text hx42) cok139 rfl (by kernel_rfl) (wR 2 101 ?_)))
     cases hv38
     exact fS [] [2]
    refine wR 5 101 ?_
    cases hv38
    exact fS [] [2]
   refine wR 11 101 ?_
   cases hv38
   exact fS [] [2]
   ) ?_
  cases h
  exact e1 2 id
 refine cV 101 ?_
 refine cI h (fun _ h => ?_) (fun _ h => ?_)
 ·refine bB h fun y24 hv46 h => ?_
  refine CO.cutR (tl 71 [(2, V.b y24)]) [] mix (by
   refine wR 3 101 ?_
   refine wJ 28 hv46 (fun hv46 => ?_) (fun hv46 => ?_)
   ·refine wR 2 101 (bB hv46 fun r25 hx48 hv46 => (W.call0 (ms_NumEnd_ok N a0.Text 0 hx48) cok79 rfl (by kernel_rfl) (wR 4 101 ?_)))
    cases hv46
    exact fS [] [2]
   refine wR 7 101 ?_
   cases hv46
   exact fS [] [2]
   ) ?_
  cases h
  exact e1 2 id
 refine cV 101 ?_
 refine cI h (fun _ h => ?_) (fun _ h => ?_)
 ·refine bB h fun r27 hx51 h => (cC 2 101 (ms_StrEnd_ok N a0.Text 0 hx51) cok80 ?_)
  cases h
  exact e1 2 id
 refine cV 101 ?_
 refine cI h (fun _ h => ?_) (fun _ h => ?_)
 ·refine bB h fun r29 hx54 h => (cC 2 101 (ms_EreEnd_ok N a0.Text 0 hx54) cok81 ?_)
  cases h
  exact e1 2 id
 refine CO.join (fun (⟨a0, y30⟩ : (SToken × Bool)) => ⟨tl 71 [(1, .loc 100 0), (8, V.i a0.Kind), (49, V.b y30)], [(100, .cells 55 [V.i a0.Kind, V.s a0.Text, V.i a0.At])]⟩) (fun i => ms_TokenOk_k1 N i = some r) ?_ ?_
 · rintro ⟨a0, y30⟩ h56
   rw [ms_TokenOk_k1] at h56
   refine cI h56 (fun _ h56 => ?_) (fun _ h56 => ?_)
   ·refine bB h56 fun r32 hx59 h56 => (cC 2 101 (ms_NameOk_ok N a0.Text hx59) cok140 ?_)
    cases h56
    exact e1 2 id
   refine cV 101 ?_
   refine cI h56 (fun _ h56 => ?_) (fun _ h56 => ?_)
   ·refine bB h56 fun r34 hx62 h56 => (cC 2 101 (ms_IsBuiltin_ok N a0.Text hx62) cok136 ?_)
    cases h56
    exact e1 2 id
   refine CO.skip (bB h56 fun y36 hv65 h56 => ?_)
   refine CO.cutR (tl 71 [(2, V.b y36)]) [] mix (by
    refine wR 4 101 ?_
    refine wJ 63 hv65 (fun hv65 => ?_) (fun hv65 => ?_)
    ·refine wR 2 101 (bB hv65 fun r37 hx67 hv65 => (W.call0 (ms_SpellOf_ok a0.Kind hx67) cok141 rfl (by kernel_rfl) (wR 5 101 ?_)))
     cases hv65
     exact fS [] [2]
    refine wR 8 101 ?_
    cases hv65
    exact fS [] [2]
    ) ?_
   cases h56
   exact e1 2 id
 intro hk68
 refine cV 101 ?_
 refine cI h (fun _ h => ?_) (fun _ h => ?_)
 ·exact sK hk68 (a0, (a0.Kind == 6)) h [(100, 100)] [1, 8, 49]
 exact cK 101 hk68 (a0, (a0.Kind == 7)) h [(100, 100)] [1, 8, 49]

theorem ms_EndsOperand_ok (a0 : Int) {r : Bool} (h : ms_EndsOperand a0 = some r) :
    AC0 57 [V.i a0] [] (V.b r) [] := by
 rw [ms_EndsOperand] at h
 refine AC.enter Tryz.func57 rfl (cV 100 (CO.seq' (cV 100 (CO.block' ?_))))
 refine CO.join (fun (y2 : Bool) => ⟨tl 14 [(4, V.b y2)], []⟩) (fun i => ms_EndsOperand_k1 i = some r) ?_ ?_
 · rintro y2 h28
   rw [ms_EndsOperand_k1] at h28
   refine cI h28 (fun _ h28 => ?_) (fun _ h28 => ?_)
   ·refine cV 100 ?_
    cases h28
    exact e1 2 id
   refine CO.skip (cV 100 ?_)
   cases h28
   exact e1 2 id
 intro hk30
 refine cV 100 ?_
 refine cI h (fun _ h => ?_) (fun _ h => ?_)
 ·exact sK hk30 (a0 == 3) h [] [4]
 refine cV 100 ?_
 refine cI h (fun _ h => ?_) (fun _ h => ?_)
 ·exact sK hk30 (a0 == 4) h [] [4]
 refine cV 100 ?_
 refine cI h (fun _ h => ?_) (fun _ h => ?_)
 ·exact sK hk30 (a0 == 5) h [] [4]
 refine cV 100 ?_
 refine cI h (fun _ h => ?_) (fun _ h => ?_)
 ·exact sK hk30 (a0 == 6) h [] [4]
 refine cV 100 ?_
 refine cI h (fun _ h => ?_) (fun _ h => ?_)
 ·exact sK hk30 (a0 == 8) h [] [4]
 refine cV 100 ?_
 refine cI h (fun _ h => ?_) (fun _ h => ?_)
 ·exact sK hk30 (a0 == 33) h [] [4]
 refine cV 100 ?_
 refine cI h (fun _ h => ?_) (fun _ h => ?_)
 ·exact sK hk30 (a0 == 35) h [] [4]
 refine cV 100 ?_
 refine cI h (fun _ h => ?_) (fun _ h => ?_)
 ·exact sK hk30 (a0 == 51) h [] [4]
 exact cK 100 hk30 (a0 == 52) h [] [4]

theorem ms_TokensOk_ok (N : Nat) (a0 : LT) {r : Bool} (h : ms_TokensOk N a0 = some r) :
    AC0 59 [sL eTk a0] [] (V.b r) [] := by
 rw [ms_TokensOk] at h
 refine AC.enter Tryz.func59 rfl (cV 100 (CO.seq' (CO.sw mix (wR 1 100 (W.len Dk eTk a0 [] (by kernel_rfl) (by kernel_rfl) (wR 1 100 (wF ?_)))))))
 refine cI h (fun _ h => ?_) (fun _ h => ?_)
 ·refine cV 100 ?_
  cases h
  exact e1 2 id
 refine CO.skip (cV 100 (CO.seq' (cV 100 (CO.block' (CO.loopJ (fun (⟨a0, y317, y318⟩ : (LT × Int × Int)) => ⟨tl 81 [(0, sL eTk a0), (3, V.i y317), (4, V.i y318)], []⟩) (fun n i => ms_TokensOk_l1 N n i = some r) (n0 := N) (i0 := (a0, 0, 0)) (wS [] [0, 3, 4]) h (fun i h => by simp [ms_TokensOk_l1] at h) ?_)))))
 rintro n1 ⟨a0, y317, y318⟩ h995 ih996
 rw [ms_TokensOk_l1] at h995
 refine CO.seq' (CO.sw mix (wR 2 160 (W.len Dk eTk a0 [] (by kernel_rfl) (by kernel_rfl) (wR 1 160 (wF ?_)))))
 refine cI h995 (fun _ h995 => ?_) (fun _ h995 => ?_)
 ·refine CO.skip (CO.seq' (CO.block' (cV 160 ?_)))
  refine CO.join (fun (⟨a0, y317, y318, y440⟩ : (LT × Int × Int × Int)) => ⟨tl 81 [(0, sL eTk a0), (3, V.i y317), (4, V.i y318), (5, V.i y440)], []⟩) (fun i => ms_TokensOk_k2 N (ms_TokensOk_l1 N n1) i = some r) ?_ ?_
  · rintro ⟨a0, y317, y318, y440⟩ h1100
    rw [ms_TokensOk_k2] at h1100
    refine bB h1100 fun e442 hx1102 h1100 => (CO.sw mix (wR 2 160 (W.ixD Dk eTk hx1102 3 (by kernel_rfl) (by kernel_rfl) (wR 3 160 (wF (CO.seq' (bB h1100 fun y450 hv1132 h1100 => ?_)))))))
    refine CO.cutR (tl 81 [(0, sL eTk a0), (3, V.i y317), (4, V.i y318), (6, V.i e442.Kind), (60, V.b y450)]) [] mix (by
     refine wR 2 160 (bB hv1132 fun e451 hx1133 hv1132 => (W.ixD Dk eTk hx1133 3 (by kernel_rfl) (by kernel_rfl) (wR 1 160 (bB hv1132 fun r452 hx1134 hv1132 => (W.call0 (ms_TokenOk_ok N e451 hx1134) cok88 rfl (by kernel_rfl) (wR 2 160 ?_))))))
     refine wJ 38 hv1132 (fun hv1132 => ?_) (fun hv1132 => ?_)
     ·refine wR 22 160 ?_
      cases hv1132
      exact fS [] [0, 3, 4, 6, 60]
     refine wR 3 160 ?_
     refine wJ 41 hv1132 (fun hv1132 => ?_) (fun hv1132 => ?_)
     ·refine wR 5 160 ?_
      refine wJ 46 hv1132 (fun hv1132 => ?_) (fun hv1132 => ?_)
      ·refine wR 14 160 ?_
       cases hv1132
       exact fS [] [0, 3, 4, 6, 60]
      refine wR 3 160 ?_
      refine wJ 49 hv1132 (fun hv1132 => ?_) (fun hv1132 => ?_)
      ·refine wR 4 160 ?_
       refine wJ 53 hv1132 (fun hv1132 => ?_) (fun hv1132 => ?_)
       ·refine wR 3 160 (W.len Dk eTk a0 [] (by kernel_rfl) (by kernel_rfl) (wR 3 160 ?_))
        cases hv1132
        exact fS [] [0, 3, 4, 6, 60]
       refine wR 7 160 ?_
       cases hv1132
       exact fS [] [0, 3, 4, 6, 60]
      refine wR 11 160 ?_
      cases hv1132
      exact fS [] [0, 3, 4, 6, 60]
     refine wR 8 160 ?_
     refine wJ 49 hv1132 (fun hv1132 => ?_) (fun hv1132 => ?_)
     ·refine wR 4 160 ?_
      refine wJ 53 hv1132 (fun hv1132 => ?_) (fun hv1132 => ?_)
      ·refine wR 3 160 (W.len Dk eTk a0 [] (by kernel_rfl) (by kernel_rfl) (wR 3 160 ?_))
       cases hv1132
       exact fS [] [0, 3, 4, 6, 60]
      refine wR 7 160 ?_
      cases hv1132
      exact fS [] [0, 3, 4, 6, 60]
     refine wR 11 160 ?_
     cases hv1132
     exact fS [] [0, 3, 4, 6, 60]
     ) ?_
    refine cI h1100 (fun _ h1100 => ?_) (fun _ h1100 => ?_)
    ·refine cV 160 ?_
     cases h1100
     exact e1 2 id
    refine CO.skip (CO.seq' (bB h1100 fun y469 hv1178 h1100 => ?_))
    refine CO.cutR (tl 81 [(0, sL eTk a0), (4, V.i y318), (6, V.i e442.Kind), (79, V.b y469)]) [] mix (by
     refine wR 3 160 ?_
     refine wJ 63 hv1178 (fun hv1178 => ?_) (fun hv1178 => ?_)
     ·refine wR 1 160 (bB hv1178 fun r470 hx1180 hv1178 => (W.call0 (ms_EndsOperand_ok y317 hx1180) cok57 rfl (by kernel_rfl) (wR 2 160 ?_)))
      refine wJ 67 hv1178 (fun hv1178 => ?_) (fun hv1178 => ?_)
      ·refine wR 12 160 ?_
       cases hv1178
       exact fS [] [0, 4, 6, 79]
      refine wR 3 160 ?_
      refine wJ 70 hv1178 (fun hv1178 => ?_) (fun hv1178 => ?_)
      ·refine wR 5 160 (bB hv1178 fun r471 hx1183 hv1178 => (W.call0 (ms_EndsOperand_ok y317 hx1183) cok57 rfl (by kernel_rfl) (wR 3 160 ?_)))
       cases hv1178
       exact fS [] [0, 4, 6, 79]
      refine wR 4 160 ?_
      refine wJ 74 hv1178 (fun hv1178 => ?_) (fun hv1178 => ?_)
      ·refine wR 1 160 (bB hv1178 fun r472 hx1185 hv1178 => (W.call0 (ms_EndsOperand_ok y317 hx1185) cok57 rfl (by kernel_rfl) (wR 3 160 ?_)))
       cases hv1178
       exact fS [] [0, 4, 6, 79]
      refine wR 5 160 ?_
      cases hv1178
      exact fS [] [0, 4, 6, 79]
     refine wR 7 160 ?_
     refine wJ 70 hv1178 (fun hv1178 => ?_) (fun hv1178 => ?_)
     ·refine wR 5 160 (bB hv1178 fun r473 hx1187 hv1178 => (W.call0 (ms_EndsOperand_ok y317 hx1187) cok57 rfl (by kernel_rfl) (wR 3 160 ?_)))
      cases hv1178
      exact fS [] [0, 4, 6, 79]
     refine wR 4 160 ?_
     refine wJ 74 hv1178 (fun hv1178 => ?_) (fun hv1178 => ?_)
     ·refine wR 1 160 (bB hv1178 fun r474 hx1189 hv1178 => (W.call0 (ms_EndsOperand_ok y317 hx1189) cok57 rfl (by kernel_rfl) (wR 3 160 ?_)))
      cases hv1178
      exact fS [] [0, 4, 6, 79]
     refine wR 5 160 ?_
     cases hv1178
     exact fS [] [0, 4, 6, 79]
     ) ?_
    refine cI h1100 (fun _ h1100 => ?_) (fun _ h1100 => ?_)
    ·refine cV 160 ?_
     cases h1100
     exact e1 2 id
    refine CO.skip ?_
    refine cE 2 160 (tl 81 [(0, sL eTk a0), (3, V.i e442.Kind), (4, V.i y318)]) [] (fun st hw => ?_)
    refine CO.weak hw ?_
    exact cK 160 ih996 (a0, e442.Kind, (IntKind.wrap .i64 (y318 + 1))) h1100 [] [0, 3, 4]
  intro hk1191
  refine CO.sw mix (wR 3 160 (W.len Dk eTk a0 [] (by kernel_rfl) (by kernel_rfl) (wR 1 160 (wF ?_))))
  refine cI h995 (fun _ h995 => ?_) (fun _ h995 => ?_)
  ·refine bB h995 fun e476 hx1194 h995 => (CO.w mix (wR 3 160 (W.ixD Dk eTk hx1194 3 (by kernel_rfl) (by kernel_rfl) (wR 3 160 ?_))))
   exact wK hk1191 (a0, y317, y318, e476.Kind) h995 [] [0, 3, 4, 5]
  exact sK hk1191 (a0, y317, y318, 0) h995 [] [0, 3, 4, 5]
 refine CO.exit (cV 160 ?_)
 cases h995
 exact e1 2 id

theorem ms_l10Close_ok (a0 : Int) {r : Bool} (h : ms_l10Close a0 = some r) :
    AC0 89 [V.i a0] [] (V.b r) [] := by
 rw [ms_l10Close] at h
 refine AC.enter Tryz.func89 rfl (cV 100 (bB h fun y1 hv3 h => ?_))
 refine CO.cutR (tl 13 [(2, V.b y1)]) [] mix (by
  refine wR 3 100 ?_
  refine wJ 5 hv3 (fun hv3 => ?_) (fun hv3 => ?_)
  ·refine wR 8 100 ?_
   cases hv3
   exact fS [] [2]
  refine wR 4 100 ?_
  refine wJ 9 hv3 (fun hv3 => ?_) (fun hv3 => ?_)
  ·refine wR 4 100 ?_
   cases hv3
   exact fS [] [2]
  refine wR 4 100 ?_
  cases hv3
  exact fS [] [2]
  ) ?_
 cases h
 exact e1 2 id

theorem ms_l10Open_ok (a0 : Int) {r : Bool} (h : ms_l10Open a0 = some r) :
    AC0 90 [V.i a0] [] (V.b r) [] := by
 rw [ms_l10Open] at h
 refine AC.enter Tryz.func90 rfl (cV 100 (bB h fun y1 hv3 h => ?_))
 refine CO.cutR (tl 13 [(2, V.b y1)]) [] mix (by
  refine wR 3 100 ?_
  refine wJ 5 hv3 (fun hv3 => ?_) (fun hv3 => ?_)
  ·refine wR 8 100 ?_
   cases hv3
   exact fS [] [2]
  refine wR 4 100 ?_
  refine wJ 9 hv3 (fun hv3 => ?_) (fun hv3 => ?_)
  ·refine wR 4 100 ?_
   cases hv3
   exact fS [] [2]
  refine wR 4 100 ?_
  cases hv3
  exact fS [] [2]
  ) ?_
 cases h
 exact e1 2 id

theorem ms_NestOf_ok (N : Nat) (a0 : LT) {r : Int} (h : ms_NestOf N a0 = some r) :
    AC0 60 [sL eTk a0] [] (V.i r) [] := by
 rw [ms_NestOf] at h
 refine AC.enter Tryz.func60 rfl (cV 100 (cV 100 (CO.seq' (cV 100 (CO.block' (CO.loopJ (fun (⟨a0, y149, y150⟩ : (LT × Int × Int)) => ⟨tl 31 [(0, sL eTk a0), (3, V.i y149), (4, V.i y150)], []⟩) (fun n i => ms_NestOf_l1 N n i = some r) (n0 := N) (i0 := (a0, 0, 0)) (wS [] [0, 3, 4]) h (fun i h => by simp [ms_NestOf_l1] at h) ?_))))))
 rintro n1 ⟨a0, y149, y150⟩ h263 ih264
 rw [ms_NestOf_l1] at h263
 refine CO.seq' (CO.sw mix (wR 2 160 (W.len Dk eTk a0 [] (by kernel_rfl) (by kernel_rfl) (wR 1 160 (wF ?_)))))
 refine cI h263 (fun _ h263 => ?_) (fun _ h263 => ?_)
 ·refine CO.skip (CO.seq' (CO.block' ?_))
  refine CO.join (fun (⟨a0, y150, y211⟩ : (LT × Int × Int)) => ⟨tl 31 [(0, sL eTk a0), (3, V.i y211), (4, V.i y150)], []⟩) (fun i => ms_NestOf_k2 N (ms_NestOf_l1 N n1) i = some r) ?_ ?_
  · rintro ⟨a0, y150, y211⟩ h297
    rw [ms_NestOf_k2] at h297
    refine CO.join (fun (⟨a0, y150, y216⟩ : (LT × Int × Int)) => ⟨tl 31 [(0, sL eTk a0), (3, V.i y216), (4, V.i y150)], []⟩) (fun i => ms_NestOf_k3 N (ms_NestOf_l1 N n1) i = some r) ?_ ?_
    · rintro ⟨a0, y150, y216⟩ h303
      rw [ms_NestOf_k3] at h303
      refine cV 160 ?_
      refine cI h303 (fun _ h303 => ?_) (fun _ h303 => ?_)
      ·refine cV 160 ?_
       cases h303
       exact e1 2 id
      refine CO.skip ?_
      exact cK 160 ih264 (a0, y216, (IntKind.wrap .i64 (y150 + 1))) h303 [] [0, 3, 4]
    intro hk305
    refine bB h297 fun e219 hx308 h297 => (bB h297 fun r220 hx309 h297 => (CO.sw mix (wR 2 160 (W.ixD Dk eTk hx308 3 (by kernel_rfl) (by kernel_rfl) (wR 2 160 (W.call0 (ms_l10Open_ok e219.Kind hx309) cok90 rfl (by kernel_rfl) (wF ?_)))))))
    refine cI h297 (fun _ h297 => ?_) (fun _ h297 => ?_)
    ·exact cK 160 hk305 (a0, y150, (IntKind.wrap .i64 (y211 + 1))) h297 [] [0, 3, 4]
    exact sK hk305 (a0, y150, y211) h297 [] [0, 3, 4]
  intro hk311
  refine bB h263 fun e223 hx314 h263 => (bB h263 fun r224 hx315 h263 => (CO.sw mix (wR 2 160 (W.ixD Dk eTk hx314 3 (by kernel_rfl) (by kernel_rfl) (wR 2 160 (W.call0 (ms_l10Close_ok e223.Kind hx315) cok89 rfl (by kernel_rfl) (wF ?_)))))))
  refine cI h263 (fun _ h263 => ?_) (fun _ h263 => ?_)
  ·exact cK 160 hk311 (a0, y150, (if (IntKind.wrap .i64 (y149 - 1)) > 0 then (IntKind.wrap .i64 (y149 - 1)) else 0)) h263 [] [0, 3, 4]
  exact sK hk311 (a0, y150, y149) h263 [] [0, 3, 4]
 refine CO.exit (cV 160 ?_)
 cases h263
 exact e1 2 id

theorem ms_l11Fault_ok (a0 : LT) (a1 : Int) (a2 : Int) {r : SFault} (h : ms_l11Fault a0 a1 a2 = some r) :
    AC0 42 [sL eTk a0, V.i a1, V.i a2] [] (.agg [V.i r.Kind, V.i r.At]) [] := by
 rw [ms_l11Fault] at h
 refine AC.enter Tryz.func42 rfl (cV 100 (CO.seq' (CO.sw mix (wR 2 101 (W.len Dk eTk a0 [] (by kernel_rfl) (by kernel_rfl) (wR 1 101 (wF ?_)))))))
 refine cI h (fun _ h => ?_) (fun _ h => ?_)
 ·refine bB h fun e4 hx6 h => (CO.sw mix (wR 3 101 (W.ixD Dk eTk hx6 3 (by kernel_rfl) (by kernel_rfl) (wR 4 101 (wF (CO.ret ?_))))))
  have h := sI h
  subst h
  exact eG [] (.inr rfl) (RetV.one rfl (OneR.cell Dk (r := .agg [V.i a2, V.i e4.At]) (i := 100) (ety := 40) (cs := [V.i a2, V.i e4.At]) (by kernel_rfl) (by kernel_rfl) (by kernel_rfl)))
 refine CO.skip (CO.seq' (CO.sw mix (wR 1 101 (W.len Dk eTk a0 [] (by kernel_rfl) (by kernel_rfl) (wR 1 101 (wF ?_))))))
 refine cI h (fun _ h => ?_) (fun _ h => ?_)
 ·refine cV 101 (CO.ret ?_)
  have h := sI h
  subst h
  exact eG [] (.inr rfl) (RetV.one rfl (OneR.cell Dk (r := .agg [V.i a2, V.i 0]) (i := 100) (ety := 40) (cs := [V.i a2, V.i 0]) (by kernel_rfl) (by kernel_rfl) (by kernel_rfl)))
 refine CO.skip (bB h fun e6 hx10 h => (CO.sw mix (wR 2 101 (W.len Dk eTk a0 [] (by kernel_rfl) (by kernel_rfl) (wR 1 101 (W.ixD Dk eTk hx10 3 (by kernel_rfl) (by kernel_rfl) (wR 3 101 (wF ?_))))))))
 refine cV 102 (CO.ret ?_)
 have h := sI h
 subst h
 exact eG [] (.inr rfl) (RetV.one rfl (OneR.cell Dk (r := .agg [V.i a2, V.i (IntKind.wrap .i64 (e6.At + (e6.Text.length : Int)))]) (i := 100) (ety := 40) (cs := [V.i a2, V.i (IntKind.wrap .i64 (e6.At + (e6.Text.length : Int)))]) (by kernel_rfl) (by kernel_rfl) (by kernel_rfl)))

theorem ms_BeginsOperand_ok (a0 : Int) {r : Bool} (h : ms_BeginsOperand a0 = some r) :
    AC0 61 [V.i a0] [] (V.b r) [] := by
 rw [ms_BeginsOperand] at h
 refine AC.enter Tryz.func61 rfl (cV 100 (CO.seq' (cV 100 (CO.block' ?_))))
 refine CO.join (fun (y2 : Bool) => ⟨tl 12 [(4, V.b y2)], []⟩) (fun i => ms_BeginsOperand_k1 i = some r) ?_ ?_
 · rintro y2 h22
   rw [ms_BeginsOperand_k1] at h22
   refine cI h22 (fun _ h22 => ?_) (fun _ h22 => ?_)
   ·refine cV 100 ?_
    cases h22
    exact e1 2 id
   refine CO.skip (cV 100 ?_)
   cases h22
   exact e1 2 id
 intro hk24
 refine cV 100 ?_
 refine cI h (fun _ h => ?_) (fun _ h => ?_)
 ·exact sK hk24 (a0 == 3) h [] [4]
 refine cV 100 ?_
 refine cI h (fun _ h => ?_) (fun _ h => ?_)
 ·exact sK hk24 (a0 == 4) h [] [4]
 refine cV 100 ?_
 refine cI h (fun _ h => ?_) (fun _ h => ?_)
 ·exact sK hk24 (a0 == 6) h [] [4]
 refine cV 100 ?_
 refine cI h (fun _ h => ?_) (fun _ h => ?_)
 ·exact sK hk24 (a0 == 7) h [] [4]
 refine cV 100 ?_
 refine cI h (fun _ h => ?_) (fun _ h => ?_)
 ·exact sK hk24 (a0 == 8) h [] [4]
 refine cV 100 ?_
 refine cI h (fun _ h => ?_) (fun _ h => ?_)
 ·exact sK hk24 (a0 == 32) h [] [4]
 exact cK 100 hk24 (a0 == 68) h [] [4]

theorem ms_l11Kind_ok (pa : LT) (pb : Int) (pc : Bool) (p1 : LT) {r : Int} (h : ms_l11Kind pa pb pc p1 = some r) :
    AC0 63 [.loc 0 0] [(0, cP 87 pa pb pc 1), (1, vX 55 3 eTk p1)] (V.i r) [(0, cP 87 pa pb pc 1), (1, vX 55 3 eTk p1)] := by
 rw [ms_l11Kind] at h
 refine AC.enter Tryz.func63 rfl (cV 100 (CO.seq' (CO.sw mix (wR 8 100 (W.len Dk eTk pa [] (by kernel_rfl) (by kernel_rfl) (wR 1 100 (wF ?_)))))))
 refine cI h (fun _ h => ?_) (fun _ h => ?_)
 ·refine cV 100 (CO.ret ?_)
  cases h
  exact eG [(0, 0), (1, 1)] (.inr rfl) (RetV.one rfl (oT (t := 2) (r := V.i 0)))
 refine CO.skip (bB h fun e2 hx4 h => (CO.sw mix (wR 8 100 (W.ixD Dk eTk hx4 3 (by kernel_rfl) (by kernel_rfl) (wR 3 100 (wF (CO.ret ?_)))))))
 have h := sI h
 subst h
 exact eG [(0, 0), (1, 1)] (.inr rfl) (RetV.one rfl (oT (t := 2) (r := V.i e2.Kind)))

theorem ms_l11Signs_ok (a0 : Int) {r : Bool} (h : ms_l11Signs a0 = some r) :
    AC0 62 [V.i a0] [] (V.b r) [] := by
 rw [ms_l11Signs] at h
 refine AC.enter Tryz.func62 rfl (cV 100 (bB h fun y1 hv2 h => ?_))
 refine CO.cutR (tl 9 [(2, V.b y1)]) [] mix (by
  refine wR 3 100 ?_
  refine wJ 5 hv2 (fun hv2 => ?_) (fun hv2 => ?_)
  ·refine wR 4 100 ?_
   cases hv2
   exact fS [] [2]
  refine wR 4 100 ?_
  cases hv2
  exact fS [] [2]
  ) ?_
 cases h
 exact e1 2 id

theorem ms_l11Take_ok (a1 : Int) (pa : LT) (pb : Int) (pc : Bool) (p1 : LT) {r : (SToken × Int × Bool)} (h : ms_l11Take a1 pa pb pc p1 = some r) :
    AC0 91 [.loc 0 0, V.i a1] [(0, cP 87 pa pb pc 1), (1, vX 55 3 eTk p1)] (.agg [V.i r.1.Kind, V.s r.1.Text, V.i r.1.At]) [(0, cP 87 pa r.2.1 r.2.2 1), (1, vX 55 3 eTk p1)] := by
 rw [ms_l11Take] at h
 refine AC.enter Tryz.func91 rfl (cV 100 (CO.seq' (bB h fun y5 hv9 h => ?_)))
 refine CO.cutR (tl 39 [(0, .loc 0 0), (4, .loc 100 0), (15, V.b y5)]) [(0, cP 87 pa pb pc 1), (100, .cells 55 [V.i 0, V.s [], V.i 0]), (1, vX 55 3 eTk p1)] mix (by
  refine wR 5 101 ?_
  refine wJ 10 hv9 (fun hv9 => ?_) (fun hv9 => ?_)
  ·refine wR 5 101 ?_
   cases hv9
   exact fS [(0, 0), (100, 100), (1, 1)] [0, 4, 15]
  refine wR 1 101 (bB hv9 fun r6 hx11 hv9 => (W.call (ms_l11Kind_ok pa pb pc p1 hx11) cok63 [(0, 0), (1, 1)] [(0, 0), (1, 1)] [] lO (by kernel_rfl) (by kernel_rfl) (wR 3 101 ?_)))
  cases hv9
  exact fS [(0, 0), (100, 100), (1, 1)] [0, 4, 15]
  ) ?_
 refine cI h (fun _ h => ?_) (fun _ h => ?_)
 ·refine cV 101 (cV 101 (CO.ret ?_))
  cases h
  exact eG [(0, 0), (1, 1)] (.inr rfl) (RetV.one rfl (OneR.cell Dk (r := .agg [V.i 0, V.s [], V.i 0]) (i := 100) (ety := 55) (cs := [V.i 0, V.s [], V.i 0]) (by kernel_rfl) (by kernel_rfl) (by kernel_rfl)))
 refine CO.skip (bB h fun e8 hx14 h => (CO.sw mix (wR 8 101 (W.ixD Dk eTk hx14 3 (by kernel_rfl) (by kernel_rfl) (wR 3 101 (wF (cV 102 (cV 102 ?_))))))))
 refine CO.ret ?_
 have h := sI h
 subst h
 exact eG [(0, 0), (1, 1)] (.inr rfl) (RetV.one rfl (OneR.cell Dk (r := .agg [V.i e8.Kind, V.s e8.Text, V.i e8.At]) (i := 100) (ety := 55) (cs := [V.i e8.Kind, V.s e8.Text, V.i e8.At]) (by kernel_rfl) (by kernel_rfl) (by kernel_rfl)))

theorem ms_l11Part_ok (a0 : SPos) (a1 : Int) {r : SPos} (h : ms_l11Part a0 a1 = some r) :
    AC0 92 [.agg [V.i a0.Level, V.b a0.Dollar, V.b a0.NoIn, V.b a0.NoGt, V.b a0.NoSign], V.i a1] [] (.agg [V.i r.Level, V.b r.Dollar, V.b r.NoIn, V.b r.NoGt, V.b r.NoSign]) [] := by
 rw [ms_l11Part] at h
 refine AC.enter Tryz.func92 rfl (cV 100 (cV 102 (CO.ret ?_)))
 have h := sI h
 subst h
 exact eG [] (.inr rfl) (RetV.one rfl (OneR.cell Dk (r := .agg [V.i a1, V.b false, V.b a0.NoIn, V.b a0.NoGt, V.b false]) (i := 101) (ety := 30) (cs := [V.i a1, V.b false, V.b a0.NoIn, V.b a0.NoGt, V.b false]) (by kernel_rfl) (by kernel_rfl) (by kernel_rfl)))

theorem ms_l11Root_ok (a0 : SL11X) {r : SNode} (h : ms_l11Root a0 = some r) :
    AC0 185 [.agg [.sl false false (a0.l.map (eSN false)), V.b a0.held]] [] (.agg [V.i r.Kind, V.i r.Op, V.s r.Text, V.s r.Other, sL eNI r.Kids]) [] := by
 rw [ms_l11Root] at h
 refine AC.enter Tryz.func185 rfl (cV 100 (CO.seq' (CO.sw mix (wR 2 102 (W.len Dk (eSN false) a0.l [] (by kernel_rfl) (by kernel_rfl) (wR 1 102 (wF ?_)))))))
 refine cI h (fun _ h => ?_) (fun _ h => ?_)
 ·refine cU 2 102 (tl 16 [(2, .loc 101 0)]) [(101, .cells 73 [V.i 0, V.i 0, V.s [], V.s [], .c (.slice none 0 0)])] (CO.lay (tl 16 [(2, .loc 101 0)]) [(101, .cells 73 [V.i 0, V.i 0, V.s [], V.s [], sL eNI []])] lO (by kernel_rfl) (by kernel_rfl) (by kernel_rfl) (CO.ret ?_))
  cases h
  exact eG [] (.inr rfl) (RetV.one rfl (OneR.cell Dk (r := .agg [V.i 0, V.i 0, V.s [], V.s [], sL eNI []]) (i := 101) (ety := 73) (cs := [V.i 0, V.i 0, V.s [], V.s [], sL eNI []]) (by kernel_rfl) (by kernel_rfl) (by kernel_rfl)))
 refine CO.skip (bB h fun e2 hx4 h => (CO.sw mix (wR 4 102 (W.len Dk (eSN false) a0.l [] (by kernel_rfl) (by kernel_rfl) (wR 1 102 (W.ixD Dk (eSN false) hx4 5 (by kernel_rfl) (by kernel_rfl) (wR 2 102 (wF ?_))))))))
 refine CO.ret ?_
 have h := sI h
 subst h
 exact eG [] (.inr rfl) (RetV.one rfl (OneR.cell Dk (r := .agg [V.i e2.Kind, V.i e2.Op, V.s e2.Text, V.s e2.Other, sL eNI e2.Kids]) (i := 101) (ety := 73) (cs := [V.i e2.Kind, V.i e2.Op, V.s e2.Text, V.s e2.Other, sL eNI e2.Kids]) (by kernel_rfl) (by kernel_rfl) (by kernel_rfl)))

theorem ms_IsLvalue_ok (a0 : Int) {r : Bool} (h : ms_IsLvalue a0 = some r) :
    AC0 184 [V.i a0] [] (V.b r) [] := by
 rw [ms_IsLvalue] at h
 refine AC.enter Tryz.func184 rfl (cV 100 (bB h fun y1 hv3 h => ?_))
 refine CO.cutR (tl 13 [(2, V.b y1)]) [] mix (by
  refine wR 3 100 ?_
  refine wJ 5 hv3 (fun hv3 => ?_) (fun hv3 => ?_)
  ·refine wR 8 100 ?_
   cases hv3
   exact fS [] [2]
  refine wR 4 100 ?_
  refine wJ 9 hv3 (fun hv3 => ?_) (fun hv3 => ?_)
  ·refine wR 4 100 ?_
   cases hv3
   exact fS [] [2]
  refine wR 4 100 ?_
  cases hv3
  exact fS [] [2]
  ) ?_
 cases h
 exact e1 2 id

theorem ms_l11Put_ok (a0 : SL11X) {r : Bool} (h : ms_l11Put a0 = some r) :
    AC0 143 [.agg [.sl false false (a0.l.map (eSN false)), V.b a0.held]] [] (V.b r) [] := by
 rw [ms_l11Put] at h
 refine AC.enter Tryz.func143 rfl (cV 100 (bB h fun y3 hv4 h => ?_))
 refine CO.cutR (tl 12 [(2, V.b y3)]) [] mix (by
  refine wR 4 101 ?_
  refine wJ 6 hv4 (fun hv4 => ?_) (fun hv4 => ?_)
  ·refine wR 1 101 (bB hv4 fun r4 hx6 hv4 => (W.call0 (ms_l11Root_ok a0 hx6) cok185 rfl (by kernel_rfl) (wR 1 101 (bB hv4 fun r5 hx7 hv4 => (W.call0 (ms_IsLvalue_ok r4.Kind hx7) cok184 rfl (by kernel_rfl) (wR 2 101 ?_))))))
   cases hv4
   exact fS [] [2]
  refine wR 6 101 ?_
  cases hv4
  exact fS [] [2]
  ) ?_
 cases h
 exact e1 2 id

theorem ms_l7IsAssign_ok (a0 : Int) {r : Bool} (h : ms_l7IsAssign a0 = some r) :
    AC0 144 [V.i a0] [] (V.b r) [] := by
 rw [ms_l7IsAssign] at h
 refine AC.enter Tryz.func144 rfl (cV 100 (bB h fun y2 hv3 h => ?_))
 refine CO.cutR (tl 9 [(2, V.b y2)]) [] mix (by
  refine wR 3 100 ?_
  refine wJ 5 hv3 (fun hv3 => ?_) (fun hv3 => ?_)
  ·refine wR 4 100 ?_
   cases hv3
   exact fS [] [2]
  refine wR 1 100 (bB hv3 fun r3 hx5 hv3 => (W.call0 (ms_l1In_ok a0 38 43 hx5) cok87 rfl (by kernel_rfl) (wR 2 100 ?_)))
  cases hv3
  exact fS [] [2]
  ) ?_
 cases h
 exact e1 2 id

theorem ms_l6Shift_ok (N : Nat) (a0 : LN) (a1 : Int) {r : LN} (h : ms_l6Shift N a0 a1 = some r) :
    AC0 183 [.sl false false (a0.map (eSN false)), V.i a1] [] (.own 100) [(100, .vec false 73 5 (r.map (eSN true)))] := by
 rw [ms_l6Shift] at h
 refine AC.enter Tryz.func183 rfl (cV 100 (cV 100 (CO.seq' (cV 101 (CO.block' (CO.loopJ (fun (⟨a0, a1, y869, y870⟩ : (LN × Int × Int × LN)) => ⟨tl 52 [(0, .sl false false (a0.map (eSN false))), (1, V.i a1), (5, .own 100), (6, V.i y869)], [(100, .vec false 73 5 (y870.map (eSN true)))]⟩) (fun n i => ms_l6Shift_l1 N n i = some r) (n0 := N) (i0 := (a0, a1, 0, [])) (wS [(100, 100)] [0, 1, 5, 6]) h (fun i h => by simp [ms_l6Shift_l1] at h) ?_))))))
 rintro n1 ⟨a0, a1, y869, y870⟩ h1173 ih1174
 rw [ms_l6Shift_l1] at h1173
 refine CO.seq' (CO.sw mix (wR 2 297 (W.len Dk (eSN false) a0 [] (by kernel_rfl) (by kernel_rfl) (wR 1 297 (wF ?_)))))
 refine cI h1173 (fun _ h1173 => ?_) (fun _ h1173 => ?_)
 ·refine CO.skip (CO.seq' (CO.block' (bB h1173 fun e1198 hx1294 h1173 => (CO.sw mix (wR 2 297 (W.ixD Dk (eSN false) hx1294 5 (by kernel_rfl) (by kernel_rfl) (wR 3 297 (wF ?_))))))))
  refine cV 298 (CO.seq' (cV 299 (CO.block' (CO.loopJ (fun (⟨a0, a1, y869, y870, e1198, y1267, y1268⟩ : (LN × Int × Int × LN × SNode × Int × (List Int))) => ⟨tl 52 [(0, .sl false false (a0.map (eSN false))), (1, V.i a1), (5, .own 100), (6, V.i y869), (7, .loc 101 0), (8, V.i y1267)], [(100, .vec false 73 5 (y870.map (eSN true))), (101, .cells 73 [V.i e1198.Kind, V.i e1198.Op, V.s e1198.Text, V.s e1198.Other, .own 102]), (102, vX 3 1 eNI y1268)]⟩) (fun n i => ms_l6Shift_l2 N (ms_l6Shift_l1 N n1) n i = some r) (n0 := N) (i0 := (a0, a1, y869, y870, e1198, 0, [])) (wS [(100, 100), (297, 101), (298, 102)] [0, 1, 5, 6, 7, 8]) h1173 (fun i h => by simp [ms_l6Shift_l2] at h) ?_))))
  rintro n2 ⟨a0, a1, y869, y870, e1198, y1267, y1268⟩ h1387 ih1388
  rw [ms_l6Shift_l2] at h1387
  refine CO.seq' (bB h1387 fun e1290 hx1393 h1387 => (CO.sw mix (wR 3 363 (W.ixD Dk (eSN false) hx1393 5 (by kernel_rfl) (by kernel_rfl) (wR 2 363 (W.len Dk eNI e1290.Kids [] (by kernel_rfl) (by kernel_rfl) (wR 1 363 (wF ?_))))))))
  refine cI h1387 (fun _ h1387 => ?_) (fun _ h1387 => ?_)
  ·refine CO.skip (CO.seq' (CO.block' (bB h1387 fun e1300 hx1404 h1387 => (bB h1387 fun e1301 hx1405 h1387 => (bB h1387 fun x1302 hx1406 h1387 => ?_)))))
   refine CO.endR (tl 52 [(0, .sl false false (a0.map (eSN false))), (1, V.i a1), (5, .own 100), (6, V.i y869), (7, .loc 101 0), (8, V.i y1267)]) [(101, .cells 73 [V.i e1198.Kind, V.i e1198.Op, V.s e1198.Text, V.s e1198.Other, .own 364]), (364, vX 3 1 eNI x1302), (100, .vec false 73 5 (y870.map (eSN true)))] mix (by
    refine wR 4 363 (W.ixD Dk (eSN false) hx1404 5 (by kernel_rfl) (by kernel_rfl) (wR 3 363 (W.ixD Dk eNI hx1405 1 (by kernel_rfl) (by kernel_rfl) (wR 4 363 (W.appO Dk eNI (a := 102) (c := 363) (el := 3) (sz := 1) 8 hx1406 rfl 364 (by kernel_rfl) (wR 2 365 ?_))))))
    exact fI
    ) (fun st hw => ?_)
   refine CO.weak hw ?_
   exact cK 365 ih1388 (a0, a1, y869, y870, e1198, (IntKind.wrap .i64 (y1267 + 1)), x1302) h1387 [(100, 100), (101, 101), (364, 102)] [0, 1, 5, 6, 7, 8]
  refine CO.exit (bB h1387 fun x1304 hx1408 h1387 => ?_)
  refine CO.endR (tl 52 [(0, .sl false false (a0.map (eSN false))), (1, V.i a1), (5, .own 364), (6, V.i y869)]) [(364, .vec false 73 5 (x1304.map (eSN true)))] mix (by
   refine wR 3 363 (W.appO Dk (eSN true) (a := 100) (c := 363) (el := 73) (sz := 5) 72 hx1408 rfl 364 (by kernel_rfl) (wR 1 365 ?_))
   exact fI
   ) (fun st hw => ?_)
  refine CO.weak hw ?_
  exact cK 365 ih1174 (a0, a1, (IntKind.wrap .i64 (y869 + 1)), x1304) h1387 [(364, 100)] [0, 1, 5, 6]
 refine CO.exit (cV 297 (CO.ret ?_))
 cases h1173
 exact eG [(100, 100)] (.inr rfl) (RetV.one rfl (oT (t := 4) (r := .own 100)))

theorem ms_l6Make_ok (N : Nat) (a0 : SNode) (a1 : List LN) {r : LN} (h : ms_l6Make N a0 a1 = some r) :
    AC0 142 [.agg [V.i a0.Kind, V.i a0.Op, V.s a0.Text, V.s a0.Other, sL eNI a0.Kids], .sl false false (a1.map (encL false (eSN false)))] [] (.own 100) [(100, .vec false 73 5 (r.map (eSN true)))] := by
 rw [ms_l6Make] at h
 refine AC.enter Tryz.func142 rfl (cV 100 (cV 101 (cV 102 (CO.seq' (cV 103 (CO.block' (CO.loopJ (fun (⟨a1, a0, y71, y72, y73⟩ : ((List LN) × SNode × Int × LN × (List Int))) => ⟨tl 37 [(1, .sl false false (a1.map (encL false (eSN false)))), (2, .loc 100 0), (5, .own 101), (6, V.i y71)], [(100, .cells 73 [V.i a0.Kind, V.i a0.Op, V.s a0.Text, V.s a0.Other, .own 102]), (101, .vec false 73 5 (y72.map (eSN true))), (102, vX 3 1 eNI y73)]⟩) (fun n i => ms_l6Make_l1 N n i = some r) (n0 := N) (i0 := (a1, a0, 0, [], [])) (wS [(100, 100), (101, 101), (102, 102)] [1, 2, 5, 6]) h (fun i h => by simp [ms_l6Make_l1] at h) ?_)))))))
 rintro n1 ⟨a1, a0, y71, y72, y73⟩ h93 ih94
 rw [ms_l6Make_l1] at h93
 refine CO.seq' (CO.sw mix (wR 2 171 (W.len Dk (encL false (eSN false)) a1 [] (by kernel_rfl) (by kernel_rfl) (wR 1 171 (wF ?_)))))
 refine cI h93 (fun _ h93 => ?_) (fun _ h93 => ?_)
 ·refine CO.skip (CO.seq' (CO.block' (bB h93 fun e104 hx108 h93 => (bB h93 fun r105 hx109 h93 => (bB h93 fun x106 hx110 h93 => (CO.sw mix (wR 3 171 (W.ixD Dk (encL false (eSN false)) hx108 1 (by kernel_rfl) (by kernel_rfl) ?_))))))))
  refine wR 2 171 (W.len Dk (eSN true) y72 [101] (by kernel_rfl) (by kernel_rfl) (W.call (ms_l6Shift_ok N e104 (y72.length : Int) hx109) cok183 [] [(100, 171)] [171] lO (by kernel_rfl) (by kernel_rfl) (W.appO Dk (eSN true) (a := 101) (c := 171) (el := 73) (sz := 5) 72 hx110 rfl 172 (by kernel_rfl) (wR 1 173 (wF (bB h93 fun x108 hx112 h93 => ?_))))))
  refine CO.endR (tl 37 [(1, .sl false false (a1.map (encL false (eSN false)))), (2, .loc 100 0), (5, .own 172), (6, V.i y71)]) [(100, .cells 73 [V.i a0.Kind, V.i a0.Op, V.s a0.Text, V.s a0.Other, .own 174]), (174, vX 3 1 eNI x108), (172, .vec false 73 5 (x106.map (eSN true)))] mix (by
   refine wR 3 173 (W.len Dk (eSN true) x106 [172] (by kernel_rfl) (by kernel_rfl) (wR 2 173 (W.appO Dk eNI (a := 102) (c := 173) (el := 3) (sz := 1) 8 hx112 rfl 174 (by kernel_rfl) (wR 2 175 ?_))))
   exact fI
   ) (fun st hw => ?_)
  refine CO.weak hw ?_
  exact cK 175 ih94 (a1, a0, (IntKind.wrap .i64 (y71 + 1)), x106, x108) h93 [(100, 100), (172, 101), (174, 102)] [1, 2, 5, 6]
 refine CO.exit (bB h93 fun x110 hx114 h93 => (CO.sw mix (wR 3 171 (W.appO Dk (eSN true) (a := 101) (c := 171) (el := 73) (sz := 5) 72 hx114 rfl 172 (by kernel_rfl) (wR 1 173 (wF (CO.ret ?_)))))))
 cases h93
 exact eG [(172, 100)] (.inr rfl) (RetV.one rfl (oT (t := 4) (r := .own 172)))

theorem ms_l11Over_ok (N : Nat) (a0 : SNode) (a1 : List LN) {r : SL11X} (h : ms_l11Over N a0 a1 = some r) :
    AC0 93 [.agg [V.i a0.Kind, V.i a0.Op, V.s a0.Text, V.s a0.Other, sL eNI a0.Kids], .sl false false (a1.map (encL false (eSN false)))] [] (.agg [.own 100, V.b r.held]) [(100, .vec false 73 5 (r.l.map (eSN true)))] := by
 rw [ms_l11Over] at h
 refine AC.enter Tryz.func93 rfl (cV 100 (bB h fun r2 hx2 h => (CO.sw mix (wR 2 102 (W.call (ms_l6Make_ok N a0 a1 hx2) cok142 [] [(100, 102)] [102] lO (by kernel_rfl) (by kernel_rfl) (wR 2 103 (wF (CO.ret ?_))))))))
 cases h
 exact eG [(102, 100)] (.inr rfl) (RetV.one rfl (OneR.cell Dk (r := .agg [.own 102, V.b false]) (i := 101) (ety := 89) (cs := [.own 102, V.b false]) (by kernel_rfl) (by kernel_rfl) (by kernel_rfl)))

theorem ms_l11Comma_ok (N : Nat) (pa : LT) (pb : Int) (pc : Bool) (p1 : LT) {r : Bool} (h : ms_l11Comma N pa pb pc p1 = some r) :
    AC0 145 [.loc 0 0] [(0, cP 87 pa pb pc 1), (1, vX 55 3 eTk p1)] (V.b r) [(0, cP 87 pa pb pc 1), (1, vX 55 3 eTk p1)] := by
 rw [ms_l11Comma] at h
 refine AC.enter Tryz.func145 rfl (cV 100 (CO.seq' (bB h fun y5 hv9 h => ?_)))
 refine CO.cutR (tl 64 [(0, .loc 0 0), (13, V.b y5)]) [(0, cP 87 pa pb pc 1), (1, vX 55 3 eTk p1)] mix (by
  refine wR 5 100 ?_
  refine wJ 9 hv9 (fun hv9 => ?_) (fun hv9 => ?_)
  ·refine wR 4 100 ?_
   cases hv9
   exact fS [(0, 0), (1, 1)] [0, 13]
  refine wR 1 100 (bB hv9 fun r6 hx11 hv9 => (W.call (ms_l11Kind_ok pa pb pc p1 hx11) cok63 [(0, 0), (1, 1)] [(0, 0), (1, 1)] [] lO (by kernel_rfl) (by kernel_rfl) (wR 2 100 ?_)))
  cases hv9
  exact fS [(0, 0), (1, 1)] [0, 13]
  ) ?_
 refine cI h (fun _ h => ?_) (fun _ h => ?_)
 ·refine cV 100 (CO.ret ?_)
  cases h
  exact eG [(0, 0), (1, 1)] (.inr rfl) (RetV.one rfl (oT (t := 2) (r := V.b false)))
 refine CO.skip (cV 100 (CO.seq' (cV 100 (CO.block' (CO.loopJ (fun (⟨y179, y180⟩ : (Int × Int)) => ⟨tl 64 [(0, .loc 0 0), (3, V.i y179), (4, V.i y180)], [(0, cP 87 pa pb pc 1), (1, vX 55 3 eTk p1)]⟩) (fun n i => ms_l11Comma_l1 N pa pb pc p1 n i = some r) (n0 := N) (i0 := (0, pb)) (wS [(0, 0), (1, 1)] [0, 3, 4]) h (fun i h => by simp [ms_l11Comma_l1] at h) ?_)))))
 rintro n1 ⟨y179, y180⟩ h345 ih346
 rw [ms_l11Comma_l1] at h345
 refine CO.seq' (CO.sw mix (wR 5 160 (W.len Dk eTk pa [] (by kernel_rfl) (by kernel_rfl) (wR 1 160 (wF ?_)))))
 refine cI h345 (fun _ h345 => ?_) (fun _ h345 => ?_)
 ·refine CO.skip (CO.seq' (CO.block' ?_))
  refine CO.join (fun (⟨y180, y250⟩ : (Int × Int)) => ⟨tl 64 [(0, .loc 0 0), (3, V.i y250), (4, V.i y180)], [(0, cP 87 pa pb pc 1), (1, vX 55 3 eTk p1)]⟩) (fun i => ms_l11Comma_k2 N pa pb pc p1 (ms_l11Comma_l1 N pa pb pc p1 n1) i = some r) ?_ ?_
  · rintro ⟨y180, y250⟩ h386
    rw [ms_l11Comma_k2] at h386
    refine CO.join (fun (⟨y180, y255⟩ : (Int × Int)) => ⟨tl 64 [(0, .loc 0 0), (3, V.i y255), (4, V.i y180)], [(0, cP 87 pa pb pc 1), (1, vX 55 3 eTk p1)]⟩) (fun i => ms_l11Comma_k3 N pa pb pc p1 (ms_l11Comma_l1 N pa pb pc p1 n1) i = some r) ?_ ?_
    · rintro ⟨y180, y255⟩ h392
      rw [ms_l11Comma_k3] at h392
      refine CO.seq' (cV 160 ?_)
      refine cI h392 (fun _ h392 => ?_) (fun _ h392 => ?_)
      ·refine cV 160 (CO.ret ?_)
       cases h392
       exact eG [(0, 0), (1, 1)] (.inr rfl) (RetV.one rfl (oT (t := 2) (r := V.b false)))
      refine CO.skip (bB h392 fun y257 hv397 h392 => ?_)
      refine CO.cutR (tl 64 [(0, .loc 0 0), (3, V.i y255), (4, V.i y180), (63, V.b y257)]) [(0, cP 87 pa pb pc 1), (1, vX 55 3 eTk p1)] mix (by
       refine wR 3 160 ?_
       refine wJ 53 hv397 (fun hv397 => ?_) (fun hv397 => ?_)
       ·refine wR 5 160 (bB hv397 fun e258 hx399 hv397 => (W.ixD Dk eTk hx399 3 (by kernel_rfl) (by kernel_rfl) (wR 4 160 ?_)))
        cases hv397
        exact fS [(0, 0), (1, 1)] [0, 3, 4, 63]
       refine wR 10 160 ?_
       cases hv397
       exact fS [(0, 0), (1, 1)] [0, 3, 4, 63]
       ) ?_
      refine cI h392 (fun _ h392 => ?_) (fun _ h392 => ?_)
      ·refine cV 160 (CO.ret ?_)
       cases h392
       exact eG [(0, 0), (1, 1)] (.inr rfl) (RetV.one rfl (oT (t := 2) (r := V.b true)))
      refine CO.skip ?_
      exact cK 160 ih346 (y255, (IntKind.wrap .i64 (y180 + 1))) h392 [(0, 0), (1, 1)] [0, 3, 4]
    intro hk401
    refine bB h386 fun e261 hx404 h386 => (bB h386 fun r262 hx405 h386 => (CO.sw mix (wR 5 160 (W.ixD Dk eTk hx404 3 (by kernel_rfl) (by kernel_rfl) (wR 2 160 (W.call0 (ms_l10Close_ok e261.Kind hx405) cok89 rfl (by kernel_rfl) (wF ?_)))))))
    refine cI h386 (fun _ h386 => ?_) (fun _ h386 => ?_)
    ·exact cK 160 hk401 (y180, (IntKind.wrap .i64 (y250 - 1))) h386 [(0, 0), (1, 1)] [0, 3, 4]
    exact sK hk401 (y180, y250) h386 [(0, 0), (1, 1)] [0, 3, 4]
  intro hk407
  refine bB h345 fun e265 hx410 h345 => (bB h345 fun r266 hx411 h345 => (CO.sw mix (wR 5 160 (W.ixD Dk eTk hx410 3 (by kernel_rfl) (by kernel_rfl) (wR 2 160 (W.call0 (ms_l10Open_ok e265.Kind hx411) cok90 rfl (by kernel_rfl) (wF ?_)))))))
  refine cI h345 (fun _ h345 => ?_) (fun _ h345 => ?_)
  ·exact cK 160 hk407 (y180, (IntKind.wrap .i64 (y179 + 1))) h345 [(0, 0), (1, 1)] [0, 3, 4]
  exact sK hk407 (y180, y179) h345 [(0, 0), (1, 1)] [0, 3, 4]
 refine CO.exit (cV 160 (CO.ret ?_))
 cases h345
 exact eG [(0, 0), (1, 1)] (.inr rfl) (RetV.one rfl (oT (t := 2) (r := V.b false)))

theorem ms_Top_ok {r : SPos} (h : ms_Top = some r) :
    AC0 41 [] [] (.agg [V.i r.Level, V.b r.Dollar, V.b r.NoIn, V.b r.NoGt, V.b r.NoSign]) [] := by
 rw [ms_Top] at h
 refine AC.enter Tryz.func41 rfl (cV 100 (cV 101 (CO.ret ?_)))
 cases h
 exact eG [] (.inr rfl) (RetV.one rfl (OneR.cell Dk (r := .agg [V.i 1, V.b false, V.b false, V.b false, V.b false]) (i := 100) (ety := 30) (cs := [V.i 1, V.b false, V.b false, V.b false, V.b false]) (by kernel_rfl) (by kernel_rfl) (by kernel_rfl)))

theorem ms_l11Lines_ok (N : Nat) (pa : LT) (pb : Int) (pc : Bool) (p1 : LT) {r : (Int × LT)} (h : ms_l11Lines N pa pb pc p1 = some r) :
    AC0 150 [.loc 0 0] [(0, cP 87 pa pb pc 1), (1, vX 55 3 eTk p1)] (.tup []) [(0, cP 87 pa r.1 pc 100), (100, vX 55 3 eTk r.2)] := by
 rw [ms_l11Lines] at h
 refine AC.enter Tryz.func150 rfl (CO.block' (CO.loopJ (fun (⟨y24, y25⟩ : (Int × LT)) => ⟨tl 47 [(0, .loc 0 0)], [(0, cP 87 pa y24 pc 100), (100, vX 55 3 eTk y25)]⟩) (fun n i => ms_l11Lines_l1 N pa pc n i = some r) (n0 := N) (i0 := (pb, p1)) (wS [(0, 0), (1, 100)] [0]) h (fun i h => by simp [ms_l11Lines_l1] at h) ?_))
 rintro n1 ⟨y24, y25⟩ h73 ih74
 rw [ms_l11Lines_l1] at h73
 refine CO.seq' (bB h73 fun y58 hv89 h73 => ?_)
 refine CO.cutR (tl 47 [(0, .loc 0 0), (16, V.b y58)]) [(0, cP 87 pa y24 pc 100), (100, vX 55 3 eTk y25)] mix (by
  refine wR 6 164 ?_
  refine wJ 7 hv89 (fun hv89 => ?_) (fun hv89 => ?_)
  ·refine wR 1 164 (bB hv89 fun r59 hx91 hv89 => (W.call (ms_l11Kind_ok pa y24 pc y25 hx91) cok63 [(0, 0), (100, 1)] [(0, 0), (1, 100)] [] lO (by kernel_rfl) (by kernel_rfl) (wR 2 164 ?_)))
   refine wJ 11 hv89 (fun hv89 => ?_) (fun hv89 => ?_)
   ·refine wR 5 164 ?_
    cases hv89
    exact fS [(0, 0), (100, 100)] [0, 16]
   refine wR 1 164 (bB hv89 fun r60 hx93 hv89 => (W.call (ms_l11Kind_ok pa y24 pc y25 hx93) cok63 [(0, 0), (100, 1)] [(0, 0), (1, 100)] [] lO (by kernel_rfl) (by kernel_rfl) (wR 3 164 ?_)))
   cases hv89
   exact fS [(0, 0), (100, 100)] [0, 16]
  refine wR 9 164 ?_
  cases hv89
  exact fS [(0, 0), (100, 100)] [0, 16]
  ) ?_
 refine cI h73 (fun _ h73 => ?_) (fun _ h73 => ?_)
 ·refine CO.skip (CO.block' ?_)
  refine CO.join (fun (⟨y24, y67⟩ : (Int × LT)) => ⟨tl 47 [(0, .loc 0 0)], [(0, cP 87 pa y24 pc 100), (100, vX 55 3 eTk y67)]⟩) (fun i => ms_l11Lines_k2 N pa pc (ms_l11Lines_l1 N pa pc n1) i = some r) ?_ ?_
  · rintro ⟨y24, y67⟩ h102
    rw [ms_l11Lines_k2] at h102
    exact cK 166 ih74 ((IntKind.wrap .i64 (y24 + 1)), y67) h102 [(0, 0), (100, 100)] [0]
  intro hk103
  refine bB h73 fun r69 hx105 h73 => (CO.sw mix (wR 1 164 (W.call (ms_l11Kind_ok pa y24 pc y25 hx105) cok63 [(0, 0), (100, 1)] [(0, 0), (1, 100)] [] lO (by kernel_rfl) (by kernel_rfl) (wR 1 164 (wF ?_)))))
  refine cI h73 (fun _ h73 => ?_) (fun _ h73 => ?_)
  ·refine bB h73 fun e72 hx109 h73 => (bB h73 fun x73 hx110 h73 => (CO.w mix (wR 13 164 (W.ixD Dk eTk hx109 3 (by kernel_rfl) (by kernel_rfl) (wR 2 164 (W.appO Dk eTk (a := 100) (c := 164) (el := 55) (sz := 3) 32 hx110 rfl 165 (by kernel_rfl) (wR 3 166 ?_)))))))
   exact wK hk103 (y24, x73) h73 [(0, 0), (165, 100)] [0]
  exact sK hk103 (y24, y25) h73 [(0, 0), (100, 100)] [0]
 refine CO.exit ?_
 cases h73
 exact eG [(0, 0), (100, 100)] (.inl rfl) (RetV.none rfl)

theorem ms_l11Any_ok (a0 : Int) {r : Int} (h : ms_l11Any a0 = some r) :
    AC0 148 [V.i a0] [] (V.i r) [] := by
 rw [ms_l11Any] at h
 refine AC.enter Tryz.func148 rfl (cV 100 (bB h fun e2 hx2 h => (CO.sw mix (wR 2 100 (W.ixO Dk eNI hx2 100 1 (by kernel_rfl) (W.ldO Dk eNI hx2 3 100 0 (V.i e2) (by kernel_rfl) (by kernel_rfl) (wR 1 101 (wF ?_))))))))
 cases h
 exact e1 2 id

end Go.Proofs.Tryz
