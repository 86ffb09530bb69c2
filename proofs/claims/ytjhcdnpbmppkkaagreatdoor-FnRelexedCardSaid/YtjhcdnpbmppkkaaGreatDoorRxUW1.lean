/-
 The walks that show that the code computes the models, part 1.
-/
import Derived.Test.YtjhcdnpbmppkkaaGreatDoorRxUM1
namespace Go.Proofs.Tryz
open Go.Av
set_option maxRecDepth 100000
set_option maxHeartbeats 8000000
set_option linter.unusedSimpArgs false
set_option linter.unusedVariables false

theorem ext122 (s : LU) (c : Int) (w : World) : (callFunc 122 #[.string ⟨⟨s⟩⟩, .int .u8 c]).run Tryz.prog w = .ok (.value (.int .i64 (Go.Lib.indexByte s c.toNat.toUInt8))) w := by
 rw [run_callFunc_extern Tryz.func122 (by kernel_rfl) rfl (by kernel_rfl) (by kernel_rfl)]
 rw [show _ = _ from Go.Lib.run_indexByteString ⟨⟨s⟩⟩ c w]
 rfl

theorem cok6 : callOk Tryz.prog 6 := fun _ _ => Tryz.call6 _ _
theorem cok7 : callOk Tryz.prog 7 := fun _ _ => Tryz.call7 _ _
theorem cok8 : callOk Tryz.prog 8 := fun _ _ => Tryz.call8 _ _
theorem cok9 : callOk Tryz.prog 9 := fun _ _ => Tryz.call9 _ _
theorem cok10 : callOk Tryz.prog 10 := fun _ _ => Tryz.call10 _ _
theorem cok11 : callOk Tryz.prog 11 := fun _ _ => Tryz.call11 _ _
theorem cok12 : callOk Tryz.prog 12 := fun _ _ => Tryz.call12 _ _
theorem cok22 : callOk Tryz.prog 22 := fun _ _ => Tryz.call22 _ _
theorem cok23 : callOk Tryz.prog 23 := fun _ _ => Tryz.call23 _ _
theorem cok24 : callOk Tryz.prog 24 := fun _ _ => Tryz.call24 _ _
theorem cok25 : callOk Tryz.prog 25 := fun _ _ => Tryz.call25 _ _
theorem cok26 : callOk Tryz.prog 26 := fun _ _ => Tryz.call26 _ _
theorem cok27 : callOk Tryz.prog 27 := fun _ _ => Tryz.call27 _ _
theorem cok28 : callOk Tryz.prog 28 := fun _ _ => Tryz.call28 _ _
theorem cok29 : callOk Tryz.prog 29 := fun _ _ => Tryz.call29 _ _
theorem cok30 : callOk Tryz.prog 30 := fun _ _ => Tryz.call30 _ _
theorem cok31 : callOk Tryz.prog 31 := fun _ _ => Tryz.call31 _ _
theorem cok32 : callOk Tryz.prog 32 := fun _ _ => Tryz.call32 _ _
theorem cok37 : callOk Tryz.prog 37 := fun _ _ => Tryz.call37 _ _
theorem cok46 : callOk Tryz.prog 46 := fun _ _ => Tryz.call46 _ _
theorem cok47 : callOk Tryz.prog 47 := fun _ _ => Tryz.call47 _ _
theorem cok48 : callOk Tryz.prog 48 := fun _ _ => Tryz.call48 _ _
theorem cok49 : callOk Tryz.prog 49 := fun _ _ => Tryz.call49 _ _
theorem cok50 : callOk Tryz.prog 50 := fun _ _ => Tryz.call50 _ _
theorem cok51 : callOk Tryz.prog 51 := fun _ _ => Tryz.call51 _ _
theorem cok52 : callOk Tryz.prog 52 := fun _ _ => Tryz.call52 _ _
theorem cok53 : callOk Tryz.prog 53 := fun _ _ => Tryz.call53 _ _
theorem cok54 : callOk Tryz.prog 54 := fun _ _ => Tryz.call54 _ _
theorem cok55 : callOk Tryz.prog 55 := fun _ _ => Tryz.call55 _ _
theorem cok56 : callOk Tryz.prog 56 := fun _ _ => Tryz.call56 _ _
theorem cok57 : callOk Tryz.prog 57 := fun _ _ => Tryz.call57 _ _
theorem cok58 : callOk Tryz.prog 58 := fun _ _ => Tryz.call58 _ _
theorem cok59 : callOk Tryz.prog 59 := fun _ _ => Tryz.call59 _ _
theorem cok60 : callOk Tryz.prog 60 := fun _ _ => Tryz.call60 _ _
theorem cok61 : callOk Tryz.prog 61 := fun _ _ => Tryz.call61 _ _
theorem cok62 : callOk Tryz.prog 62 := fun _ _ => Tryz.call62 _ _
theorem cok63 : callOk Tryz.prog 63 := fun _ _ => Tryz.call63 _ _
theorem cok65 : callOk Tryz.prog 65 := fun _ _ => Tryz.call65 _ _
theorem cok72 : callOk Tryz.prog 72 := fun _ _ => Tryz.call72 _ _
theorem cok73 : callOk Tryz.prog 73 := fun _ _ => Tryz.call73 _ _
theorem cok74 : callOk Tryz.prog 74 := fun _ _ => Tryz.call74 _ _
theorem cok75 : callOk Tryz.prog 75 := fun _ _ => Tryz.call75 _ _
theorem cok76 : callOk Tryz.prog 76 := fun _ _ => Tryz.call76 _ _
theorem cok77 : callOk Tryz.prog 77 := fun _ _ => Tryz.call77 _ _
theorem cok78 : callOk Tryz.prog 78 := fun _ _ => Tryz.call78 _ _
theorem cok79 : callOk Tryz.prog 79 := fun _ _ => Tryz.call79 _ _
theorem cok80 : callOk Tryz.prog 80 := fun _ _ => Tryz.call80 _ _
theorem cok81 : callOk Tryz.prog 81 := fun _ _ => Tryz.call81 _ _
theorem cok82 : callOk Tryz.prog 82 := fun _ _ => Tryz.call82 _ _
theorem cok83 : callOk Tryz.prog 83 := fun _ _ => Tryz.call83 _ _
theorem cok84 : callOk Tryz.prog 84 := fun _ _ => Tryz.call84 _ _
theorem cok85 : callOk Tryz.prog 85 := fun _ _ => Tryz.call85 _ _
theorem cok86 : callOk Tryz.prog 86 := fun _ _ => Tryz.call86 _ _
theorem cok87 : callOk Tryz.prog 87 := fun _ _ => Tryz.call87 _ _
theorem cok88 : callOk Tryz.prog 88 := fun _ _ => Tryz.call88 _ _
theorem cok89 : callOk Tryz.prog 89 := fun _ _ => Tryz.call89 _ _
theorem cok90 : callOk Tryz.prog 90 := fun _ _ => Tryz.call90 _ _
theorem cok91 : callOk Tryz.prog 91 := fun _ _ => Tryz.call91 _ _
theorem cok92 : callOk Tryz.prog 92 := fun _ _ => Tryz.call92 _ _
theorem cok96 : callOk Tryz.prog 96 := fun _ _ => Tryz.call96 _ _
theorem cok97 : callOk Tryz.prog 97 := fun _ _ => Tryz.call97 _ _
theorem cok98 : callOk Tryz.prog 98 := fun _ _ => Tryz.call98 _ _
theorem cok99 : callOk Tryz.prog 99 := fun _ _ => Tryz.call99 _ _
theorem cok100 : callOk Tryz.prog 100 := fun _ _ => Tryz.call100 _ _
theorem cok101 : callOk Tryz.prog 101 := fun _ _ => Tryz.call101 _ _
theorem cok102 : callOk Tryz.prog 102 := fun _ _ => Tryz.call102 _ _
theorem cok103 : callOk Tryz.prog 103 := fun _ _ => Tryz.call103 _ _
theorem cok104 : callOk Tryz.prog 104 := fun _ _ => Tryz.call104 _ _
theorem cok105 : callOk Tryz.prog 105 := fun _ _ => Tryz.call105 _ _
theorem cok106 : callOk Tryz.prog 106 := fun _ _ => Tryz.call106 _ _
theorem cok107 : callOk Tryz.prog 107 := fun _ _ => Tryz.call107 _ _
theorem cok108 : callOk Tryz.prog 108 := fun _ _ => Tryz.call108 _ _
theorem cok109 : callOk Tryz.prog 109 := fun _ _ => Tryz.call109 _ _
theorem cok110 : callOk Tryz.prog 110 := fun _ _ => Tryz.call110 _ _
theorem cok111 : callOk Tryz.prog 111 := fun _ _ => Tryz.call111 _ _
theorem cok117 : callOk Tryz.prog 117 := fun _ _ => Tryz.call117 _ _
theorem cok118 : callOk Tryz.prog 118 := fun _ _ => Tryz.call118 _ _
theorem cok119 : callOk Tryz.prog 119 := fun _ _ => Tryz.call119 _ _
theorem cok120 : callOk Tryz.prog 120 := fun _ _ => Tryz.call120 _ _
theorem cok121 : callOk Tryz.prog 121 := fun _ _ => Tryz.call121 _ _
theorem cok123 : callOk Tryz.prog 123 := fun _ _ => Tryz.call123 _ _
theorem cok124 : callOk Tryz.prog 124 := fun _ _ => Tryz.call124 _ _
theorem cok125 : callOk Tryz.prog 125 := fun _ _ => Tryz.call125 _ _
theorem cok126 : callOk Tryz.prog 126 := fun _ _ => Tryz.call126 _ _
theorem cok127 : callOk Tryz.prog 127 := fun _ _ => Tryz.call127 _ _
theorem cok128 : callOk Tryz.prog 128 := fun _ _ => Tryz.call128 _ _
theorem cok129 : callOk Tryz.prog 129 := fun _ _ => Tryz.call129 _ _
theorem cok130 : callOk Tryz.prog 130 := fun _ _ => Tryz.call130 _ _
theorem cok131 : callOk Tryz.prog 131 := fun _ _ => Tryz.call131 _ _
theorem cok132 : callOk Tryz.prog 132 := fun _ _ => Tryz.call132 _ _
theorem cok133 : callOk Tryz.prog 133 := fun _ _ => Tryz.call133 _ _
theorem cok140 : callOk Tryz.prog 140 := fun _ _ => Tryz.call140 _ _
theorem cok141 : callOk Tryz.prog 141 := fun _ _ => Tryz.call141 _ _
theorem cok142 : callOk Tryz.prog 142 := fun _ _ => Tryz.call142 _ _
theorem cok143 : callOk Tryz.prog 143 := fun _ _ => Tryz.call143 _ _
theorem cok144 : callOk Tryz.prog 144 := fun _ _ => Tryz.call144 _ _
theorem cok150 : callOk Tryz.prog 150 := fun _ _ => Tryz.call150 _ _
theorem cok151 : callOk Tryz.prog 151 := fun _ _ => Tryz.call151 _ _
theorem cok152 : callOk Tryz.prog 152 := fun _ _ => Tryz.call152 _ _
theorem cok153 : callOk Tryz.prog 153 := fun _ _ => Tryz.call153 _ _
theorem cok154 : callOk Tryz.prog 154 := fun _ _ => Tryz.call154 _ _
theorem cok155 : callOk Tryz.prog 155 := fun _ _ => Tryz.call155 _ _
theorem cok156 : callOk Tryz.prog 156 := fun _ _ => Tryz.call156 _ _
theorem cok157 : callOk Tryz.prog 157 := fun _ _ => Tryz.call157 _ _
theorem cok160 : callOk Tryz.prog 160 := fun _ _ => Tryz.call160 _ _
theorem cok161 : callOk Tryz.prog 161 := fun _ _ => Tryz.call161 _ _
theorem cok162 : callOk Tryz.prog 162 := fun _ _ => Tryz.call162 _ _
theorem cok163 : callOk Tryz.prog 163 := fun _ _ => Tryz.call163 _ _
theorem cok164 : callOk Tryz.prog 164 := fun _ _ => Tryz.call164 _ _
theorem cok165 : callOk Tryz.prog 165 := fun _ _ => Tryz.call165 _ _
theorem cok166 : callOk Tryz.prog 166 := fun _ _ => Tryz.call166 _ _
theorem cok167 : callOk Tryz.prog 167 := fun _ _ => Tryz.call167 _ _
theorem cok168 : callOk Tryz.prog 168 := fun _ _ => Tryz.call168 _ _
theorem cok169 : callOk Tryz.prog 169 := fun _ _ => Tryz.call169 _ _
theorem cok170 : callOk Tryz.prog 170 := fun _ _ => Tryz.call170 _ _
theorem cok171 : callOk Tryz.prog 171 := fun _ _ => Tryz.call171 _ _
theorem cok172 : callOk Tryz.prog 172 := fun _ _ => Tryz.call172 _ _
theorem cok173 : callOk Tryz.prog 173 := fun _ _ => Tryz.call173 _ _
theorem cok174 : callOk Tryz.prog 174 := fun _ _ => Tryz.call174 _ _
theorem cok175 : callOk Tryz.prog 175 := fun _ _ => Tryz.call175 _ _
theorem cok176 : callOk Tryz.prog 176 := fun _ _ => Tryz.call176 _ _
theorem cok177 : callOk Tryz.prog 177 := fun _ _ => Tryz.call177 _ _
theorem cok178 : callOk Tryz.prog 178 := fun _ _ => Tryz.call178 _ _
theorem cok179 : callOk Tryz.prog 179 := fun _ _ => Tryz.call179 _ _
theorem cok180 : callOk Tryz.prog 180 := fun _ _ => Tryz.call180 _ _
theorem cok181 : callOk Tryz.prog 181 := fun _ _ => Tryz.call181 _ _
theorem cok182 : callOk Tryz.prog 182 := fun _ _ => Tryz.call182 _ _
theorem cok183 : callOk Tryz.prog 183 := fun _ _ => Tryz.call183 _ _
theorem cok184 : callOk Tryz.prog 184 := fun _ _ => Tryz.call184 _ _
theorem cok185 : callOk Tryz.prog 185 := fun _ _ => Tryz.call185 _ _
theorem cok186 : callOk Tryz.prog 186 := fun _ _ => Tryz.call186 _ _
theorem cok187 : callOk Tryz.prog 187 := fun _ _ => Tryz.call187 _ _
theorem cok188 : callOk Tryz.prog 188 := fun _ _ => Tryz.call188 _ _
theorem cok189 : callOk Tryz.prog 189 := fun _ _ => Tryz.call189 _ _
theorem cok190 : callOk Tryz.prog 190 := fun _ _ => Tryz.call190 _ _
theorem cok191 : callOk Tryz.prog 191 := fun _ _ => Tryz.call191 _ _
theorem cok192 : callOk Tryz.prog 192 := fun _ _ => Tryz.call192 _ _

theorem ml_big_ok (a0 : LU) {r : Bool} (h : ml_big a0 = some r) :
    AC Tryz.prog (GS []) 6 [sL byteRow a0] [] (V.b r) [] := by
 rw [ml_big] at h
 refine AC.enter Tryz.func6 rfl (cV 100 (CO.sw mix (wR 1 100 (wN byteRow a0 [] (wR 2 100 (wF ?_))))))
 cases h
 exact e1 2 id

theorem ms_l1New_ok (N : Nat) (a0 : LU) {r : (LU × Int × Int)} (h : ms_l1New N a0 = some r) :
    AC Tryz.prog (GS []) 22 [sL byteRow a0] [] (.loc 100 0) [(100, .cells 65 [sL byteRow r.1, V.i r.2.1, V.i r.2.2])] := by
 rw [ms_l1New] at h
 refine AC.enter Tryz.func22 rfl (cV 100 (CO.sw mix (wR 1 100 (wN byteRow a0 [] (wR 2 100 (wF (CO.seq' (cV 100 ?_))))))))
 refine CO.block' (CO.loopJ (fun (⟨a0, y29, y30⟩ : (LU × Int × Int)) => ⟨tl 32 [(0, sL byteRow a0), (3, V.i y29), (4, V.i y30)], []⟩) (fun n i => ms_l1New_l1 N n i = some r) (n0 := N) (i0 := (a0, (wr (10101 + (a0.length : Int))), 0)) (wS [] [0, 3, 4]) h (fun i h => by simp [ms_l1New_l1] at h) ?_)
 rintro n1 ⟨a0, y29, y30⟩ h63 ih64
 rw [ms_l1New_l1] at h63
 refine CO.seq' (bB h63 fun y40 hv70 h63 => ?_)
 refine CO.cutR (tl 32 [(0, sL byteRow a0), (3, V.i y29), (4, V.i y30), (15, V.b y40)]) [] mix (by
  refine wR 2 160 (wN byteRow a0 [] (wR 2 160 ?_))
  refine wJ 12 hv70 (fun hv70 => ?_) (fun hv70 => ?_)
  ·refine wR 3 160 ?_
   cases hv70
   exact fS [] [0, 3, 4, 15]
  refine wR 3 160 ?_
  cases hv70
  exact fS [] [0, 3, 4, 15]
  ) ?_
 refine cI h63 (fun _ h63 => ?_) (fun _ h63 => ?_)
 ·refine CO.skip (CO.seq' (CO.block' (bB h63 fun e44 hx76 h63 => ?_)))
  refine CO.endR (tl 32 [(0, sL byteRow a0), (3, V.i (bits .and .i64 (wr ((wr ((wr (y29 * 131)) + (wr ((e44).toNat : Int)))) + 7)) 1073741823)), (4, V.i y30)]) [] mix (by
   refine wR 4 160 (wX byteRow hx76 1 (wR 6 160 ?_))
   exact fI
   ) (fun st hw => ?_)
  refine CO.weak hw ?_
  exact cK 160 ih64 (a0, (bits .and .i64 (wr ((wr ((wr (y29 * 131)) + (wr ((e44).toNat : Int)))) + 7)) 1073741823), (wr (y30 + 1))) h63 [] [0, 3, 4]
 refine CO.exit (cV 160 (CO.ret ?_))
 cases h63
 exact eG [(160, 100)] (.inr rfl) (RetV.one rfl (oT (t := 2) (r := .loc 160 0)))

theorem ms_l1Byte_ok (pa : LU) (pb : Int) (pc : Int) {r : (Int × Int × Int)} (h : ms_l1Byte pa pb pc = some r) :
    AC Tryz.prog (GS []) 65 [.loc 0 0] [(0, .cells 65 [sL byteRow pa, V.i pb, V.i pc])] (V.i r.1) [(0, .cells 65 [sL byteRow pa, V.i r.2.1, V.i r.2.2])] := by
 rw [ms_l1Byte] at h
 refine AC.enter Tryz.func65 rfl (cV 100 (cV 100 (cV 100 ?_)))
 refine CO.join (fun (⟨pc, y3, y4⟩ : (Int × Int × Int)) => ⟨tl 58 [(3, V.i y3)], [(0, .cells 65 [sL byteRow pa, V.i y4, V.i (wr ((wr (pc * 6364136223846793005)) + 1442695040888963407))])]⟩) (fun i => ms_l1Byte_k1 pa i = some r) ?_ ?_
 · rintro ⟨pc, y3, y4⟩ h4
   rw [ms_l1Byte_k1] at h4
   refine cV 100 (CO.ret ?_)
   have h4 := sI h4
   subst h4
   exact eG [(0, 0)] (.inr rfl) (RetV.one rfl (oT (t := 2) (r := V.i y3)))
 intro hk5
 refine CO.sw mix (wR 8 100 (wN byteRow pa [] (wR 1 100 (wF ?_))))
 refine cI h (fun _ h => ?_) (fun _ h => ?_)
 ·refine bB h fun e6 hx8 h => (CO.sw mix (wR 9 100 (wX byteRow hx8 1 (wR 5 100 (wF ?_)))))
  exact cK 100 hk5 (pc, (bits .and .i64 (wr ((bits .and .i64 (bits .xor .i64 (Int.fdiv (wr ((wr (pc * 6364136223846793005)) + 1442695040888963407)) (2 ^ (min 33 64))) (Int.fdiv (wr ((wr (pc * 6364136223846793005)) + 1442695040888963407)) (2 ^ (min 45 64)))) 255) + (wr ((e6).toNat : Int)))) 255), (wr (pb + 1))) h [(0, 0)] [3]
 exact sK hk5 (pc, (bits .and .i64 (bits .xor .i64 (Int.fdiv (wr ((wr (pc * 6364136223846793005)) + 1442695040888963407)) (2 ^ (min 33 64))) (Int.fdiv (wr ((wr (pc * 6364136223846793005)) + 1442695040888963407)) (2 ^ (min 45 64)))) 255), pb) h [(0, 0)] [3]

theorem ms_l1Below_ok (a1 : Int) (pa : LU) (pb : Int) (pc : Int) {r : (Int × Int × Int)} (h : ms_l1Below a1 pa pb pc = some r) :
    AC Tryz.prog (GS []) 37 [.loc 0 0, V.i a1] [(0, .cells 65 [sL byteRow pa, V.i pb, V.i pc])] (V.i r.1) [(0, .cells 65 [sL byteRow pa, V.i r.2.1, V.i r.2.2])] := by
 rw [ms_l1Below] at h
 refine AC.enter Tryz.func37 rfl (cV 100 (CO.seq' (cV 100 ?_)))
 refine cI h (fun _ h => ?_) (fun _ h => ?_)
 ·refine cV 100 (CO.ret ?_)
  cases h
  exact eG [(0, 0)] (.inr rfl) (RetV.one rfl (oT (t := 4) (r := V.i 0)))
 refine CO.skip (CO.seq' (cV 100 ?_))
 refine cI h (fun _ h => ?_) (fun _ h => ?_)
 ·refine bB h fun r7 hx11 h => (bB h fun x8 hx12 h => (CO.sw mix (wR 1 100 (wC (ms_l1Byte_ok pa pb pc hx11) cok65 [(0, 0)] [(0, 0)] [] (wR 1 100 (W.rem (k := .i64) hx12 (by kernel_rfl) (wR 1 100 (wF ?_))))))))
  refine CO.ret ?_
  have h := sI h
  subst h
  exact eG [(0, 0)] (.inr rfl) (RetV.one rfl (oT (t := 4) (r := V.i x8)))
 refine CO.skip (bB h fun r10 hx14 h => (CO.sw mix (wR 1 100 (wC (ms_l1Byte_ok pa pb pc hx14) cok65 [(0, 0)] [(0, 0)] [] (wR 1 100 (wF (bB h fun r12 hx16 h => (CO.sw mix ?_))))))))
 refine wR 1 100 (wC (ms_l1Byte_ok pa r10.2.1 r10.2.2 hx16) cok65 [(0, 0)] [(0, 0)] [] (wR 1 100 (wF (bB h fun r14 hx18 h => (CO.sw mix (wR 1 100 (wC (ms_l1Byte_ok pa r12.2.1 r12.2.2 hx18) cok65 [(0, 0)] [(0, 0)] [] (wR 1 100 ?_))))))))
 refine wF (bB h fun r16 hx20 h => (CO.sw mix (wR 1 100 (wC (ms_l1Byte_ok pa r14.2.1 r14.2.2 hx20) cok65 [(0, 0)] [(0, 0)] [] (wR 1 100 (wF (bB h fun x18 hx22 h => (CO.sw mix ?_))))))))
 refine wR 11 100 (W.rem (k := .i64) hx22 (by kernel_rfl) (wR 1 100 (wF (CO.ret ?_))))
 have h := sI h
 subst h
 exact eG [(0, 0)] (.inr rfl) (RetV.one rfl (oT (t := 4) (r := V.i x18)))

theorem ms_l1Pick_ok (a1 : LLU) (pa : LU) (pb : Int) (pc : Int) {r : (LU × Int × Int)} (h : ms_l1Pick a1 pa pb pc = some r) :
    AC Tryz.prog (GS []) 46 [.loc 0 0, sL eNS a1] [(0, .cells 65 [sL byteRow pa, V.i pb, V.i pc])] (V.s r.1) [(0, .cells 65 [sL byteRow pa, V.i r.2.1, V.i r.2.2])] := by
 rw [ms_l1Pick] at h
 refine AC.enter Tryz.func46 rfl (cV 100 (bB h fun r3 hx3 h => (bB h fun e4 hx4 h => (CO.sw mix (wR 3 100 (wN eNS a1 [] (wC (ms_l1Below_ok (a1.length : Int) pa pb pc hx3) cok37 [(0, 0)] [(0, 0)] [] (wX eNS hx4 1 ?_))))))))
 refine wR 2 100 (wF (CO.ret ?_))
 have h := sI h
 subst h
 exact eG [(0, 0)] (.inr rfl) (RetV.one rfl (oT (t := 4) (r := V.s e4)))

theorem ms_l4Num_ok (pa : LU) (pb : Int) (pc : Int) {r : (LU × Int × Int)} (h : ms_l4Num pa pb pc = some r) :
    AC Tryz.prog (GS []) 117 [.loc 0 0] [(0, .cells 65 [sL byteRow pa, V.i pb, V.i pc])] (V.s r.1) [(0, .cells 65 [sL byteRow pa, V.i r.2.1, V.i r.2.2])] := by
 rw [ms_l4Num] at h
 refine AC.enter Tryz.func117 rfl (cV 100 (bB h fun r2 hx2 h => (CO.sw mix (wR 2 100 (wD (ms_l1Pick_ok [[48], [49], [52, 50], [51, 46, 53], [46, 53], [55, 46], [49, 101, 51], [50, 69, 45, 52], [49, 48, 46, 50, 53, 101, 43, 49]] pa pb pc hx2) cok46 [(0, 0)] [(0, 0)] [] (LayOk.cons (j := 100) eNS eNS ([[48], [49], [52, 50], [51, 46, 53], [46, 53], [55, 46], [49, 101, 51], [50, 69, 45, 52], [49, 48, 46, 50, 53, 101, 43, 49]] : LLU) (by kernel_rfl) (fun _ => rfl) lO) (wR 1 101 (wF (CO.ret ?_))))))))
 have h := sI h
 subst h
 exact eG [(0, 0)] (.inr rfl) (RetV.one rfl (oT (t := 2) (r := V.s r2.1)))

theorem ms_l4Str_ok (pa : LU) (pb : Int) (pc : Int) {r : (LU × Int × Int)} (h : ms_l4Str pa pb pc = some r) :
    AC Tryz.prog (GS []) 118 [.loc 0 0] [(0, .cells 65 [sL byteRow pa, V.i pb, V.i pc])] (V.s r.1) [(0, .cells 65 [sL byteRow pa, V.i r.2.1, V.i r.2.2])] := by
 rw [ms_l4Str] at h
 refine AC.enter Tryz.func118 rfl (cV 100 (bB h fun r2 hx2 h => (CO.sw mix (wR 2 100 (wD (ms_l1Pick_ok [[34, 34], [34, 97, 34], [34, 120, 32, 121, 34], [34, 113, 92, 34, 113, 34], [34, 92, 110, 34], [34, 35, 110, 111, 34], [34, 47, 34]] pa pb pc hx2) cok46 [(0, 0)] [(0, 0)] [] (LayOk.cons (j := 100) eNS eNS ([[34, 34], [34, 97, 34], [34, 120, 32, 121, 34], [34, 113, 92, 34, 113, 34], [34, 92, 110, 34], [34, 35, 110, 111, 34], [34, 47, 34]] : LLU) (by kernel_rfl) (fun _ => rfl) lO) (wR 1 101 (wF (CO.ret ?_))))))))
 have h := sI h
 subst h
 exact eG [(0, 0)] (.inr rfl) (RetV.one rfl (oT (t := 2) (r := V.s r2.1)))

theorem ms_l1Once_ok (a1 : Int) (pa : LU) (pb : Int) (pc : Int) {r : (Bool × Int × Int)} (h : ms_l1Once a1 pa pb pc = some r) :
    AC Tryz.prog (GS []) 48 [.loc 0 0, V.i a1] [(0, .cells 65 [sL byteRow pa, V.i pb, V.i pc])] (V.b r.1) [(0, .cells 65 [sL byteRow pa, V.i r.2.1, V.i r.2.2])] := by
 rw [ms_l1Once] at h
 refine AC.enter Tryz.func48 rfl (cV 100 (bB h fun r2 hx2 h => (CO.sw mix (wR 2 100 (wC (ms_l1Below_ok a1 pa pb pc hx2) cok37 [(0, 0)] [(0, 0)] [] (wR 2 100 (wF (CO.ret ?_))))))))
 have h := sI h
 subst h
 exact eG [(0, 0)] (.inr rfl) (RetV.one rfl (oT (t := 4) (r := V.b (r2.1 == 0))))

theorem ms_l4Ere_ok (pa : LU) (pb : Int) (pc : Int) {r : (LU × Int × Int)} (h : ms_l4Ere pa pb pc = some r) :
    AC Tryz.prog (GS []) 119 [.loc 0 0] [(0, .cells 65 [sL byteRow pa, V.i pb, V.i pc])] (V.s r.1) [(0, .cells 65 [sL byteRow pa, V.i r.2.1, V.i r.2.2])] := by
 rw [ms_l4Ere] at h
 refine AC.enter Tryz.func119 rfl (cV 100 (bB h fun r2 hx2 h => (CO.sw mix (wR 2 100 (wD (ms_l1Pick_ok [[47, 97, 47], [47, 94, 120, 43, 36, 47], [47, 97, 92, 47, 98, 47], [47, 61, 47], [47, 32, 47], [47, 91, 48, 45, 57, 93, 47]] pa pb pc hx2) cok46 [(0, 0)] [(0, 0)] [] (LayOk.cons (j := 100) eNS eNS ([[47, 97, 47], [47, 94, 120, 43, 36, 47], [47, 97, 92, 47, 98, 47], [47, 61, 47], [47, 32, 47], [47, 91, 48, 45, 57, 93, 47]] : LLU) (by kernel_rfl) (fun _ => rfl) lO) (wR 1 101 (wF (CO.ret ?_))))))))
 have h := sI h
 subst h
 exact eG [(0, 0)] (.inr rfl) (RetV.one rfl (oT (t := 2) (r := V.s r2.1)))

theorem ms_l2Word_ok (pa : LU) (pb : Int) (pc : Int) {r : (LU × Int × Int)} (h : ms_l2Word pa pb pc = some r) :
    AC Tryz.prog (GS []) 120 [.loc 0 0] [(0, .cells 65 [sL byteRow pa, V.i pb, V.i pc])] (V.s r.1) [(0, .cells 65 [sL byteRow pa, V.i r.2.1, V.i r.2.2])] := by
 rw [ms_l2Word] at h
 refine AC.enter Tryz.func120 rfl (cV 100 (bB h fun r2 hx2 h => (CO.sw mix (wR 2 100 (wD (ms_l1Pick_ok [[120], [121], [110], [105], [97, 114, 114], [78, 82], [70, 83], [116, 111, 116, 97, 108], [97, 49], [95, 116], [99, 111, 117, 110, 116]] pa pb pc hx2) cok46 [(0, 0)] [(0, 0)] [] (LayOk.cons (j := 100) eNS eNS ([[120], [121], [110], [105], [97, 114, 114], [78, 82], [70, 83], [116, 111, 116, 97, 108], [97, 49], [95, 116], [99, 111, 117, 110, 116]] : LLU) (by kernel_rfl) (fun _ => rfl) lO) (wR 1 101 (wF (CO.ret ?_))))))))
 have h := sI h
 subst h
 exact eG [(0, 0)] (.inr rfl) (RetV.one rfl (oT (t := 2) (r := V.s r2.1)))

theorem ms_l7Leaf_ok (pa : LU) (pb : Int) (pc : Int) {r : (LN × Int × Int)} (h : ms_l7Leaf pa pb pc = some r) :
    AC Tryz.prog (GS []) 129 [.loc 0 0] [(0, .cells 65 [sL byteRow pa, V.i pb, V.i pc])] (.own 100) [(0, .cells 65 [sL byteRow pa, V.i r.2.1, V.i r.2.2]), (100, .vec false 108 5 (r.1.map (eSN true)))] := by
 rw [ms_l7Leaf] at h
 refine AC.enter Tryz.func129 rfl (cV 100 ?_)
 refine CO.join (fun (⟨y11, y12⟩ : (Int × Int)) => ⟨tl 29 [(0, .loc 0 0)], [(0, .cells 65 [sL byteRow pa, V.i y11, V.i y12])]⟩) (fun i => ms_l7Leaf_k1 pa i = some r) ?_ ?_
 · rintro ⟨y11, y12⟩ h15
   rw [ms_l7Leaf_k1] at h15
   refine bB h15 fun r14 hx17 h15 => (CO.sw mix (wR 1 100 (wC (ms_l2Word_ok pa y11 y12 hx17) cok120 [(0, 0)] [(0, 0)] [] (wR 3 100 (wF (CO.ret ?_))))))
   cases h15
   exact eG [(0, 0), (100, 100)] (.inr rfl) (RetV.one rfl (oT (t := 2) (r := .own 100)))
 intro hk18
 refine bB h fun r16 hx20 h => (CO.sw mix (wR 1 100 (wC (ms_l1Below_ok 7 pa pb pc hx20) cok37 [(0, 0)] [(0, 0)] [] (wF (CO.block' (cV 100 ?_))))))
 refine cI h (fun _ h => ?_) (fun _ h => ?_)
 ·refine bB h fun r18 hx23 h => (CO.sw mix (wR 1 100 (wC (ms_l4Num_ok pa r16.2.1 r16.2.2 hx23) cok117 [(0, 0)] [(0, 0)] [] (wR 3 100 (wF (CO.ret ?_))))))
  cases h
  exact eG [(0, 0), (100, 100)] (.inr rfl) (RetV.one rfl (oT (t := 2) (r := .own 100)))
 refine cV 100 ?_
 refine cI h (fun _ h => ?_) (fun _ h => ?_)
 ·refine bB h fun r20 hx26 h => (CO.sw mix (wR 1 100 (wC (ms_l4Str_ok pa r16.2.1 r16.2.2 hx26) cok118 [(0, 0)] [(0, 0)] [] (wR 3 100 (wF (CO.ret ?_))))))
  cases h
  exact eG [(0, 0), (100, 100)] (.inr rfl) (RetV.one rfl (oT (t := 2) (r := .own 100)))
 refine cV 100 ?_
 refine cI h (fun _ h => ?_) (fun _ h => ?_)
 ·refine bB h fun r22 hx29 h => (CO.sw mix (wR 1 100 (wC (ms_l1Once_ok 2 pa r16.2.1 r16.2.2 hx29) cok48 [(0, 0)] [(0, 0)] [] (wF ?_))))
  refine cI h (fun _ h => ?_) (fun _ h => ?_)
  ·refine bB h fun r24 hx32 h => (CO.sw mix (wR 1 100 (wC (ms_l4Ere_ok pa r22.2.1 r22.2.2 hx32) cok119 [(0, 0)] [(0, 0)] [] (wR 3 100 (wF (CO.ret ?_))))))
   cases h
   exact eG [(0, 0), (100, 100)] (.inr rfl) (RetV.one rfl (oT (t := 2) (r := .own 100)))
  exact sK hk18 (r22.2.1, r22.2.2) h [(0, 0)] [0]
 exact sK hk18 (r16.2.1, r16.2.2) h [(0, 0)] [0]

theorem ms_l6Shift_ok (N : Nat) (a0 : LN) (a1 : Int) {r : LN} (h : ms_l6Shift N a0 a1 = some r) :
    AC Tryz.prog (GS []) 144 [.sl false false (a0.map (eSN false)), V.i a1] [] (.own 100) [(100, .vec false 108 5 (r.map (eSN true)))] := by
 rw [ms_l6Shift] at h
 refine AC.enter Tryz.func144 rfl (cV 100 (cV 100 (CO.seq' (cV 101 (CO.block' (CO.loopJ (fun (⟨a0, a1, y869, y870⟩ : (LN × Int × Int × LN)) => ⟨tl 52 [(0, .sl false false (a0.map (eSN false))), (1, V.i a1), (5, .own 100), (6, V.i y869)], [(100, .vec false 108 5 (y870.map (eSN true)))]⟩) (fun n i => ms_l6Shift_l1 N n i = some r) (n0 := N) (i0 := (a0, a1, 0, [])) (wS [(100, 100)] [0, 1, 5, 6]) h (fun i h => by simp [ms_l6Shift_l1] at h) ?_))))))
 rintro n1 ⟨a0, a1, y869, y870⟩ h1173 ih1174
 rw [ms_l6Shift_l1] at h1173
 refine CO.seq' (CO.sw mix (wR 2 297 (wN (eSN false) a0 [] (wR 1 297 (wF ?_)))))
 refine cI h1173 (fun _ h1173 => ?_) (fun _ h1173 => ?_)
 ·refine CO.skip (CO.seq' (CO.block' (bB h1173 fun e1198 hx1294 h1173 => (CO.sw mix (wR 2 297 (wX (eSN false) hx1294 5 (wR 3 297 (wF ?_))))))))
  refine cV 298 (CO.seq' (cV 299 (CO.block' (CO.loopJ (fun (⟨a0, a1, y869, y870, e1198, y1267, y1268⟩ : (LN × Int × Int × LN × SNode × Int × (List Int))) => ⟨tl 52 [(0, .sl false false (a0.map (eSN false))), (1, V.i a1), (5, .own 100), (6, V.i y869), (7, .loc 101 0), (8, V.i y1267)], [(100, .vec false 108 5 (y870.map (eSN true))), (101, .cells 108 [V.i e1198.Kind, V.i e1198.Op, V.s e1198.Text, V.s e1198.Other, .own 102]), (102, vX 3 1 eNI y1268)]⟩) (fun n i => ms_l6Shift_l2 N (ms_l6Shift_l1 N n1) n i = some r) (n0 := N) (i0 := (a0, a1, y869, y870, e1198, 0, [])) (wS [(100, 100), (297, 101), (298, 102)] [0, 1, 5, 6, 7, 8]) h1173 (fun i h => by simp [ms_l6Shift_l2] at h) ?_))))
  rintro n2 ⟨a0, a1, y869, y870, e1198, y1267, y1268⟩ h1387 ih1388
  rw [ms_l6Shift_l2] at h1387
  refine CO.seq' (bB h1387 fun e1290 hx1393 h1387 => (CO.sw mix (wR 3 363 (wX (eSN false) hx1393 5 (wR 2 363 (wN eNI e1290.Kids [] (wR 1 363 (wF ?_))))))))
  refine cI h1387 (fun _ h1387 => ?_) (fun _ h1387 => ?_)
  ·refine CO.skip (CO.seq' (CO.block' (bB h1387 fun e1300 hx1404 h1387 => (bB h1387 fun e1301 hx1405 h1387 => (bB h1387 fun x1302 hx1406 h1387 => ?_)))))
   refine CO.endR (tl 52 [(0, .sl false false (a0.map (eSN false))), (1, V.i a1), (5, .own 100), (6, V.i y869), (7, .loc 101 0), (8, V.i y1267)]) [(101, .cells 108 [V.i e1198.Kind, V.i e1198.Op, V.s e1198.Text, V.s e1198.Other, .own 364]), (364, vX 3 1 eNI x1302), (100, .vec false 108 5 (y870.map (eSN true)))] mix (by
    refine wR 4 363 (wX (eSN false) hx1404 5 (wR 3 363 (wX eNI hx1405 1 (wR 4 363 (W.appO Dk eNI (a := 102) (c := 363) (el := 3) (sz := 1) 8 hx1406 rfl 364 (by kernel_rfl) (wR 2 365 ?_))))))
    exact fI
    ) (fun st hw => ?_)
   refine CO.weak hw ?_
   exact cK 365 ih1388 (a0, a1, y869, y870, e1198, (wr (y1267 + 1)), x1302) h1387 [(100, 100), (101, 101), (364, 102)] [0, 1, 5, 6, 7, 8]
  refine CO.exit (bB h1387 fun x1304 hx1408 h1387 => ?_)
  refine CO.endR (tl 52 [(0, .sl false false (a0.map (eSN false))), (1, V.i a1), (5, .own 364), (6, V.i y869)]) [(364, .vec false 108 5 (x1304.map (eSN true)))] mix (by
   refine wR 3 363 (W.appO Dk (eSN true) (a := 100) (c := 363) (el := 108) (sz := 5) 72 hx1408 rfl 364 (by kernel_rfl) (wR 1 365 ?_))
   exact fI
   ) (fun st hw => ?_)
  refine CO.weak hw ?_
  exact cK 365 ih1174 (a0, a1, (wr (y869 + 1)), x1304) h1387 [(364, 100)] [0, 1, 5, 6]
 refine CO.exit (cV 297 (CO.ret ?_))
 cases h1173
 exact eG [(100, 100)] (.inr rfl) (RetV.one rfl (oT (t := 4) (r := .own 100)))

theorem ms_l6Make_ok (N : Nat) (a0 : SNode) (a1 : List LN) {r : LN} (h : ms_l6Make N a0 a1 = some r) :
    AC Tryz.prog (GS []) 131 [.agg [V.i a0.Kind, V.i a0.Op, V.s a0.Text, V.s a0.Other, sL eNI a0.Kids], .sl false false (a1.map (encL false (eSN false)))] [] (.own 100) [(100, .vec false 108 5 (r.map (eSN true)))] := by
 rw [ms_l6Make] at h
 refine AC.enter Tryz.func131 rfl (cV 100 (cV 101 (cV 102 (CO.seq' (cV 103 (CO.block' (CO.loopJ (fun (⟨a1, a0, y71, y72, y73⟩ : ((List LN) × SNode × Int × LN × (List Int))) => ⟨tl 37 [(1, .sl false false (a1.map (encL false (eSN false)))), (2, .loc 100 0), (5, .own 101), (6, V.i y71)], [(100, .cells 108 [V.i a0.Kind, V.i a0.Op, V.s a0.Text, V.s a0.Other, .own 102]), (101, .vec false 108 5 (y72.map (eSN true))), (102, vX 3 1 eNI y73)]⟩) (fun n i => ms_l6Make_l1 N n i = some r) (n0 := N) (i0 := (a1, a0, 0, [], [])) (wS [(100, 100), (101, 101), (102, 102)] [1, 2, 5, 6]) h (fun i h => by simp [ms_l6Make_l1] at h) ?_)))))))
 rintro n1 ⟨a1, a0, y71, y72, y73⟩ h93 ih94
 rw [ms_l6Make_l1] at h93
 refine CO.seq' (CO.sw mix (wR 2 171 (wN (encL false (eSN false)) a1 [] (wR 1 171 (wF ?_)))))
 refine cI h93 (fun _ h93 => ?_) (fun _ h93 => ?_)
 ·refine CO.skip (CO.seq' (CO.block' (bB h93 fun e104 hx108 h93 => (bB h93 fun r105 hx109 h93 => (bB h93 fun x106 hx110 h93 => (CO.sw mix (wR 3 171 (wX (encL false (eSN false)) hx108 1 ?_))))))))
  refine wR 2 171 (wN (eSN true) y72 [101] (wC (ms_l6Shift_ok N e104 (y72.length : Int) hx109) cok144 [] [(100, 171)] [171] (W.appO Dk (eSN true) (a := 101) (c := 171) (el := 108) (sz := 5) 72 hx110 rfl 172 (by kernel_rfl) (wR 1 173 (wF (bB h93 fun x108 hx112 h93 => ?_))))))
  refine CO.endR (tl 37 [(1, .sl false false (a1.map (encL false (eSN false)))), (2, .loc 100 0), (5, .own 172), (6, V.i y71)]) [(100, .cells 108 [V.i a0.Kind, V.i a0.Op, V.s a0.Text, V.s a0.Other, .own 174]), (174, vX 3 1 eNI x108), (172, .vec false 108 5 (x106.map (eSN true)))] mix (by
   refine wR 3 173 (wN (eSN true) x106 [172] (wR 2 173 (W.appO Dk eNI (a := 102) (c := 173) (el := 3) (sz := 1) 8 hx112 rfl 174 (by kernel_rfl) (wR 2 175 ?_))))
   exact fI
   ) (fun st hw => ?_)
  refine CO.weak hw ?_
  exact cK 175 ih94 (a1, a0, (wr (y71 + 1)), x106, x108) h93 [(100, 100), (172, 101), (174, 102)] [1, 2, 5, 6]
 refine CO.exit (bB h93 fun x110 hx114 h93 => (CO.sw mix (wR 3 171 (W.appO Dk (eSN true) (a := 101) (c := 171) (el := 108) (sz := 5) 72 hx114 rfl 172 (by kernel_rfl) (wR 1 173 (wF (CO.ret ?_)))))))
 cases h93
 exact eG [(172, 100)] (.inr rfl) (RetV.one rfl (oT (t := 4) (r := .own 172)))

theorem ms_l1PickInt_ok (a1 : List Int) (pa : LU) (pb : Int) (pc : Int) {r : (Int × Int × Int)} (h : ms_l1PickInt a1 pa pb pc = some r) :
    AC Tryz.prog (GS []) 49 [.loc 0 0, sL eNI a1] [(0, .cells 65 [sL byteRow pa, V.i pb, V.i pc])] (V.i r.1) [(0, .cells 65 [sL byteRow pa, V.i r.2.1, V.i r.2.2])] := by
 rw [ms_l1PickInt] at h
 refine AC.enter Tryz.func49 rfl (cV 100 (bB h fun r3 hx3 h => (bB h fun e4 hx4 h => (CO.sw mix (wR 3 100 (wN eNI a1 [] (wC (ms_l1Below_ok (a1.length : Int) pa pb pc hx3) cok37 [(0, 0)] [(0, 0)] [] (wX eNI hx4 1 ?_))))))))
 refine wR 2 100 (wF (CO.ret ?_))
 have h := sI h
 subst h
 exact eG [(0, 0)] (.inr rfl) (RetV.one rfl (oT (t := 4) (r := V.i e4)))

theorem ms_l7BinOp_ok (pa : LU) (pb : Int) (pc : Int) {r : (Int × Int × Int)} (h : ms_l7BinOp pa pb pc = some r) :
    AC Tryz.prog (GS []) 133 [.loc 0 0] [(0, .cells 65 [sL byteRow pa, V.i pb, V.i pc])] (V.i r.1) [(0, .cells 65 [sL byteRow pa, V.i r.2.1, V.i r.2.2])] := by
 rw [ms_l7BinOp] at h
 refine AC.enter Tryz.func133 rfl (cV 100 (bB h fun r2 hx2 h => (CO.sw mix (wR 2 100 (wD (ms_l1PickInt_ok [60, 57, 58, 59, 55, 56, 56, 99, 99, 99, 63, 48, 47, 50, 62, 62, 49, 67, 46, 45, 44] pa pb pc hx2) cok49 [(0, 0)] [(0, 0)] [] (LayOk.cons (j := 100) eNI eNI ([60, 57, 58, 59, 55, 56, 56, 99, 99, 99, 63, 48, 47, 50, 62, 62, 49, 67, 46, 45, 44] : List Int) (by kernel_rfl) (fun _ => rfl) lO) (wR 1 101 (wF (CO.ret ?_))))))))
 have h := sI h
 subst h
 exact eG [(0, 0)] (.inr rfl) (RetV.one rfl (oT (t := 2) (r := V.i r2.1)))

structure RecOk1 (R : Rec1) : Prop where
 ms_l7List : ∀ (a1 : Int) (a2 : Int) (a3 : Int) (pa : LU) (pb : Int) (pc : Int) (r : ((List LN) × Int × Int)), R.ms_l7List a1 a2 a3 pa pb pc = some r → AC Tryz.prog (GS []) 132 [.loc 0 0, V.i a1, V.i a2, V.i a3] [(0, .cells 65 [sL byteRow pa, V.i pb, V.i pc])] (.own 100) [(0, .cells 65 [sL byteRow pa, V.i r.2.1, V.i r.2.2]), (100, .vec false 90 1 (r.1.map (encL true (eSN true))))]
 ms_l7Lvalue : ∀ (a1 : Int) (pa : LU) (pb : Int) (pc : Int) (r : (LN × Int × Int)), R.ms_l7Lvalue a1 pa pb pc = some r → AC Tryz.prog (GS []) 130 [.loc 0 0, V.i a1] [(0, .cells 65 [sL byteRow pa, V.i pb, V.i pc])] (.own 100) [(0, .cells 65 [sL byteRow pa, V.i r.2.1, V.i r.2.2]), (100, .vec false 108 5 (r.1.map (eSN true)))]
 ms_l7Expr : ∀ (a1 : Int) (pa : LU) (pb : Int) (pc : Int) (r : (LN × Int × Int)), R.ms_l7Expr a1 pa pb pc = some r → AC Tryz.prog (GS []) 110 [.loc 0 0, V.i a1] [(0, .cells 65 [sL byteRow pa, V.i pb, V.i pc])] (.own 100) [(0, .cells 65 [sL byteRow pa, V.i r.2.1, V.i r.2.2]), (100, .vec false 108 5 (r.1.map (eSN true)))]

theorem ms_l7List_F_ok (N : Nat) (R : Rec1) (HR : RecOk1 R) (a1 : Int) (a2 : Int) (a3 : Int) (pa : LU) (pb : Int) (pc : Int) {r : ((List LN) × Int × Int)} (h : ms_l7List_F N R a1 a2 a3 pa pb pc = some r) :
    AC Tryz.prog (GS []) 132 [.loc 0 0, V.i a1, V.i a2, V.i a3] [(0, .cells 65 [sL byteRow pa, V.i pb, V.i pc])] (.own 100) [(0, .cells 65 [sL byteRow pa, V.i r.2.1, V.i r.2.2]), (100, .vec false 90 1 (r.1.map (encL true (eSN true))))] := by
 rw [ms_l7List_F] at h
 refine AC.enter Tryz.func132 rfl (cV 100 (cV 100 (CO.seq' (bB h fun r36 hx36 h => (CO.sw mix (wR 6 101 (wC (ms_l1Below_ok (wr ((wr (a2 - a1)) + 1)) pa pb pc hx36) cok37 [(0, 0)] [(0, 0)] [] (wR 2 101 ?_))))))))
 refine wF (CO.block' (CO.loopJ (fun (⟨a3, y45, y46, y47, y48⟩ : (Int × Int × Int × Int × (List LN))) => ⟨tl 31 [(0, .loc 0 0), (3, V.i a3), (9, .own 100), (10, V.i y45)], [(0, .cells 65 [sL byteRow pa, V.i y46, V.i y47]), (100, .vec false 90 1 (y48.map (encL true (eSN true))))]⟩) (fun n i => ms_l7List_l1 N R pa n i = some r) (n0 := N) (i0 := (a3, (wr (a1 + r36.1)), r36.2.1, r36.2.2, [])) (wS [(0, 0), (100, 100)] [0, 3, 9, 10]) h (fun i h => by simp [ms_l7List_l1] at h) ?_))
 rintro n1 ⟨a3, y45, y46, y47, y48⟩ h57 ih58
 rw [ms_l7List_l1] at h57
 refine CO.seq' (cV 167 ?_)
 refine cI h57 (fun _ h57 => ?_) (fun _ h57 => ?_)
 ·refine CO.skip (CO.seq' (CO.block' (bB h57 fun r67 hx67 h57 => (bB h57 fun x68 hx68 h57 => ?_))))
  refine CO.endR (tl 31 [(0, .loc 0 0), (3, V.i a3), (9, .own 169), (10, V.i y45)]) [(169, .vec false 90 1 (x68.map (encL true (eSN true)))), (0, .cells 65 [sL byteRow pa, V.i r67.2.1, V.i r67.2.2])] mix (by
   refine wR 3 167 (wC (HR.ms_l7Expr a3 pa y46 y47 _ hx67) cok110 [(0, 0)] [(0, 0), (100, 167)] [167] (wR 1 168 (W.appO Dk (encL true (eSN true)) (a := 100) (c := 168) (el := 90) (sz := 1) 24 hx68 rfl 169 (by kernel_rfl) (wR 1 170 ?_))))
   exact fI
   ) (fun st hw => ?_)
  refine CO.weak hw ?_
  exact cK 170 ih58 (a3, (wr (y45 - 1)), r67.2.1, r67.2.2, x68) h57 [(0, 0), (169, 100)] [0, 3, 9, 10]
 refine CO.exit (cV 167 (CO.ret ?_))
 cases h57
 exact eG [(0, 0), (100, 100)] (.inr rfl) (RetV.one rfl (oT (t := 8) (r := .own 100)))

theorem ms_l7Lvalue_F_ok (N : Nat) (R : Rec1) (HR : RecOk1 R) (a1 : Int) (pa : LU) (pb : Int) (pc : Int) {r : (LN × Int × Int)} (h : ms_l7Lvalue_F N R a1 pa pb pc = some r) :
    AC Tryz.prog (GS []) 130 [.loc 0 0, V.i a1] [(0, .cells 65 [sL byteRow pa, V.i pb, V.i pc])] (.own 100) [(0, .cells 65 [sL byteRow pa, V.i r.2.1, V.i r.2.2]), (100, .vec false 108 5 (r.1.map (eSN true)))] := by
 rw [ms_l7Lvalue_F] at h
 refine AC.enter Tryz.func130 rfl (cV 100 (CO.seq' (bB h fun r14 hx16 h => (CO.sw mix (wR 1 100 (wC (ms_l1Below_ok 4 pa pb pc hx16) cok37 [(0, 0)] [(0, 0)] [] (wF (CO.block' ?_))))))))
 refine cV 100 ?_
 refine cI h (fun _ h => ?_) (fun _ h => ?_)
 ·refine bB h fun r18 hx21 h => (bB h fun r19 hx22 h => (bB h fun r20 hx23 h => (CO.sw mix (wR 1 100 (wC (ms_l2Word_ok pa r14.2.1 r14.2.2 hx21) cok120 [(0, 0)] [(0, 0)] [] (wR 4 100 (wC (HR.ms_l7Expr (wr (a1 - 1)) pa r18.2.1 r18.2.2 _ hx22) cok110 [(0, 0)] [(0, 0), (100, 100)] [100] (wR 1 101 ?_))))))))
  refine W.lend (ms_l6Make_ok N (⟨5, 0, r18.1, [], []⟩ : SNode) [r19.1] hx23) cok131 [(100, 102)] [102] (LayOk.cons (j := 101) (encL true (eSN true)) (encL false (eSN false)) ([r19.1] : List LN) (by kernel_rfl) (share_encL _ (sh_eSN _)) lO) (.own _) (.cons (DeepR.map (fun _ => (.cons (.c _) (.cons (.c _) (.cons (.c _) (.cons (.c _) (.cons (.sl _ _ (DeepR.map (fun _ => (.cons (.c _) .nil)) _)) .nil)))))) _) .nil) (by kernel_rfl) (by kernel_rfl) (wR 1 103 (wF (CO.ret ?_)))
  cases h
  exact eG [(0, 0), (102, 100)] (.inr rfl) (RetV.one rfl (oT (t := 4) (r := .own 102)))
 refine cV 100 ?_
 refine cI h (fun _ h => ?_) (fun _ h => ?_)
 ·refine bB h fun r23 hx27 h => (bB h fun r24 hx28 h => (CO.sw mix (wR 4 100 (wC (HR.ms_l7Expr (wr (a1 - 2)) pa r14.2.1 r14.2.2 _ hx27) cok110 [(0, 0)] [(0, 0), (100, 100)] [100] (wR 1 101 (W.lend (ms_l6Make_ok N (⟨6, 0, [], [], []⟩ : SNode) [r23.1] hx28) cok131 [(100, 102)] [102] (LayOk.cons (j := 101) (encL true (eSN true)) (encL false (eSN false)) ([r23.1] : List LN) (by kernel_rfl) (share_encL _ (sh_eSN _)) lO) (.own _) (.cons (DeepR.map (fun _ => (.cons (.c _) (.cons (.c _) (.cons (.c _) (.cons (.c _) (.cons (.sl _ _ (DeepR.map (fun _ => (.cons (.c _) .nil)) _)) .nil)))))) _) .nil) (by kernel_rfl) (by kernel_rfl) (wR 1 103 (wF ?_))))))))
  refine CO.ret ?_
  cases h
  exact eG [(0, 0), (102, 100)] (.inr rfl) (RetV.one rfl (oT (t := 4) (r := .own 102)))
 refine CO.skip (bB h fun r26 hx30 h => (CO.sw mix (wR 1 100 (wC (ms_l2Word_ok pa r14.2.1 r14.2.2 hx30) cok120 [(0, 0)] [(0, 0)] [] (wR 3 100 (wF (CO.ret ?_)))))))
 cases h
 exact eG [(0, 0), (100, 100)] (.inr rfl) (RetV.one rfl (oT (t := 4) (r := .own 100)))

theorem ms_l7Expr_F_ok (N : Nat) (R : Rec1) (HR : RecOk1 R) (a1 : Int) (pa : LU) (pb : Int) (pc : Int) {r : (LN × Int × Int)} (h : ms_l7Expr_F N R a1 pa pb pc = some r) :
    AC Tryz.prog (GS []) 110 [.loc 0 0, V.i a1] [(0, .cells 65 [sL byteRow pa, V.i pb, V.i pc])] (.own 100) [(0, .cells 65 [sL byteRow pa, V.i r.2.1, V.i r.2.2]), (100, .vec false 108 5 (r.1.map (eSN true)))] := by
 rw [ms_l7Expr_F] at h
 refine AC.enter Tryz.func110 rfl (cV 100 (CO.seq' (cV 100 ?_)))
 refine cI h (fun _ h => ?_) (fun _ h => ?_)
 ·refine bB h fun r4 hx6 h => (CO.sw mix (wR 1 100 (wC (ms_l7Leaf_ok pa pb pc hx6) cok129 [(0, 0)] [(0, 0), (100, 100)] [100] (wR 1 101 (wF (CO.ret ?_))))))
  cases h
  exact eG [(0, 0), (100, 100)] (.inr rfl) (RetV.one rfl (oT (t := 4) (r := .own 100)))
 refine CO.skip (bB h fun r6 hx8 h => (CO.sw mix (wR 1 100 (wC (ms_l1Below_ok 2 pa pb pc hx8) cok37 [(0, 0)] [(0, 0)] [] (wR 2 100 (wF (CO.seq' (bB h fun r67 hx83 h => ?_))))))))
 refine CO.sw mix (wR 1 100 (wC (ms_l1Below_ok 16 pa r6.2.1 r6.2.2 hx83) cok37 [(0, 0)] [(0, 0)] [] (wF (CO.block' (cV 100 ?_)))))
 refine cI h (fun _ h => ?_) (fun _ h => ?_)
 ·refine bB h fun r69 hx86 h => (CO.sw mix (wR 1 100 (wC (ms_l7Leaf_ok pa r67.2.1 r67.2.2 hx86) cok129 [(0, 0)] [(0, 0), (100, 100)] [100] (wR 1 101 (wF (CO.ret ?_))))))
  cases h
  exact eG [(0, 0), (100, 100)] (.inr rfl) (RetV.one rfl (oT (t := 4) (r := .own 100)))
 refine cV 100 ?_
 refine cI h (fun _ h => ?_) (fun _ h => ?_)
 ·refine bB h fun r71 hx89 h => (CO.sw mix (wR 2 100 (wC (HR.ms_l7Lvalue a1 pa r67.2.1 r67.2.2 _ hx89) cok130 [(0, 0)] [(0, 0), (100, 100)] [100] (wR 1 101 (wF (CO.ret ?_))))))
  cases h
  exact eG [(0, 0), (100, 100)] (.inr rfl) (RetV.one rfl (oT (t := 4) (r := .own 100)))
 refine cV 100 ?_
 refine cI h (fun _ h => ?_) (fun _ h => ?_)
 ·refine bB h fun r74 hx93 h => (bB h fun r75 hx94 h => (CO.sw mix (wR 4 100 (wC (HR.ms_l7Expr (wr (a1 - 1)) pa r67.2.1 r67.2.2 _ hx93) cok110 [(0, 0)] [(0, 0), (100, 100)] [100] (wR 1 101 (W.lend (ms_l6Make_ok N (⟨6, 0, [], [], []⟩ : SNode) [r74.1] hx94) cok131 [(100, 102)] [102] (LayOk.cons (j := 101) (encL true (eSN true)) (encL false (eSN false)) ([r74.1] : List LN) (by kernel_rfl) (share_encL _ (sh_eSN _)) lO) (.own _) (.cons (DeepR.map (fun _ => (.cons (.c _) (.cons (.c _) (.cons (.c _) (.cons (.c _) (.cons (.sl _ _ (DeepR.map (fun _ => (.cons (.c _) .nil)) _)) .nil)))))) _) .nil) (by kernel_rfl) (by kernel_rfl) (wR 1 103 (wF ?_))))))))
  refine CO.ret ?_
  cases h
  exact eG [(0, 0), (102, 100)] (.inr rfl) (RetV.one rfl (oT (t := 4) (r := .own 102)))
 refine cV 100 ?_
 refine cI h (fun _ h => ?_) (fun _ h => ?_)
 ·refine bB h fun r79 hx99 h => (bB h fun r80 hx100 h => (bB h fun r81 hx101 h => (CO.sw mix (wR 1 100 (wC (ms_l2Word_ok pa r67.2.1 r67.2.2 hx99) cok120 [(0, 0)] [(0, 0)] [] (wR 4 100 (wC (HR.ms_l7List 0 3 (wr (a1 - 1)) pa r79.2.1 r79.2.2 _ hx100) cok132 [(0, 0)] [(0, 0), (100, 100)] [100] (W.lend (ms_l6Make_ok N (⟨7, 0, r79.1, [], []⟩ : SNode) r80.1 hx101) cok131 [(100, 101)] [101] (LayOk.cons (j := 100) (encL true (eSN true)) (encL false (eSN false)) r80.1 (by kernel_rfl) (share_encL _ (sh_eSN _)) lO) (.own _) (.cons (DeepR.map (fun _ => (.cons (.c _) (.cons (.c _) (.cons (.c _) (.cons (.c _) (.cons (.sl _ _ (DeepR.map (fun _ => (.cons (.c _) .nil)) _)) .nil)))))) _) .nil) (by kernel_rfl) (by kernel_rfl) ?_))))))))
  refine wR 1 102 (wF (CO.ret ?_))
  cases h
  exact eG [(0, 0), (101, 100)] (.inr rfl) (RetV.one rfl (oT (t := 4) (r := .own 101)))
 refine cV 100 ?_
 refine cI h (fun _ h => ?_) (fun _ h => ?_)
 ·refine bB h fun r85 hx106 h => (bB h fun r86 hx107 h => (bB h fun r87 hx108 h => (CO.sw mix (wR 2 100 (wD (ms_l1Pick_ok [[108, 101, 110, 103, 116, 104], [115, 117, 98, 115, 116, 114], [105, 110, 100, 101, 120], [105, 110, 116], [116, 111, 117, 112, 112, 101, 114]] pa r67.2.1 r67.2.2 hx106) cok46 [(0, 0)] [(0, 0)] [] (LayOk.cons (j := 100) eNS eNS ([[108, 101, 110, 103, 116, 104], [115, 117, 98, 115, 116, 114], [105, 110, 100, 101, 120], [105, 110, 116], [116, 111, 117, 112, 112, 101, 114]] : LLU) (by kernel_rfl) (fun _ => rfl) lO) (wR 4 101 (wC (HR.ms_l7List 0 3 (wr (a1 - 2)) pa r85.2.1 r85.2.2 _ hx107) cok132 [(0, 0)] [(0, 0), (100, 101)] [101] (W.lend (ms_l6Make_ok N (⟨8, 0, r85.1, [], []⟩ : SNode) r86.1 hx108) cok131 [(100, 102)] [102] (LayOk.cons (j := 101) (encL true (eSN true)) (encL false (eSN false)) r86.1 (by kernel_rfl) (share_encL _ (sh_eSN _)) lO) (.own _) (.cons (DeepR.map (fun _ => (.cons (.c _) (.cons (.c _) (.cons (.c _) (.cons (.c _) (.cons (.sl _ _ (DeepR.map (fun _ => (.cons (.c _) .nil)) _)) .nil)))))) _) .nil) (by kernel_rfl) (by kernel_rfl) ?_))))))))
  refine wR 1 103 (wF (CO.ret ?_))
  cases h
  exact eG [(0, 0), (102, 100)] (.inr rfl) (RetV.one rfl (oT (t := 4) (r := .own 102)))
 refine cV 100 ?_
 refine cI h (fun _ h => ?_) (fun _ h => ?_)
 ·refine bB h fun r90 hx112 h => (bB h fun r91 hx113 h => (CO.sw mix (wR 5 100 (wC (HR.ms_l7Lvalue (wr (a1 - 1)) pa r67.2.1 r67.2.2 _ hx112) cok130 [(0, 0)] [(0, 0), (100, 100)] [100] (wR 1 101 (W.lend (ms_l6Make_ok N (⟨9, (wr (51 + r6.1)), [], [], []⟩ : SNode) [r90.1] hx113) cok131 [(100, 102)] [102] (LayOk.cons (j := 101) (encL true (eSN true)) (encL false (eSN false)) ([r90.1] : List LN) (by kernel_rfl) (share_encL _ (sh_eSN _)) lO) (.own _) (.cons (DeepR.map (fun _ => (.cons (.c _) (.cons (.c _) (.cons (.c _) (.cons (.c _) (.cons (.sl _ _ (DeepR.map (fun _ => (.cons (.c _) .nil)) _)) .nil)))))) _) .nil) (by kernel_rfl) (by kernel_rfl) (wR 1 103 (wF ?_))))))))
  refine CO.ret ?_
  cases h
  exact eG [(0, 0), (102, 100)] (.inr rfl) (RetV.one rfl (oT (t := 4) (r := .own 102)))
 refine cV 100 ?_
 refine cI h (fun _ h => ?_) (fun _ h => ?_)
 ·refine bB h fun r94 hx117 h => (bB h fun r95 hx118 h => (CO.sw mix (wR 5 100 (wC (HR.ms_l7Lvalue (wr (a1 - 1)) pa r67.2.1 r67.2.2 _ hx117) cok130 [(0, 0)] [(0, 0), (100, 100)] [100] (wR 1 101 (W.lend (ms_l6Make_ok N (⟨10, (wr (51 + r6.1)), [], [], []⟩ : SNode) [r94.1] hx118) cok131 [(100, 102)] [102] (LayOk.cons (j := 101) (encL true (eSN true)) (encL false (eSN false)) ([r94.1] : List LN) (by kernel_rfl) (share_encL _ (sh_eSN _)) lO) (.own _) (.cons (DeepR.map (fun _ => (.cons (.c _) (.cons (.c _) (.cons (.c _) (.cons (.c _) (.cons (.sl _ _ (DeepR.map (fun _ => (.cons (.c _) .nil)) _)) .nil)))))) _) .nil) (by kernel_rfl) (by kernel_rfl) (wR 1 103 (wF ?_))))))))
  refine CO.ret ?_
  cases h
  exact eG [(0, 0), (102, 100)] (.inr rfl) (RetV.one rfl (oT (t := 4) (r := .own 102)))
 refine CO.join (fun (⟨a1, r67, y96⟩ : (Int × (Int × Int × Int) × Bool)) => ⟨tl 143 [(0, .loc 0 0), (1, V.i a1), (14, V.i r67.1), (74, V.b y96)], [(0, .cells 65 [sL byteRow pa, V.i r67.2.1, V.i r67.2.2])]⟩) (fun i => ms_l7Expr_k1 N R pa i = some r) ?_ ?_
 · rintro ⟨a1, r67, y96⟩ h120
   rw [ms_l7Expr_k1] at h120
   refine cI h120 (fun _ h120 => ?_) (fun _ h120 => ?_)
   ·refine bB h120 fun r100 hx125 h120 => (bB h120 fun r101 hx126 h120 => (bB h120 fun r102 hx127 h120 => (CO.sw mix (wR 2 100 (wD (ms_l1PickInt_ok [56, 55, 61] pa r67.2.1 r67.2.2 hx125) cok49 [(0, 0)] [(0, 0)] [] (LayOk.cons (j := 100) eNI eNI ([56, 55, 61] : List Int) (by kernel_rfl) (fun _ => rfl) lO) (wR 4 101 (wC (HR.ms_l7Expr (wr (a1 - 1)) pa r100.2.1 r100.2.2 _ hx126) cok110 [(0, 0)] [(0, 0), (100, 101)] [101] (wR 1 102 ?_))))))))
    refine W.lend (ms_l6Make_ok N (⟨11, r100.1, [], [], []⟩ : SNode) [r101.1] hx127) cok131 [(100, 103)] [103] (LayOk.cons (j := 102) (encL true (eSN true)) (encL false (eSN false)) ([r101.1] : List LN) (by kernel_rfl) (share_encL _ (sh_eSN _)) lO) (.own _) (.cons (DeepR.map (fun _ => (.cons (.c _) (.cons (.c _) (.cons (.c _) (.cons (.c _) (.cons (.sl _ _ (DeepR.map (fun _ => (.cons (.c _) .nil)) _)) .nil)))))) _) .nil) (by kernel_rfl) (by kernel_rfl) (wR 1 104 (wF (CO.ret ?_)))
    cases h120
    exact eG [(0, 0), (103, 100)] (.inr rfl) (RetV.one rfl (oT (t := 4) (r := .own 103)))
   refine cV 100 ?_
   refine cI h120 (fun _ h120 => ?_) (fun _ h120 => ?_)
   ·refine bB h120 fun r106 hx132 h120 => (bB h120 fun r107 hx133 h120 => (bB h120 fun r108 hx134 h120 => (CO.sw mix (wR 1 100 (wC (ms_l2Word_ok pa r67.2.1 r67.2.2 hx132) cok120 [(0, 0)] [(0, 0)] [] (wR 4 100 (wC (HR.ms_l7List 1 2 (wr (a1 - 1)) pa r106.2.1 r106.2.2 _ hx133) cok132 [(0, 0)] [(0, 0), (100, 100)] [100] (W.lend (ms_l6Make_ok N (⟨13, 0, r106.1, [], []⟩ : SNode) r107.1 hx134) cok131 [(100, 101)] [101] (LayOk.cons (j := 100) (encL true (eSN true)) (encL false (eSN false)) r107.1 (by kernel_rfl) (share_encL _ (sh_eSN _)) lO) (.own _) (.cons (DeepR.map (fun _ => (.cons (.c _) (.cons (.c _) (.cons (.c _) (.cons (.c _) (.cons (.sl _ _ (DeepR.map (fun _ => (.cons (.c _) .nil)) _)) .nil)))))) _) .nil) (by kernel_rfl) (by kernel_rfl) ?_))))))))
    refine wR 1 102 (wF (CO.ret ?_))
    cases h120
    exact eG [(0, 0), (101, 100)] (.inr rfl) (RetV.one rfl (oT (t := 4) (r := .own 101)))
   refine cV 100 ?_
   refine cI h120 (fun _ h120 => ?_) (fun _ h120 => ?_)
   ·refine bB h120 fun r113 hx140 h120 => (bB h120 fun r114 hx141 h120 => (bB h120 fun r115 hx142 h120 => (bB h120 fun r116 hx143 h120 => (CO.sw mix (wR 4 100 (wC (HR.ms_l7Expr (wr (a1 - 1)) pa r67.2.1 r67.2.2 _ hx140) cok110 [(0, 0)] [(0, 0), (100, 100)] [100] (wR 3 101 (wC (HR.ms_l7Expr (wr (a1 - 1)) pa r113.2.1 r113.2.2 _ hx141) cok110 [(0, 0)] [(0, 0), (100, 101)] [101] ?_))))))))
    refine wR 3 102 (wC (HR.ms_l7Expr (wr (a1 - 1)) pa r114.2.1 r114.2.2 _ hx142) cok110 [(0, 0)] [(0, 0), (100, 102)] [102] (wR 1 103 (W.lend (ms_l6Make_ok N (⟨14, 0, [], [], []⟩ : SNode) [r113.1, r114.1, r115.1] hx143) cok131 [(100, 104)] [104] (LayOk.cons (j := 103) (encL true (eSN true)) (encL false (eSN false)) ([r113.1, r114.1, r115.1] : List LN) (by kernel_rfl) (share_encL _ (sh_eSN _)) lO) (.own _) (.cons (DeepR.map (fun _ => (.cons (.c _) (.cons (.c _) (.cons (.c _) (.cons (.c _) (.cons (.sl _ _ (DeepR.map (fun _ => (.cons (.c _) .nil)) _)) .nil)))))) _) .nil) (by kernel_rfl) (by kernel_rfl) (wR 1 105 (wF (CO.ret ?_))))))
    cases h120
    exact eG [(0, 0), (104, 100)] (.inr rfl) (RetV.one rfl (oT (t := 4) (r := .own 104)))
   refine cV 100 ?_
   refine cI h120 (fun _ h120 => ?_) (fun _ h120 => ?_)
   ·refine bB h120 fun r121 hx149 h120 => (bB h120 fun r122 hx150 h120 => (bB h120 fun r123 hx151 h120 => (bB h120 fun r124 hx152 h120 => (CO.sw mix (wR 2 100 (wD (ms_l1PickInt_ok [54, 38, 43] pa r67.2.1 r67.2.2 hx149) cok49 [(0, 0)] [(0, 0)] [] (LayOk.cons (j := 100) eNI eNI ([54, 38, 43] : List Int) (by kernel_rfl) (fun _ => rfl) lO) (wR 4 101 (wC (HR.ms_l7Lvalue (wr (a1 - 1)) pa r121.2.1 r121.2.2 _ hx150) cok130 [(0, 0)] [(0, 0), (100, 101)] [101] ?_))))))))
    refine wR 3 102 (wC (HR.ms_l7Expr (wr (a1 - 1)) pa r122.2.1 r122.2.2 _ hx151) cok110 [(0, 0)] [(0, 0), (100, 102)] [102] (wR 1 103 (W.lend (ms_l6Make_ok N (⟨15, r121.1, [], [], []⟩ : SNode) [r122.1, r123.1] hx152) cok131 [(100, 104)] [104] (LayOk.cons (j := 103) (encL true (eSN true)) (encL false (eSN false)) ([r122.1, r123.1] : List LN) (by kernel_rfl) (share_encL _ (sh_eSN _)) lO) (.own _) (.cons (DeepR.map (fun _ => (.cons (.c _) (.cons (.c _) (.cons (.c _) (.cons (.c _) (.cons (.sl _ _ (DeepR.map (fun _ => (.cons (.c _) .nil)) _)) .nil)))))) _) .nil) (by kernel_rfl) (by kernel_rfl) (wR 1 105 (wF (CO.ret ?_))))))
    cases h120
    exact eG [(0, 0), (104, 100)] (.inr rfl) (RetV.one rfl (oT (t := 4) (r := .own 104)))
   refine CO.skip (bB h120 fun r129 hx157 h120 => (bB h120 fun r130 hx158 h120 => (bB h120 fun r131 hx159 h120 => (bB h120 fun r132 hx160 h120 => (CO.sw mix (wR 1 100 (wC (ms_l7BinOp_ok pa r67.2.1 r67.2.2 hx157) cok133 [(0, 0)] [(0, 0)] [] (wR 4 100 ?_))))))))
   refine wC (HR.ms_l7Expr (wr (a1 - 1)) pa r129.2.1 r129.2.2 _ hx158) cok110 [(0, 0)] [(0, 0), (100, 100)] [100] (wR 3 101 (wC (HR.ms_l7Expr (wr (a1 - 1)) pa r130.2.1 r130.2.2 _ hx159) cok110 [(0, 0)] [(0, 0), (100, 101)] [101] (wR 1 102 (W.lend (ms_l6Make_ok N (⟨12, r129.1, [], [], []⟩ : SNode) [r130.1, r131.1] hx160) cok131 [(100, 103)] [103] (LayOk.cons (j := 102) (encL true (eSN true)) (encL false (eSN false)) ([r130.1, r131.1] : List LN) (by kernel_rfl) (share_encL _ (sh_eSN _)) lO) (.own _) (.cons (DeepR.map (fun _ => (.cons (.c _) (.cons (.c _) (.cons (.c _) (.cons (.c _) (.cons (.sl _ _ (DeepR.map (fun _ => (.cons (.c _) .nil)) _)) .nil)))))) _) .nil) (by kernel_rfl) (by kernel_rfl) (wR 1 104 (wF (CO.ret ?_)))))))
   cases h120
   exact eG [(0, 0), (103, 100)] (.inr rfl) (RetV.one rfl (oT (t := 4) (r := .own 103)))
 intro hk161
 refine cV 100 ?_
 refine cI h (fun _ h => ?_) (fun _ h => ?_)
 ·exact sK hk161 (a1, r67, (r67.1 == 7)) h [(0, 0)] [0, 1, 14, 74]
 exact cK 100 hk161 (a1, r67, (r67.1 == 8)) h [(0, 0)] [0, 1, 14, 74]

theorem scc1_ok : ∀ N, RecOk1 (scc1 N)
 | 0 => ⟨fun _ _ _ _ _ _ _ h => (by cases h), fun _ _ _ _ _ h => (by cases h), fun _ _ _ _ _ h => (by cases h)⟩
 | N + 1 => ⟨fun a1 a2 a3 pa pb pc _ h => ms_l7List_F_ok N (scc1 N) (scc1_ok N) a1 a2 a3 pa pb pc h, fun a1 pa pb pc _ h => ms_l7Lvalue_F_ok N (scc1 N) (scc1_ok N) a1 pa pb pc h, fun a1 pa pb pc _ h => ms_l7Expr_F_ok N (scc1 N) (scc1_ok N) a1 pa pb pc h⟩

theorem ms_l7Expr_ok (N : Nat) (a1 : Int) (pa : LU) (pb : Int) (pc : Int) {r : (LN × Int × Int)} (h : ms_l7Expr N a1 pa pb pc = some r) :
  AC Tryz.prog (GS []) 110 [.loc 0 0, V.i a1] [(0, .cells 65 [sL byteRow pa, V.i pb, V.i pc])] (.own 100) [(0, .cells 65 [sL byteRow pa, V.i r.2.1, V.i r.2.2]), (100, .vec false 108 5 (r.1.map (eSN true)))] :=
 (scc1_ok N).ms_l7Expr a1 pa pb pc r h

theorem ms_Top_ok {r : SPos} (h : ms_Top = some r) :
    AC Tryz.prog (GS []) 111 [] [] (.agg [V.i r.Level, V.b r.Dollar, V.b r.NoIn, V.b r.NoGt, V.b r.NoSign]) [] := by
 rw [ms_Top] at h
 refine AC.enter Tryz.func111 rfl (cV 100 (cV 101 (CO.ret ?_)))
 cases h
 exact eG [] (.inr rfl) (RetV.one rfl (OneR.cell Dk (r := .agg [V.i 1, V.b false, V.b false, V.b false, V.b false]) (i := 100) (ety := 93) (cs := [V.i 1, V.b false, V.b false, V.b false, V.b false]) (by kernel_rfl) (by kernel_rfl) (by kernel_rfl)))

theorem ms_l1In_ok (a0 : Int) (a1 : Int) (a2 : Int) {r : Bool} (h : ms_l1In a0 a1 a2 = some r) :
    AC Tryz.prog (GS []) 27 [V.i a0, V.i a1, V.i a2] [] (V.b r) [] := by
 rw [ms_l1In] at h
 refine AC.enter Tryz.func27 rfl (cV 100 (bB h fun y1 hv2 h => ?_))
 refine CO.cutR (tl 15 [(6, V.b y1)]) [] mix (by
  refine wR 4 100 ?_
  refine wJ 10 hv2 (fun hv2 => ?_) (fun hv2 => ?_)
  ·refine wR 5 100 ?_
   cases hv2
   exact fS [] [6]
  refine wR 5 100 ?_
  cases hv2
  exact fS [] [6]
  ) ?_
 cases h
 exact e1 6 id

theorem ms_l6Starts_ok (N : Nat) (a0 : LN) {r : ((List Int) × Bool)} (h : ms_l6Starts N a0 = some r) :
    AC Tryz.prog (GS []) 175 [.sl false false (a0.map (eSN false))] [] (.tup [.own 100, V.b r.2]) [(100, vX 3 1 eNI r.1)] := by
 rw [ms_l6Starts] at h
 refine AC.enter Tryz.func175 rfl (cV 100 (cV 100 (CO.seq' (cV 101 (CO.block' (CO.loopJ (fun (⟨a0, y917, y918⟩ : (LN × Int × (List Int))) => ⟨tl 53 [(0, .sl false false (a0.map (eSN false))), (4, .own 100), (5, V.i y917)], [(100, vX 3 1 eNI y918)]⟩) (fun n i => ms_l6Starts_l1 N n i = some r) (n0 := N) (i0 := (a0, 0, [])) (wS [(100, 100)] [0, 4, 5]) h (fun i h => by simp [ms_l6Starts_l1] at h) ?_))))))
 rintro n1 ⟨a0, y917, y918⟩ h1961 ih1962
 rw [ms_l6Starts_l1] at h1961
 refine CO.seq' (CO.sw mix (wR 2 245 (wN (eSN false) a0 [] (wR 1 245 (wF ?_)))))
 refine cI h1961 (fun _ h1961 => ?_) (fun _ h1961 => ?_)
 ·refine CO.skip (CO.seq' (CO.block' (cV 245 (CO.seq' (bB h1961 fun e1474 hx2322 h1961 => (CO.sw mix (wR 2 245 (wX (eSN false) hx2322 5 ?_))))))))
  refine wR 2 245 (wN eNI e1474.Kids [] (wR 2 245 (wF (CO.block' (CO.loopJ (fun (⟨a0, y917, y918, y1499, y1500⟩ : (LN × Int × (List Int) × Int × Int)) => ⟨tl 53 [(0, .sl false false (a0.map (eSN false))), (4, .own 100), (5, V.i y917), (6, V.i y1499), (7, V.i y1500)], [(100, vX 3 1 eNI y918)]⟩) (fun n i => ms_l6Starts_l2 N (ms_l6Starts_l1 N n1) n i = some r) (n0 := N) (i0 := (a0, y917, y918, y917, (wr ((e1474.Kids.length : Int) - 1)))) (wS [(100, 100)] [0, 4, 5, 6, 7]) h1961 (fun i h => by simp [ms_l6Starts_l2] at h) ?_)))))
  rintro n2 ⟨a0, y917, y918, y1499, y1500⟩ h2399 ih2400
  rw [ms_l6Starts_l2] at h2399
  refine CO.seq' (cV 305 ?_)
  refine cI h2399 (fun _ h2399 => ?_) (fun _ h2399 => ?_)
  ·refine CO.skip (CO.seq' (CO.block' (CO.seq' (bB h2399 fun y1546 hv2432 h2399 => ?_))))
   refine CO.cutR (tl 53 [(0, .sl false false (a0.map (eSN false))), (4, .own 100), (5, V.i y917), (6, V.i y1499), (7, V.i y1500), (41, V.b y1546)]) [(100, vX 3 1 eNI y918)] mix (by
    refine wR 2 305 (bB hv2432 fun e1547 hx2433 hv2432 => (wX (eSN false) hx2433 5 (wR 3 305 (bB hv2432 fun e1548 hx2434 hv2432 => (wX eNI hx2434 1 (wR 5 305 ?_))))))
    refine wJ 38 hv2432 (fun hv2432 => ?_) (fun hv2432 => ?_)
    ·refine wR 3 305 ?_
     cases hv2432
     exact fS [(100, 100)] [0, 4, 5, 6, 7, 41]
    refine wR 3 305 ?_
    cases hv2432
    exact fS [(100, 100)] [0, 4, 5, 6, 7, 41]
    ) ?_
   refine cI h2399 (fun _ h2399 => ?_) (fun _ h2399 => ?_)
   ·refine cV 305 (CO.ret ?_)
    cases h2399
    exact eG [(305, 100)] (.inr rfl) (RetV.two rfl (oT (t := 2) (r := .own 305)) (oT (t := 3) (r := V.b false)))
   refine CO.skip (bB h2399 fun e1550 hx2438 h2399 => ?_)
   refine CO.endR (tl 53 [(0, .sl false false (a0.map (eSN false))), (4, .own 100), (5, V.i y917), (6, V.i e1550), (7, V.i y1500)]) [(100, vX 3 1 eNI y918)] mix (by
    refine wR 3 305 (W.ixO Dk eNI hx2438 100 1 (by kernel_rfl) (W.ldO Dk eNI hx2438 3 100 0 (V.i e1550) (by kernel_rfl) (by kernel_rfl) (wR 1 305 ?_)))
    exact fI
    ) (fun st hw => ?_)
   refine CO.weak hw ?_
   exact cK 305 ih2400 (a0, y917, y918, e1550, (wr (y1500 - 1))) h2399 [(100, 100)] [0, 4, 5, 6, 7]
  refine CO.exit (bB h2399 fun x1552 hx2440 h2399 => ?_)
  refine CO.endR (tl 53 [(0, .sl false false (a0.map (eSN false))), (4, .own 306), (5, V.i y917)]) [(306, vX 3 1 eNI x1552)] mix (by
   refine wR 3 305 (W.appO Dk eNI (a := 100) (c := 305) (el := 3) (sz := 1) 8 hx2440 rfl 306 (by kernel_rfl) (wR 1 307 ?_))
   exact fI
   ) (fun st hw => ?_)
  refine CO.weak hw ?_
  exact cK 307 ih1962 (a0, (wr (y917 + 1)), x1552) h2399 [(306, 100)] [0, 4, 5]
 refine CO.exit (cV 245 (CO.ret ?_))
 cases h1961
 exact eG [(100, 100)] (.inr rfl) (RetV.two rfl (oT (t := 2) (r := .own 100)) (oT (t := 3) (r := V.b true)))

theorem ms_ShapeOk_ok (N : Nat) (a0 : LN) {r : Bool} (h : ms_ShapeOk N a0 = some r) :
    AC Tryz.prog (GS []) 161 [.sl false false (a0.map (eSN false))] [] (V.b r) [] := by
 rw [ms_ShapeOk] at h
 refine AC.enter Tryz.func161 rfl (cV 100 (CO.seq' (bB h fun r4 hx5 h => (CO.sw mix (wR 1 100 (wN (eSN false) a0 [] (w0 (ms_l1In_ok (a0.length : Int) 1 400 hx5) cok27 (wR 1 100 ?_))))))))
 refine wF ?_
 refine cI h (fun _ h => ?_) (fun _ h => ?_)
 ·refine cV 100 ?_
  cases h
  exact e1 2 id
 refine CO.skip (bB h fun r6 hx8 h => (CO.sw mix (wR 1 100 (wC (ms_l6Starts_ok N a0 hx8) cok175 [] [(100, 100)] [100] (wR 5 101 (wF (bB h fun y8 hv11 h => ?_)))))))
 refine CO.cutR (tl 24 [(2, V.b y8)]) [] mix (by
  refine wR 2 101 ?_
  refine wJ 15 hv11 (fun hv11 => ?_) (fun hv11 => ?_)
  ·refine wR 2 101 (wN (eSN false) a0 [] (wR 1 101 (bB hv11 fun e9 hx13 hv11 => (W.ixO Dk eNI hx13 100 1 (by kernel_rfl) (W.ldO Dk eNI hx13 3 100 0 (V.i e9) (by kernel_rfl) (by kernel_rfl) (wR 3 101 ?_))))))
   cases hv11
   exact fS [] [2]
  refine wR 9 101 ?_
  cases hv11
  exact fS [] [2]
  ) ?_
 cases h
 exact e1 2 id

theorem ms_DepthOf_ok (N : Nat) (a0 : LN) {r : Int} (h : ms_DepthOf N a0 = some r) :
    AC Tryz.prog (GS []) 162 [.sl false false (a0.map (eSN false))] [] (V.i r) [] := by
 rw [ms_DepthOf] at h
 refine AC.enter Tryz.func162 rfl (cV 100 (CO.seq' (bB h fun r4 hx5 h => (cC 1 100 (ms_ShapeOk_ok N a0 hx5) cok161 ?_))))
 refine cI h (fun _ h => ?_) (fun _ h => ?_)
 ·refine cV 100 ?_
  cases h
  exact e1 2 id
 refine CO.skip (cV 100 (CO.seq' (cV 101 (CO.block' (CO.loopJ (fun (⟨a0, y857, y858⟩ : (LN × Int × (List Int))) => ⟨tl 51 [(0, .sl false false (a0.map (eSN false))), (3, .own 100), (4, V.i y857)], [(100, vX 3 1 eNI y858)]⟩) (fun n i => ms_DepthOf_l1 N n i = some r) (n0 := N) (i0 := (a0, 0, [])) (wS [(100, 100)] [0, 3, 4]) h (fun i h => by simp [ms_DepthOf_l1] at h) ?_)))))
 rintro n1 ⟨a0, y857, y858⟩ h1159 ih1160
 rw [ms_DepthOf_l1] at h1159
 refine CO.seq' (CO.sw mix (wR 2 285 (wN (eSN false) a0 [] (wR 1 285 (wF ?_)))))
 refine cI h1159 (fun _ h1159 => ?_) (fun _ h1159 => ?_)
 ·refine CO.skip (CO.seq' (CO.block' (cV 285 (CO.seq' (cV 285 (CO.block' (CO.loopJ (fun (⟨a0, y857, y858, y1247, y1248⟩ : (LN × Int × (List Int) × Int × Int)) => ⟨tl 51 [(0, .sl false false (a0.map (eSN false))), (3, .own 100), (4, V.i y857), (5, V.i y1247), (6, V.i y1248)], [(100, vX 3 1 eNI y858)]⟩) (fun n i => ms_DepthOf_l2 N (ms_DepthOf_l1 N n1) n i = some r) (n0 := N) (i0 := (a0, y857, y858, 1, 0)) (wS [(100, 100)] [0, 3, 4, 5, 6]) h1159 (fun i h => by simp [ms_DepthOf_l2] at h) ?_)))))))
  rintro n2 ⟨a0, y857, y858, y1247, y1248⟩ h1369 ih1370
  rw [ms_DepthOf_l2] at h1369
  refine CO.seq' (bB h1369 fun e1270 hx1375 h1369 => (CO.sw mix (wR 3 345 (wX (eSN false) hx1375 5 (wR 2 345 (wN eNI e1270.Kids [] (wR 1 345 (wF ?_))))))))
  refine cI h1369 (fun _ h1369 => ?_) (fun _ h1369 => ?_)
  ·refine CO.skip (CO.seq' (CO.block' (bB h1369 fun e1280 hx1386 h1369 => (bB h1369 fun e1281 hx1387 h1369 => (bB h1369 fun e1282 hx1388 h1369 => ?_)))))
   refine CO.endR (tl 51 [(0, .sl false false (a0.map (eSN false))), (3, .own 100), (4, V.i y857), (5, V.i (if (wr (1 + e1282)) > y1247 then (wr (1 + e1282)) else y1247)), (6, V.i y1248)]) [(100, vX 3 1 eNI y858)] mix (by
    refine wR 4 345 (wX (eSN false) hx1386 5 (wR 3 345 (wX eNI hx1387 1 (wR 1 345 (W.ixO Dk eNI hx1388 100 1 (by kernel_rfl) (W.ldO Dk eNI hx1388 3 100 0 (V.i e1282) (by kernel_rfl) (by kernel_rfl) (wR 3 345 ?_)))))))
    exact fI
    ) (fun st hw => ?_)
   refine CO.weak hw ?_
   exact cK 345 ih1370 (a0, y857, y858, (if (wr (1 + e1282)) > y1247 then (wr (1 + e1282)) else y1247), (wr (y1248 + 1))) h1369 [(100, 100)] [0, 3, 4, 5, 6]
  refine CO.exit (bB h1369 fun x1284 hx1390 h1369 => ?_)
  refine CO.endR (tl 51 [(0, .sl false false (a0.map (eSN false))), (3, .own 346), (4, V.i y857)]) [(346, vX 3 1 eNI x1284)] mix (by
   refine wR 3 345 (W.appO Dk eNI (a := 100) (c := 345) (el := 3) (sz := 1) 8 hx1390 rfl 346 (by kernel_rfl) (wR 1 347 ?_))
   exact fI
   ) (fun st hw => ?_)
  refine CO.weak hw ?_
  exact cK 347 ih1160 (a0, (wr (y857 + 1)), x1284) h1369 [(346, 100)] [0, 3, 4]
 refine CO.exit (bB h1159 fun e1286 hx1392 h1159 => (CO.sw mix (wR 2 285 (wN (eSN false) a0 [] (wR 1 285 (W.ixO Dk eNI hx1392 100 1 (by kernel_rfl) (W.ldO Dk eNI hx1392 3 100 0 (V.i e1286) (by kernel_rfl) (by kernel_rfl) (wR 1 285 ?_))))))))
 refine wF ?_
 cases h1159
 exact e1 2 id

theorem ms_l7Many_ok (a0 : SNode) {r : (Int × Int)} (h : ms_l7Many a0 = some r) :
    AC Tryz.prog (GS []) 176 [.agg [V.i a0.Kind, V.i a0.Op, V.s a0.Text, V.s a0.Other, sL eNI a0.Kids]] [] (.tup [V.i r.1, V.i r.2]) [] := by
 rw [ms_l7Many] at h
 refine AC.enter Tryz.func176 rfl (cV 100 (CO.seq' (cV 101 (CO.block' ?_))))
 refine CO.join (fun (⟨a0, y7⟩ : (SNode × Bool)) => ⟨tl 75 [(1, .loc 100 0), (6, V.i a0.Kind), (7, V.b y7)], [(100, .cells 108 [V.i a0.Kind, V.i a0.Op, V.s a0.Text, V.s a0.Other, sL eNI a0.Kids])]⟩) (fun i => ms_l7Many_k1 i = some r) ?_ ?_
 · rintro ⟨a0, y7⟩ h59
   rw [ms_l7Many_k1] at h59
   refine cI h59 (fun _ h59 => ?_) (fun _ h59 => ?_)
   ·refine cV 101 (CO.ret ?_)
    cases h59
    exact eG [] (.inr rfl) (RetV.two rfl (oT (t := 2) (r := V.i 1)) (oT (t := 3) (r := V.i 6)))
   refine CO.join (fun (⟨a0, y8⟩ : (SNode × Bool)) => ⟨tl 75 [(1, .loc 100 0), (6, V.i a0.Kind), (10, V.b y8)], [(100, .cells 108 [V.i a0.Kind, V.i a0.Op, V.s a0.Text, V.s a0.Other, sL eNI a0.Kids])]⟩) (fun i => ms_l7Many_k2 i = some r) ?_ ?_
   · rintro ⟨a0, y8⟩ h63
     rw [ms_l7Many_k2] at h63
     refine cI h63 (fun _ h63 => ?_) (fun _ h63 => ?_)
     ·refine cV 101 (CO.ret ?_)
      cases h63
      exact eG [] (.inr rfl) (RetV.two rfl (oT (t := 2) (r := V.i 0)) (oT (t := 3) (r := V.i 6)))
     refine CO.join (fun (⟨a0, y9⟩ : (SNode × Bool)) => ⟨tl 75 [(1, .loc 100 0), (6, V.i a0.Kind), (14, V.b y9)], [(100, .cells 108 [V.i a0.Kind, V.i a0.Op, V.s a0.Text, V.s a0.Other, sL eNI a0.Kids])]⟩) (fun i => ms_l7Many_k3 i = some r) ?_ ?_
     · rintro ⟨a0, y9⟩ h72
       rw [ms_l7Many_k3] at h72
       refine cI h72 (fun _ h72 => ?_) (fun _ h72 => ?_)
       ·refine cV 101 (CO.ret ?_)
        cases h72
        exact eG [] (.inr rfl) (RetV.two rfl (oT (t := 2) (r := V.i 1)) (oT (t := 3) (r := V.i 1)))
       refine CO.join (fun (⟨a0, y10⟩ : (SNode × Bool)) => ⟨tl 75 [(1, .loc 100 0), (6, V.i a0.Kind), (23, V.b y10)], [(100, .cells 108 [V.i a0.Kind, V.i a0.Op, V.s a0.Text, V.s a0.Other, sL eNI a0.Kids])]⟩) (fun i => ms_l7Many_k4 i = some r) ?_ ?_
       · rintro ⟨a0, y10⟩ h77
         rw [ms_l7Many_k4] at h77
         refine cI h77 (fun _ h77 => ?_) (fun _ h77 => ?_)
         ·refine cV 101 (CO.ret ?_)
          cases h77
          exact eG [] (.inr rfl) (RetV.two rfl (oT (t := 2) (r := V.i 2)) (oT (t := 3) (r := V.i 2)))
         refine cV 101 ?_
         refine cI h77 (fun _ h77 => ?_) (fun _ h77 => ?_)
         ·refine cV 101 (CO.ret ?_)
          cases h77
          exact eG [] (.inr rfl) (RetV.two rfl (oT (t := 2) (r := V.i 3)) (oT (t := 3) (r := V.i 3)))
         refine cV 101 ?_
         refine cI h77 (fun _ h77 => ?_) (fun _ h77 => ?_)
         ·refine cV 101 (CO.seq' (cV 101 ?_))
          refine cI h77 (fun _ h77 => ?_) (fun _ h77 => ?_)
          ·refine cV 101 (CO.ret ?_)
           have h77 := sI h77
           subst h77
           exact eG [] (.inr rfl) (RetV.two rfl (oT (t := 2) (r := V.i (wr (a0.Op + 1)))) (oT (t := 3) (r := V.i 7)))
          refine CO.skip (cV 101 (CO.ret ?_))
          have h77 := sI h77
          subst h77
          exact eG [] (.inr rfl) (RetV.two rfl (oT (t := 2) (r := V.i a0.Op)) (oT (t := 3) (r := V.i 6)))
         refine CO.join (fun (⟨a0, y11⟩ : (SNode × Bool)) => ⟨tl 75 [(1, .loc 100 0), (6, V.i a0.Kind), (40, V.b y11)], [(100, .cells 108 [V.i a0.Kind, V.i a0.Op, V.s a0.Text, V.s a0.Other, sL eNI a0.Kids])]⟩) (fun i => ms_l7Many_k5 i = some r) ?_ ?_
         · rintro ⟨a0, y11⟩ h84
           rw [ms_l7Many_k5] at h84
           refine cI h84 (fun _ h84 => ?_) (fun _ h84 => ?_)
           ·refine cV 101 (CO.ret ?_)
            cases h84
            exact eG [] (.inr rfl) (RetV.two rfl (oT (t := 2) (r := V.i 0)) (oT (t := 3) (r := V.i 1)))
           refine cV 101 ?_
           refine cI h84 (fun _ h84 => ?_) (fun _ h84 => ?_)
           ·refine cV 101 (CO.ret ?_)
            cases h84
            exact eG [] (.inr rfl) (RetV.two rfl (oT (t := 2) (r := V.i 2)) (oT (t := 3) (r := V.i 3)))
           refine cV 101 ?_
           refine cI h84 (fun _ h84 => ?_) (fun _ h84 => ?_)
           ·refine cV 101 (CO.ret ?_)
            cases h84
            exact eG [] (.inr rfl) (RetV.two rfl (oT (t := 2) (r := V.i 4)) (oT (t := 3) (r := V.i 4)))
           refine CO.join (fun (⟨a0, y12⟩ : (SNode × Bool)) => ⟨tl 75 [(1, .loc 100 0), (6, V.i a0.Kind), (47, V.b y12)], [(100, .cells 108 [V.i a0.Kind, V.i a0.Op, V.s a0.Text, V.s a0.Other, sL eNI a0.Kids])]⟩) (fun i => ms_l7Many_k6 i = some r) ?_ ?_
           · rintro ⟨a0, y12⟩ h89
             rw [ms_l7Many_k6] at h89
             refine cI h89 (fun _ h89 => ?_) (fun _ h89 => ?_)
             ·refine CO.sw mix (wR 2 101 (wN eNI a0.Kids [] (wR 2 101 (wF (CO.ret ?_)))))
              have h89 := sI h89
              subst h89
              exact eG [] (.inr rfl) (RetV.two rfl (oT (t := 2) (r := V.i 0)) (oT (t := 3) (r := V.i (a0.Kids.length : Int))))
             refine cV 101 ?_
             refine cI h89 (fun _ h89 => ?_) (fun _ h89 => ?_)
             ·refine cV 101 (CO.ret ?_)
              have h89 := sI h89
              subst h89
              exact eG [] (.inr rfl) (RetV.two rfl (oT (t := 2) (r := V.i (wr (1 + (wr (Int.tdiv a0.Op 3)))))) (oT (t := 3) (r := V.i (wr (1 + (wr (Int.tdiv a0.Op 3)))))))
             refine cV 101 ?_
             refine cI h89 (fun _ h89 => ?_) (fun _ h89 => ?_)
             ·refine cV 101 (CO.ret ?_)
              have h89 := sI h89
              subst h89
              exact eG [] (.inr rfl) (RetV.two rfl (oT (t := 2) (r := V.i (wr (2 + (wr (Int.tdiv a0.Op 3)))))) (oT (t := 3) (r := V.i (wr (2 + (wr (Int.tdiv a0.Op 3)))))))
             refine cV 101 ?_
             refine cI h89 (fun _ h89 => ?_) (fun _ h89 => ?_)
             ·refine cV 101 (CO.ret ?_)
              cases h89
              exact eG [] (.inr rfl) (RetV.two rfl (oT (t := 2) (r := V.i 1)) (oT (t := 3) (r := V.i 7)))
             refine CO.skip (cV 101 (CO.ret ?_))
             cases h89
             exact eG [] (.inr rfl) (RetV.two rfl (oT (t := 2) (r := V.i 0)) (oT (t := 3) (r := V.i 0)))
           intro hk94
           refine cV 101 ?_
           refine cI h84 (fun _ h84 => ?_) (fun _ h84 => ?_)
           ·exact sK hk94 (a0, (a0.Kind == 33)) h84 [(100, 100)] [1, 6, 47]
           exact cK 101 hk94 (a0, (a0.Kind == 45)) h84 [(100, 100)] [1, 6, 47]
         intro hk96
         refine cV 101 ?_
         refine cI h77 (fun _ h77 => ?_) (fun _ h77 => ?_)
         ·exact sK hk96 (a0, (a0.Kind == 23)) h77 [(100, 100)] [1, 6, 40]
         exact cK 101 hk96 (a0, (a0.Kind == 24)) h77 [(100, 100)] [1, 6, 40]
       intro hk98
       refine cV 101 ?_
       refine cI h72 (fun _ h72 => ?_) (fun _ h72 => ?_)
       ·exact sK hk98 (a0, (a0.Kind == 12)) h72 [(100, 100)] [1, 6, 23]
       refine cV 101 ?_
       refine cI h72 (fun _ h72 => ?_) (fun _ h72 => ?_)
       ·exact sK hk98 (a0, (a0.Kind == 15)) h72 [(100, 100)] [1, 6, 23]
       refine cV 101 ?_
       refine cI h72 (fun _ h72 => ?_) (fun _ h72 => ?_)
       ·exact sK hk98 (a0, (a0.Kind == 29)) h72 [(100, 100)] [1, 6, 23]
       exact cK 101 hk98 (a0, (a0.Kind == 30)) h72 [(100, 100)] [1, 6, 23]
     intro hk102
     refine cV 101 ?_
     refine cI h63 (fun _ h63 => ?_) (fun _ h63 => ?_)
     ·exact sK hk102 (a0, (a0.Kind == 6)) h63 [(100, 100)] [1, 6, 14]
     refine cV 101 ?_
     refine cI h63 (fun _ h63 => ?_) (fun _ h63 => ?_)
     ·exact sK hk102 (a0, (a0.Kind == 9)) h63 [(100, 100)] [1, 6, 14]
     refine cV 101 ?_
     refine cI h63 (fun _ h63 => ?_) (fun _ h63 => ?_)
     ·exact sK hk102 (a0, (a0.Kind == 10)) h63 [(100, 100)] [1, 6, 14]
     refine cV 101 ?_
     refine cI h63 (fun _ h63 => ?_) (fun _ h63 => ?_)
     ·exact sK hk102 (a0, (a0.Kind == 11)) h63 [(100, 100)] [1, 6, 14]
     refine cV 101 ?_
     refine cI h63 (fun _ h63 => ?_) (fun _ h63 => ?_)
     ·exact sK hk102 (a0, (a0.Kind == 20)) h63 [(100, 100)] [1, 6, 14]
     refine cV 101 ?_
     refine cI h63 (fun _ h63 => ?_) (fun _ h63 => ?_)
     ·exact sK hk102 (a0, (a0.Kind == 32)) h63 [(100, 100)] [1, 6, 14]
     refine cV 101 ?_
     refine cI h63 (fun _ h63 => ?_) (fun _ h63 => ?_)
     ·exact sK hk102 (a0, (a0.Kind == 40)) h63 [(100, 100)] [1, 6, 14]
     exact cK 101 hk102 (a0, (a0.Kind == 41)) h63 [(100, 100)] [1, 6, 14]
   intro hk110
   refine cV 101 ?_
   refine cI h59 (fun _ h59 => ?_) (fun _ h59 => ?_)
   ·exact sK hk110 (a0, (a0.Kind == 7)) h59 [(100, 100)] [1, 6, 10]
   refine cV 101 ?_
   refine cI h59 (fun _ h59 => ?_) (fun _ h59 => ?_)
   ·exact sK hk110 (a0, (a0.Kind == 8)) h59 [(100, 100)] [1, 6, 10]
   exact cK 101 hk110 (a0, (a0.Kind == 27)) h59 [(100, 100)] [1, 6, 10]
 intro hk113
 refine cV 101 ?_
 refine cI h (fun _ h => ?_) (fun _ h => ?_)
 ·exact sK hk113 (a0, (a0.Kind == 5)) h [(100, 100)] [1, 6, 7]
 exact cK 101 hk113 (a0, (a0.Kind == 13)) h [(100, 100)] [1, 6, 7]

theorem ms_l7IsBin_ok (a0 : Int) {r : Bool} (h : ms_l7IsBin a0 = some r) :
    AC Tryz.prog (GS []) 185 [V.i a0] [] (V.b r) [] := by
 rw [ms_l7IsBin] at h
 refine AC.enter Tryz.func185 rfl (cV 100 (CO.seq' (cV 100 (CO.block' ?_))))
 refine CO.join (fun (y2 : Bool) => ⟨tl 22 [(4, V.b y2)], []⟩) (fun i => ms_l7IsBin_k1 i = some r) ?_ ?_
 · rintro y2 h52
   rw [ms_l7IsBin_k1] at h52
   refine cI h52 (fun _ h52 => ?_) (fun _ h52 => ?_)
   ·refine cV 100 ?_
    cases h52
    exact e1 2 id
   refine CO.skip (cV 100 ?_)
   cases h52
   exact e1 2 id
 intro hk54
 refine cV 100 ?_
 refine cI h (fun _ h => ?_) (fun _ h => ?_)
 ·exact sK hk54 (a0 == 60) h [] [4]
 refine cV 100 ?_
 refine cI h (fun _ h => ?_) (fun _ h => ?_)
 ·exact sK hk54 (a0 == 57) h [] [4]
 refine cV 100 ?_
 refine cI h (fun _ h => ?_) (fun _ h => ?_)
 ·exact sK hk54 (a0 == 58) h [] [4]
 refine cV 100 ?_
 refine cI h (fun _ h => ?_) (fun _ h => ?_)
 ·exact sK hk54 (a0 == 59) h [] [4]
 refine cV 100 ?_
 refine cI h (fun _ h => ?_) (fun _ h => ?_)
 ·exact sK hk54 (a0 == 55) h [] [4]
 refine cV 100 ?_
 refine cI h (fun _ h => ?_) (fun _ h => ?_)
 ·exact sK hk54 (a0 == 56) h [] [4]
 refine cV 100 ?_
 refine cI h (fun _ h => ?_) (fun _ h => ?_)
 ·exact sK hk54 (a0 == 99) h [] [4]
 refine cV 100 ?_
 refine cI h (fun _ h => ?_) (fun _ h => ?_)
 ·exact sK hk54 (a0 == 63) h [] [4]
 refine cV 100 ?_
 refine cI h (fun _ h => ?_) (fun _ h => ?_)
 ·exact sK hk54 (a0 == 48) h [] [4]
 refine cV 100 ?_
 refine cI h (fun _ h => ?_) (fun _ h => ?_)
 ·exact sK hk54 (a0 == 47) h [] [4]
 refine cV 100 ?_
 refine cI h (fun _ h => ?_) (fun _ h => ?_)
 ·exact sK hk54 (a0 == 50) h [] [4]
 refine cV 100 ?_
 refine cI h (fun _ h => ?_) (fun _ h => ?_)
 ·exact sK hk54 (a0 == 62) h [] [4]
 refine cV 100 ?_
 refine cI h (fun _ h => ?_) (fun _ h => ?_)
 ·exact sK hk54 (a0 == 49) h [] [4]
 refine cV 100 ?_
 refine cI h (fun _ h => ?_) (fun _ h => ?_)
 ·exact sK hk54 (a0 == 67) h [] [4]
 refine cV 100 ?_
 refine cI h (fun _ h => ?_) (fun _ h => ?_)
 ·exact sK hk54 (a0 == 46) h [] [4]
 refine cV 100 ?_
 refine cI h (fun _ h => ?_) (fun _ h => ?_)
 ·exact sK hk54 (a0 == 45) h [] [4]
 exact cK 100 hk54 (a0 == 44) h [] [4]

theorem ms_l7IsAssign_ok (a0 : Int) {r : Bool} (h : ms_l7IsAssign a0 = some r) :
    AC Tryz.prog (GS []) 186 [V.i a0] [] (V.b r) [] := by
 rw [ms_l7IsAssign] at h
 refine AC.enter Tryz.func186 rfl (cV 100 (bB h fun y2 hv3 h => ?_))
 refine CO.cutR (tl 9 [(2, V.b y2)]) [] mix (by
  refine wR 3 100 ?_
  refine wJ 5 hv3 (fun hv3 => ?_) (fun hv3 => ?_)
  ·refine wR 4 100 ?_
   cases hv3
   exact fS [] [2]
  refine wR 1 100 (bB hv3 fun r3 hx5 hv3 => (w0 (ms_l1In_ok a0 38 43 hx5) cok27 (wR 2 100 ?_)))
  cases hv3
  exact fS [] [2]
  ) ?_
 cases h
 exact e1 2 id

theorem ms_l7Op_ok (a0 : SNode) {r : Bool} (h : ms_l7Op a0 = some r) :
    AC Tryz.prog (GS []) 177 [.agg [V.i a0.Kind, V.i a0.Op, V.s a0.Text, V.s a0.Other, sL eNI a0.Kids]] [] (V.b r) [] := by
 rw [ms_l7Op] at h
 refine AC.enter Tryz.func177 rfl (cV 100 (CO.seq' (cV 101 (CO.block' ?_))))
 refine CO.join (fun (⟨a0, y13⟩ : (SNode × Bool)) => ⟨tl 64 [(1, .loc 100 0), (4, V.i a0.Kind), (5, V.b y13)], [(100, .cells 108 [V.i a0.Kind, V.i a0.Op, V.s a0.Text, V.s a0.Other, sL eNI a0.Kids])]⟩) (fun i => ms_l7Op_k1 i = some r) ?_ ?_
 · rintro ⟨a0, y13⟩ h32
   rw [ms_l7Op_k1] at h32
   refine cI h32 (fun _ h32 => ?_) (fun _ h32 => ?_)
   ·refine bB h32 fun y14 hv35 h32 => ?_
    refine CO.cutR (tl 64 [(2, V.b y14)]) [] mix (by
     refine wR 4 101 ?_
     refine wJ 11 hv35 (fun hv35 => ?_) (fun hv35 => ?_)
     ·refine wR 5 101 ?_
      cases hv35
      exact fS [] [2]
     refine wR 5 101 ?_
     cases hv35
     exact fS [] [2]
     ) ?_
    cases h32
    exact e1 2 id
   refine cV 101 ?_
   refine cI h32 (fun _ h32 => ?_) (fun _ h32 => ?_)
   ·refine bB h32 fun y15 hv40 h32 => ?_
    refine CO.cutR (tl 64 [(2, V.b y15)]) [] mix (by
     refine wR 4 101 ?_
     refine wJ 21 hv40 (fun hv40 => ?_) (fun hv40 => ?_)
     ·refine wR 10 101 ?_
      cases hv40
      exact fS [] [2]
     refine wR 5 101 ?_
     refine wJ 26 hv40 (fun hv40 => ?_) (fun hv40 => ?_)
     ·refine wR 5 101 ?_
      cases hv40
      exact fS [] [2]
     refine wR 5 101 ?_
     cases hv40
     exact fS [] [2]
     ) ?_
    cases h32
    exact e1 2 id
   refine cV 101 ?_
   refine cI h32 (fun _ h32 => ?_) (fun _ h32 => ?_)
   ·refine bB h32 fun r17 hx45 h32 => (cC 2 101 (ms_l7IsBin_ok a0.Op hx45) cok185 ?_)
    cases h32
    exact e1 2 id
   refine cV 101 ?_
   refine cI h32 (fun _ h32 => ?_) (fun _ h32 => ?_)
   ·refine bB h32 fun r19 hx48 h32 => (cC 2 101 (ms_l7IsAssign_ok a0.Op hx48) cok186 ?_)
    cases h32
    exact e1 2 id
   refine cV 101 ?_
   refine cI h32 (fun _ h32 => ?_) (fun _ h32 => ?_)
   ·refine bB h32 fun r21 hx51 h32 => (cC 2 101 (ms_l1In_ok a0.Op 0 1 hx51) cok27 ?_)
    cases h32
    exact e1 2 id
   refine cV 101 ?_
   refine cI h32 (fun _ h32 => ?_) (fun _ h32 => ?_)
   ·refine bB h32 fun r23 hx54 h32 => (cC 2 101 (ms_l1In_ok a0.Op 1 3 hx54) cok27 ?_)
    cases h32
    exact e1 2 id
   refine cV 101 ?_
   refine cI h32 (fun _ h32 => ?_) (fun _ h32 => ?_)
   ·refine bB h32 fun y24 hv57 h32 => ?_
    refine CO.cutR (tl 64 [(2, V.b y24)]) [] mix (by
     refine wR 4 101 ?_
     refine wJ 56 hv57 (fun hv57 => ?_) (fun hv57 => ?_)
     ·refine wR 5 101 ?_
      cases hv57
      exact fS [] [2]
     refine wR 5 101 ?_
     cases hv57
     exact fS [] [2]
     ) ?_
    cases h32
    exact e1 2 id
   refine CO.skip (cV 101 ?_)
   cases h32
   exact e1 2 id
 intro hk59
 refine cV 101 ?_
 refine cI h (fun _ h => ?_) (fun _ h => ?_)
 ·exact sK hk59 (a0, (a0.Kind == 9)) h [(100, 100)] [1, 4, 5]
 exact cK 101 hk59 (a0, (a0.Kind == 10)) h [(100, 100)] [1, 4, 5]

theorem ms_IsLetter_ok (a0 : Int) {r : Bool} (h : ms_IsLetter a0 = some r) :
    AC Tryz.prog (GS []) 57 [V.i a0] [] (V.b r) [] := by
 rw [ms_IsLetter] at h
 refine AC.enter Tryz.func57 rfl (cV 100 (bB h fun y3 hv5 h => ?_))
 refine CO.cutR (tl 13 [(2, V.b y3)]) [] mix (by
  refine wR 1 100 (bB hv5 fun r4 hx6 hv5 => (w0 (ms_l1In_ok a0 97 122 hx6) cok27 (wR 1 100 ?_)))
  refine wJ 5 hv5 (fun hv5 => ?_) (fun hv5 => ?_)
  ·refine wR 8 100 ?_
   cases hv5
   exact fS [] [2]
  refine wR 1 100 (bB hv5 fun r5 hx8 hv5 => (w0 (ms_l1In_ok a0 65 90 hx8) cok27 (wR 2 100 ?_)))
  refine wJ 9 hv5 (fun hv5 => ?_) (fun hv5 => ?_)
  ·refine wR 4 100 ?_
   cases hv5
   exact fS [] [2]
  refine wR 4 100 ?_
  cases hv5
  exact fS [] [2]
  ) ?_
 cases h
 exact e1 2 id

theorem ms_IsDigit_ok (a0 : Int) {r : Bool} (h : ms_IsDigit a0 = some r) :
    AC Tryz.prog (GS []) 53 [V.i a0] [] (V.b r) [] := by
 rw [ms_IsDigit] at h
 refine AC.enter Tryz.func53 rfl (cV 100 (bB h fun r2 hx2 h => (cC 1 100 (ms_l1In_ok a0 48 57 hx2) cok27 ?_)))
 cases h
 exact e1 2 id

theorem ms_IsWordByte_ok (a0 : Int) {r : Bool} (h : ms_IsWordByte a0 = some r) :
    AC Tryz.prog (GS []) 89 [V.i a0] [] (V.b r) [] := by
 rw [ms_IsWordByte] at h
 refine AC.enter Tryz.func89 rfl (cV 100 (bB h fun y3 hv4 h => ?_))
 refine CO.cutR (tl 9 [(2, V.b y3)]) [] mix (by
  refine wR 1 100 (bB hv4 fun r4 hx5 hv4 => (w0 (ms_IsLetter_ok a0 hx5) cok57 (wR 1 100 ?_)))
  refine wJ 5 hv4 (fun hv4 => ?_) (fun hv4 => ?_)
  ·refine wR 4 100 ?_
   cases hv4
   exact fS [] [2]
  refine wR 1 100 (bB hv4 fun r5 hx7 hv4 => (w0 (ms_IsDigit_ok a0 hx7) cok53 (wR 2 100 ?_)))
  cases hv4
  exact fS [] [2]
  ) ?_
 cases h
 exact e1 2 id

theorem ms_NameShape_ok (N : Nat) (a0 : LU) {r : Bool} (h : ms_NameShape N a0 = some r) :
    AC Tryz.prog (GS []) 60 [V.s a0] [] (V.b r) [] := by
 rw [ms_NameShape] at h
 refine AC.enter Tryz.func60 rfl (cV 100 (CO.seq' (cV 100 (CO.block' (CO.loopJ (fun (⟨a0, y35⟩ : (LU × Int)) => ⟨tl 25 [(0, V.s a0), (3, V.i y35)], []⟩) (fun n i => ms_NameShape_l1 N n i = some r) (n0 := N) (i0 := (a0, 0)) (wS [] [0, 3]) h (fun i h => by simp [ms_NameShape_l1] at h) ?_)))))
 rintro n1 ⟨a0, y35⟩ h63 ih64
 rw [ms_NameShape_l1] at h63
 refine CO.seq' (cV 160 ?_)
 refine cI h63 (fun _ h63 => ?_) (fun _ h63 => ?_)
 ·refine CO.skip (CO.seq' (CO.block' (bB h63 fun b51 hx74 h63 => (bB h63 fun r52 hx75 h63 => (CO.sw mix (wR 2 160 (W.ixS Dk hx74 (by kernel_rfl) (wR 1 160 ?_))))))))
  refine w0 (ms_IsWordByte_ok (wr ((b51).toNat : Int)) hx75) cok89 (wR 1 160 (wF ?_))
  refine cI h63 (fun _ h63 => ?_) (fun _ h63 => ?_)
  ·refine cV 160 ?_
   cases h63
   exact e1 2 id
  refine CO.skip ?_
  exact cK 160 ih64 (a0, (wr (y35 + 1))) h63 [] [0, 3]
 refine CO.exit (bB h63 fun y56 hv81 h63 => ?_)
 refine CO.cutR (tl 25 [(2, V.b y56)]) [] mix (by
  refine wR 2 160 (bB hv81 fun r57 hx82 hv81 => (w0 (ms_l1In_ok (a0.length : Int) 1 12 hx82) cok27 (wR 1 160 ?_)))
  refine wJ 19 hv81 (fun hv81 => ?_) (fun hv81 => ?_)
  ·refine wR 1 160 (bB hv81 fun b58 hx84 hv81 => (W.ixS Dk hx84 (by kernel_rfl) (wR 1 160 (bB hv81 fun r59 hx85 hv81 => (w0 (ms_IsLetter_ok (wr ((b58).toNat : Int)) hx85) cok57 (wR 2 160 ?_))))))
   cases hv81
   exact fS [] [2]
  refine wR 6 160 ?_
  cases hv81
  exact fS [] [2]
  ) ?_
 cases h63
 exact e1 2 id

theorem ms_l3Words_ok {r : LLU} (h : ms_l3Words = some r) :
    AC Tryz.prog (GS []) 106 [] [] (.own 100) [(100, vN r)] := by
 rw [ms_l3Words] at h
 refine AC.enter Tryz.func106 rfl (cV 100 (cV 100 (CO.ret ?_)))
 cases h
 exact eG [(100, 100)] (.inr rfl) (RetV.one rfl (oT (t := 0) (r := .own 100)))

theorem ms_l3Find_ok (N : Nat) (a0 : LLU) (a1 : LU) {r : Int} (h : ms_l3Find N a0 a1 = some r) :
    AC Tryz.prog (GS []) 105 [sL eNS a0, V.s a1] [] (V.i r) [] := by
 rw [ms_l3Find] at h
 refine AC.enter Tryz.func105 rfl (cV 100 (CO.seq' (cV 100 (CO.block' (CO.loopJ (fun (⟨a0, a1, y19⟩ : (LLU × LU × Int)) => ⟨tl 19 [(0, sL eNS a0), (1, V.s a1), (5, V.i y19)], []⟩) (fun n i => ms_l3Find_l1 N n i = some r) (n0 := N) (i0 := (a0, a1, 0)) (wS [] [0, 1, 5]) h (fun i h => by simp [ms_l3Find_l1] at h) ?_)))))
 rintro n1 ⟨a0, a1, y19⟩ h43 ih44
 rw [ms_l3Find_l1] at h43
 refine CO.seq' (CO.sw mix (wR 2 160 (wN eNS a0 [] (wR 1 160 (wF ?_)))))
 refine cI h43 (fun _ h43 => ?_) (fun _ h43 => ?_)
 ·refine CO.skip (CO.seq' (CO.block' (bB h43 fun e28 hx51 h43 => (CO.sw mix (wR 2 160 (wX eNS hx51 1 (wR 3 160 (wF ?_))))))))
  refine cI h43 (fun _ h43 => ?_) (fun _ h43 => ?_)
  ·refine cV 160 ?_
   cases h43
   exact e1 4 id
  refine CO.skip ?_
  exact cK 160 ih44 (a0, a1, (wr (y19 + 1))) h43 [] [0, 1, 5]
 refine CO.exit (cV 160 ?_)
 cases h43
 exact e1 4 id

theorem ms_KeywordOf_ok (N : Nat) (a0 : LU) {r : Int} (h : ms_KeywordOf N a0 = some r) :
    AC Tryz.prog (GS []) 87 [V.s a0] [] (V.i r) [] := by
 rw [ms_KeywordOf] at h
 refine AC.enter Tryz.func87 rfl (cV 100 (bB h fun r3 hx3 h => (bB h fun r4 hx4 h => (CO.sw mix (wC (ms_l3Words_ok  hx3) cok106 [] [(100, 100)] [100] (wR 1 101 (W.lend (ms_l3Find_ok N r3 a0 hx4) cok105 [] [] (LayOk.cons (j := 100) eNS eNS r3 (by kernel_rfl) (fun _ => rfl) lO) (.c _) .nil (by kernel_rfl) (by kernel_rfl) (wR 1 101 ?_))))))))
 refine wF (CO.seq' (cV 101 ?_))
 refine cI h (fun _ h => ?_) (fun _ h => ?_)
 ·refine cV 101 ?_
  cases h
  exact e1 2 id
 refine CO.skip (cV 101 ?_)
 cases h
 exact e1 2 id

theorem ms_l3Builtins_ok {r : LLU} (h : ms_l3Builtins = some r) :
    AC Tryz.prog (GS []) 107 [] [] (.own 100) [(100, vN r)] := by
 rw [ms_l3Builtins] at h
 refine AC.enter Tryz.func107 rfl (cV 100 (cV 100 (CO.ret ?_)))
 cases h
 exact eG [(100, 100)] (.inr rfl) (RetV.one rfl (oT (t := 0) (r := .own 100)))

theorem ms_IsBuiltin_ok (N : Nat) (a0 : LU) {r : Bool} (h : ms_IsBuiltin N a0 = some r) :
    AC Tryz.prog (GS []) 88 [V.s a0] [] (V.b r) [] := by
 rw [ms_IsBuiltin] at h
 refine AC.enter Tryz.func88 rfl (cV 100 (bB h fun r3 hx3 h => (bB h fun r4 hx4 h => (CO.sw mix (wC (ms_l3Builtins_ok  hx3) cok107 [] [(100, 100)] [100] (wR 1 101 (W.lend (ms_l3Find_ok N r3 a0 hx4) cok105 [] [] (LayOk.cons (j := 100) eNS eNS r3 (by kernel_rfl) (fun _ => rfl) lO) (.c _) .nil (by kernel_rfl) (by kernel_rfl) (wR 2 101 ?_))))))))
 refine wF ?_
 cases h
 exact e1 2 id

theorem ms_NameOk_ok (N : Nat) (a0 : LU) {r : Bool} (h : ms_NameOk N a0 = some r) :
    AC Tryz.prog (GS []) 187 [V.s a0] [] (V.b r) [] := by
 rw [ms_NameOk] at h
 refine AC.enter Tryz.func187 rfl (cV 100 (bB h fun y4 hv6 h => ?_))
 refine CO.cutR (tl 15 [(2, V.b y4)]) [] mix (by
  refine wR 1 100 (bB hv6 fun r5 hx7 hv6 => (w0 (ms_NameShape_ok N a0 hx7) cok60 (wR 1 100 ?_)))
  refine wJ 5 hv6 (fun hv6 => ?_) (fun hv6 => ?_)
  ·refine wR 1 100 (bB hv6 fun r6 hx9 hv6 => (w0 (ms_KeywordOf_ok N a0 hx9) cok87 (wR 3 100 ?_)))
   refine wJ 10 hv6 (fun hv6 => ?_) (fun hv6 => ?_)
   ·refine wR 1 100 (bB hv6 fun r7 hx11 hv6 => (w0 (ms_IsBuiltin_ok N a0 hx11) cok88 (wR 3 100 ?_)))
    cases hv6
    exact fS [] [2]
   refine wR 5 100 ?_
   cases hv6
   exact fS [] [2]
  refine wR 10 100 ?_
  cases hv6
  exact fS [] [2]
  ) ?_
 cases h
 exact e1 2 id

theorem ms_l4Plain_ok (N : Nat) (a0 : LU) {r : Bool} (h : ms_l4Plain N a0 = some r) :
    AC Tryz.prog (GS []) 160 [V.s a0] [] (V.b r) [] := by
 rw [ms_l4Plain] at h
 refine AC.enter Tryz.func160 rfl (cV 100 (CO.seq' (cV 100 (CO.block' (CO.loopJ (fun (⟨a0, y19⟩ : (LU × Int)) => ⟨tl 14 [(0, V.s a0), (3, V.i y19)], []⟩) (fun n i => ms_l4Plain_l1 N n i = some r) (n0 := N) (i0 := (a0, 0)) (wS [] [0, 3]) h (fun i h => by simp [ms_l4Plain_l1] at h) ?_)))))
 rintro n1 ⟨a0, y19⟩ h43 ih44
 rw [ms_l4Plain_l1] at h43
 refine CO.seq' (cV 160 ?_)
 refine cI h43 (fun _ h43 => ?_) (fun _ h43 => ?_)
 ·refine CO.skip (CO.seq' (CO.block' (bB h43 fun b28 hx51 h43 => (CO.sw mix (wR 2 160 (W.ixS Dk hx51 (by kernel_rfl) (wR 1 160 (wF ?_))))))))
  refine cI h43 (fun _ h43 => ?_) (fun _ h43 => ?_)
  ·refine cV 160 ?_
   cases h43
   exact e1 2 id
  refine CO.skip ?_
  exact cK 160 ih44 (a0, (wr (y19 + 1))) h43 [] [0, 3]
 refine CO.exit (cV 160 ?_)
 cases h43
 exact e1 2 id

theorem ms_l4Byte_ok (a0 : LU) (a1 : Int) {r : Int} (h : ms_l4Byte a0 a1 = some r) :
    AC Tryz.prog (GS []) 29 [V.s a0, V.i a1] [] (V.i r) [] := by
 rw [ms_l4Byte] at h
 refine AC.enter Tryz.func29 rfl (cV 100 (CO.seq' (bB h fun y2 hv6 h => ?_)))
 refine CO.cutR (tl 17 [(0, V.s a0), (1, V.i a1), (12, V.b y2)]) [] mix (by
  refine wR 3 100 ?_
  refine wJ 7 hv6 (fun hv6 => ?_) (fun hv6 => ?_)
  ·refine wR 5 100 ?_
   cases hv6
   exact fS [] [0, 1, 12]
  refine wR 5 100 ?_
  cases hv6
  exact fS [] [0, 1, 12]
  ) ?_
 refine cI h (fun _ h => ?_) (fun _ h => ?_)
 ·refine cV 100 ?_
  cases h
  exact e1 4 id
 refine CO.skip (bB h fun b4 hx10 h => (CO.sw mix (wR 2 100 (W.ixS Dk hx10 (by kernel_rfl) (wR 2 100 (wF ?_))))))
 cases h
 exact e1 4 id

theorem ms_l4Digits_ok (N : Nat) (a0 : LU) (a1 : Int) {r : Int} (h : ms_l4Digits N a0 a1 = some r) :
    AC Tryz.prog (GS []) 85 [V.s a0, V.i a1] [] (V.i r) [] := by
 rw [ms_l4Digits] at h
 refine AC.enter Tryz.func85 rfl (cV 100 (CO.seq' (CO.block' (CO.loopJ (fun (⟨a0, a1⟩ : (LU × Int)) => ⟨tl 12 [(0, V.s a0), (1, V.i a1)], []⟩) (fun n i => ms_l4Digits_l1 N n i = some r) (n0 := N) (i0 := (a0, a1)) (wS [] [0, 1]) h (fun i h => by simp [ms_l4Digits_l1] at h) ?_))))
 rintro n1 ⟨a0, a1⟩ h33 ih34
 rw [ms_l4Digits_l1] at h33
 refine CO.seq' (bB h33 fun r33 hx42 h33 => (bB h33 fun r34 hx43 h33 => (CO.sw mix (wR 2 140 (w0 (ms_l4Byte_ok a0 a1 hx42) cok29 (w0 (ms_IsDigit_ok r33 hx43) cok53 (wF ?_)))))))
 refine cI h33 (fun _ h33 => ?_) (fun _ h33 => ?_)
 ·refine CO.skip (CO.block' ?_)
  exact cK 140 ih34 (a0, (wr (a1 + 1))) h33 [] [0, 1]
 refine CO.exit (cV 140 ?_)
 cases h33
 exact e1 4 id

end Go.Proofs.Tryz
