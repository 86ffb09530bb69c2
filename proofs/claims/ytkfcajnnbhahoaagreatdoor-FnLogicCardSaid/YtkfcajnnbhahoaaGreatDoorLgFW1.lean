/-
 The walks that show that the code computes the models, part 1.
-/
import Derived.Test.YtkfcajnnbhahoaaGreatDoorLgFM1
namespace Go.Proofs.Tryz
open Go.Av
set_option maxRecDepth 100000
set_option maxHeartbeats 8000000
set_option linter.unusedSimpArgs false
set_option linter.unusedVariables false

theorem ext316 (s : LU) (c : Int) (w : World) : (callFunc 316 #[.string ⟨⟨s⟩⟩, .int .u8 c]).run Tryz.prog w = .ok (.value (.int .i64 (Go.Lib.indexByte s c.toNat.toUInt8))) w := by
 rw [run_callFunc_extern Tryz.func316 (by kernel_rfl) rfl (by kernel_rfl) (by kernel_rfl)]
 rw [show _ = _ from Go.Lib.run_indexByteString ⟨⟨s⟩⟩ c w]
 rfl

theorem cok9 : callOk Tryz.prog 9 := fun _ _ => Tryz.call9 _ _
theorem cok13 : callOk Tryz.prog 13 := fun _ _ => Tryz.call13 _ _
theorem cok14 : callOk Tryz.prog 14 := fun _ _ => Tryz.call14 _ _
theorem cok27 : callOk Tryz.prog 27 := fun _ _ => Tryz.call27 _ _
theorem cok29 : callOk Tryz.prog 29 := fun _ _ => Tryz.call29 _ _
theorem cok30 : callOk Tryz.prog 30 := fun _ _ => Tryz.call30 _ _
theorem cok31 : callOk Tryz.prog 31 := fun _ _ => Tryz.call31 _ _
theorem cok32 : callOk Tryz.prog 32 := fun _ _ => Tryz.call32 _ _
theorem cok33 : callOk Tryz.prog 33 := fun _ _ => Tryz.call33 _ _
theorem cok34 : callOk Tryz.prog 34 := fun _ _ => Tryz.call34 _ _
theorem cok35 : callOk Tryz.prog 35 := fun _ _ => Tryz.call35 _ _
theorem cok36 : callOk Tryz.prog 36 := fun _ _ => Tryz.call36 _ _
theorem cok40 : callOk Tryz.prog 40 := fun _ _ => Tryz.call40 _ _
theorem cok51 : callOk Tryz.prog 51 := fun _ _ => Tryz.call51 _ _
theorem cok52 : callOk Tryz.prog 52 := fun _ _ => Tryz.call52 _ _
theorem cok53 : callOk Tryz.prog 53 := fun _ _ => Tryz.call53 _ _
theorem cok57 : callOk Tryz.prog 57 := fun _ _ => Tryz.call57 _ _
theorem cok58 : callOk Tryz.prog 58 := fun _ _ => Tryz.call58 _ _
theorem cok59 : callOk Tryz.prog 59 := fun _ _ => Tryz.call59 _ _
theorem cok60 : callOk Tryz.prog 60 := fun _ _ => Tryz.call60 _ _
theorem cok62 : callOk Tryz.prog 62 := fun _ _ => Tryz.call62 _ _
theorem cok63 : callOk Tryz.prog 63 := fun _ _ => Tryz.call63 _ _
theorem cok70 : callOk Tryz.prog 70 := fun _ _ => Tryz.call70 _ _
theorem cok71 : callOk Tryz.prog 71 := fun _ _ => Tryz.call71 _ _
theorem cok76 : callOk Tryz.prog 76 := fun _ _ => Tryz.call76 _ _
theorem cok77 : callOk Tryz.prog 77 := fun _ _ => Tryz.call77 _ _
theorem cok85 : callOk Tryz.prog 85 := fun _ _ => Tryz.call85 _ _
theorem cok86 : callOk Tryz.prog 86 := fun _ _ => Tryz.call86 _ _
theorem cok87 : callOk Tryz.prog 87 := fun _ _ => Tryz.call87 _ _
theorem cok88 : callOk Tryz.prog 88 := fun _ _ => Tryz.call88 _ _
theorem cok89 : callOk Tryz.prog 89 := fun _ _ => Tryz.call89 _ _
theorem cok90 : callOk Tryz.prog 90 := fun _ _ => Tryz.call90 _ _
theorem cok92 : callOk Tryz.prog 92 := fun _ _ => Tryz.call92 _ _
theorem cok95 : callOk Tryz.prog 95 := fun _ _ => Tryz.call95 _ _
theorem cok96 : callOk Tryz.prog 96 := fun _ _ => Tryz.call96 _ _
theorem cok97 : callOk Tryz.prog 97 := fun _ _ => Tryz.call97 _ _
theorem cok98 : callOk Tryz.prog 98 := fun _ _ => Tryz.call98 _ _
theorem cok99 : callOk Tryz.prog 99 := fun _ _ => Tryz.call99 _ _
theorem cok108 : callOk Tryz.prog 108 := fun _ _ => Tryz.call108 _ _
theorem cok109 : callOk Tryz.prog 109 := fun _ _ => Tryz.call109 _ _
theorem cok113 : callOk Tryz.prog 113 := fun _ _ => Tryz.call113 _ _
theorem cok114 : callOk Tryz.prog 114 := fun _ _ => Tryz.call114 _ _
theorem cok122 : callOk Tryz.prog 122 := fun _ _ => Tryz.call122 _ _
theorem cok123 : callOk Tryz.prog 123 := fun _ _ => Tryz.call123 _ _
theorem cok124 : callOk Tryz.prog 124 := fun _ _ => Tryz.call124 _ _
theorem cok125 : callOk Tryz.prog 125 := fun _ _ => Tryz.call125 _ _
theorem cok126 : callOk Tryz.prog 126 := fun _ _ => Tryz.call126 _ _
theorem cok127 : callOk Tryz.prog 127 := fun _ _ => Tryz.call127 _ _
theorem cok128 : callOk Tryz.prog 128 := fun _ _ => Tryz.call128 _ _
theorem cok129 : callOk Tryz.prog 129 := fun _ _ => Tryz.call129 _ _
theorem cok131 : callOk Tryz.prog 131 := fun _ _ => Tryz.call131 _ _
theorem cok132 : callOk Tryz.prog 132 := fun _ _ => Tryz.call132 _ _
theorem cok133 : callOk Tryz.prog 133 := fun _ _ => Tryz.call133 _ _
theorem cok134 : callOk Tryz.prog 134 := fun _ _ => Tryz.call134 _ _
theorem cok135 : callOk Tryz.prog 135 := fun _ _ => Tryz.call135 _ _
theorem cok138 : callOk Tryz.prog 138 := fun _ _ => Tryz.call138 _ _
theorem cok139 : callOk Tryz.prog 139 := fun _ _ => Tryz.call139 _ _
theorem cok140 : callOk Tryz.prog 140 := fun _ _ => Tryz.call140 _ _
theorem cok141 : callOk Tryz.prog 141 := fun _ _ => Tryz.call141 _ _
theorem cok144 : callOk Tryz.prog 144 := fun _ _ => Tryz.call144 _ _
theorem cok148 : callOk Tryz.prog 148 := fun _ _ => Tryz.call148 _ _
theorem cok149 : callOk Tryz.prog 149 := fun _ _ => Tryz.call149 _ _
theorem cok154 : callOk Tryz.prog 154 := fun _ _ => Tryz.call154 _ _
theorem cok155 : callOk Tryz.prog 155 := fun _ _ => Tryz.call155 _ _
theorem cok156 : callOk Tryz.prog 156 := fun _ _ => Tryz.call156 _ _
theorem cok157 : callOk Tryz.prog 157 := fun _ _ => Tryz.call157 _ _
theorem cok158 : callOk Tryz.prog 158 := fun _ _ => Tryz.call158 _ _
theorem cok159 : callOk Tryz.prog 159 := fun _ _ => Tryz.call159 _ _
theorem cok160 : callOk Tryz.prog 160 := fun _ _ => Tryz.call160 _ _
theorem cok161 : callOk Tryz.prog 161 := fun _ _ => Tryz.call161 _ _
theorem cok167 : callOk Tryz.prog 167 := fun _ _ => Tryz.call167 _ _
theorem cok168 : callOk Tryz.prog 168 := fun _ _ => Tryz.call168 _ _
theorem cok169 : callOk Tryz.prog 169 := fun _ _ => Tryz.call169 _ _
theorem cok170 : callOk Tryz.prog 170 := fun _ _ => Tryz.call170 _ _
theorem cok171 : callOk Tryz.prog 171 := fun _ _ => Tryz.call171 _ _
theorem cok172 : callOk Tryz.prog 172 := fun _ _ => Tryz.call172 _ _
theorem cok179 : callOk Tryz.prog 179 := fun _ _ => Tryz.call179 _ _
theorem cok180 : callOk Tryz.prog 180 := fun _ _ => Tryz.call180 _ _
theorem cok183 : callOk Tryz.prog 183 := fun _ _ => Tryz.call183 _ _
theorem cok184 : callOk Tryz.prog 184 := fun _ _ => Tryz.call184 _ _
theorem cok185 : callOk Tryz.prog 185 := fun _ _ => Tryz.call185 _ _
theorem cok186 : callOk Tryz.prog 186 := fun _ _ => Tryz.call186 _ _
theorem cok187 : callOk Tryz.prog 187 := fun _ _ => Tryz.call187 _ _
theorem cok188 : callOk Tryz.prog 188 := fun _ _ => Tryz.call188 _ _
theorem cok189 : callOk Tryz.prog 189 := fun _ _ => Tryz.call189 _ _
theorem cok190 : callOk Tryz.prog 190 := fun _ _ => Tryz.call190 _ _
theorem cok191 : callOk Tryz.prog 191 := fun _ _ => Tryz.call191 _ _
theorem cok192 : callOk Tryz.prog 192 := fun _ _ => Tryz.call192 _ _
theorem cok193 : callOk Tryz.prog 193 := fun _ _ => Tryz.call193 _ _
theorem cok194 : callOk Tryz.prog 194 := fun _ _ => Tryz.call194 _ _
theorem cok195 : callOk Tryz.prog 195 := fun _ _ => Tryz.call195 _ _
theorem cok196 : callOk Tryz.prog 196 := fun _ _ => Tryz.call196 _ _
theorem cok197 : callOk Tryz.prog 197 := fun _ _ => Tryz.call197 _ _
theorem cok201 : callOk Tryz.prog 201 := fun _ _ => Tryz.call201 _ _
theorem cok202 : callOk Tryz.prog 202 := fun _ _ => Tryz.call202 _ _
theorem cok203 : callOk Tryz.prog 203 := fun _ _ => Tryz.call203 _ _
theorem cok204 : callOk Tryz.prog 204 := fun _ _ => Tryz.call204 _ _
theorem cok205 : callOk Tryz.prog 205 := fun _ _ => Tryz.call205 _ _
theorem cok220 : callOk Tryz.prog 220 := fun _ _ => Tryz.call220 _ _
theorem cok222 : callOk Tryz.prog 222 := fun _ _ => Tryz.call222 _ _
theorem cok223 : callOk Tryz.prog 223 := fun _ _ => Tryz.call223 _ _
theorem cok224 : callOk Tryz.prog 224 := fun _ _ => Tryz.call224 _ _
theorem cok225 : callOk Tryz.prog 225 := fun _ _ => Tryz.call225 _ _
theorem cok226 : callOk Tryz.prog 226 := fun _ _ => Tryz.call226 _ _
theorem cok227 : callOk Tryz.prog 227 := fun _ _ => Tryz.call227 _ _
theorem cok228 : callOk Tryz.prog 228 := fun _ _ => Tryz.call228 _ _
theorem cok229 : callOk Tryz.prog 229 := fun _ _ => Tryz.call229 _ _
theorem cok230 : callOk Tryz.prog 230 := fun _ _ => Tryz.call230 _ _
theorem cok231 : callOk Tryz.prog 231 := fun _ _ => Tryz.call231 _ _
theorem cok232 : callOk Tryz.prog 232 := fun _ _ => Tryz.call232 _ _
theorem cok233 : callOk Tryz.prog 233 := fun _ _ => Tryz.call233 _ _
theorem cok234 : callOk Tryz.prog 234 := fun _ _ => Tryz.call234 _ _
theorem cok235 : callOk Tryz.prog 235 := fun _ _ => Tryz.call235 _ _
theorem cok236 : callOk Tryz.prog 236 := fun _ _ => Tryz.call236 _ _
theorem cok241 : callOk Tryz.prog 241 := fun _ _ => Tryz.call241 _ _
theorem cok249 : callOk Tryz.prog 249 := fun _ _ => Tryz.call249 _ _
theorem cok250 : callOk Tryz.prog 250 := fun _ _ => Tryz.call250 _ _
theorem cok251 : callOk Tryz.prog 251 := fun _ _ => Tryz.call251 _ _
theorem cok252 : callOk Tryz.prog 252 := fun _ _ => Tryz.call252 _ _
theorem cok253 : callOk Tryz.prog 253 := fun _ _ => Tryz.call253 _ _
theorem cok254 : callOk Tryz.prog 254 := fun _ _ => Tryz.call254 _ _
theorem cok255 : callOk Tryz.prog 255 := fun _ _ => Tryz.call255 _ _
theorem cok256 : callOk Tryz.prog 256 := fun _ _ => Tryz.call256 _ _
theorem cok257 : callOk Tryz.prog 257 := fun _ _ => Tryz.call257 _ _
theorem cok258 : callOk Tryz.prog 258 := fun _ _ => Tryz.call258 _ _
theorem cok259 : callOk Tryz.prog 259 := fun _ _ => Tryz.call259 _ _
theorem cok260 : callOk Tryz.prog 260 := fun _ _ => Tryz.call260 _ _
theorem cok261 : callOk Tryz.prog 261 := fun _ _ => Tryz.call261 _ _
theorem cok262 : callOk Tryz.prog 262 := fun _ _ => Tryz.call262 _ _
theorem cok263 : callOk Tryz.prog 263 := fun _ _ => Tryz.call263 _ _
theorem cok268 : callOk Tryz.prog 268 := fun _ _ => Tryz.call268 _ _
theorem cok279 : callOk Tryz.prog 279 := fun _ _ => Tryz.call279 _ _
theorem cok280 : callOk Tryz.prog 280 := fun _ _ => Tryz.call280 _ _
theorem cok281 : callOk Tryz.prog 281 := fun _ _ => Tryz.call281 _ _
theorem cok282 : callOk Tryz.prog 282 := fun _ _ => Tryz.call282 _ _
theorem cok283 : callOk Tryz.prog 283 := fun _ _ => Tryz.call283 _ _
theorem cok284 : callOk Tryz.prog 284 := fun _ _ => Tryz.call284 _ _
theorem cok285 : callOk Tryz.prog 285 := fun _ _ => Tryz.call285 _ _
theorem cok286 : callOk Tryz.prog 286 := fun _ _ => Tryz.call286 _ _
theorem cok287 : callOk Tryz.prog 287 := fun _ _ => Tryz.call287 _ _
theorem cok299 : callOk Tryz.prog 299 := fun _ _ => Tryz.call299 _ _
theorem cok300 : callOk Tryz.prog 300 := fun _ _ => Tryz.call300 _ _
theorem cok306 : callOk Tryz.prog 306 := fun _ _ => Tryz.call306 _ _

theorem back220 {G : Nat → Option (List V)} (l : List Int) : AC Tryz.prog G 220 [sL eNI l] [] (.fn 249 [.loc 100 0]) [(100, .cells 35 [sL eNI l])] := by
 refine AC.enter Tryz.func220 rfl ?_
 refine CO.cutR (tl 4 [(1, .loc 100 0)]) [(100, .cells 35 [sL eNI l])] mix (by
   refine wR 2 100 ?_
   exact W.fin (by decide) (by kernel_rfl) (wS [(100, 100)] [1])
   ) ?_
 refine CO.cutR (tl 4 [(2, .fn 249 [.loc 100 0])]) [(100, .cells 35 [sL eNI l])] mix (by
   refine wR 2 101 ?_
   exact W.fin (by decide) (by kernel_rfl) (wS [(100, 100)] [2])
   ) ?_
 refine CO.ret ?_
 exact eG [(100, 100)] (.inr rfl) (RetV.one rfl (oT (t := 2) (r := .fn 249 [.loc 100 0])))

theorem backok249 : BackOk Tryz.prog 249 := by
 intro l g n Inv Stop w hmax hlen hdraw hround h0
 refine callsIn_wide.1 (callsIn_of_wp (F := Fence.wide) (n := 0) Tryz.func249 rfl trivial ?_ rfl)
 show Code.wpIn (fen none) 0 _ _ _ _ _
 simp only [Tryz.ntmps249, List.size_toArray, List.length_cons, List.length_nil, Nat.reduceAdd, Nat.reduceSub, Array.replicate_succ, Array.replicate_zero, List.push_toArray, List.append_toArray, List.nil_append, List.cons_append]
 refine wpIn_seq (wpIn_region_lit ?_)
 obtain ⟨a0, cap0, hc0⟩ := hlen w h0
 have hn64 : (n : Int) ≤ 9223372036854775807 := by
  simp only [maxLen] at hmax
  omega
 refine listVal rfl (fun _ h => by cases h) (w' := w) (v := .slice a0 n cap0) ?_ ?_
 ·simp only [execOp, Sem.run_bind]
  rw [run_load1 Dk (t := 35) (by rfl) rfl (b := ⟨g, 0, none⟩) (by simp [Act.eval]) hc0]
  rfl
 refine listVal rfl (fun _ h => by cases h) (w' := w) (v := .int .i64 n) ?_ ?_
 ·simp [execOp, resolve, invoke, builtin, Builtin.len_, run_underlying Tryz.underlying35, goInt, Act.eval, Act.put]
 refine listVal rfl (fun _ h => by cases h) (w' := w) (v := .int .i64 (IntKind.wrap .i64 ((n : Int) - 1))) ?_ ?_
 ·simp [execOp, go_sem, Op.intArith, Act.eval, Act.put]
 refine listVal rfl (fun _ h => by cases h) (w' := w) (v := .int .i64 (IntKind.wrap .i64 ((n : Int) - 1))) ?_ ?_
 ·simp [execOp, Act.eval, Act.put]
 unfold wpListIn
 rw [wrap64 (by omega) (by omega)]
 refine wpIn_block (wpIn_loop_rounds (n + 1) ?_)
 refine rounds_by (fun k a W => Inv k W ∧ k ≤ n ∧ a.tmps.size = 19 ∧ slot a 0 = .func (.yield l) #[] #[] ∧ slot a 1 = .pointer (some ⟨g, 0, none⟩) ∧ slot a 3 = .int .i64 ((k : Int) - 1) ∧ a.defers = []) ?_ ?_ n _ w ?_
 ··rintro a W ⟨hi, hk, s1, s2, s3, s4, s5⟩
   refine wpIn_seq (wpIn_seq (wpIn_region_lit ?_))
   refine listVal rfl (fun _ h => by cases h) (w' := W) (v := .int .i64 (-1)) ?_ ?_
   ·simp only [execOp, eval_slot, s4]; rfl
   refine listVal rfl (fun _ h => by cases h) (w' := W) (v := .bool false) ?_ ?_
   ·simp [execOp, go_sem, eval_slot, slot_put, s1]
   refine wpIn_cond_false (by simp [eval_slot, slot_put, aput_size, s1]) (wpIn_exit ?_)
   refine ⟨by simp [aput_def, s5], _, results_none rfl _ _ _, ⟨_, rfl⟩, .inl hi⟩
 ··rintro k a W ⟨hi, hk, s1, s2, s3, s4, s5⟩
   have s4' : slot a 3 = .int .i64 (k : Int) := by rw [s4]; congr 1; omega
   obtain ⟨hkn, b, cap, v, c1, c2, c3, c4, f, tmps, asg, body, hy, hR⟩ := hround k W hi
   refine wpIn_seq (wpIn_seq (wpIn_region_lit ?_))
   refine listVal rfl (fun _ h => by cases h) (w' := W) (v := .int .i64 k) ?_ ?_
   ·simp only [execOp, eval_slot, s4']; rfl
   refine listVal rfl (fun _ h => by cases h) (w' := W) (v := .bool true) ?_ ?_
   ·simp [execOp, go_sem, eval_slot, slot_put, s1]
   refine wpIn_cond_true (by simp [eval_slot, slot_put, aput_size, s1]) (wpIn_skip (wpIn_seq (wpIn_block (wpIn_seq (wpIn_region_lit ?_)))))
   refine listVal rfl (fun _ h => by cases h) (w' := W) (v := .func (.yield l) #[] #[]) ?_ ?_
   ·simp [execOp, eval_slot, slot_put, aput_size, s1, s2]
   refine listVal rfl (fun _ h => by cases h) (w' := W) (v := .int .i64 k) ?_ ?_
   ·simp [execOp, eval_slot, slot_put, aput_size, s1, s4']
   refine listVal rfl (fun _ h => by cases h) (w' := W) (v := .slice (some b) n cap) ?_ ?_
   ·simp only [execOp, Sem.run_bind]
    rw [run_load1 Dk (t := 35) rfl rfl (by simp [eval_slot, slot_put, aput_size, s1, s3]) c1]
    rfl
   refine listVal rfl (fun _ h => by cases h) (w' := W) (v := .int .i64 k) ?_ ?_
   ·simp [execOp, eval_slot, slot_put, aput_size, s1, s4']
   refine listVal rfl (fun _ h => by cases h) (w' := W) (v := .pointer (some (b.add k))) ?_ ?_
   ·unfold execOp
    have hz : D.at 3 = some { d := .int .i64, size := 1, bytes := 8, zero := [.int .i64 0], cmp := false } := by kernel_rfl
    have hk' : (0 : Int) ≤ (k : Int) ∧ (k : Int) < (n : Int) := by omega
    simp only [eval_slot, slot_put, aput_size, s1, s4', Nat.reduceLT, Nat.reduceEqDiff, if_pos, if_neg, reduceIte, Nat.reduceBEq]
    simp only [Instr.indexAt, Sem.run_bind, asIntOf, Sem.run_pure, Result.andThen_ok, run_underlying Tryz.underlying35, Sem.run_ite, if_pos hk', (Dk _ _ hz).sizeOf W]
    simp
   refine listVal rfl (fun _ h => by cases h) (w' := W) (v := v) ?_ ?_
   ·simp only [execOp, Sem.run_bind]
    rw [run_load1 Dk (t := 3) rfl rfl (by simp [eval_slot, slot_put, aput_size, s1]) c3]
    rfl
   refine listRound rfl (fun _ h => by cases h) (l := l) (f := f) (tmps := tmps) (asg := asg) (body := body) ?_ hR ?_
   ·simp [execOp, resolve, invoke, eval_slot, slot_put, aput_size, s1, Deferred.ofValue, hy]
   rintro e W' (⟨rfl, hi'⟩ | ⟨rfl, hs⟩)
   ·refine ⟨_, rfl, ?_⟩
    refine listVal rfl (fun _ h => by cases h) (w' := W') (v := .bool false) ?_ ?_
    ·simp [execOp, go_sem, Op.unary, eval_slot, slot_put, aput_size, s1]
    refine wpIn_cond_false (by simp [eval_slot, slot_put, aput_size, s1]) (wpIn_skip (wpIn_region_lit ?_))
    refine listVal rfl (fun _ h => by cases h) (w' := W') (v := .int .i64 k) ?_ ?_
    ·simp [execOp, eval_slot, slot_put, aput_size, s1, s4']
    refine listVal rfl (fun _ h => by cases h) (w' := W') (v := .int .i64 ((k : Int) - 1)) ?_ ?_
    ·have := wrap64 (n := (k : Int) - 1) (by omega) (by omega)
     simp [execOp, go_sem, Op.intArith, eval_slot, slot_put, aput_size, s1, this]
    refine listVal rfl (fun _ h => by cases h) (w' := W') (v := .int .i64 ((k : Int) - 1)) ?_ ?_
    ·simp [execOp, eval_slot, slot_put, aput_size, s1]
    refine ⟨hi', by omega, ?_, ?_, ?_, ?_, ?_⟩
    ·simp [aput_size, s1]
    ·simp [slot_put, aput_size, s1, s2]
    ·simp [slot_put, aput_size, s1, s3]
    ·simp [slot_put, aput_size, s1]
    ·simp [aput_def, s5]
   ·refine ⟨_, rfl, ?_⟩
    refine listVal rfl (fun _ h => by cases h) (w' := W') (v := .bool true) ?_ ?_
    ·simp [execOp, go_sem, Op.unary, eval_slot, slot_put, aput_size, s1]
    refine wpIn_cond_true (by simp [eval_slot, slot_put, aput_size, s1]) (wpIn_ret ?_)
    exact ⟨by simp [aput_def, s5], _, results_none rfl _ _ _, ⟨_, rfl⟩, .inr hs⟩
 ·refine ⟨h0, Nat.le_refl _, ?_, ?_, ?_, ?_, ?_⟩ <;> simp [slot, Act.put]

theorem ml_big_ok (a0 : LU) {r : Bool} (h : ml_big a0 = some r) :
    AC Tryz.prog (GS []) 9 [sL byteRow a0] [] (V.b r) [] := by
 rw [ml_big] at h
 refine AC.enter Tryz.func9 rfl (cV 100 (CO.sw mix (wR 1 100 (wN byteRow a0 [] (wR 2 100 (wF ?_))))))
 cases h
 exact e1 2 id

theorem ms_l1New_ok (N : Nat) (a0 : LU) {r : (LU × Int × Int)} (h : ms_l1New N a0 = some r) :
    AC Tryz.prog (GS []) 53 [sL byteRow a0] [] (.loc 100 0) [(100, .cells 128 [sL byteRow r.1, V.i r.2.1, V.i r.2.2])] := by
 rw [ms_l1New] at h
 refine AC.enter Tryz.func53 rfl (cV 100 (CO.sw mix (wR 1 100 (wN byteRow a0 [] (wR 2 100 (wF (CO.seq' (cV 100 ?_))))))))
 refine CO.block' (CO.loopJ (fun (⟨a0, y29, y30⟩ : (LU × Int × Int)) => ⟨tl 32 [(0, sL byteRow a0), (3, V.i y29), (4, V.i y30)], []⟩) (fun n i => ms_l1New_l1 N n i = some r) (n0 := N) (i0 := (a0, (wr (10101 + (a0.length : Int))), 0)) (wS [] [0, 3, 4]) h (fun i h => by simp [ms_l1New_l1] at h) ?_)
 rintro n1 ⟨a0, y29, y30⟩ h63 ih64
 rw [ms_l1New_l1] at h63
 refine CO.seq' (bB h63 fun y40 hv70 h63 => ?_)
 refine CO.cutR (tl 32 [(0, sL byteRow a0), (3, V.i y29), (4, V.i y30), (15, V.b y40)]) [] mix (by
  refine wR 2 160 (wN byteRow a0 [] (wR 2 160 ?_))
  refine wJ 12 hv70 (fun hv70 => ?_) (fun hv70 => ?_)
  ·refine wR 3 160 ?_
   cases hv70
   exact fS [] [0, 3, 4, 15]
  refine wR 3 160 ?_
  cases hv70
  exact fS [] [0, 3, 4, 15]
  ) ?_
 refine cI h63 (fun _ h63 => ?_) (fun _ h63 => ?_)
 ·refine CO.skip (CO.seq' (CO.block' (bB h63 fun e44 hx76 h63 => ?_)))
  refine CO.endR (tl 32 [(0, sL byteRow a0), (3, V.i (bits .and .i64 (wr ((wr ((wr (y29 * 131)) + (wr ((e44).toNat : Int)))) + 7)) 1073741823)), (4, V.i y30)]) [] mix (by
   refine wR 4 160 (wX byteRow hx76 1 (wR 6 160 ?_))
   exact fI
   ) (fun st hw => ?_)
  refine CO.weak hw ?_
  exact cK 160 ih64 (a0, (bits .and .i64 (wr ((wr ((wr (y29 * 131)) + (wr ((e44).toNat : Int)))) + 7)) 1073741823), (wr (y30 + 1))) h63 [] [0, 3, 4]
 refine CO.exit (cV 160 (CO.ret ?_))
 cases h63
 exact eG [(160, 100)] (.inr rfl) (RetV.one rfl (oT (t := 2) (r := .loc 160 0)))

theorem ms_l1Byte_ok (pa : LU) (pb : Int) (pc : Int) {r : (Int × Int × Int)} (h : ms_l1Byte pa pb pc = some r) :
    AC Tryz.prog (GS []) 141 [.loc 0 0] [(0, .cells 128 [sL byteRow pa, V.i pb, V.i pc])] (V.i r.1) [(0, .cells 128 [sL byteRow pa, V.i r.2.1, V.i r.2.2])] := by
 rw [ms_l1Byte] at h
 refine AC.enter Tryz.func141 rfl (cV 100 (cV 100 (cV 100 ?_)))
 refine CO.join (fun (⟨pc, y3, y4⟩ : (Int × Int × Int)) => ⟨tl 58 [(3, V.i y3)], [(0, .cells 128 [sL byteRow pa, V.i y4, V.i (wr ((wr (pc * 6364136223846793005)) + 1442695040888963407))])]⟩) (fun i => ms_l1Byte_k1 pa i = some r) ?_ ?_
 · rintro ⟨pc, y3, y4⟩ h4
   rw [ms_l1Byte_k1] at h4
   refine cV 100 (CO.ret ?_)
   have h4 := sI h4
   subst h4
   exact eG [(0, 0)] (.inr rfl) (RetV.one rfl (oT (t := 2) (r := V.i y3)))
 intro hk5
 refine CO.sw mix (wR 8 100 (wN byteRow pa [] (wR 1 100 (wF ?_))))
 refine cI h (fun _ h => ?_) (fun _ h => ?_)
 ·refine bB h fun e6 hx8 h => (CO.sw mix (wR 9 100 (wX byteRow hx8 1 (wR 5 100 (wF ?_)))))
  exact cK 100 hk5 (pc, (bits .and .i64 (wr ((bits .and .i64 (bits .xor .i64 (Int.fdiv (wr ((wr (pc * 6364136223846793005)) + 1442695040888963407)) (2 ^ (min 33 64))) (Int.fdiv (wr ((wr (pc * 6364136223846793005)) + 1442695040888963407)) (2 ^ (min 45 64)))) 255) + (wr ((e6).toNat : Int)))) 255), (wr (pb + 1))) h [(0, 0)] [3]
 exact sK hk5 (pc, (bits .and .i64 (bits .xor .i64 (Int.fdiv (wr ((wr (pc * 6364136223846793005)) + 1442695040888963407)) (2 ^ (min 33 64))) (Int.fdiv (wr ((wr (pc * 6364136223846793005)) + 1442695040888963407)) (2 ^ (min 45 64)))) 255), pb) h [(0, 0)] [3]

theorem ms_l1Below_ok (a1 : Int) (pa : LU) (pb : Int) (pc : Int) {r : (Int × Int × Int)} (h : ms_l1Below a1 pa pb pc = some r) :
    AC Tryz.prog (GS []) 63 [.loc 0 0, V.i a1] [(0, .cells 128 [sL byteRow pa, V.i pb, V.i pc])] (V.i r.1) [(0, .cells 128 [sL byteRow pa, V.i r.2.1, V.i r.2.2])] := by
 rw [ms_l1Below] at h
 refine AC.enter Tryz.func63 rfl (cV 100 (CO.seq' (cV 100 ?_)))
 refine cI h (fun _ h => ?_) (fun _ h => ?_)
 ·refine cV 100 (CO.ret ?_)
  cases h
  exact eG [(0, 0)] (.inr rfl) (RetV.one rfl (oT (t := 4) (r := V.i 0)))
 refine CO.skip (CO.seq' (cV 100 ?_))
 refine cI h (fun _ h => ?_) (fun _ h => ?_)
 ·refine bB h fun r7 hx11 h => (bB h fun x8 hx12 h => (CO.sw mix (wR 1 100 (wC (ms_l1Byte_ok pa pb pc hx11) cok141 [(0, 0)] [(0, 0)] [] (wR 1 100 (W.rem (k := .i64) hx12 (by kernel_rfl) (wR 1 100 (wF ?_))))))))
  refine CO.ret ?_
  have h := sI h
  subst h
  exact eG [(0, 0)] (.inr rfl) (RetV.one rfl (oT (t := 4) (r := V.i x8)))
 refine CO.skip (bB h fun r10 hx14 h => (CO.sw mix (wR 1 100 (wC (ms_l1Byte_ok pa pb pc hx14) cok141 [(0, 0)] [(0, 0)] [] (wR 1 100 (wF (bB h fun r12 hx16 h => (CO.sw mix ?_))))))))
 refine wR 1 100 (wC (ms_l1Byte_ok pa r10.2.1 r10.2.2 hx16) cok141 [(0, 0)] [(0, 0)] [] (wR 1 100 (wF (bB h fun r14 hx18 h => (CO.sw mix (wR 1 100 (wC (ms_l1Byte_ok pa r12.2.1 r12.2.2 hx18) cok141 [(0, 0)] [(0, 0)] [] (wR 1 100 ?_))))))))
 refine wF (bB h fun r16 hx20 h => (CO.sw mix (wR 1 100 (wC (ms_l1Byte_ok pa r14.2.1 r14.2.2 hx20) cok141 [(0, 0)] [(0, 0)] [] (wR 1 100 (wF (bB h fun x18 hx22 h => (CO.sw mix ?_))))))))
 refine wR 11 100 (W.rem (k := .i64) hx22 (by kernel_rfl) (wR 1 100 (wF (CO.ret ?_))))
 have h := sI h
 subst h
 exact eG [(0, 0)] (.inr rfl) (RetV.one rfl (oT (t := 4) (r := V.i x18)))

theorem ms_l1Once_ok (a1 : Int) (pa : LU) (pb : Int) (pc : Int) {r : (Bool × Int × Int)} (h : ms_l1Once a1 pa pb pc = some r) :
    AC Tryz.prog (GS []) 85 [.loc 0 0, V.i a1] [(0, .cells 128 [sL byteRow pa, V.i pb, V.i pc])] (V.b r.1) [(0, .cells 128 [sL byteRow pa, V.i r.2.1, V.i r.2.2])] := by
 rw [ms_l1Once] at h
 refine AC.enter Tryz.func85 rfl (cV 100 (bB h fun r2 hx2 h => (CO.sw mix (wR 2 100 (wC (ms_l1Below_ok a1 pa pb pc hx2) cok63 [(0, 0)] [(0, 0)] [] (wR 2 100 (wF (CO.ret ?_))))))))
 have h := sI h
 subst h
 exact eG [(0, 0)] (.inr rfl) (RetV.one rfl (oT (t := 4) (r := V.b (r2.1 == 0))))

theorem ms_l1Pick_ok (a1 : LLU) (pa : LU) (pb : Int) (pc : Int) {r : (LU × Int × Int)} (h : ms_l1Pick a1 pa pb pc = some r) :
    AC Tryz.prog (GS []) 128 [.loc 0 0, sL eNS a1] [(0, .cells 128 [sL byteRow pa, V.i pb, V.i pc])] (V.s r.1) [(0, .cells 128 [sL byteRow pa, V.i r.2.1, V.i r.2.2])] := by
 rw [ms_l1Pick] at h
 refine AC.enter Tryz.func128 rfl (cV 100 (bB h fun r3 hx3 h => (bB h fun e4 hx4 h => (CO.sw mix (wR 3 100 (wN eNS a1 [] (wC (ms_l1Below_ok (a1.length : Int) pa pb pc hx3) cok63 [(0, 0)] [(0, 0)] [] (wX eNS hx4 1 ?_))))))))
 refine wR 2 100 (wF (CO.ret ?_))
 have h := sI h
 subst h
 exact eG [(0, 0)] (.inr rfl) (RetV.one rfl (oT (t := 4) (r := V.s e4)))

theorem ms_l4Num_ok (pa : LU) (pb : Int) (pc : Int) {r : (LU × Int × Int)} (h : ms_l4Num pa pb pc = some r) :
    AC Tryz.prog (GS []) 167 [.loc 0 0] [(0, .cells 128 [sL byteRow pa, V.i pb, V.i pc])] (V.s r.1) [(0, .cells 128 [sL byteRow pa, V.i r.2.1, V.i r.2.2])] := by
 rw [ms_l4Num] at h
 refine AC.enter Tryz.func167 rfl (cV 100 (bB h fun r2 hx2 h => (CO.sw mix (wR 2 100 (wD (ms_l1Pick_ok [[48], [49], [52, 50], [51, 46, 53], [46, 53], [55, 46], [49, 101, 51], [50, 69, 45, 52], [49, 48, 46, 50, 53, 101, 43, 49]] pa pb pc hx2) cok128 [(0, 0)] [(0, 0)] [] (LayOk.cons (j := 100) eNS eNS ([[48], [49], [52, 50], [51, 46, 53], [46, 53], [55, 46], [49, 101, 51], [50, 69, 45, 52], [49, 48, 46, 50, 53, 101, 43, 49]] : LLU) (by kernel_rfl) (fun _ => rfl) lO) (wR 1 101 (wF (CO.ret ?_))))))))
 have h := sI h
 subst h
 exact eG [(0, 0)] (.inr rfl) (RetV.one rfl (oT (t := 2) (r := V.s r2.1)))

theorem ms_l4Str_ok (pa : LU) (pb : Int) (pc : Int) {r : (LU × Int × Int)} (h : ms_l4Str pa pb pc = some r) :
    AC Tryz.prog (GS []) 168 [.loc 0 0] [(0, .cells 128 [sL byteRow pa, V.i pb, V.i pc])] (V.s r.1) [(0, .cells 128 [sL byteRow pa, V.i r.2.1, V.i r.2.2])] := by
 rw [ms_l4Str] at h
 refine AC.enter Tryz.func168 rfl (cV 100 (bB h fun r2 hx2 h => (CO.sw mix (wR 2 100 (wD (ms_l1Pick_ok [[34, 34], [34, 97, 34], [34, 120, 32, 121, 34], [34, 113, 92, 34, 113, 34], [34, 92, 110, 34], [34, 35, 110, 111, 34], [34, 47, 34]] pa pb pc hx2) cok128 [(0, 0)] [(0, 0)] [] (LayOk.cons (j := 100) eNS eNS ([[34, 34], [34, 97, 34], [34, 120, 32, 121, 34], [34, 113, 92, 34, 113, 34], [34, 92, 110, 34], [34, 35, 110, 111, 34], [34, 47, 34]] : LLU) (by kernel_rfl) (fun _ => rfl) lO) (wR 1 101 (wF (CO.ret ?_))))))))
 have h := sI h
 subst h
 exact eG [(0, 0)] (.inr rfl) (RetV.one rfl (oT (t := 2) (r := V.s r2.1)))

theorem ms_l4Ere_ok (pa : LU) (pb : Int) (pc : Int) {r : (LU × Int × Int)} (h : ms_l4Ere pa pb pc = some r) :
    AC Tryz.prog (GS []) 169 [.loc 0 0] [(0, .cells 128 [sL byteRow pa, V.i pb, V.i pc])] (V.s r.1) [(0, .cells 128 [sL byteRow pa, V.i r.2.1, V.i r.2.2])] := by
 rw [ms_l4Ere] at h
 refine AC.enter Tryz.func169 rfl (cV 100 (bB h fun r2 hx2 h => (CO.sw mix (wR 2 100 (wD (ms_l1Pick_ok [[47, 97, 47], [47, 94, 120, 43, 36, 47], [47, 97, 92, 47, 98, 47], [47, 61, 47], [47, 32, 47], [47, 91, 48, 45, 57, 93, 47]] pa pb pc hx2) cok128 [(0, 0)] [(0, 0)] [] (LayOk.cons (j := 100) eNS eNS ([[47, 97, 47], [47, 94, 120, 43, 36, 47], [47, 97, 92, 47, 98, 47], [47, 61, 47], [47, 32, 47], [47, 91, 48, 45, 57, 93, 47]] : LLU) (by kernel_rfl) (fun _ => rfl) lO) (wR 1 101 (wF (CO.ret ?_))))))))
 have h := sI h
 subst h
 exact eG [(0, 0)] (.inr rfl) (RetV.one rfl (oT (t := 2) (r := V.s r2.1)))

theorem ms_l2Word_ok (pa : LU) (pb : Int) (pc : Int) {r : (LU × Int × Int)} (h : ms_l2Word pa pb pc = some r) :
    AC Tryz.prog (GS []) 170 [.loc 0 0] [(0, .cells 128 [sL byteRow pa, V.i pb, V.i pc])] (V.s r.1) [(0, .cells 128 [sL byteRow pa, V.i r.2.1, V.i r.2.2])] := by
 rw [ms_l2Word] at h
 refine AC.enter Tryz.func170 rfl (cV 100 (bB h fun r2 hx2 h => (CO.sw mix (wR 2 100 (wD (ms_l1Pick_ok [[120], [121], [110], [105], [97, 114, 114], [78, 82], [70, 83], [116, 111, 116, 97, 108], [97, 49], [95, 116], [99, 111, 117, 110, 116]] pa pb pc hx2) cok128 [(0, 0)] [(0, 0)] [] (LayOk.cons (j := 100) eNS eNS ([[120], [121], [110], [105], [97, 114, 114], [78, 82], [70, 83], [116, 111, 116, 97, 108], [97, 49], [95, 116], [99, 111, 117, 110, 116]] : LLU) (by kernel_rfl) (fun _ => rfl) lO) (wR 1 101 (wF (CO.ret ?_))))))))
 have h := sI h
 subst h
 exact eG [(0, 0)] (.inr rfl) (RetV.one rfl (oT (t := 2) (r := V.s r2.1)))

theorem ms_l7Leaf_ok (pa : LU) (pb : Int) (pc : Int) {r : (LN × Int × Int)} (h : ms_l7Leaf pa pb pc = some r) :
    AC Tryz.prog (GS []) 108 [.loc 0 0] [(0, .cells 128 [sL byteRow pa, V.i pb, V.i pc])] (.own 100) [(0, .cells 128 [sL byteRow pa, V.i r.2.1, V.i r.2.2]), (100, .vec false 37 5 (r.1.map (eSN true)))] := by
 rw [ms_l7Leaf] at h
 refine AC.enter Tryz.func108 rfl (cV 100 ?_)
 refine CO.join (fun (⟨y11, y12⟩ : (Int × Int)) => ⟨tl 29 [(0, .loc 0 0)], [(0, .cells 128 [sL byteRow pa, V.i y11, V.i y12])]⟩) (fun i => ms_l7Leaf_k1 pa i = some r) ?_ ?_
 · rintro ⟨y11, y12⟩ h15
   rw [ms_l7Leaf_k1] at h15
   refine bB h15 fun r14 hx17 h15 => (CO.sw mix (wR 1 100 (wC (ms_l2Word_ok pa y11 y12 hx17) cok170 [(0, 0)] [(0, 0)] [] (wR 3 100 (wF (CO.ret ?_))))))
   cases h15
   exact eG [(0, 0), (100, 100)] (.inr rfl) (RetV.one rfl (oT (t := 2) (r := .own 100)))
 intro hk18
 refine bB h fun r16 hx20 h => (CO.sw mix (wR 1 100 (wC (ms_l1Below_ok 7 pa pb pc hx20) cok63 [(0, 0)] [(0, 0)] [] (wF (CO.block' (cV 100 ?_))))))
 refine cI h (fun _ h => ?_) (fun _ h => ?_)
 ·refine bB h fun r18 hx23 h => (CO.sw mix (wR 1 100 (wC (ms_l4Num_ok pa r16.2.1 r16.2.2 hx23) cok167 [(0, 0)] [(0, 0)] [] (wR 3 100 (wF (CO.ret ?_))))))
  cases h
  exact eG [(0, 0), (100, 100)] (.inr rfl) (RetV.one rfl (oT (t := 2) (r := .own 100)))
 refine cV 100 ?_
 refine cI h (fun _ h => ?_) (fun _ h => ?_)
 ·refine bB h fun r20 hx26 h => (CO.sw mix (wR 1 100 (wC (ms_l4Str_ok pa r16.2.1 r16.2.2 hx26) cok168 [(0, 0)] [(0, 0)] [] (wR 3 100 (wF (CO.ret ?_))))))
  cases h
  exact eG [(0, 0), (100, 100)] (.inr rfl) (RetV.one rfl (oT (t := 2) (r := .own 100)))
 refine cV 100 ?_
 refine cI h (fun _ h => ?_) (fun _ h => ?_)
 ·refine bB h fun r22 hx29 h => (CO.sw mix (wR 1 100 (wC (ms_l1Once_ok 2 pa r16.2.1 r16.2.2 hx29) cok85 [(0, 0)] [(0, 0)] [] (wF ?_))))
  refine cI h (fun _ h => ?_) (fun _ h => ?_)
  ·refine bB h fun r24 hx32 h => (CO.sw mix (wR 1 100 (wC (ms_l4Ere_ok pa r22.2.1 r22.2.2 hx32) cok169 [(0, 0)] [(0, 0)] [] (wR 3 100 (wF (CO.ret ?_))))))
   cases h
   exact eG [(0, 0), (100, 100)] (.inr rfl) (RetV.one rfl (oT (t := 2) (r := .own 100)))
  exact sK hk18 (r22.2.1, r22.2.2) h [(0, 0)] [0]
 exact sK hk18 (r16.2.1, r16.2.2) h [(0, 0)] [0]

theorem ms_l6Shift_ok (N : Nat) (a0 : LN) (a1 : Int) {r : LN} (h : ms_l6Shift N a0 a1 = some r) :
    AC Tryz.prog (GS []) 148 [.sl false false (a0.map (eSN false)), V.i a1] [] (.own 100) [(100, .vec false 37 5 (r.map (eSN true)))] := by
 rw [ms_l6Shift] at h
 refine AC.enter Tryz.func148 rfl (cV 100 (cV 100 (CO.seq' (cV 101 (CO.block' (CO.loopJ (fun (⟨a0, a1, y869, y870⟩ : (LN × Int × Int × LN)) => ⟨tl 52 [(0, .sl false false (a0.map (eSN false))), (1, V.i a1), (5, .own 100), (6, V.i y869)], [(100, .vec false 37 5 (y870.map (eSN true)))]⟩) (fun n i => ms_l6Shift_l1 N n i = some r) (n0 := N) (i0 := (a0, a1, 0, [])) (wS [(100, 100)] [0, 1, 5, 6]) h (fun i h => by simp [ms_l6Shift_l1] at h) ?_))))))
 rintro n1 ⟨a0, a1, y869, y870⟩ h1173 ih1174
 rw [ms_l6Shift_l1] at h1173
 refine CO.seq' (CO.sw mix (wR 2 297 (wN (eSN false) a0 [] (wR 1 297 (wF ?_)))))
 refine cI h1173 (fun _ h1173 => ?_) (fun _ h1173 => ?_)
 ·refine CO.skip (CO.seq' (CO.block' (bB h1173 fun e1198 hx1294 h1173 => (CO.sw mix (wR 2 297 (wX (eSN false) hx1294 5 (wR 3 297 (wF ?_))))))))
  refine cV 298 (CO.seq' (cV 299 (CO.block' (CO.loopJ (fun (⟨a0, a1, y869, y870, e1198, y1267, y1268⟩ : (LN × Int × Int × LN × SNode × Int × (List Int))) => ⟨tl 52 [(0, .sl false false (a0.map (eSN false))), (1, V.i a1), (5, .own 100), (6, V.i y869), (7, .loc 101 0), (8, V.i y1267)], [(100, .vec false 37 5 (y870.map (eSN true))), (101, .cells 37 [V.i e1198.Kind, V.i e1198.Op, V.s e1198.Text, V.s e1198.Other, .own 102]), (102, vX 3 1 eNI y1268)]⟩) (fun n i => ms_l6Shift_l2 N (ms_l6Shift_l1 N n1) n i = some r) (n0 := N) (i0 := (a0, a1, y869, y870, e1198, 0, [])) (wS [(100, 100), (297, 101), (298, 102)] [0, 1, 5, 6, 7, 8]) h1173 (fun i h => by simp [ms_l6Shift_l2] at h) ?_))))
  rintro n2 ⟨a0, a1, y869, y870, e1198, y1267, y1268⟩ h1387 ih1388
  rw [ms_l6Shift_l2] at h1387
  refine CO.seq' (bB h1387 fun e1290 hx1393 h1387 => (CO.sw mix (wR 3 363 (wX (eSN false) hx1393 5 (wR 2 363 (wN eNI e1290.Kids [] (wR 1 363 (wF ?_))))))))
  refine cI h1387 (fun _ h1387 => ?_) (fun _ h1387 => ?_)
  ·refine CO.skip (CO.seq' (CO.block' (bB h1387 fun e1300 hx1404 h1387 => (bB h1387 fun e1301 hx1405 h1387 => (bB h1387 fun x1302 hx1406 h1387 => ?_)))))
   refine CO.endR (tl 52 [(0, .sl false false (a0.map (eSN false))), (1, V.i a1), (5, .own 100), (6, V.i y869), (7, .loc 101 0), (8, V.i y1267)]) [(101, .cells 37 [V.i e1198.Kind, V.i e1198.Op, V.s e1198.Text, V.s e1198.Other, .own 364]), (364, vX 3 1 eNI x1302), (100, .vec false 37 5 (y870.map (eSN true)))] mix (by
    refine wR 4 363 (wX (eSN false) hx1404 5 (wR 3 363 (wX eNI hx1405 1 (wR 4 363 (W.appO Dk eNI (a := 102) (c := 363) (el := 3) (sz := 1) 8 hx1406 rfl 364 (by kernel_rfl) (wR 2 365 ?_))))))
    exact fI
    ) (fun st hw => ?_)
   refine CO.weak hw ?_
   exact cK 365 ih1388 (a0, a1, y869, y870, e1198, (wr (y1267 + 1)), x1302) h1387 [(100, 100), (101, 101), (364, 102)] [0, 1, 5, 6, 7, 8]
  refine CO.exit (bB h1387 fun x1304 hx1408 h1387 => ?_)
  refine CO.endR (tl 52 [(0, .sl false false (a0.map (eSN false))), (1, V.i a1), (5, .own 364), (6, V.i y869)]) [(364, .vec false 37 5 (x1304.map (eSN true)))] mix (by
   refine wR 3 363 (W.appO Dk (eSN true) (a := 100) (c := 363) (el := 37) (sz := 5) 72 hx1408 rfl 364 (by kernel_rfl) (wR 1 365 ?_))
   exact fI
   ) (fun st hw => ?_)
  refine CO.weak hw ?_
  exact cK 365 ih1174 (a0, a1, (wr (y869 + 1)), x1304) h1387 [(364, 100)] [0, 1, 5, 6]
 refine CO.exit (cV 297 (CO.ret ?_))
 cases h1173
 exact eG [(100, 100)] (.inr rfl) (RetV.one rfl (oT (t := 4) (r := .own 100)))

theorem ms_l6Make_ok (N : Nat) (a0 : SNode) (a1 : List LN) {r : LN} (h : ms_l6Make N a0 a1 = some r) :
    AC Tryz.prog (GS []) 87 [.agg [V.i a0.Kind, V.i a0.Op, V.s a0.Text, V.s a0.Other, sL eNI a0.Kids], .sl false false (a1.map (encL false (eSN false)))] [] (.own 100) [(100, .vec false 37 5 (r.map (eSN true)))] := by
 rw [ms_l6Make] at h
 refine AC.enter Tryz.func87 rfl (cV 100 (cV 101 (cV 102 (CO.seq' (cV 103 (CO.block' (CO.loopJ (fun (⟨a1, a0, y71, y72, y73⟩ : ((List LN) × SNode × Int × LN × (List Int))) => ⟨tl 37 [(1, .sl false false (a1.map (encL false (eSN false)))), (2, .loc 100 0), (5, .own 101), (6, V.i y71)], [(100, .cells 37 [V.i a0.Kind, V.i a0.Op, V.s a0.Text, V.s a0.Other, .own 102]), (101, .vec false 37 5 (y72.map (eSN true))), (102, vX 3 1 eNI y73)]⟩) (fun n i => ms_l6Make_l1 N n i = some r) (n0 := N) (i0 := (a1, a0, 0, [], [])) (wS [(100, 100), (101, 101), (102, 102)] [1, 2, 5, 6]) h (fun i h => by simp [ms_l6Make_l1] at h) ?_)))))))
 rintro n1 ⟨a1, a0, y71, y72, y73⟩ h93 ih94
 rw [ms_l6Make_l1] at h93
 refine CO.seq' (CO.sw mix (wR 2 171 (wN (encL false (eSN false)) a1 [] (wR 1 171 (wF ?_)))))
 refine cI h93 (fun _ h93 => ?_) (fun _ h93 => ?_)
 ·refine CO.skip (CO.seq' (CO.block' (bB h93 fun e104 hx108 h93 => (bB h93 fun r105 hx109 h93 => (bB h93 fun x106 hx110 h93 => (CO.sw mix (wR 3 171 (wX (encL false (eSN false)) hx108 1 ?_))))))))
  refine wR 2 171 (wN (eSN true) y72 [101] (wC (ms_l6Shift_ok N e104 (y72.length : Int) hx109) cok148 [] [(100, 171)] [171] (W.appO Dk (eSN true) (a := 101) (c := 171) (el := 37) (sz := 5) 72 hx110 rfl 172 (by kernel_rfl) (wR 1 173 (wF (bB h93 fun x108 hx112 h93 => ?_))))))
  refine CO.endR (tl 37 [(1, .sl false false (a1.map (encL false (eSN false)))), (2, .loc 100 0), (5, .own 172), (6, V.i y71)]) [(100, .cells 37 [V.i a0.Kind, V.i a0.Op, V.s a0.Text, V.s a0.Other, .own 174]), (174, vX 3 1 eNI x108), (172, .vec false 37 5 (x106.map (eSN true)))] mix (by
   refine wR 3 173 (wN (eSN true) x106 [172] (wR 2 173 (W.appO Dk eNI (a := 102) (c := 173) (el := 3) (sz := 1) 8 hx112 rfl 174 (by kernel_rfl) (wR 2 175 ?_))))
   exact fI
   ) (fun st hw => ?_)
  refine CO.weak hw ?_
  exact cK 175 ih94 (a1, a0, (wr (y71 + 1)), x106, x108) h93 [(100, 100), (172, 101), (174, 102)] [1, 2, 5, 6]
 refine CO.exit (bB h93 fun x110 hx114 h93 => (CO.sw mix (wR 3 171 (W.appO Dk (eSN true) (a := 101) (c := 171) (el := 37) (sz := 5) 72 hx114 rfl 172 (by kernel_rfl) (wR 1 173 (wF (CO.ret ?_)))))))
 cases h93
 exact eG [(172, 100)] (.inr rfl) (RetV.one rfl (oT (t := 4) (r := .own 172)))

theorem ms_l1PickInt_ok (a1 : List Int) (pa : LU) (pb : Int) (pc : Int) {r : (Int × Int × Int)} (h : ms_l1PickInt a1 pa pb pc = some r) :
    AC Tryz.prog (GS []) 127 [.loc 0 0, sL eNI a1] [(0, .cells 128 [sL byteRow pa, V.i pb, V.i pc])] (V.i r.1) [(0, .cells 128 [sL byteRow pa, V.i r.2.1, V.i r.2.2])] := by
 rw [ms_l1PickInt] at h
 refine AC.enter Tryz.func127 rfl (cV 100 (bB h fun r3 hx3 h => (bB h fun e4 hx4 h => (CO.sw mix (wR 3 100 (wN eNI a1 [] (wC (ms_l1Below_ok (a1.length : Int) pa pb pc hx3) cok63 [(0, 0)] [(0, 0)] [] (wX eNI hx4 1 ?_))))))))
 refine wR 2 100 (wF (CO.ret ?_))
 have h := sI h
 subst h
 exact eG [(0, 0)] (.inr rfl) (RetV.one rfl (oT (t := 4) (r := V.i e4)))

theorem ms_l7BinOp_ok (pa : LU) (pb : Int) (pc : Int) {r : (Int × Int × Int)} (h : ms_l7BinOp pa pb pc = some r) :
    AC Tryz.prog (GS []) 88 [.loc 0 0] [(0, .cells 128 [sL byteRow pa, V.i pb, V.i pc])] (V.i r.1) [(0, .cells 128 [sL byteRow pa, V.i r.2.1, V.i r.2.2])] := by
 rw [ms_l7BinOp] at h
 refine AC.enter Tryz.func88 rfl (cV 100 (bB h fun r2 hx2 h => (CO.sw mix (wR 2 100 (wD (ms_l1PickInt_ok [60, 57, 58, 59, 55, 56, 56, 99, 99, 99, 63, 48, 47, 50, 62, 62, 49, 67, 46, 45, 44] pa pb pc hx2) cok127 [(0, 0)] [(0, 0)] [] (LayOk.cons (j := 100) eNI eNI ([60, 57, 58, 59, 55, 56, 56, 99, 99, 99, 63, 48, 47, 50, 62, 62, 49, 67, 46, 45, 44] : List Int) (by kernel_rfl) (fun _ => rfl) lO) (wR 1 101 (wF (CO.ret ?_))))))))
 have h := sI h
 subst h
 exact eG [(0, 0)] (.inr rfl) (RetV.one rfl (oT (t := 2) (r := V.i r2.1)))

structure RecOk1 (R : Rec1) : Prop where
 ms_l7List : ∀ (a1 : Int) (a2 : Int) (a3 : Int) (pa : LU) (pb : Int) (pc : Int) (r : ((List LN) × Int × Int)), R.ms_l7List a1 a2 a3 pa pb pc = some r → AC Tryz.prog (GS []) 172 [.loc 0 0, V.i a1, V.i a2, V.i a3] [(0, .cells 128 [sL byteRow pa, V.i pb, V.i pc])] (.own 100) [(0, .cells 128 [sL byteRow pa, V.i r.2.1, V.i r.2.2]), (100, .vec false 24 1 (r.1.map (encL true (eSN true))))]
 ms_l7Lvalue : ∀ (a1 : Int) (pa : LU) (pb : Int) (pc : Int) (r : (LN × Int × Int)), R.ms_l7Lvalue a1 pa pb pc = some r → AC Tryz.prog (GS []) 171 [.loc 0 0, V.i a1] [(0, .cells 128 [sL byteRow pa, V.i pb, V.i pc])] (.own 100) [(0, .cells 128 [sL byteRow pa, V.i r.2.1, V.i r.2.2]), (100, .vec false 37 5 (r.1.map (eSN true)))]
 ms_l7Expr : ∀ (a1 : Int) (pa : LU) (pb : Int) (pc : Int) (r : (LN × Int × Int)), R.ms_l7Expr a1 pa pb pc = some r → AC Tryz.prog (GS []) 109 [.loc 0 0, V.i a1] [(0, .cells 128 [sL byteRow pa, V.i pb, V.i pc])] (.own 100) [(0, .cells 128 [sL byteRow pa, V.i r.2.1, V.i r.2.2]), (100, .vec false 37 5 (r.1.map (eSN true)))]

theorem ms_l7List_F_ok (N : Nat) (R : Rec1) (HR : RecOk1 R) (a1 : Int) (a2 : Int) (a3 : Int) (pa : LU) (pb : Int) (pc : Int) {r : ((List LN) × Int × Int)} (h : ms_l7List_F N R a1 a2 a3 pa pb pc = some r) :
    AC Tryz.prog (GS []) 172 [.loc 0 0, V.i a1, V.i a2, V.i a3] [(0, .cells 128 [sL byteRow pa, V.i pb, V.i pc])] (.own 100) [(0, .cells 128 [sL byteRow pa, V.i r.2.1, V.i r.2.2]), (100, .vec false 24 1 (r.1.map (encL true (eSN true))))] := by
 rw [ms_l7List_F] at h
 refine AC.enter Tryz.func172 rfl (cV 100 (cV 100 (CO.seq' (bB h fun r36 hx36 h => (CO.sw mix (wR 6 101 (wC (ms_l1Below_ok (wr ((wr (a2 - a1)) + 1)) pa pb pc hx36) cok63 [(0, 0)] [(0, 0)] [] (wR 2 101 ?_))))))))
 refine wF (CO.block' (CO.loopJ (fun (⟨a3, y45, y46, y47, y48⟩ : (Int × Int × Int × Int × (List LN))) => ⟨tl 31 [(0, .loc 0 0), (3, V.i a3), (9, .own 100), (10, V.i y45)], [(0, .cells 128 [sL byteRow pa, V.i y46, V.i y47]), (100, .vec false 24 1 (y48.map (encL true (eSN true))))]⟩) (fun n i => ms_l7List_l1 N R pa n i = some r) (n0 := N) (i0 := (a3, (wr (a1 + r36.1)), r36.2.1, r36.2.2, [])) (wS [(0, 0), (100, 100)] [0, 3, 9, 10]) h (fun i h => by simp [ms_l7List_l1] at h) ?_))
 rintro n1 ⟨a3, y45, y46, y47, y48⟩ h57 ih58
 rw [ms_l7List_l1] at h57
 refine CO.seq' (cV 167 ?_)
 refine cI h57 (fun _ h57 => ?_) (fun _ h57 => ?_)
 ·refine CO.skip (CO.seq' (CO.block' (bB h57 fun r67 hx67 h57 => (bB h57 fun x68 hx68 h57 => ?_))))
  refine CO.endR (tl 31 [(0, .loc 0 0), (3, V.i a3), (9, .own 169), (10, V.i y45)]) [(169, .vec false 24 1 (x68.map (encL true (eSN true)))), (0, .cells 128 [sL byteRow pa, V.i r67.2.1, V.i r67.2.2])] mix (by
   refine wR 3 167 (wC (HR.ms_l7Expr a3 pa y46 y47 _ hx67) cok109 [(0, 0)] [(0, 0), (100, 167)] [167] (wR 1 168 (W.appO Dk (encL true (eSN true)) (a := 100) (c := 168) (el := 24) (sz := 1) 24 hx68 rfl 169 (by kernel_rfl) (wR 1 170 ?_))))
   exact fI
   ) (fun st hw => ?_)
  refine CO.weak hw ?_
  exact cK 170 ih58 (a3, (wr (y45 - 1)), r67.2.1, r67.2.2, x68) h57 [(0, 0), (169, 100)] [0, 3, 9, 10]
 refine CO.exit (cV 167 (CO.ret ?_))
 cases h57
 exact eG [(0, 0), (100, 100)] (.inr rfl) (RetV.one rfl (oT (t := 8) (r := .own 100)))

theorem ms_l7Lvalue_F_ok (N : Nat) (R : Rec1) (HR : RecOk1 R) (a1 : Int) (pa : LU) (pb : Int) (pc : Int) {r : (LN × Int × Int)} (h : ms_l7Lvalue_F N R a1 pa pb pc = some r) :
    AC Tryz.prog (GS []) 171 [.loc 0 0, V.i a1] [(0, .cells 128 [sL byteRow pa, V.i pb, V.i pc])] (.own 100) [(0, .cells 128 [sL byteRow pa, V.i r.2.1, V.i r.2.2]), (100, .vec false 37 5 (r.1.map (eSN true)))] := by
 rw [ms_l7Lvalue_F] at h
 refine AC.enter Tryz.func171 rfl (cV 100 (CO.seq' (bB h fun r14 hx16 h => (CO.sw mix (wR 1 100 (wC (ms_l1Below_ok 4 pa pb pc hx16) cok63 [(0, 0)] [(0, 0)] [] (wF (CO.block' ?_))))))))
 refine cV 100 ?_
 refine cI h (fun _ h => ?_) (fun _ h => ?_)
 ·refine bB h fun r18 hx21 h => (bB h fun r19 hx22 h => (bB h fun r20 hx23 h => (CO.sw mix (wR 1 100 (wC (ms_l2Word_ok pa r14.2.1 r14.2.2 hx21) cok170 [(0, 0)] [(0, 0)] [] (wR 4 100 (wC (HR.ms_l7Expr (wr (a1 - 1)) pa r18.2.1 r18.2.2 _ hx22) cok109 [(0, 0)] [(0, 0), (100, 100)] [100] (wR 1 101 ?_))))))))
  refine W.lend (ms_l6Make_ok N (⟨5, 0, r18.1, [], []⟩ : SNode) [r19.1] hx23) cok87 [(100, 102)] [102] (LayOk.cons (j := 101) (encL true (eSN true)) (encL false (eSN false)) ([r19.1] : List LN) (by kernel_rfl) (share_encL _ (sh_eSN _)) lO) (.own _) (.cons (DeepR.map (fun _ => (.cons (.c _) (.cons (.c _) (.cons (.c _) (.cons (.c _) (.cons (.sl _ _ (DeepR.map (fun _ => (.cons (.c _) .nil)) _)) .nil)))))) _) .nil) (by kernel_rfl) (by kernel_rfl) (wR 1 103 (wF (CO.ret ?_)))
  cases h
  exact eG [(0, 0), (102, 100)] (.inr rfl) (RetV.one rfl (oT (t := 4) (r := .own 102)))
 refine cV 100 ?_
 refine cI h (fun _ h => ?_) (fun _ h => ?_)
 ·refine bB h fun r23 hx27 h => (bB h fun r24 hx28 h => (CO.sw mix (wR 4 100 (wC (HR.ms_l7Expr (wr (a1 - 2)) pa r14.2.1 r14.2.2 _ hx27) cok109 [(0, 0)] [(0, 0), (100, 100)] [100] (wR 1 101 (W.lend (ms_l6Make_ok N (⟨6, 0, [], [], []⟩ : SNode) [r23.1] hx28) cok87 [(100, 102)] [102] (LayOk.cons (j := 101) (encL true (eSN true)) (encL false (eSN false)) ([r23.1] : List LN) (by kernel_rfl) (share_encL _ (sh_eSN _)) lO) (.own _) (.cons (DeepR.map (fun _ => (.cons (.c _) (.cons (.c _) (.cons (.c _) (.cons (.c _) (.cons (.sl _ _ (DeepR.map (fun _ => (.cons (.c _) .nil)) _)) .nil)))))) _) .nil) (by kernel_rfl) (by kernel_rfl) (wR 1 103 (wF ?_))))))))
  refine CO.ret ?_
  cases h
  exact eG [(0, 0), (102, 100)] (.inr rfl) (RetV.one rfl (oT (t := 4) (r := .own 102)))
 refine CO.skip (bB h fun r26 hx30 h => (CO.sw mix (wR 1 100 (wC (ms_l2Word_ok pa r14.2.1 r14.2.2 hx30) cok170 [(0, 0)] [(0, 0)] [] (wR 3 100 (wF (CO.ret ?_)))))))
 cases h
 exact eG [(0, 0), (100, 100)] (.inr rfl) (RetV.one rfl (oT (t := 4) (r := .own 100)))

theorem ms_l7Expr_F_ok (N : Nat) (R : Rec1) (HR : RecOk1 R) (a1 : Int) (pa : LU) (pb : Int) (pc : Int) {r : (LN × Int × Int)} (h : ms_l7Expr_F N R a1 pa pb pc = some r) :
    AC Tryz.prog (GS []) 109 [.loc 0 0, V.i a1] [(0, .cells 128 [sL byteRow pa, V.i pb, V.i pc])] (.own 100) [(0, .cells 128 [sL byteRow pa, V.i r.2.1, V.i r.2.2]), (100, .vec false 37 5 (r.1.map (eSN true)))] := by
 rw [ms_l7Expr_F] at h
 refine AC.enter Tryz.func109 rfl (cV 100 (CO.seq' (cV 100 ?_)))
 refine cI h (fun _ h => ?_) (fun _ h => ?_)
 ·refine bB h fun r4 hx6 h => (CO.sw mix (wR 1 100 (wC (ms_l7Leaf_ok pa pb pc hx6) cok108 [(0, 0)] [(0, 0), (100, 100)] [100] (wR 1 101 (wF (CO.ret ?_))))))
  cases h
  exact eG [(0, 0), (100, 100)] (.inr rfl) (RetV.one rfl (oT (t := 4) (r := .own 100)))
 refine CO.skip (bB h fun r6 hx8 h => (CO.sw mix (wR 1 100 (wC (ms_l1Below_ok 2 pa pb pc hx8) cok63 [(0, 0)] [(0, 0)] [] (wR 2 100 (wF (CO.seq' (bB h fun r67 hx83 h => ?_))))))))
 refine CO.sw mix (wR 1 100 (wC (ms_l1Below_ok 16 pa r6.2.1 r6.2.2 hx83) cok63 [(0, 0)] [(0, 0)] [] (wF (CO.block' (cV 100 ?_)))))
 refine cI h (fun _ h => ?_) (fun _ h => ?_)
 ·refine bB h fun r69 hx86 h => (CO.sw mix (wR 1 100 (wC (ms_l7Leaf_ok pa r67.2.1 r67.2.2 hx86) cok108 [(0, 0)] [(0, 0), (100, 100)] [100] (wR 1 101 (wF (CO.ret ?_))))))
  cases h
  exact eG [(0, 0), (100, 100)] (.inr rfl) (RetV.one rfl (oT (t := 4) (r := .own 100)))
 refine cV 100 ?_
 refine cI h (fun _ h => ?_) (fun _ h => ?_)
 ·refine bB h fun r71 hx89 h => (CO.sw mix (wR 2 100 (wC (HR.ms_l7Lvalue a1 pa r67.2.1 r67.2.2 _ hx89) cok171 [(0, 0)] [(0, 0), (100, 100)] [100] (wR 1 101 (wF (CO.ret ?_))))))
  cases h
  exact eG [(0, 0), (100, 100)] (.inr rfl) (RetV.one rfl (oT (t := 4) (r := .own 100)))
 refine cV 100 ?_
 refine cI h (fun _ h => ?_) (fun _ h => ?_)
 ·refine bB h fun r74 hx93 h => (bB h fun r75 hx94 h => (CO.sw mix (wR 4 100 (wC (HR.ms_l7Expr (wr (a1 - 1)) pa r67.2.1 r67.2.2 _ hx93) cok109 [(0, 0)] [(0, 0), (100, 100)] [100] (wR 1 101 (W.lend (ms_l6Make_ok N (⟨6, 0, [], [], []⟩ : SNode) [r74.1] hx94) cok87 [(100, 102)] [102] (LayOk.cons (j := 101) (encL true (eSN true)) (encL false (eSN false)) ([r74.1] : List LN) (by kernel_rfl) (share_encL _ (sh_eSN _)) lO) (.own _) (.cons (DeepR.map (fun _ => (.cons (.c _) (.cons (.c _) (.cons (.c _) (.cons (.c _) (.cons (.sl _ _ (DeepR.map (fun _ => (.cons (.c _) .nil)) _)) .nil)))))) _) .nil) (by kernel_rfl) (by kernel_rfl) (wR 1 103 (wF ?_))))))))
  refine CO.ret ?_
  cases h
  exact eG [(0, 0), (102, 100)] (.inr rfl) (RetV.one rfl (oT (t := 4) (r := .own 102)))
 refine cV 100 ?_
 refine cI h (fun _ h => ?_) (fun _ h => ?_)
 ·refine bB h fun r79 hx99 h => (bB h fun r80 hx100 h => (bB h fun r81 hx101 h => (CO.sw mix (wR 1 100 (wC (ms_l2Word_ok pa r67.2.1 r67.2.2 hx99) cok170 [(0, 0)] [(0, 0)] [] (wR 4 100 (wC (HR.ms_l7List 0 3 (wr (a1 - 1)) pa r79.2.1 r79.2.2 _ hx100) cok172 [(0, 0)] [(0, 0), (100, 100)] [100] (W.lend (ms_l6Make_ok N (⟨7, 0, r79.1, [], []⟩ : SNode) r80.1 hx101) cok87 [(100, 101)] [101] (LayOk.cons (j := 100) (encL true (eSN true)) (encL false (eSN false)) r80.1 (by kernel_rfl) (share_encL _ (sh_eSN _)) lO) (.own _) (.cons (DeepR.map (fun _ => (.cons (.c _) (.cons (.c _) (.cons (.c _) (.cons (.c _) (.cons (.sl _ _ (DeepR.map (fun _ => (.cons (.c _) .nil)) _)) .nil)))))) _) .nil) (by kernel_rfl) (by kernel_rfl) ?_))))))))
  refine wR 1 102 (wF (CO.ret ?_))
  cases h
  exact eG [(0, 0), (101, 100)] (.inr rfl) (RetV.one rfl (oT (t := 4) (r := .own 101)))
 refine cV 100 ?_
 refine cI h (fun _ h => ?_) (fun _ h => ?_)
 ·refine bB h fun r85 hx106 h => (bB h fun r86 hx107 h => (bB h fun r87 hx108 h => (CO.sw mix (wR 2 100 (wD (ms_l1Pick_ok [[108, 101, 110, 103, 116, 104], [115, 117, 98, 115, 116, 114], [105, 110, 100, 101, 120], [105, 110, 116], [116, 111, 117, 112, 112, 101, 114]] pa r67.2.1 r67.2.2 hx106) cok128 [(0, 0)] [(0, 0)] [] (LayOk.cons (j := 100) eNS eNS ([[108, 101, 110, 103, 116, 104], [115, 117, 98, 115, 116, 114], [105, 110, 100, 101, 120], [105, 110, 116], [116, 111, 117, 112, 112, 101, 114]] : LLU) (by kernel_rfl) (fun _ => rfl) lO) (wR 4 101 (wC (HR.ms_l7List 0 3 (wr (a1 - 2)) pa r85.2.1 r85.2.2 _ hx107) cok172 [(0, 0)] [(0, 0), (100, 101)] [101] (W.lend (ms_l6Make_ok N (⟨8, 0, r85.1, [], []⟩ : SNode) r86.1 hx108) cok87 [(100, 102)] [102] (LayOk.cons (j := 101) (encL true (eSN true)) (encL false (eSN false)) r86.1 (by kernel_rfl) (share_encL _ (sh_eSN _)) lO) (.own _) (.cons (DeepR.map (fun _ => (.cons (.c _) (.cons (.c _) (.cons (.c _) (.cons (.c _) (.cons (.sl _ _ (DeepR.map (fun _ => (.cons (.c _) .nil)) _)) .nil)))))) _) .nil) (by kernel_rfl) (by kernel_rfl) ?_))))))))
  refine wR 1 103 (wF (CO.ret ?_))
  cases h
  exact eG [(0, 0), (102, 100)] (.inr rfl) (RetV.one rfl (oT (t := 4) (r := .own 102)))
 refine cV 100 ?_
 refine cI h (fun _ h => ?_) (fun _ h => ?_)
 ·refine bB h fun r90 hx112 h => (bB h fun r91 hx113 h => (CO.sw mix (wR 5 100 (wC (HR.ms_l7Lvalue (wr (a1 - 1)) pa r67.2.1 r67.2.2 _ hx112) cok171 [(0, 0)] [(0, 0), (100, 100)] [100] (wR 1 101 (W.lend (ms_l6Make_ok N (⟨9, (wr (51 + r6.1)), [], [], []⟩ : SNode) [r90.1] hx113) cok87 [(100, 102)] [102] (LayOk.cons (j := 101) (encL true (eSN true)) (encL false (eSN false)) ([r90.1] : List LN) (by kernel_rfl) (share_encL _ (sh_eSN _)) lO) (.own _) (.cons (DeepR.map (fun _ => (.cons (.c _) (.cons (.c _) (.cons (.c _) (.cons (.c _) (.cons (.sl _ _ (DeepR.map (fun _ => (.cons (.c _) .nil)) _)) .nil)))))) _) .nil) (by kernel_rfl) (by kernel_rfl) (wR 1 103 (wF ?_))))))))
  refine CO.ret ?_
  cases h
  exact eG [(0, 0), (102, 100)] (.inr rfl) (RetV.one rfl (oT (t := 4) (r := .own 102)))
 refine cV 100 ?_
 refine cI h (fun _ h => ?_) (fun _ h => ?_)
 ·refine bB h fun r94 hx117 h => (bB h fun r95 hx118 h => (CO.sw mix (wR 5 100 (wC (HR.ms_l7Lvalue (wr (a1 - 1)) pa r67.2.1 r67.2.2 _ hx117) cok171 [(0, 0)] [(0, 0), (100, 100)] [100] (wR 1 101 (W.lend (ms_l6Make_ok N (⟨10, (wr (51 + r6.1)), [], [], []⟩ : SNode) [r94.1] hx118) cok87 [(100, 102)] [102] (LayOk.cons (j := 101) (encL true (eSN true)) (encL false (eSN false)) ([r94.1] : List LN) (by kernel_rfl) (share_encL _ (sh_eSN _)) lO) (.own _) (.cons (DeepR.map (fun _ => (.cons (.c _) (.cons (.c _) (.cons (.c _) (.cons (.c _) (.cons (.sl _ _ (DeepR.map (fun _ => (.cons (.c _) .nil)) _)) .nil)))))) _) .nil) (by kernel_rfl) (by kernel_rfl) (wR 1 103 (wF ?_))))))))
  refine CO.ret ?_
  cases h
  exact eG [(0, 0), (102, 100)] (.inr rfl) (RetV.one rfl (oT (t := 4) (r := .own 102)))
 refine CO.join (fun (⟨a1, r67, y96⟩ : (Int × (Int × Int × Int) × Bool)) => ⟨tl 143 [(0, .loc 0 0), (1, V.i a1), (14, V.i r67.1), (74, V.b y96)], [(0, .cells 128 [sL byteRow pa, V.i r67.2.1, V.i r67.2.2])]⟩) (fun i => ms_l7Expr_k1 N R pa i = some r) ?_ ?_
 · rintro ⟨a1, r67, y96⟩ h120
   rw [ms_l7Expr_k1] at h120
   refine cI h120 (fun _ h120 => ?_) (fun _ h120 => ?_)
   ·refine bB h120 fun r100 hx125 h120 => (bB h120 fun r101 hx126 h120 => (bB h120 fun r102 hx127 h120 => (CO.sw mix (wR 2 100 (wD (ms_l1PickInt_ok [56, 55, 61] pa r67.2.1 r67.2.2 hx125) cok127 [(0, 0)] [(0, 0)] [] (LayOk.cons (j := 100) eNI eNI ([56, 55, 61] : List Int) (by kernel_rfl) (fun _ => rfl) lO) (wR 4 101 (wC (HR.ms_l7Expr (wr (a1 - 1)) pa r100.2.1 r100.2.2 _ hx126) cok109 [(0, 0)] [(0, 0), (100, 101)] [101] (wR 1 102 ?_))))))))
    refine W.lend (ms_l6Make_ok N (⟨11, r100.1, [], [], []⟩ : SNode) [r101.1] hx127) cok87 [(100, 103)] [103] (LayOk.cons (j := 102) (encL true (eSN true)) (encL false (eSN false)) ([r101.1] : List LN) (by kernel_rfl) (share_encL _ (sh_eSN _)) lO) (.own _) (.cons (DeepR.map (fun _ => (.cons (.c _) (.cons (.c _) (.cons (.c _) (.cons (.c _) (.cons (.sl _ _ (DeepR.map (fun _ => (.cons (.c _) .nil)) _)) .nil)))))) _) .nil) (by kernel_rfl) (by kernel_rfl) (wR 1 104 (wF (CO.ret ?_)))
    cases h120
    exact eG [(0, 0), (103, 100)] (.inr rfl) (RetV.one rfl (oT (t := 4) (r := .own 103)))
   refine cV 100 ?_
   refine cI h120 (fun _ h120 => ?_) (fun _ h120 => ?_)
   ·refine bB h120 fun r106 hx132 h120 => (bB h120 fun r107 hx133 h120 => (bB h120 fun r108 hx134 h120 => (CO.sw mix (wR 1 100 (wC (ms_l2Word_ok pa r67.2.1 r67.2.2 hx132) cok170 [(0, 0)] [(0, 0)] [] (wR 4 100 (wC (HR.ms_l7List 1 2 (wr (a1 - 1)) pa r106.2.1 r106.2.2 _ hx133) cok172 [(0, 0)] [(0, 0), (100, 100)] [100] (W.lend (ms_l6Make_ok N (⟨13, 0, r106.1, [], []⟩ : SNode) r107.1 hx134) cok87 [(100, 101)] [101] (LayOk.cons (j := 100) (encL true (eSN true)) (encL false (eSN false)) r107.1 (by kernel_rfl) (share_encL _ (sh_eSN _)) lO) (.own _) (.cons (DeepR.map (fun _ => (.cons (.c _) (.cons (.c _) (.cons (.c _) (.cons (.c _) (.cons (.sl _ _ (DeepR.map (fun _ => (.cons (.c _) .nil)) _)) .nil)))))) _) .nil) (by kernel_rfl) (by kernel_rfl) ?_))))))))
    refine wR 1 102 (wF (CO.ret ?_))
    cases h120
    exact eG [(0, 0), (101, 100)] (.inr rfl) (RetV.one rfl (oT (t := 4) (r := .own 101)))
   refine cV 100 ?_
   refine cI h120 (fun _ h120 => ?_) (fun _ h120 => ?_)
   ·refine bB h120 fun r113 hx140 h120 => (bB h120 fun r114 hx141 h120 => (bB h120 fun r115 hx142 h120 => (bB h120 fun r116 hx143 h120 => (CO.sw mix (wR 4 100 (wC (HR.ms_l7Expr (wr (a1 - 1)) pa r67.2.1 r67.2.2 _ hx140) cok109 [(0, 0)] [(0, 0), (100, 100)] [100] (wR 3 101 (wC (HR.ms_l7Expr (wr (a1 - 1)) pa r113.2.1 r113.2.2 _ hx141) cok109 [(0, 0)] [(0, 0), (100, 101)] [101] ?_))))))))
    refine wR 3 102 (wC (HR.ms_l7Expr (wr (a1 - 1)) pa r114.2.1 r114.2.2 _ hx142) cok109 [(0, 0)] [(0, 0), (100, 102)] [102] (wR 1 103 (W.lend (ms_l6Make_ok N (⟨14, 0, [], [], []⟩ : SNode) [r113.1, r114.1, r115.1] hx143) cok87 [(100, 104)] [104] (LayOk.cons (j := 103) (encL true (eSN true)) (encL false (eSN false)) ([r113.1, r114.1, r115.1] : List LN) (by kernel_rfl) (share_encL _ (sh_eSN _)) lO) (.own _) (.cons (DeepR.map (fun _ => (.cons (.c _) (.cons (.c _) (.cons (.c _) (.cons (.c _) (.cons (.sl _ _ (DeepR.map (fun _ => (.cons (.c _) .nil)) _)) .nil)))))) _) .nil) (by kernel_rfl) (by kernel_rfl) (wR 1 105 (wF (CO.ret ?_))))))
    cases h120
    exact eG [(0, 0), (104, 100)] (.inr rfl) (RetV.one rfl (oT (t := 4) (r := .own 104)))
   refine cV 100 ?_
   refine cI h120 (fun _ h120 => ?_) (fun _ h120 => ?_)
   ·refine bB h120 fun r121 hx149 h120 => (bB h120 fun r122 hx150 h120 => (bB h120 fun r123 hx151 h120 => (bB h120 fun r124 hx152 h120 => (CO.sw mix (wR 2 100 (wD (ms_l1PickInt_ok [54, 38, 43] pa r67.2.1 r67.2.2 hx149) cok127 [(0, 0)] [(0, 0)] [] (LayOk.cons (j := 100) eNI eNI ([54, 38, 43] : List Int) (by kernel_rfl) (fun _ => rfl) lO) (wR 4 101 (wC (HR.ms_l7Lvalue (wr (a1 - 1)) pa r121.2.1 r121.2.2 _ hx150) cok171 [(0, 0)] [(0, 0), (100, 101)] [101] ?_))))))))
    refine wR 3 102 (wC (HR.ms_l7Expr (wr (a1 - 1)) pa r122.2.1 r122.2.2 _ hx151) cok109 [(0, 0)] [(0, 0), (100, 102)] [102] (wR 1 103 (W.lend (ms_l6Make_ok N (⟨15, r121.1, [], [], []⟩ : SNode) [r122.1, r123.1] hx152) cok87 [(100, 104)] [104] (LayOk.cons (j := 103) (encL true (eSN true)) (encL false (eSN false)) ([r122.1, r123.1] : List LN) (by kernel_rfl) (share_encL _ (sh_eSN _)) lO) (.own _) (.cons (DeepR.map (fun _ => (.cons (.c _) (.cons (.c _) (.cons (.c _) (.cons (.c _) (.cons (.sl _ _ (DeepR.map (fun _ => (.cons (.c _) .nil)) _)) .nil)))))) _) .nil) (by kernel_rfl) (by kernel_rfl) (wR 1 105 (wF (CO.ret ?_))))))
    cases h120
    exact eG [(0, 0), (104, 100)] (.inr rfl) (RetV.one rfl (oT (t := 4) (r := .own 104)))
   refine CO.skip (bB h120 fun r129 hx157 h120 => (bB h120 fun r130 hx158 h120 => (bB h120 fun r131 hx159 h120 => (bB h120 fun r132 hx160 h120 => (CO.sw mix (wR 1 100 (wC (ms_l7BinOp_ok pa r67.2.1 r67.2.2 hx157) cok88 [(0, 0)] [(0, 0)] [] (wR 4 100 ?_))))))))
   refine wC (HR.ms_l7Expr (wr (a1 - 1)) pa r129.2.1 r129.2.2 _ hx158) cok109 [(0, 0)] [(0, 0), (100, 100)] [100] (wR 3 101 (wC (HR.ms_l7Expr (wr (a1 - 1)) pa r130.2.1 r130.2.2 _ hx159) cok109 [(0, 0)] [(0, 0), (100, 101)] [101] (wR 1 102 (W.lend (ms_l6Make_ok N (⟨12, r129.1, [], [], []⟩ : SNode) [r130.1, r131.1] hx160) cok87 [(100, 103)] [103] (LayOk.cons (j := 102) (encL true (eSN true)) (encL false (eSN false)) ([r130.1, r131.1] : List LN) (by kernel_rfl) (share_encL _ (sh_eSN _)) lO) (.own _) (.cons (DeepR.map (fun _ => (.cons (.c _) (.cons (.c _) (.cons (.c _) (.cons (.c _) (.cons (.sl _ _ (DeepR.map (fun _ => (.cons (.c _) .nil)) _)) .nil)))))) _) .nil) (by kernel_rfl) (by kernel_rfl) (wR 1 104 (wF (CO.ret ?_)))))))
   cases h120
   exact eG [(0, 0), (103, 100)] (.inr rfl) (RetV.one rfl (oT (t := 4) (r := .own 103)))
 intro hk161
 refine cV 100 ?_
 refine cI h (fun _ h => ?_) (fun _ h => ?_)
 ·exact sK hk161 (a1, r67, (r67.1 == 7)) h [(0, 0)] [0, 1, 14, 74]
 exact cK 100 hk161 (a1, r67, (r67.1 == 8)) h [(0, 0)] [0, 1, 14, 74]

theorem scc1_ok : ∀ N, RecOk1 (scc1 N)
 | 0 => ⟨fun _ _ _ _ _ _ _ h => (by cases h), fun _ _ _ _ _ h => (by cases h), fun _ _ _ _ _ h => (by cases h)⟩
 | N + 1 => ⟨fun a1 a2 a3 pa pb pc _ h => ms_l7List_F_ok N (scc1 N) (scc1_ok N) a1 a2 a3 pa pb pc h, fun a1 pa pb pc _ h => ms_l7Lvalue_F_ok N (scc1 N) (scc1_ok N) a1 pa pb pc h, fun a1 pa pb pc _ h => ms_l7Expr_F_ok N (scc1 N) (scc1_ok N) a1 pa pb pc h⟩

theorem ms_l7List_ok (N : Nat) (a1 : Int) (a2 : Int) (a3 : Int) (pa : LU) (pb : Int) (pc : Int) {r : ((List LN) × Int × Int)} (h : ms_l7List N a1 a2 a3 pa pb pc = some r) :
  AC Tryz.prog (GS []) 172 [.loc 0 0, V.i a1, V.i a2, V.i a3] [(0, .cells 128 [sL byteRow pa, V.i pb, V.i pc])] (.own 100) [(0, .cells 128 [sL byteRow pa, V.i r.2.1, V.i r.2.2]), (100, .vec false 24 1 (r.1.map (encL true (eSN true))))] :=
 (scc1_ok N).ms_l7List a1 a2 a3 pa pb pc r h
theorem ms_l7Expr_ok (N : Nat) (a1 : Int) (pa : LU) (pb : Int) (pc : Int) {r : (LN × Int × Int)} (h : ms_l7Expr N a1 pa pb pc = some r) :
  AC Tryz.prog (GS []) 109 [.loc 0 0, V.i a1] [(0, .cells 128 [sL byteRow pa, V.i pb, V.i pc])] (.own 100) [(0, .cells 128 [sL byteRow pa, V.i r.2.1, V.i r.2.2]), (100, .vec false 37 5 (r.1.map (eSN true)))] :=
 (scc1_ok N).ms_l7Expr a1 pa pb pc r h

theorem ms_l7Some_ok (N : Nat) (pa : LU) (pb : Int) (pc : Int) {r : (LN × Int × Int)} (h : ms_l7Some N pa pb pc = some r) :
    AC Tryz.prog (GS []) 138 [.loc 0 0] [(0, .cells 128 [sL byteRow pa, V.i pb, V.i pc])] (.own 100) [(0, .cells 128 [sL byteRow pa, V.i r.2.1, V.i r.2.2]), (100, .vec false 37 5 (r.1.map (eSN true)))] := by
 rw [ms_l7Some] at h
 refine AC.enter Tryz.func138 rfl (cV 100 (CO.block' (CO.loopJ (fun (⟨pb, pc⟩ : (Int × Int)) => ⟨tl 13 [(0, .loc 0 0)], [(0, .cells 128 [sL byteRow pa, V.i pb, V.i pc])]⟩) (fun n i => ms_l7Some_l1 N pa n i = some r) (n0 := N) (i0 := (pb, pc)) (wS [(0, 0)] [0]) h (fun i h => by simp [ms_l7Some_l1] at h) ?_)))
 rintro n1 ⟨pb, pc⟩ h6 ih7
 rw [ms_l7Some_l1] at h6
 refine CO.block' (bB h6 fun r9 hx10 h6 => (bB h6 fun r10 hx11 h6 => (CO.sw mix (wR 2 141 (wC (ms_l1Below_ok 4 pa pb pc hx10) cok63 [(0, 0)] [(0, 0)] [] (wR 1 141 (wC (ms_l7Expr_ok N (wr (1 + r9.1)) pa r9.2.1 r9.2.2 hx11) cok109 [(0, 0)] [(0, 0), (100, 141)] [141] (wR 1 142 ?_))))))))
 refine wF (CO.sw mix (wR 1 142 (wN (eSN true) r10.1 [141] (wR 1 142 (wF ?_)))))
 refine cI h6 (fun _ h6 => ?_) (fun _ h6 => ?_)
 ·refine cV 142 (CO.ret ?_)
  cases h6
  exact eG [(0, 0), (141, 100)] (.inr rfl) (RetV.one rfl (oT (t := 2) (r := .own 141)))
 exact sK ih7 (r10.2.1, r10.2.2) h6 [(0, 0)] [0]

theorem ms_l7Simple_ok (N : Nat) (a1 : Int) (pa : LU) (pb : Int) (pc : Int) {r : (LN × Int × Int)} (h : ms_l7Simple N a1 pa pb pc = some r) :
    AC Tryz.prog (GS []) 194 [.loc 0 0, V.i a1] [(0, .cells 128 [sL byteRow pa, V.i pb, V.i pc])] (.own 100) [(0, .cells 128 [sL byteRow pa, V.i r.2.1, V.i r.2.2]), (100, .vec false 37 5 (r.1.map (eSN true)))] := by
 rw [ms_l7Simple] at h
 refine AC.enter Tryz.func194 rfl (cV 100 ?_)
 refine CO.join (fun (⟨a1, y48, y49⟩ : (Int × Int × Int)) => ⟨tl 78 [(0, .loc 0 0), (1, V.i a1)], [(0, .cells 128 [sL byteRow pa, V.i y48, V.i y49])]⟩) (fun i => ms_l7Simple_k1 N pa i = some r) ?_ ?_
 · rintro ⟨a1, y48, y49⟩ h57
   rw [ms_l7Simple_k1] at h57
   refine bB h57 fun r52 hx60 h57 => (bB h57 fun r53 hx61 h57 => (CO.sw mix (wR 3 100 (wC (ms_l7Expr_ok N a1 pa y48 y49 hx60) cok109 [(0, 0)] [(0, 0), (100, 100)] [100] (wR 1 101 (W.lend (ms_l6Make_ok N (⟨20, 0, [], [], []⟩ : SNode) [r52.1] hx61) cok87 [(100, 102)] [102] (LayOk.cons (j := 101) (encL true (eSN true)) (encL false (eSN false)) ([r52.1] : List LN) (by kernel_rfl) (share_encL _ (sh_eSN _)) lO) (.own _) (.cons (DeepR.map (fun _ => (.cons (.c _) (.cons (.c _) (.cons (.c _) (.cons (.c _) (.cons (.sl _ _ (DeepR.map (fun _ => (.cons (.c _) .nil)) _)) .nil)))))) _) .nil) (by kernel_rfl) (by kernel_rfl) (wR 1 103 (wF ?_))))))))
   refine CO.ret ?_
   cases h57
   exact eG [(0, 0), (102, 100)] (.inr rfl) (RetV.one rfl (oT (t := 4) (r := .own 102)))
 intro hk62
 refine bB h fun r55 hx64 h => (CO.sw mix (wR 1 100 (wC (ms_l1Below_ok 9 pa pb pc hx64) cok63 [(0, 0)] [(0, 0)] [] (wF (CO.block' ?_)))))
 refine CO.join (fun (⟨a1, r55, y56⟩ : (Int × (Int × Int × Int) × Bool)) => ⟨tl 78 [(0, .loc 0 0), (1, V.i a1), (8, V.i r55.1), (9, V.b y56)], [(0, .cells 128 [sL byteRow pa, V.i r55.2.1, V.i r55.2.2])]⟩) (fun i => ms_l7Simple_k2 N pa i = some r) ?_ ?_
 · rintro ⟨a1, r55, y56⟩ h66
   rw [ms_l7Simple_k2] at h66
   refine cI h66 (fun _ h66 => ?_) (fun _ h66 => ?_)
   ·refine bB h66 fun r58 hx69 h66 => (CO.sw mix (wR 1 100 (wC (ms_l1Below_ok 2 pa r55.2.1 r55.2.2 hx69) cok63 [(0, 0)] [(0, 0)] [] (wR 3 100 (wF (bB h66 fun r60 hx71 h66 => (CO.sw mix (wR 4 101 ?_))))))))
    refine wC (ms_l7List_ok N r58.1 3 a1 pa r58.2.1 r58.2.2 hx71) cok172 [(0, 0)] [(0, 0), (100, 101)] [101] (wR 1 102 (wF ?_))
    refine CO.join (fun (⟨r58, y69, y70, y71, y72⟩ : ((Int × Int × Int) × LU × (List LN) × Int × Int)) => ⟨tl 78 [(5, .loc 100 0), (6, .own 101)], [(100, .cells 37 [V.i 21, V.i r58.1, V.s [], V.s y69, .c (.slice none 0 0)]), (101, .vec false 24 1 (y70.map (encL true (eSN true)))), (0, .cells 128 [sL byteRow pa, V.i y71, V.i y72])]⟩) (fun i => ms_l7Simple_k3 N pa i = some r) ?_ ?_
    · rintro ⟨r58, y69, y70, y71, y72⟩ h81
      rw [ms_l7Simple_k3] at h81
      refine bB h81 fun r74 hx83 h81 => (CO.sw mix (wR 2 106 (W.lend (ms_l6Make_ok N (⟨21, r58.1, [], y69, []⟩ : SNode) y70 hx83) cok87 [(100, 106)] [106] (LayOk.cons (j := 101) (encL true (eSN true)) (encL false (eSN false)) y70 (by kernel_rfl) (share_encL _ (sh_eSN _)) lO) (.own _) (.cons (DeepR.map (fun _ => (.cons (.c _) (.cons (.c _) (.cons (.c _) (.cons (.c _) (.cons (.sl _ _ (DeepR.map (fun _ => (.cons (.c _) .nil)) _)) .nil)))))) _) .nil) (by kernel_rfl) (by kernel_rfl) (wR 1 107 (wF (CO.ret ?_))))))
      cases h81
      exact eG [(0, 0), (106, 100)] (.inr rfl) (RetV.one rfl (oT (t := 4) (r := .own 106)))
    intro hk84
    refine bB h66 fun r76 hx86 h66 => (CO.sw mix (wR 1 102 (wC (ms_l1Once_ok 3 pa r60.2.1 r60.2.2 hx86) cok85 [(0, 0)] [(0, 0)] [] (wF ?_))))
    refine cI h66 (fun _ h66 => ?_) (fun _ h66 => ?_)
    ·refine bB h66 fun r78 hx89 h66 => (CO.sw mix (wR 2 102 (wD (ms_l1Pick_ok [[62], [62, 62], [124]] pa r76.2.1 r76.2.2 hx89) cok128 [(0, 0)] [(0, 0)] [] (LayOk.cons (j := 102) eNS eNS ([[62], [62, 62], [124]] : LLU) (by kernel_rfl) (fun _ => rfl) lO) (wR 2 103 (wF (bB h66 fun r81 hx92 h66 => (bB h66 fun x82 hx93 h66 => (CO.w mix ?_))))))))
     refine wR 4 103 (wC (ms_l7Expr_ok N (wr (a1 - 1)) pa r78.2.1 r78.2.2 hx92) cok109 [(0, 0)] [(0, 0), (100, 103)] [103] (wR 1 104 (W.appO Dk (encL true (eSN true)) (a := 101) (c := 104) (el := 24) (sz := 1) 24 hx93 rfl 105 (by kernel_rfl) (wR 1 106 ?_))))
     exact wK hk84 (r58, r78.1, x82, r81.2.1, r81.2.2) h66 [(100, 100), (105, 101), (0, 0)] [5, 6]
    exact sK hk84 (r58, [], r60.1, r76.2.1, r76.2.2) h66 [(100, 100), (101, 101), (0, 0)] [5, 6]
   refine cV 100 ?_
   refine cI h66 (fun _ h66 => ?_) (fun _ h66 => ?_)
   ·refine bB h66 fun r84 hx96 h66 => (CO.sw mix (wR 2 100 (wD (ms_l1PickInt_ok [22, 25, 26] pa r55.2.1 r55.2.2 hx96) cok127 [(0, 0)] [(0, 0)] [] (LayOk.cons (j := 100) eNI eNI ([22, 25, 26] : List Int) (by kernel_rfl) (fun _ => rfl) lO) (wR 3 101 (wF (CO.ret ?_))))))
    cases h66
    exact eG [(0, 0), (101, 100)] (.inr rfl) (RetV.one rfl (oT (t := 4) (r := .own 101)))
   refine cV 100 ?_
   refine cI h66 (fun _ h66 => ?_) (fun _ h66 => ?_)
   ·refine bB h66 fun r88 hx101 h66 => (bB h66 fun r89 hx102 h66 => (bB h66 fun r90 hx103 h66 => (CO.sw mix (wR 2 100 (wD (ms_l1PickInt_ok [23, 24] pa r55.2.1 r55.2.2 hx101) cok127 [(0, 0)] [(0, 0)] [] (LayOk.cons (j := 100) eNI eNI ([23, 24] : List Int) (by kernel_rfl) (fun _ => rfl) lO) (wR 3 101 (wC (ms_l7List_ok N 0 1 a1 pa r88.2.1 r88.2.2 hx102) cok172 [(0, 0)] [(0, 0), (100, 101)] [101] (W.lend (ms_l6Make_ok N (⟨r88.1, 0, [], [], []⟩ : SNode) r89.1 hx103) cok87 [(100, 102)] [102] (LayOk.cons (j := 101) (encL true (eSN true)) (encL false (eSN false)) r89.1 (by kernel_rfl) (share_encL _ (sh_eSN _)) lO) (.own _) (.cons (DeepR.map (fun _ => (.cons (.c _) (.cons (.c _) (.cons (.c _) (.cons (.c _) (.cons (.sl _ _ (DeepR.map (fun _ => (.cons (.c _) .nil)) _)) .nil)))))) _) .nil) (by kernel_rfl) (by kernel_rfl) ?_))))))))
    refine wR 1 103 (wF (CO.ret ?_))
    cases h66
    exact eG [(0, 0), (102, 100)] (.inr rfl) (RetV.one rfl (oT (t := 4) (r := .own 102)))
   refine cV 100 ?_
   refine cI h66 (fun _ h66 => ?_) (fun _ h66 => ?_)
   ·refine bB h66 fun r94 hx108 h66 => (bB h66 fun r95 hx109 h66 => (bB h66 fun r96 hx110 h66 => (CO.sw mix (wR 1 100 (wC (ms_l2Word_ok pa r55.2.1 r55.2.2 hx108) cok170 [(0, 0)] [(0, 0)] [] (wR 4 100 (wC (ms_l7List_ok N 0 2 (wr (a1 - 1)) pa r94.2.1 r94.2.2 hx109) cok172 [(0, 0)] [(0, 0), (100, 100)] [100] (W.lend (ms_l6Make_ok N (⟨27, 0, r94.1, [], []⟩ : SNode) r95.1 hx110) cok87 [(100, 101)] [101] (LayOk.cons (j := 100) (encL true (eSN true)) (encL false (eSN false)) r95.1 (by kernel_rfl) (share_encL _ (sh_eSN _)) lO) (.own _) (.cons (DeepR.map (fun _ => (.cons (.c _) (.cons (.c _) (.cons (.c _) (.cons (.c _) (.cons (.sl _ _ (DeepR.map (fun _ => (.cons (.c _) .nil)) _)) .nil)))))) _) .nil) (by kernel_rfl) (by kernel_rfl) ?_))))))))
    refine wR 1 102 (wF (CO.ret ?_))
    cases h66
    exact eG [(0, 0), (101, 100)] (.inr rfl) (RetV.one rfl (oT (t := 4) (r := .own 101)))
   refine cV 100 ?_
   refine cI h66 (fun _ h66 => ?_) (fun _ h66 => ?_)
   ·refine bB h66 fun r98 hx113 h66 => (CO.sw mix (wR 1 100 (wC (ms_l1Once_ok 2 pa r55.2.1 r55.2.2 hx113) cok85 [(0, 0)] [(0, 0)] [] (wF ?_))))
    refine cI h66 (fun _ h66 => ?_) (fun _ h66 => ?_)
    ·refine bB h66 fun r100 hx116 h66 => (CO.sw mix (wR 2 100 (wD (ms_l1Pick_ok [[35], [35, 32, 110, 111, 116, 101], [35, 120, 32, 61, 32, 49]] pa r98.2.1 r98.2.2 hx116) cok128 [(0, 0)] [(0, 0)] [] (LayOk.cons (j := 100) eNS eNS ([[35], [35, 32, 110, 111, 116, 101], [35, 120, 32, 61, 32, 49]] : LLU) (by kernel_rfl) (fun _ => rfl) lO) (wR 3 101 (wF (CO.ret ?_))))))
     cases h66
     exact eG [(0, 0), (101, 100)] (.inr rfl) (RetV.one rfl (oT (t := 4) (r := .own 101)))
    exact sK hk62 (a1, r98.2.1, r98.2.2) h66 [(0, 0)] [0, 1]
   exact sK hk62 (a1, r55.2.1, r55.2.2) h66 [(0, 0)] [0, 1]
 intro hk117
 refine cV 100 ?_
 refine cI h (fun _ h => ?_) (fun _ h => ?_)
 ·exact sK hk117 (a1, r55, (r55.1 == 0)) h [(0, 0)] [0, 1, 8, 9]
 exact cK 100 hk117 (a1, r55, (r55.1 == 1)) h [(0, 0)] [0, 1, 8, 9]

theorem ms_l7Maybe_ok (N : Nat) (a1 : Int) (pa : LU) (pb : Int) (pc : Int) {r : (LN × Int × Int)} (h : ms_l7Maybe N a1 pa pb pc = some r) :
    AC Tryz.prog (GS []) 196 [.loc 0 0, V.i a1] [(0, .cells 128 [sL byteRow pa, V.i pb, V.i pc])] (.own 100) [(0, .cells 128 [sL byteRow pa, V.i r.2.1, V.i r.2.2]), (100, .vec false 37 5 (r.1.map (eSN true)))] := by
 rw [ms_l7Maybe] at h
 refine AC.enter Tryz.func196 rfl (cV 100 (CO.seq' (bB h fun r4 hx5 h => (CO.sw mix (wR 1 100 (wC (ms_l1Once_ok 3 pa pb pc hx5) cok85 [(0, 0)] [(0, 0)] [] (wF ?_)))))))
 refine cI h (fun _ h => ?_) (fun _ h => ?_)
 ·refine cV 100 (CO.ret ?_)
  cases h
  exact eG [(0, 0), (100, 100)] (.inr rfl) (RetV.one rfl (oT (t := 4) (r := .own 100)))
 refine CO.skip (bB h fun r6 hx8 h => (CO.sw mix (wR 2 100 (wC (ms_l7Expr_ok N a1 pa r4.2.1 r4.2.2 hx8) cok109 [(0, 0)] [(0, 0), (100, 100)] [100] (wR 1 101 (wF (CO.ret ?_)))))))
 cases h
 exact eG [(0, 0), (100, 100)] (.inr rfl) (RetV.one rfl (oT (t := 4) (r := .own 100)))

structure RecOk2 (R : Rec2) : Prop where
 ms_l7Block : ∀ (a1 : Int) (pa : LU) (pb : Int) (pc : Int) (r : (LN × Int × Int)), R.ms_l7Block a1 pa pb pc = some r → AC Tryz.prog (GS []) 195 [.loc 0 0, V.i a1] [(0, .cells 128 [sL byteRow pa, V.i pb, V.i pc])] (.own 100) [(0, .cells 128 [sL byteRow pa, V.i r.2.1, V.i r.2.2]), (100, .vec false 37 5 (r.1.map (eSN true)))]
 ms_l7Stmt : ∀ (a1 : Int) (pa : LU) (pb : Int) (pc : Int) (r : (LN × Int × Int)), R.ms_l7Stmt a1 pa pb pc = some r → AC Tryz.prog (GS []) 139 [.loc 0 0, V.i a1] [(0, .cells 128 [sL byteRow pa, V.i pb, V.i pc])] (.own 100) [(0, .cells 128 [sL byteRow pa, V.i r.2.1, V.i r.2.2]), (100, .vec false 37 5 (r.1.map (eSN true)))]

theorem ms_l7Block_F_ok (N : Nat) (R : Rec2) (HR : RecOk2 R) (a1 : Int) (pa : LU) (pb : Int) (pc : Int) {r : (LN × Int × Int)} (h : ms_l7Block_F N R a1 pa pb pc = some r) :
    AC Tryz.prog (GS []) 195 [.loc 0 0, V.i a1] [(0, .cells 128 [sL byteRow pa, V.i pb, V.i pc])] (.own 100) [(0, .cells 128 [sL byteRow pa, V.i r.2.1, V.i r.2.2]), (100, .vec false 37 5 (r.1.map (eSN true)))] := by
 rw [ms_l7Block_F] at h
 refine AC.enter Tryz.func195 rfl (cV 100 (cV 100 (CO.seq' (bB h fun r36 hx36 h => (CO.sw mix (wR 1 101 (wC (ms_l1Below_ok 3 pa pb pc hx36) cok63 [(0, 0)] [(0, 0)] [] (wR 1 101 ?_))))))))
 refine wF (CO.block' (CO.loopJ (fun (⟨a1, y45, y46, y47, y48⟩ : (Int × Int × Int × Int × (List LN))) => ⟨tl 23 [(0, .loc 0 0), (1, V.i a1), (5, .own 100), (6, V.i y45)], [(0, .cells 128 [sL byteRow pa, V.i y46, V.i y47]), (100, .vec false 24 1 (y48.map (encL true (eSN true))))]⟩) (fun n i => ms_l7Block_l1 N R pa n i = some r) (n0 := N) (i0 := (a1, r36.1, r36.2.1, r36.2.2, [])) (wS [(0, 0), (100, 100)] [0, 1, 5, 6]) h (fun i h => by simp [ms_l7Block_l1] at h) ?_))
 rintro n1 ⟨a1, y45, y46, y47, y48⟩ h57 ih58
 rw [ms_l7Block_l1] at h57
 refine CO.seq' (cV 167 ?_)
 refine cI h57 (fun _ h57 => ?_) (fun _ h57 => ?_)
 ·refine CO.skip (CO.seq' (CO.block' (bB h57 fun r67 hx67 h57 => (bB h57 fun x68 hx68 h57 => ?_))))
  refine CO.endR (tl 23 [(0, .loc 0 0), (1, V.i a1), (5, .own 169), (6, V.i y45)]) [(169, .vec false 24 1 (x68.map (encL true (eSN true)))), (0, .cells 128 [sL byteRow pa, V.i r67.2.1, V.i r67.2.2])] mix (by
   refine wR 3 167 (wC (HR.ms_l7Stmt a1 pa y46 y47 _ hx67) cok139 [(0, 0)] [(0, 0), (100, 167)] [167] (wR 1 168 (W.appO Dk (encL true (eSN true)) (a := 100) (c := 168) (el := 24) (sz := 1) 24 hx68 rfl 169 (by kernel_rfl) (wR 1 170 ?_))))
   exact fI
   ) (fun st hw => ?_)
  refine CO.weak hw ?_
  exact cK 170 ih58 (a1, (wr (y45 - 1)), r67.2.1, r67.2.2, x68) h57 [(0, 0), (169, 100)] [0, 1, 5, 6]
 refine CO.exit (bB h57 fun r70 hx70 h57 => (CO.sw mix (wR 2 167 (W.lend (ms_l6Make_ok N (⟨33, 0, [], [], []⟩ : SNode) y48 hx70) cok87 [(100, 167)] [167] (LayOk.cons (j := 100) (encL true (eSN true)) (encL false (eSN false)) y48 (by kernel_rfl) (share_encL _ (sh_eSN _)) lO) (.own _) (.cons (DeepR.map (fun _ => (.cons (.c _) (.cons (.c _) (.cons (.c _) (.cons (.c _) (.cons (.sl _ _ (DeepR.map (fun _ => (.cons (.c _) .nil)) _)) .nil)))))) _) .nil) (by kernel_rfl) (by kernel_rfl) (wR 1 168 (wF (CO.ret ?_)))))))
 cases h57
 exact eG [(0, 0), (167, 100)] (.inr rfl) (RetV.one rfl (oT (t := 4) (r := .own 167)))

theorem ms_l7Stmt_F_ok (N : Nat) (R : Rec2) (HR : RecOk2 R) (a1 : Int) (pa : LU) (pb : Int) (pc : Int) {r : (LN × Int × Int)} (h : ms_l7Stmt_F N R a1 pa pb pc = some r) :
    AC Tryz.prog (GS []) 139 [.loc 0 0, V.i a1] [(0, .cells 128 [sL byteRow pa, V.i pb, V.i pc])] (.own 100) [(0, .cells 128 [sL byteRow pa, V.i r.2.1, V.i r.2.2]), (100, .vec false 37 5 (r.1.map (eSN true)))] := by
 rw [ms_l7Stmt_F] at h
 refine AC.enter Tryz.func139 rfl (cV 100 (CO.seq' ?_))
 (revert h; refine bR ?_; rintro ⟨y9, y10, y11⟩ hv11 h)
 refine CO.cutR (tl 98 [(0, .loc 0 0), (1, V.i a1), (11, V.b y9)]) [(0, .cells 128 [sL byteRow pa, V.i y10, V.i y11])] mix (by
  refine wR 3 100 ?_
  refine wJ 7 hv11 (fun hv11 => ?_) (fun hv11 => ?_)
  ·refine wR 4 100 ?_
   simp only [Option.some.injEq, Prod.mk.injEq] at hv11
   obtain ⟨e0, e1, e2⟩ := hv11
   subst e0
   subst e1
   subst e2
   exact fS [(0, 0)] [0, 1, 11]
  refine wR 1 100 (bB hv11 fun r12 hx13 hv11 => (wC (ms_l1Once_ok 3 pa pb pc hx13) cok85 [(0, 0)] [(0, 0)] [] (wR 2 100 ?_)))
  simp only [Option.some.injEq, Prod.mk.injEq] at hv11
  obtain ⟨e0, e1, e2⟩ := hv11
  subst e0
  subst e1
  subst e2
  exact fS [(0, 0)] [0, 1, 11]
  ) ?_
 refine cI h (fun _ h => ?_) (fun _ h => ?_)
 ·refine bB h fun r14 hx16 h => (CO.sw mix (wR 3 100 (wC (ms_l7Simple_ok N (if 2 < a1 then 2 else a1) pa y10 y11 hx16) cok194 [(0, 0)] [(0, 0), (100, 100)] [100] (wR 1 101 (wF (CO.ret ?_))))))
  cases h
  exact eG [(0, 0), (100, 100)] (.inr rfl) (RetV.one rfl (oT (t := 4) (r := .own 100)))
 refine CO.skip (CO.seq' (bB h fun r54 hx61 h => (CO.sw mix (wR 1 100 (wC (ms_l1Below_ok 6 pa y10 y11 hx61) cok63 [(0, 0)] [(0, 0)] [] (wF (CO.block' (cV 100 ?_))))))))
 refine cI h (fun _ h => ?_) (fun _ h => ?_)
 ·refine bB h fun r58 hx66 h => (bB h fun r59 hx67 h => (bB h fun r60 hx68 h => (CO.sw mix (wR 2 100 (wC (ms_l7Expr_ok N 1 pa r54.2.1 r54.2.2 hx66) cok109 [(0, 0)] [(0, 0), (100, 100)] [100] (wR 3 101 (wC (HR.ms_l7Block (wr (a1 - 1)) pa r58.2.1 r58.2.2 _ hx67) cok195 [(0, 0)] [(0, 0), (100, 101)] [101] (wR 1 102 ?_))))))))
  refine W.lend (ms_l6Make_ok N (⟨28, 0, [], [], []⟩ : SNode) [r58.1, r59.1] hx68) cok87 [(100, 103)] [103] (LayOk.cons (j := 102) (encL true (eSN true)) (encL false (eSN false)) ([r58.1, r59.1] : List LN) (by kernel_rfl) (share_encL _ (sh_eSN _)) lO) (.own _) (.cons (DeepR.map (fun _ => (.cons (.c _) (.cons (.c _) (.cons (.c _) (.cons (.c _) (.cons (.sl _ _ (DeepR.map (fun _ => (.cons (.c _) .nil)) _)) .nil)))))) _) .nil) (by kernel_rfl) (by kernel_rfl) (wR 1 104 (wF (CO.ret ?_)))
  cases h
  exact eG [(0, 0), (103, 100)] (.inr rfl) (RetV.one rfl (oT (t := 4) (r := .own 103)))
 refine cV 100 ?_
 refine cI h (fun _ h => ?_) (fun _ h => ?_)
 ·refine bB h fun r65 hx74 h => (bB h fun r66 hx75 h => (bB h fun r67 hx76 h => (bB h fun r68 hx77 h => (CO.sw mix (wR 2 100 (wC (ms_l7Expr_ok N 1 pa r54.2.1 r54.2.2 hx74) cok109 [(0, 0)] [(0, 0), (100, 100)] [100] (wR 3 101 (wC (HR.ms_l7Block (wr (a1 - 1)) pa r65.2.1 r65.2.2 _ hx75) cok195 [(0, 0)] [(0, 0), (100, 101)] [101] ?_))))))))
  refine wR 3 102 (wC (HR.ms_l7Block (wr (a1 - 1)) pa r66.2.1 r66.2.2 _ hx76) cok195 [(0, 0)] [(0, 0), (100, 102)] [102] (wR 1 103 (W.lend (ms_l6Make_ok N (⟨28, 0, [], [], []⟩ : SNode) [r65.1, r66.1, r67.1] hx77) cok87 [(100, 104)] [104] (LayOk.cons (j := 103) (encL true (eSN true)) (encL false (eSN false)) ([r65.1, r66.1, r67.1] : List LN) (by kernel_rfl) (share_encL _ (sh_eSN _)) lO) (.own _) (.cons (DeepR.map (fun _ => (.cons (.c _) (.cons (.c _) (.cons (.c _) (.cons (.c _) (.cons (.sl _ _ (DeepR.map (fun _ => (.cons (.c _) .nil)) _)) .nil)))))) _) .nil) (by kernel_rfl) (by kernel_rfl) (wR 1 105 (wF (CO.ret ?_))))))
  cases h
  exact eG [(0, 0), (104, 100)] (.inr rfl) (RetV.one rfl (oT (t := 4) (r := .own 104)))
 refine cV 100 ?_
 refine cI h (fun _ h => ?_) (fun _ h => ?_)
 ·refine bB h fun r72 hx82 h => (bB h fun r73 hx83 h => (bB h fun r74 hx84 h => (CO.sw mix (wR 2 100 (wC (ms_l7Expr_ok N 1 pa r54.2.1 r54.2.2 hx82) cok109 [(0, 0)] [(0, 0), (100, 100)] [100] (wR 3 101 (wC (HR.ms_l7Block (wr (a1 - 1)) pa r72.2.1 r72.2.2 _ hx83) cok195 [(0, 0)] [(0, 0), (100, 101)] [101] (wR 1 102 ?_))))))))
  refine W.lend (ms_l6Make_ok N (⟨29, 0, [], [], []⟩ : SNode) [r72.1, r73.1] hx84) cok87 [(100, 103)] [103] (LayOk.cons (j := 102) (encL true (eSN true)) (encL false (eSN false)) ([r72.1, r73.1] : List LN) (by kernel_rfl) (share_encL _ (sh_eSN _)) lO) (.own _) (.cons (DeepR.map (fun _ => (.cons (.c _) (.cons (.c _) (.cons (.c _) (.cons (.c _) (.cons (.sl _ _ (DeepR.map (fun _ => (.cons (.c _) .nil)) _)) .nil)))))) _) .nil) (by kernel_rfl) (by kernel_rfl) (wR 1 104 (wF (CO.ret ?_)))
  cases h
  exact eG [(0, 0), (103, 100)] (.inr rfl) (RetV.one rfl (oT (t := 4) (r := .own 103)))
 refine cV 100 ?_
 refine cI h (fun _ h => ?_) (fun _ h => ?_)
 ·refine bB h fun r78 hx89 h => (bB h fun r79 hx90 h => (bB h fun r80 hx91 h => (CO.sw mix (wR 4 100 (wC (HR.ms_l7Block (wr (a1 - 1)) pa r54.2.1 r54.2.2 _ hx89) cok195 [(0, 0)] [(0, 0), (100, 100)] [100] (wR 1 101 (wC (ms_l7Expr_ok N 1 pa r78.2.1 r78.2.2 hx90) cok109 [(0, 0)] [(0, 0), (100, 101)] [101] (wR 1 102 ?_))))))))
  refine W.lend (ms_l6Make_ok N (⟨30, 0, [], [], []⟩ : SNode) [r78.1, r79.1] hx91) cok87 [(100, 103)] [103] (LayOk.cons (j := 102) (encL true (eSN true)) (encL false (eSN false)) ([r78.1, r79.1] : List LN) (by kernel_rfl) (share_encL _ (sh_eSN _)) lO) (.own _) (.cons (DeepR.map (fun _ => (.cons (.c _) (.cons (.c _) (.cons (.c _) (.cons (.c _) (.cons (.sl _ _ (DeepR.map (fun _ => (.cons (.c _) .nil)) _)) .nil)))))) _) .nil) (by kernel_rfl) (by kernel_rfl) (wR 1 104 (wF (CO.ret ?_)))
  cases h
  exact eG [(0, 0), (103, 100)] (.inr rfl) (RetV.one rfl (oT (t := 4) (r := .own 103)))
 refine cV 100 ?_
 refine cI h (fun _ h => ?_) (fun _ h => ?_)
 ·refine bB h fun r86 hx98 h => (bB h fun r87 hx99 h => (bB h fun r88 hx100 h => (bB h fun r89 hx101 h => (bB h fun r90 hx102 h => (CO.sw mix (wR 2 100 (wC (ms_l7Maybe_ok N 2 pa r54.2.1 r54.2.2 hx98) cok196 [(0, 0)] [(0, 0), (100, 100)] [100] (wR 1 101 ?_))))))))
  refine wC (ms_l7Maybe_ok N 1 pa r86.2.1 r86.2.2 hx99) cok196 [(0, 0)] [(0, 0), (100, 101)] [101] (wR 1 102 (wC (ms_l7Maybe_ok N 1 pa r87.2.1 r87.2.2 hx100) cok196 [(0, 0)] [(0, 0), (100, 102)] [102] (wR 3 103 (wC (HR.ms_l7Block (wr (a1 - 1)) pa r88.2.1 r88.2.2 _ hx101) cok195 [(0, 0)] [(0, 0), (100, 103)] [103] (wR 1 104 (W.lend (ms_l6Make_ok N (⟨31, 0, [], [], []⟩ : SNode) [r86.1, r87.1, r88.1, r89.1] hx102) cok87 [(100, 105)] [105] (LayOk.cons (j := 104) (encL true (eSN true)) (encL false (eSN false)) ([r86.1, r87.1, r88.1, r89.1] : List LN) (by kernel_rfl) (share_encL _ (sh_eSN _)) lO) (.own _) (.cons (DeepR.map (fun _ => (.cons (.c _) (.cons (.c _) (.cons (.c _) (.cons (.c _) (.cons (.sl _ _ (DeepR.map (fun _ => (.cons (.c _) .nil)) _)) .nil)))))) _) .nil) (by kernel_rfl) (by kernel_rfl) (wR 1 106 (wF ?_))))))))
  refine CO.ret ?_
  cases h
  exact eG [(0, 0), (105, 100)] (.inr rfl) (RetV.one rfl (oT (t := 4) (r := .own 105)))
 refine CO.skip (CO.seq' (bB h fun r96 hx109 h => (CO.sw mix (wR 1 100 (wC (ms_l1Once_ok 2 pa r54.2.1 r54.2.2 hx109) cok85 [(0, 0)] [(0, 0)] [] (wF ?_))))))
 refine cI h (fun _ h => ?_) (fun _ h => ?_)
 ·refine bB h fun r98 hx112 h => (CO.sw mix (wR 3 100 (wC (HR.ms_l7Block (wr (a1 - 1)) pa r96.2.1 r96.2.2 _ hx112) cok195 [(0, 0)] [(0, 0), (100, 100)] [100] (wR 1 101 (wF (CO.ret ?_))))))
  cases h
  exact eG [(0, 0), (100, 100)] (.inr rfl) (RetV.one rfl (oT (t := 4) (r := .own 100)))
 refine CO.skip (bB h fun r103 hx117 h => (bB h fun r104 hx118 h => (bB h fun r105 hx119 h => (bB h fun r106 hx120 h => (CO.sw mix (wR 1 100 (wC (ms_l2Word_ok pa r96.2.1 r96.2.2 hx117) cok170 [(0, 0)] [(0, 0)] [] (wR 1 100 ?_))))))))
 refine wC (ms_l2Word_ok pa r103.2.1 r103.2.2 hx118) cok170 [(0, 0)] [(0, 0)] [] (wR 4 100 (wC (HR.ms_l7Block (wr (a1 - 1)) pa r104.2.1 r104.2.2 _ hx119) cok195 [(0, 0)] [(0, 0), (100, 100)] [100] (wR 1 101 (W.lend (ms_l6Make_ok N (⟨32, 0, r103.1, r104.1, []⟩ : SNode) [r105.1] hx120) cok87 [(100, 102)] [102] (LayOk.cons (j := 101) (encL true (eSN true)) (encL false (eSN false)) ([r105.1] : List LN) (by kernel_rfl) (share_encL _ (sh_eSN _)) lO) (.own _) (.cons (DeepR.map (fun _ => (.cons (.c _) (.cons (.c _) (.cons (.c _) (.cons (.c _) (.cons (.sl _ _ (DeepR.map (fun _ => (.cons (.c _) .nil)) _)) .nil)))))) _) .nil) (by kernel_rfl) (by kernel_rfl) (wR 1 103 (wF (CO.ret ?_)))))))
 cases h
 exact eG [(0, 0), (102, 100)] (.inr rfl) (RetV.one rfl (oT (t := 4) (r := .own 102)))

theorem scc2_ok : ∀ N, RecOk2 (scc2 N)
 | 0 => ⟨fun _ _ _ _ _ h => (by cases h), fun _ _ _ _ _ h => (by cases h)⟩
 | N + 1 => ⟨fun a1 pa pb pc _ h => ms_l7Block_F_ok N (scc2 N) (scc2_ok N) a1 pa pb pc h, fun a1 pa pb pc _ h => ms_l7Stmt_F_ok N (scc2 N) (scc2_ok N) a1 pa pb pc h⟩

theorem ms_l7Block_ok (N : Nat) (a1 : Int) (pa : LU) (pb : Int) (pc : Int) {r : (LN × Int × Int)} (h : ms_l7Block N a1 pa pb pc = some r) :
  AC Tryz.prog (GS []) 195 [.loc 0 0, V.i a1] [(0, .cells 128 [sL byteRow pa, V.i pb, V.i pc])] (.own 100) [(0, .cells 128 [sL byteRow pa, V.i r.2.1, V.i r.2.2]), (100, .vec false 37 5 (r.1.map (eSN true)))] :=
 (scc2_ok N).ms_l7Block a1 pa pb pc r h
theorem ms_l7Stmt_ok (N : Nat) (a1 : Int) (pa : LU) (pb : Int) (pc : Int) {r : (LN × Int × Int)} (h : ms_l7Stmt N a1 pa pb pc = some r) :
  AC Tryz.prog (GS []) 139 [.loc 0 0, V.i a1] [(0, .cells 128 [sL byteRow pa, V.i pb, V.i pc])] (.own 100) [(0, .cells 128 [sL byteRow pa, V.i r.2.1, V.i r.2.2]), (100, .vec false 37 5 (r.1.map (eSN true)))] :=
 (scc2_ok N).ms_l7Stmt a1 pa pb pc r h

theorem ms_l7Item_ok (N : Nat) (pa : LU) (pb : Int) (pc : Int) {r : (LN × Int × Int)} (h : ms_l7Item N pa pb pc = some r) :
    AC Tryz.prog (GS []) 197 [.loc 0 0] [(0, .cells 128 [sL byteRow pa, V.i pb, V.i pc])] (.own 100) [(0, .cells 128 [sL byteRow pa, V.i r.2.1, V.i r.2.2]), (100, .vec false 37 5 (r.1.map (eSN true)))] := by
 rw [ms_l7Item] at h
 refine AC.enter Tryz.func197 rfl (cV 100 (bB h fun r2 hx2 h => (CO.sw mix (wR 1 100 (wC (ms_l1Below_ok 2 pa pb pc hx2) cok63 [(0, 0)] [(0, 0)] [] (wR 2 100 (wF (CO.seq' ?_))))))))
 refine bB h fun r124 hx131 h => (CO.sw mix (wR 1 100 (wC (ms_l1Below_ok 8 pa r2.2.1 r2.2.2 hx131) cok63 [(0, 0)] [(0, 0)] [] (wF (CO.block' (cV 100 ?_))))))
 refine cI h (fun _ h => ?_) (fun _ h => ?_)
 ·refine bB h fun r128 hx136 h => (bB h fun r129 hx137 h => (bB h fun r130 hx138 h => (CO.sw mix (wR 1 100 (wC (ms_l1Below_ok 2 pa r124.2.1 r124.2.2 hx136) cok63 [(0, 0)] [(0, 0)] [] (wR 4 100 (wC (ms_l7Block_ok N (wr (1 + r2.1)) pa r128.2.1 r128.2.2 hx137) cok195 [(0, 0)] [(0, 0), (100, 100)] [100] (wR 1 101 ?_))))))))
  refine W.lend (ms_l6Make_ok N (⟨(wr (40 + r128.1)), 0, [], [], []⟩ : SNode) [r129.1] hx138) cok87 [(100, 102)] [102] (LayOk.cons (j := 101) (encL true (eSN true)) (encL false (eSN false)) ([r129.1] : List LN) (by kernel_rfl) (share_encL _ (sh_eSN _)) lO) (.own _) (.cons (DeepR.map (fun _ => (.cons (.c _) (.cons (.c _) (.cons (.c _) (.cons (.c _) (.cons (.sl _ _ (DeepR.map (fun _ => (.cons (.c _) .nil)) _)) .nil)))))) _) .nil) (by kernel_rfl) (by kernel_rfl) (wR 1 103 (wF (CO.ret ?_)))
  cases h
  exact eG [(0, 0), (102, 100)] (.inr rfl) (RetV.one rfl (oT (t := 2) (r := .own 102)))
 refine cV 100 ?_
 refine cI h (fun _ h => ?_) (fun _ h => ?_)
 ·refine bB h fun r133 hx142 h => (bB h fun r134 hx143 h => (CO.sw mix (wR 3 100 (wC (ms_l7Expr_ok N (wr (1 + r2.1)) pa r124.2.1 r124.2.2 hx142) cok109 [(0, 0)] [(0, 0), (100, 100)] [100] (wR 1 101 (W.lend (ms_l6Make_ok N (⟨42, 1, [], [], []⟩ : SNode) [r133.1] hx143) cok87 [(100, 102)] [102] (LayOk.cons (j := 101) (encL true (eSN true)) (encL false (eSN false)) ([r133.1] : List LN) (by kernel_rfl) (share_encL _ (sh_eSN _)) lO) (.own _) (.cons (DeepR.map (fun _ => (.cons (.c _) (.cons (.c _) (.cons (.c _) (.cons (.c _) (.cons (.sl _ _ (DeepR.map (fun _ => (.cons (.c _) .nil)) _)) .nil)))))) _) .nil) (by kernel_rfl) (by kernel_rfl) (wR 1 103 (wF ?_))))))))
  refine CO.ret ?_
  cases h
  exact eG [(0, 0), (102, 100)] (.inr rfl) (RetV.one rfl (oT (t := 2) (r := .own 102)))
 refine cV 100 ?_
 refine cI h (fun _ h => ?_) (fun _ h => ?_)
 ·refine bB h fun r137 hx147 h => (bB h fun r138 hx148 h => (CO.sw mix (wR 3 100 (wC (ms_l7Block_ok N (wr (1 + r2.1)) pa r124.2.1 r124.2.2 hx147) cok195 [(0, 0)] [(0, 0), (100, 100)] [100] (wR 1 101 (W.lend (ms_l6Make_ok N (⟨42, 2, [], [], []⟩ : SNode) [r137.1] hx148) cok87 [(100, 102)] [102] (LayOk.cons (j := 101) (encL true (eSN true)) (encL false (eSN false)) ([r137.1] : List LN) (by kernel_rfl) (share_encL _ (sh_eSN _)) lO) (.own _) (.cons (DeepR.map (fun _ => (.cons (.c _) (.cons (.c _) (.cons (.c _) (.cons (.c _) (.cons (.sl _ _ (DeepR.map (fun _ => (.cons (.c _) .nil)) _)) .nil)))))) _) .nil) (by kernel_rfl) (by kernel_rfl) (wR 1 103 (wF ?_))))))))
  refine CO.ret ?_
  cases h
  exact eG [(0, 0), (102, 100)] (.inr rfl) (RetV.one rfl (oT (t := 2) (r := .own 102)))
 refine cV 100 ?_
 refine cI h (fun _ h => ?_) (fun _ h => ?_)
 ·refine bB h fun r142 hx153 h => (bB h fun r143 hx154 h => (bB h fun r144 hx155 h => (CO.sw mix (wR 2 100 (wC (ms_l7Expr_ok N 1 pa r124.2.1 r124.2.2 hx153) cok109 [(0, 0)] [(0, 0), (100, 100)] [100] (wR 1 101 (wC (ms_l7Expr_ok N 1 pa r142.2.1 r142.2.2 hx154) cok109 [(0, 0)] [(0, 0), (100, 101)] [101] (wR 1 102 ?_))))))))
  refine W.lend (ms_l6Make_ok N (⟨43, 1, [], [], []⟩ : SNode) [r142.1, r143.1] hx155) cok87 [(100, 103)] [103] (LayOk.cons (j := 102) (encL true (eSN true)) (encL false (eSN false)) ([r142.1, r143.1] : List LN) (by kernel_rfl) (share_encL _ (sh_eSN _)) lO) (.own _) (.cons (DeepR.map (fun _ => (.cons (.c _) (.cons (.c _) (.cons (.c _) (.cons (.c _) (.cons (.sl _ _ (DeepR.map (fun _ => (.cons (.c _) .nil)) _)) .nil)))))) _) .nil) (by kernel_rfl) (by kernel_rfl) (wR 1 104 (wF (CO.ret ?_)))
  cases h
  exact eG [(0, 0), (103, 100)] (.inr rfl) (RetV.one rfl (oT (t := 2) (r := .own 103)))
 refine cV 100 ?_
 refine cI h (fun _ h => ?_) (fun _ h => ?_)
 ·refine bB h fun r149 hx161 h => (bB h fun r150 hx162 h => (bB h fun r151 hx163 h => (bB h fun r152 hx164 h => (CO.sw mix (wR 2 100 (wC (ms_l7Expr_ok N 1 pa r124.2.1 r124.2.2 hx161) cok109 [(0, 0)] [(0, 0), (100, 100)] [100] (wR 1 101 (wC (ms_l7Expr_ok N 1 pa r149.2.1 r149.2.2 hx162) cok109 [(0, 0)] [(0, 0), (100, 101)] [101] ?_))))))))
  refine wR 2 102 (wC (ms_l7Block_ok N (wr (1 + r2.1)) pa r150.2.1 r150.2.2 hx163) cok195 [(0, 0)] [(0, 0), (100, 102)] [102] (wR 1 103 (W.lend (ms_l6Make_ok N (⟨43, 3, [], [], []⟩ : SNode) [r149.1, r150.1, r151.1] hx164) cok87 [(100, 104)] [104] (LayOk.cons (j := 103) (encL true (eSN true)) (encL false (eSN false)) ([r149.1, r150.1, r151.1] : List LN) (by kernel_rfl) (share_encL _ (sh_eSN _)) lO) (.own _) (.cons (DeepR.map (fun _ => (.cons (.c _) (.cons (.c _) (.cons (.c _) (.cons (.c _) (.cons (.sl _ _ (DeepR.map (fun _ => (.cons (.c _) .nil)) _)) .nil)))))) _) .nil) (by kernel_rfl) (by kernel_rfl) (wR 1 105 (wF (CO.ret ?_))))))
  cases h
  exact eG [(0, 0), (104, 100)] (.inr rfl) (RetV.one rfl (oT (t := 2) (r := .own 104)))
 refine cV 100 ?_
 refine cI h (fun _ h => ?_) (fun _ h => ?_)
 ·refine cV 100 (CO.seq' (bB h fun r194 hx207 h => (CO.sw mix (wR 1 101 (wC (ms_l1Below_ok 3 pa r124.2.1 r124.2.2 hx207) cok63 [(0, 0)] [(0, 0)] [] (wR 1 101 (wF (CO.block' ?_))))))))
  refine CO.loopJ (fun (⟨r2, y205, y206, y207, y208⟩ : ((Int × Int × Int) × Int × Int × Int × (List LN))) => ⟨tl 102 [(0, .loc 0 0), (3, V.i (wr (1 + r2.1))), (4, .own 100), (5, V.i y205)], [(0, .cells 128 [sL byteRow pa, V.i y206, V.i y207]), (100, .vec false 24 1 (y208.map (encL true (eSN true))))]⟩) (fun n i => ms_l7Item_l1 N pa n i = some r) (n0 := N) (i0 := (r2, r194.1, r194.2.1, r194.2.2, [])) (wS [(0, 0), (100, 100)] [0, 3, 4, 5]) h (fun i h => by simp [ms_l7Item_l1] at h) ?_
  rintro n1 ⟨r2, y205, y206, y207, y208⟩ h232 ih233
  rw [ms_l7Item_l1] at h232
  refine CO.seq' (cV 167 ?_)
  refine cI h232 (fun _ h232 => ?_) (fun _ h232 => ?_)
  ·refine CO.skip (CO.seq' (CO.block' (bB h232 fun r231 hx244 h232 => (bB h232 fun x232 hx245 h232 => ?_))))
   refine CO.endR (tl 102 [(0, .loc 0 0), (3, V.i (wr (1 + r2.1))), (4, .own 169), (5, V.i y205)]) [(169, .vec false 24 1 (x232.map (encL true (eSN true)))), (0, .cells 128 [sL byteRow pa, V.i r231.2.1, V.i r231.2.2])] mix (by
    refine wR 2 167 (wC (ms_l2Word_ok pa y206 y207 hx244) cok170 [(0, 0)] [(0, 0)] [] (wR 1 167 (W.lowN Dk 167 (by kernel_rfl) (wR 1 168 (W.appO Dk (encL true (eSN true)) (a := 100) (c := 168) (el := 24) (sz := 1) 24 hx245 rfl 169 (by kernel_rfl) (wR 1 170 ?_))))))
    exact fI
    ) (fun st hw => ?_)
   refine CO.weak hw ?_
   exact cK 170 ih233 (r2, (wr (y205 - 1)), r231.2.1, r231.2.2, x232) h232 [(0, 0), (169, 100)] [0, 3, 4, 5]
  refine CO.exit (bB h232 fun r237 hx250 h232 => (bB h232 fun r238 hx251 h232 => (bB h232 fun x239 hx252 h232 => (bB h232 fun r240 hx253 h232 => (CO.sw mix (wR 2 167 (wD (ms_l1Pick_ok [[102], [103], [109, 97, 120]] pa y206 y207 hx250) cok128 [(0, 0)] [(0, 0)] [] (LayOk.cons (j := 167) eNS eNS ([[102], [103], [109, 97, 120]] : LLU) (by kernel_rfl) (fun _ => rfl) lO) (wR 4 168 ?_))))))))
  refine wC (ms_l7Block_ok N (wr (1 + r2.1)) pa r237.2.1 r237.2.2 hx251) cok195 [(0, 0)] [(0, 0), (100, 168)] [168] (wR 1 169 (W.appO Dk (encL true (eSN true)) (a := 100) (c := 169) (el := 24) (sz := 1) 24 hx252 rfl 170 (by kernel_rfl) (W.lend (ms_l6Make_ok N (⟨44, 0, r237.1, [], []⟩ : SNode) x239 hx253) cok87 [(100, 171)] [171] (LayOk.cons (j := 170) (encL true (eSN true)) (encL false (eSN false)) x239 (by kernel_rfl) (share_encL _ (sh_eSN _)) lO) (.own _) (.cons (DeepR.map (fun _ => (.cons (.c _) (.cons (.c _) (.cons (.c _) (.cons (.c _) (.cons (.sl _ _ (DeepR.map (fun _ => (.cons (.c _) .nil)) _)) .nil)))))) _) .nil) (by kernel_rfl) (by kernel_rfl) (wR 1 172 (wF (CO.ret ?_))))))
  cases h232
  exact eG [(0, 0), (171, 100)] (.inr rfl) (RetV.one rfl (oT (t := 2) (r := .own 171)))
 refine cV 100 ?_
 refine cI h (fun _ h => ?_) (fun _ h => ?_)
 ·refine bB h fun r242 hx256 h => (CO.sw mix (wR 2 100 (wD (ms_l1Pick_ok [[35, 32, 116, 111, 112], [35]] pa r124.2.1 r124.2.2 hx256) cok128 [(0, 0)] [(0, 0)] [] (LayOk.cons (j := 100) eNS eNS ([[35, 32, 116, 111, 112], [35]] : LLU) (by kernel_rfl) (fun _ => rfl) lO) (wR 3 101 (wF (CO.ret ?_))))))
  cases h
  exact eG [(0, 0), (101, 100)] (.inr rfl) (RetV.one rfl (oT (t := 2) (r := .own 101)))
 refine CO.skip (bB h fun r246 hx260 h => (bB h fun r247 hx261 h => (bB h fun r248 hx262 h => (CO.sw mix (wR 3 100 (wC (ms_l7Expr_ok N (wr (1 + r2.1)) pa r124.2.1 r124.2.2 hx260) cok109 [(0, 0)] [(0, 0), (100, 100)] [100] (wR 2 101 (wC (ms_l7Block_ok N (wr (1 + r2.1)) pa r246.2.1 r246.2.2 hx261) cok195 [(0, 0)] [(0, 0), (100, 101)] [101] ?_))))))))
 refine wR 1 102 (W.lend (ms_l6Make_ok N (⟨42, 3, [], [], []⟩ : SNode) [r246.1, r247.1] hx262) cok87 [(100, 103)] [103] (LayOk.cons (j := 102) (encL true (eSN true)) (encL false (eSN false)) ([r246.1, r247.1] : List LN) (by kernel_rfl) (share_encL _ (sh_eSN _)) lO) (.own _) (.cons (DeepR.map (fun _ => (.cons (.c _) (.cons (.c _) (.cons (.c _) (.cons (.c _) (.cons (.sl _ _ (DeepR.map (fun _ => (.cons (.c _) .nil)) _)) .nil)))))) _) .nil) (by kernel_rfl) (by kernel_rfl) (wR 1 104 (wF (CO.ret ?_))))
 cases h
 exact eG [(0, 0), (103, 100)] (.inr rfl) (RetV.one rfl (oT (t := 2) (r := .own 103)))

theorem ms_l7Program_ok (N : Nat) (pa : LU) (pb : Int) (pc : Int) {r : (LN × Int × Int)} (h : ms_l7Program N pa pb pc = some r) :
    AC Tryz.prog (GS []) 140 [.loc 0 0] [(0, .cells 128 [sL byteRow pa, V.i pb, V.i pc])] (.own 100) [(0, .cells 128 [sL byteRow pa, V.i r.2.1, V.i r.2.2]), (100, .vec false 37 5 (r.1.map (eSN true)))] := by
 rw [ms_l7Program] at h
 refine AC.enter Tryz.func140 rfl (cV 100 (CO.block' (CO.loopJ (fun (⟨pb, pc⟩ : (Int × Int)) => ⟨tl 25 [(0, .loc 0 0)], [(0, .cells 128 [sL byteRow pa, V.i pb, V.i pc])]⟩) (fun n i => ms_l7Program_l1 N pa n i = some r) (n0 := N) (i0 := (pb, pc)) (wS [(0, 0)] [0]) h (fun i h => by simp [ms_l7Program_l1] at h) ?_)))
 rintro n1 ⟨pb, pc⟩ h72 ih73
 rw [ms_l7Program_l1] at h72
 refine CO.block' (cV 208 (CO.seq' (bB h72 fun r108 hx109 h72 => (CO.sw mix (wR 1 209 (wC (ms_l1Below_ok 4 pa pb pc hx109) cok63 [(0, 0)] [(0, 0)] [] (wR 1 209 (wF ?_))))))))
 refine CO.block' (CO.loopJ (fun (⟨y117, y118, y119, y120⟩ : (Int × Int × Int × (List LN))) => ⟨tl 25 [(0, .loc 0 0), (3, .own 100), (4, V.i y117)], [(0, .cells 128 [sL byteRow pa, V.i y118, V.i y119]), (100, .vec false 24 1 (y120.map (encL true (eSN true))))]⟩) (fun n i => ms_l7Program_l2 N pa (ms_l7Program_l1 N pa n1) n i = some r) (n0 := N) (i0 := (r108.1, r108.2.1, r108.2.2, [])) (wS [(0, 0), (208, 100)] [0, 3, 4]) h72 (fun i h => by simp [ms_l7Program_l2] at h) ?_)
 rintro n2 ⟨y117, y118, y119, y120⟩ h130 ih131
 rw [ms_l7Program_l2] at h130
 refine CO.seq' (cV 275 ?_)
 refine cI h130 (fun _ h130 => ?_) (fun _ h130 => ?_)
 ·refine CO.skip (CO.seq' (CO.block' (bB h130 fun r139 hx140 h130 => (bB h130 fun x140 hx141 h130 => ?_))))
  refine CO.endR (tl 25 [(0, .loc 0 0), (3, .own 277), (4, V.i y117)]) [(277, .vec false 24 1 (x140.map (encL true (eSN true)))), (0, .cells 128 [sL byteRow pa, V.i r139.2.1, V.i r139.2.2])] mix (by
   refine wR 2 275 (wC (ms_l7Item_ok N pa y118 y119 hx140) cok197 [(0, 0)] [(0, 0), (100, 275)] [275] (wR 1 276 (W.appO Dk (encL true (eSN true)) (a := 100) (c := 276) (el := 24) (sz := 1) 24 hx141 rfl 277 (by kernel_rfl) (wR 1 278 ?_))))
   exact fI
   ) (fun st hw => ?_)
  refine CO.weak hw ?_
  exact cK 278 ih131 ((wr (y117 - 1)), r139.2.1, r139.2.2, x140) h130 [(0, 0), (277, 100)] [0, 3, 4]
 refine CO.exit (bB h130 fun r142 hx143 h130 => (CO.sw mix (wR 2 275 (W.lend (ms_l6Make_ok N (⟨45, 0, [], [], []⟩ : SNode) y120 hx143) cok87 [(100, 275)] [275] (LayOk.cons (j := 100) (encL true (eSN true)) (encL false (eSN false)) y120 (by kernel_rfl) (share_encL _ (sh_eSN _)) lO) (.own _) (.cons (DeepR.map (fun _ => (.cons (.c _) (.cons (.c _) (.cons (.c _) (.cons (.c _) (.cons (.sl _ _ (DeepR.map (fun _ => (.cons (.c _) .nil)) _)) .nil)))))) _) .nil) (by kernel_rfl) (by kernel_rfl) (wR 1 276 (wF (CO.sw mix (wR 1 276 ?_))))))))
 refine wN (eSN true) r142 [275] (wR 1 276 (wF ?_))
 refine cI h130 (fun _ h130 => ?_) (fun _ h130 => ?_)
 ·refine cV 276 (CO.ret ?_)
  cases h130
  exact eG [(0, 0), (275, 100)] (.inr rfl) (RetV.one rfl (oT (t := 2) (r := .own 275)))
 exact sK ih73 (y118, y119) h130 [(0, 0)] [0]

theorem ms_l7Any_ok (N : Nat) (pa : LU) (pb : Int) (pc : Int) {r : (LN × Int × Int)} (h : ms_l7Any N pa pb pc = some r) :
    AC Tryz.prog (GS []) 62 [.loc 0 0] [(0, .cells 128 [sL byteRow pa, V.i pb, V.i pc])] (.own 100) [(0, .cells 128 [sL byteRow pa, V.i r.2.1, V.i r.2.2]), (100, .vec false 37 5 (r.1.map (eSN true)))] := by
 rw [ms_l7Any] at h
 refine AC.enter Tryz.func62 rfl (cV 100 (CO.seq' (bB h fun r9 hx14 h => (CO.sw mix (wR 1 100 (wC (ms_l1Below_ok 5 pa pb pc hx14) cok63 [(0, 0)] [(0, 0)] [] (wF (CO.block' ?_))))))))
 refine CO.join (fun (⟨r9, y10⟩ : ((Int × Int × Int) × Bool)) => ⟨tl 16 [(0, .loc 0 0), (4, V.i r9.1), (5, V.b y10)], [(0, .cells 128 [sL byteRow pa, V.i r9.2.1, V.i r9.2.2])]⟩) (fun i => ms_l7Any_k1 N pa i = some r) ?_ ?_
 · rintro ⟨r9, y10⟩ h16
   rw [ms_l7Any_k1] at h16
   refine cI h16 (fun _ h16 => ?_) (fun _ h16 => ?_)
   ·refine bB h16 fun r12 hx19 h16 => (CO.sw mix (wR 1 100 (wC (ms_l7Some_ok N pa r9.2.1 r9.2.2 hx19) cok138 [(0, 0)] [(0, 0), (100, 100)] [100] (wR 1 101 (wF (CO.ret ?_))))))
    cases h16
    exact eG [(0, 0), (100, 100)] (.inr rfl) (RetV.one rfl (oT (t := 2) (r := .own 100)))
   refine cV 100 ?_
   refine cI h16 (fun _ h16 => ?_) (fun _ h16 => ?_)
   ·refine bB h16 fun r14 hx22 h16 => (CO.sw mix (wR 1 100 (wC (ms_l7Stmt_ok N 2 pa r9.2.1 r9.2.2 hx22) cok139 [(0, 0)] [(0, 0), (100, 100)] [100] (wR 1 101 (wF (CO.ret ?_))))))
    cases h16
    exact eG [(0, 0), (100, 100)] (.inr rfl) (RetV.one rfl (oT (t := 2) (r := .own 100)))
   refine CO.skip (bB h16 fun r16 hx24 h16 => (CO.sw mix (wR 1 100 (wC (ms_l7Program_ok N pa r9.2.1 r9.2.2 hx24) cok140 [(0, 0)] [(0, 0), (100, 100)] [100] (wR 1 101 (wF (CO.ret ?_)))))))
   cases h16
   exact eG [(0, 0), (100, 100)] (.inr rfl) (RetV.one rfl (oT (t := 2) (r := .own 100)))
 intro hk25
 refine cV 100 ?_
 refine cI h (fun _ h => ?_) (fun _ h => ?_)
 ·exact sK hk25 (r9, (r9.1 == 0)) h [(0, 0)] [0, 4, 5]
 exact cK 100 hk25 (r9, (r9.1 == 1)) h [(0, 0)] [0, 4, 5]

end Go.Proofs.Tryz
