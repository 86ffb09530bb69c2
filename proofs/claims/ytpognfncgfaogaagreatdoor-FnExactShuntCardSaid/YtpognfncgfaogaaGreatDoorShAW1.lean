/-
 The walks that show that the code computes the models, part 1.
-/
import Derived.Test.YtpognfncgfaogaaGreatDoorShAM1
namespace Go.Proofs.Tryz
open Go.Av
set_option maxRecDepth 100000
set_option maxHeartbeats 8000000
set_option linter.unusedSimpArgs false
set_option linter.unusedVariables false

theorem ext203 (s : LU) (c : Int) (w : World) : (callFunc 203 #[.string ⟨⟨s⟩⟩, .int .u8 c]).run Tryz.prog w = .ok (.value (.int .i64 (Go.Lib.indexByte s c.toNat.toUInt8))) w := by
 rw [run_callFunc_extern Tryz.func203 (by kernel_rfl) rfl (by kernel_rfl) (by kernel_rfl)]
 rw [show _ = _ from Go.Lib.run_indexByteString ⟨⟨s⟩⟩ c w]
 rfl

theorem cok5 : callOk Tryz.prog 5 := fun _ _ => Tryz.call5 _ _
theorem cok6 : callOk Tryz.prog 6 := fun _ _ => Tryz.call6 _ _
theorem cok7 : callOk Tryz.prog 7 := fun _ _ => Tryz.call7 _ _
theorem cok8 : callOk Tryz.prog 8 := fun _ _ => Tryz.call8 _ _
theorem cok9 : callOk Tryz.prog 9 := fun _ _ => Tryz.call9 _ _
theorem cok10 : callOk Tryz.prog 10 := fun _ _ => Tryz.call10 _ _
theorem cok11 : callOk Tryz.prog 11 := fun _ _ => Tryz.call11 _ _
theorem cok12 : callOk Tryz.prog 12 := fun _ _ => Tryz.call12 _ _
theorem cok13 : callOk Tryz.prog 13 := fun _ _ => Tryz.call13 _ _
theorem cok19 : callOk Tryz.prog 19 := fun _ _ => Tryz.call19 _ _
theorem cok20 : callOk Tryz.prog 20 := fun _ _ => Tryz.call20 _ _
theorem cok21 : callOk Tryz.prog 21 := fun _ _ => Tryz.call21 _ _
theorem cok22 : callOk Tryz.prog 22 := fun _ _ => Tryz.call22 _ _
theorem cok23 : callOk Tryz.prog 23 := fun _ _ => Tryz.call23 _ _
theorem cok24 : callOk Tryz.prog 24 := fun _ _ => Tryz.call24 _ _
theorem cok25 : callOk Tryz.prog 25 := fun _ _ => Tryz.call25 _ _
theorem cok26 : callOk Tryz.prog 26 := fun _ _ => Tryz.call26 _ _
theorem cok27 : callOk Tryz.prog 27 := fun _ _ => Tryz.call27 _ _
theorem cok28 : callOk Tryz.prog 28 := fun _ _ => Tryz.call28 _ _
theorem cok29 : callOk Tryz.prog 29 := fun _ _ => Tryz.call29 _ _
theorem cok30 : callOk Tryz.prog 30 := fun _ _ => Tryz.call30 _ _
theorem cok31 : callOk Tryz.prog 31 := fun _ _ => Tryz.call31 _ _
theorem cok32 : callOk Tryz.prog 32 := fun _ _ => Tryz.call32 _ _
theorem cok33 : callOk Tryz.prog 33 := fun _ _ => Tryz.call33 _ _
theorem cok34 : callOk Tryz.prog 34 := fun _ _ => Tryz.call34 _ _
theorem cok35 : callOk Tryz.prog 35 := fun _ _ => Tryz.call35 _ _
theorem cok37 : callOk Tryz.prog 37 := fun _ _ => Tryz.call37 _ _
theorem cok47 : callOk Tryz.prog 47 := fun _ _ => Tryz.call47 _ _
theorem cok48 : callOk Tryz.prog 48 := fun _ _ => Tryz.call48 _ _
theorem cok49 : callOk Tryz.prog 49 := fun _ _ => Tryz.call49 _ _
theorem cok50 : callOk Tryz.prog 50 := fun _ _ => Tryz.call50 _ _
theorem cok51 : callOk Tryz.prog 51 := fun _ _ => Tryz.call51 _ _
theorem cok52 : callOk Tryz.prog 52 := fun _ _ => Tryz.call52 _ _
theorem cok53 : callOk Tryz.prog 53 := fun _ _ => Tryz.call53 _ _
theorem cok54 : callOk Tryz.prog 54 := fun _ _ => Tryz.call54 _ _
theorem cok55 : callOk Tryz.prog 55 := fun _ _ => Tryz.call55 _ _
theorem cok56 : callOk Tryz.prog 56 := fun _ _ => Tryz.call56 _ _
theorem cok57 : callOk Tryz.prog 57 := fun _ _ => Tryz.call57 _ _
theorem cok58 : callOk Tryz.prog 58 := fun _ _ => Tryz.call58 _ _
theorem cok59 : callOk Tryz.prog 59 := fun _ _ => Tryz.call59 _ _
theorem cok60 : callOk Tryz.prog 60 := fun _ _ => Tryz.call60 _ _
theorem cok61 : callOk Tryz.prog 61 := fun _ _ => Tryz.call61 _ _
theorem cok62 : callOk Tryz.prog 62 := fun _ _ => Tryz.call62 _ _
theorem cok63 : callOk Tryz.prog 63 := fun _ _ => Tryz.call63 _ _
theorem cok65 : callOk Tryz.prog 65 := fun _ _ => Tryz.call65 _ _
theorem cok66 : callOk Tryz.prog 66 := fun _ _ => Tryz.call66 _ _
theorem cok67 : callOk Tryz.prog 67 := fun _ _ => Tryz.call67 _ _
theorem cok68 : callOk Tryz.prog 68 := fun _ _ => Tryz.call68 _ _
theorem cok79 : callOk Tryz.prog 79 := fun _ _ => Tryz.call79 _ _
theorem cok84 : callOk Tryz.prog 84 := fun _ _ => Tryz.call84 _ _
theorem cok85 : callOk Tryz.prog 85 := fun _ _ => Tryz.call85 _ _
theorem cok86 : callOk Tryz.prog 86 := fun _ _ => Tryz.call86 _ _
theorem cok87 : callOk Tryz.prog 87 := fun _ _ => Tryz.call87 _ _
theorem cok88 : callOk Tryz.prog 88 := fun _ _ => Tryz.call88 _ _
theorem cok89 : callOk Tryz.prog 89 := fun _ _ => Tryz.call89 _ _
theorem cok90 : callOk Tryz.prog 90 := fun _ _ => Tryz.call90 _ _
theorem cok91 : callOk Tryz.prog 91 := fun _ _ => Tryz.call91 _ _
theorem cok92 : callOk Tryz.prog 92 := fun _ _ => Tryz.call92 _ _
theorem cok93 : callOk Tryz.prog 93 := fun _ _ => Tryz.call93 _ _
theorem cok94 : callOk Tryz.prog 94 := fun _ _ => Tryz.call94 _ _
theorem cok95 : callOk Tryz.prog 95 := fun _ _ => Tryz.call95 _ _
theorem cok96 : callOk Tryz.prog 96 := fun _ _ => Tryz.call96 _ _
theorem cok97 : callOk Tryz.prog 97 := fun _ _ => Tryz.call97 _ _
theorem cok98 : callOk Tryz.prog 98 := fun _ _ => Tryz.call98 _ _
theorem cok99 : callOk Tryz.prog 99 := fun _ _ => Tryz.call99 _ _
theorem cok100 : callOk Tryz.prog 100 := fun _ _ => Tryz.call100 _ _
theorem cok101 : callOk Tryz.prog 101 := fun _ _ => Tryz.call101 _ _
theorem cok102 : callOk Tryz.prog 102 := fun _ _ => Tryz.call102 _ _
theorem cok103 : callOk Tryz.prog 103 := fun _ _ => Tryz.call103 _ _
theorem cok104 : callOk Tryz.prog 104 := fun _ _ => Tryz.call104 _ _
theorem cok105 : callOk Tryz.prog 105 := fun _ _ => Tryz.call105 _ _
theorem cok106 : callOk Tryz.prog 106 := fun _ _ => Tryz.call106 _ _
theorem cok107 : callOk Tryz.prog 107 := fun _ _ => Tryz.call107 _ _
theorem cok108 : callOk Tryz.prog 108 := fun _ _ => Tryz.call108 _ _
theorem cok109 : callOk Tryz.prog 109 := fun _ _ => Tryz.call109 _ _
theorem cok110 : callOk Tryz.prog 110 := fun _ _ => Tryz.call110 _ _
theorem cok111 : callOk Tryz.prog 111 := fun _ _ => Tryz.call111 _ _
theorem cok112 : callOk Tryz.prog 112 := fun _ _ => Tryz.call112 _ _
theorem cok113 : callOk Tryz.prog 113 := fun _ _ => Tryz.call113 _ _
theorem cok114 : callOk Tryz.prog 114 := fun _ _ => Tryz.call114 _ _
theorem cok123 : callOk Tryz.prog 123 := fun _ _ => Tryz.call123 _ _
theorem cok124 : callOk Tryz.prog 124 := fun _ _ => Tryz.call124 _ _
theorem cok125 : callOk Tryz.prog 125 := fun _ _ => Tryz.call125 _ _
theorem cok126 : callOk Tryz.prog 126 := fun _ _ => Tryz.call126 _ _
theorem cok127 : callOk Tryz.prog 127 := fun _ _ => Tryz.call127 _ _
theorem cok128 : callOk Tryz.prog 128 := fun _ _ => Tryz.call128 _ _
theorem cok129 : callOk Tryz.prog 129 := fun _ _ => Tryz.call129 _ _
theorem cok130 : callOk Tryz.prog 130 := fun _ _ => Tryz.call130 _ _
theorem cok131 : callOk Tryz.prog 131 := fun _ _ => Tryz.call131 _ _
theorem cok132 : callOk Tryz.prog 132 := fun _ _ => Tryz.call132 _ _
theorem cok133 : callOk Tryz.prog 133 := fun _ _ => Tryz.call133 _ _
theorem cok134 : callOk Tryz.prog 134 := fun _ _ => Tryz.call134 _ _
theorem cok135 : callOk Tryz.prog 135 := fun _ _ => Tryz.call135 _ _
theorem cok136 : callOk Tryz.prog 136 := fun _ _ => Tryz.call136 _ _
theorem cok137 : callOk Tryz.prog 137 := fun _ _ => Tryz.call137 _ _
theorem cok138 : callOk Tryz.prog 138 := fun _ _ => Tryz.call138 _ _
theorem cok139 : callOk Tryz.prog 139 := fun _ _ => Tryz.call139 _ _
theorem cok140 : callOk Tryz.prog 140 := fun _ _ => Tryz.call140 _ _
theorem cok141 : callOk Tryz.prog 141 := fun _ _ => Tryz.call141 _ _
theorem cok142 : callOk Tryz.prog 142 := fun _ _ => Tryz.call142 _ _
theorem cok143 : callOk Tryz.prog 143 := fun _ _ => Tryz.call143 _ _
theorem cok144 : callOk Tryz.prog 144 := fun _ _ => Tryz.call144 _ _
theorem cok145 : callOk Tryz.prog 145 := fun _ _ => Tryz.call145 _ _
theorem cok146 : callOk Tryz.prog 146 := fun _ _ => Tryz.call146 _ _
theorem cok147 : callOk Tryz.prog 147 := fun _ _ => Tryz.call147 _ _
theorem cok148 : callOk Tryz.prog 148 := fun _ _ => Tryz.call148 _ _
theorem cok149 : callOk Tryz.prog 149 := fun _ _ => Tryz.call149 _ _
theorem cok150 : callOk Tryz.prog 150 := fun _ _ => Tryz.call150 _ _
theorem cok151 : callOk Tryz.prog 151 := fun _ _ => Tryz.call151 _ _
theorem cok152 : callOk Tryz.prog 152 := fun _ _ => Tryz.call152 _ _
theorem cok153 : callOk Tryz.prog 153 := fun _ _ => Tryz.call153 _ _
theorem cok154 : callOk Tryz.prog 154 := fun _ _ => Tryz.call154 _ _
theorem cok155 : callOk Tryz.prog 155 := fun _ _ => Tryz.call155 _ _
theorem cok156 : callOk Tryz.prog 156 := fun _ _ => Tryz.call156 _ _
theorem cok157 : callOk Tryz.prog 157 := fun _ _ => Tryz.call157 _ _
theorem cok158 : callOk Tryz.prog 158 := fun _ _ => Tryz.call158 _ _
theorem cok159 : callOk Tryz.prog 159 := fun _ _ => Tryz.call159 _ _
theorem cok160 : callOk Tryz.prog 160 := fun _ _ => Tryz.call160 _ _
theorem cok161 : callOk Tryz.prog 161 := fun _ _ => Tryz.call161 _ _
theorem cok162 : callOk Tryz.prog 162 := fun _ _ => Tryz.call162 _ _
theorem cok163 : callOk Tryz.prog 163 := fun _ _ => Tryz.call163 _ _
theorem cok164 : callOk Tryz.prog 164 := fun _ _ => Tryz.call164 _ _
theorem cok165 : callOk Tryz.prog 165 := fun _ _ => Tryz.call165 _ _
theorem cok166 : callOk Tryz.prog 166 := fun _ _ => Tryz.call166 _ _
theorem cok170 : callOk Tryz.prog 170 := fun _ _ => Tryz.call170 _ _
theorem cok171 : callOk Tryz.prog 171 := fun _ _ => Tryz.call171 _ _
theorem cok172 : callOk Tryz.prog 172 := fun _ _ => Tryz.call172 _ _
theorem cok173 : callOk Tryz.prog 173 := fun _ _ => Tryz.call173 _ _
theorem cok174 : callOk Tryz.prog 174 := fun _ _ => Tryz.call174 _ _
theorem cok175 : callOk Tryz.prog 175 := fun _ _ => Tryz.call175 _ _
theorem cok176 : callOk Tryz.prog 176 := fun _ _ => Tryz.call176 _ _
theorem cok177 : callOk Tryz.prog 177 := fun _ _ => Tryz.call177 _ _
theorem cok178 : callOk Tryz.prog 178 := fun _ _ => Tryz.call178 _ _
theorem cok179 : callOk Tryz.prog 179 := fun _ _ => Tryz.call179 _ _
theorem cok180 : callOk Tryz.prog 180 := fun _ _ => Tryz.call180 _ _
theorem cok181 : callOk Tryz.prog 181 := fun _ _ => Tryz.call181 _ _
theorem cok182 : callOk Tryz.prog 182 := fun _ _ => Tryz.call182 _ _
theorem cok183 : callOk Tryz.prog 183 := fun _ _ => Tryz.call183 _ _
theorem cok184 : callOk Tryz.prog 184 := fun _ _ => Tryz.call184 _ _
theorem cok185 : callOk Tryz.prog 185 := fun _ _ => Tryz.call185 _ _
theorem cok186 : callOk Tryz.prog 186 := fun _ _ => Tryz.call186 _ _
theorem cok187 : callOk Tryz.prog 187 := fun _ _ => Tryz.call187 _ _
theorem cok188 : callOk Tryz.prog 188 := fun _ _ => Tryz.call188 _ _
theorem cok189 : callOk Tryz.prog 189 := fun _ _ => Tryz.call189 _ _
theorem cok190 : callOk Tryz.prog 190 := fun _ _ => Tryz.call190 _ _
theorem cok191 : callOk Tryz.prog 191 := fun _ _ => Tryz.call191 _ _
theorem cok192 : callOk Tryz.prog 192 := fun _ _ => Tryz.call192 _ _
theorem cok193 : callOk Tryz.prog 193 := fun _ _ => Tryz.call193 _ _
theorem cok194 : callOk Tryz.prog 194 := fun _ _ => Tryz.call194 _ _
theorem cok195 : callOk Tryz.prog 195 := fun _ _ => Tryz.call195 _ _
theorem cok196 : callOk Tryz.prog 196 := fun _ _ => Tryz.call196 _ _
theorem cok197 : callOk Tryz.prog 197 := fun _ _ => Tryz.call197 _ _
theorem cok198 : callOk Tryz.prog 198 := fun _ _ => Tryz.call198 _ _
theorem cok199 : callOk Tryz.prog 199 := fun _ _ => Tryz.call199 _ _

theorem back155 {G : Nat → Option (List V)} (l : List Int) : AC Tryz.prog G 155 [sL eNI l] [] (.fn 189 [.loc 100 0]) [(100, .cells 48 [sL eNI l])] := by
 refine AC.enter Tryz.func155 rfl ?_
 refine CO.cutR (tl 4 [(1, .loc 100 0)]) [(100, .cells 48 [sL eNI l])] mix (by
   refine wR 2 100 ?_
   exact W.fin (by decide) (by kernel_rfl) (wS [(100, 100)] [1])
   ) ?_
 refine CO.cutR (tl 4 [(2, .fn 189 [.loc 100 0])]) [(100, .cells 48 [sL eNI l])] mix (by
   refine wR 2 101 ?_
   exact W.fin (by decide) (by kernel_rfl) (wS [(100, 100)] [2])
   ) ?_
 refine CO.ret ?_
 exact eG [(100, 100)] (.inr rfl) (RetV.one rfl (oT (t := 2) (r := .fn 189 [.loc 100 0])))

theorem backok189 : BackOk Tryz.prog 189 := by
 intro l g n Inv Stop w hmax hlen hdraw hround h0
 refine callsIn_wide.1 (callsIn_of_wp (F := Fence.wide) (n := 0) Tryz.func189 rfl trivial ?_ rfl)
 show Code.wpIn (fen none) 0 _ _ _ _ _
 simp only [Tryz.ntmps189, List.size_toArray, List.length_cons, List.length_nil, Nat.reduceAdd, Nat.reduceSub, Array.replicate_succ, Array.replicate_zero, List.push_toArray, List.append_toArray, List.nil_append, List.cons_append]
 refine wpIn_seq (wpIn_region_lit ?_)
 obtain ⟨a0, cap0, hc0⟩ := hlen w h0
 have hn64 : (n : Int) ≤ 9223372036854775807 := by
  simp only [maxLen] at hmax
  omega
 refine listVal rfl (fun _ h => by cases h) (w' := w) (v := .slice a0 n cap0) ?_ ?_
 ·simp only [execOp, Sem.run_bind]
  rw [run_load1 Dk (t := 48) (by rfl) rfl (b := ⟨g, 0, none⟩) (by simp [Act.eval]) hc0]
  rfl
 refine listVal rfl (fun _ h => by cases h) (w' := w) (v := .int .i64 n) ?_ ?_
 ·simp [execOp, resolve, invoke, builtin, Builtin.len_, run_underlying Tryz.underlying48, goInt, Act.eval, Act.put]
 refine listVal rfl (fun _ h => by cases h) (w' := w) (v := .int .i64 (IntKind.wrap .i64 ((n : Int) - 1))) ?_ ?_
 ·simp [execOp, go_sem, Op.intArith, Act.eval, Act.put]
 refine listVal rfl (fun _ h => by cases h) (w' := w) (v := .int .i64 (IntKind.wrap .i64 ((n : Int) - 1))) ?_ ?_
 ·simp [execOp, Act.eval, Act.put]
 unfold wpListIn
 rw [wrap64 (by omega) (by omega)]
 refine wpIn_block (wpIn_loop_rounds (n + 1) ?_)
 refine rounds_by (fun k a W => Inv k W ∧ k ≤ n ∧ a.tmps.size = 19 ∧ slot a 0 = .func (.yield l) #[] #[] ∧ slot a 1 = .pointer (some ⟨g, 0, none⟩) ∧ slot a 3 = .int .i64 ((k : Int) - 1) ∧ a.defers = []) ?_ ?_ n _ w ?_
 ··rintro a W ⟨hi, hk, s1, s2, s3, s4, s5⟩
   refine wpIn_seq (wpIn_seq (wpIn_region_lit ?_))
   refine listVal rfl (fun _ h => by cases h) (w' := W) (v := .int .i64 (-1)) ?_ ?_
   ·simp only [execOp, eval_slot, s4]; rfl
   refine listVal rfl (fun _ h => by cases h) (w' := W) (v := .bool false) ?_ ?_
   ·simp [execOp, go_sem, eval_slot, slot_put, s1]
   refine wpIn_cond_false (by simp [eval_slot, slot_put, aput_size, s1]) (wpIn_exit ?_)
   refine ⟨by simp [aput_def, s5], _, results_none rfl _ _ _, ⟨_, rfl⟩, .inl hi⟩
 ··rintro k a W ⟨hi, hk, s1, s2, s3, s4, s5⟩
   have s4' : slot a 3 = .int .i64 (k : Int) := by rw [s4]; congr 1; omega
   obtain ⟨hkn, b, cap, v, c1, c2, c3, c4, f, tmps, asg, body, hy, hR⟩ := hround k W hi
   refine wpIn_seq (wpIn_seq (wpIn_region_lit ?_))
   refine listVal rfl (fun _ h => by cases h) (w' := W) (v := .int .i64 k) ?_ ?_
   ·simp only [execOp, eval_slot, s4']; rfl
   refine listVal rfl (fun _ h => by cases h) (w' := W) (v := .bool true) ?_ ?_
   ·simp [execOp, go_sem, eval_slot, slot_put, s1]
   refine wpIn_cond_true (by simp [eval_slot, slot_put, aput_size, s1]) (wpIn_skip (wpIn_seq (wpIn_block (wpIn_seq (wpIn_region_lit ?_)))))
   refine listVal rfl (fun _ h => by cases h) (w' := W) (v := .func (.yield l) #[] #[]) ?_ ?_
   ·simp [execOp, eval_slot, slot_put, aput_size, s1, s2]
   refine listVal rfl (fun _ h => by cases h) (w' := W) (v := .int .i64 k) ?_ ?_
   ·simp [execOp, eval_slot, slot_put, aput_size, s1, s4']
   refine listVal rfl (fun _ h => by cases h) (w' := W) (v := .slice (some b) n cap) ?_ ?_
   ·simp only [execOp, Sem.run_bind]
    rw [run_load1 Dk (t := 48) rfl rfl (by simp [eval_slot, slot_put, aput_size, s1, s3]) c1]
    rfl
   refine listVal rfl (fun _ h => by cases h) (w' := W) (v := .int .i64 k) ?_ ?_
   ·simp [execOp, eval_slot, slot_put, aput_size, s1, s4']
   refine listVal rfl (fun _ h => by cases h) (w' := W) (v := .pointer (some (b.add k))) ?_ ?_
   ·unfold execOp
    have hz : D.at 3 = some { d := .int .i64, size := 1, bytes := 8, zero := [.int .i64 0], cmp := false } := by kernel_rfl
    have hk' : (0 : Int) ≤ (k : Int) ∧ (k : Int) < (n : Int) := by omega
    simp only [eval_slot, slot_put, aput_size, s1, s4', Nat.reduceLT, Nat.reduceEqDiff, if_pos, if_neg, reduceIte, Nat.reduceBEq]
    simp only [Instr.indexAt, Sem.run_bind, asIntOf, Sem.run_pure, Result.andThen_ok, run_underlying Tryz.underlying48, Sem.run_ite, if_pos hk', (Dk _ _ hz).sizeOf W]
    simp
   refine listVal rfl (fun _ h => by cases h) (w' := W) (v := v) ?_ ?_
   ·simp only [execOp, Sem.run_bind]
    rw [run_load1 Dk (t := 3) rfl rfl (by simp [eval_slot, slot_put, aput_size, s1]) c3]
    rfl
   refine listRound rfl (fun _ h => by cases h) (l := l) (f := f) (tmps := tmps) (asg := asg) (body := body) ?_ hR ?_
   ·simp [execOp, resolve, invoke, eval_slot, slot_put, aput_size, s1, Deferred.ofValue, hy]
   rintro e W' (⟨rfl, hi'⟩ | ⟨rfl, hs⟩)
   ·refine ⟨_, rfl, ?_⟩
    refine listVal rfl (fun _ h => by cases h) (w' := W') (v := .bool false) ?_ ?_
    ·simp [execOp, go_sem, Op.unary, eval_slot, slot_put, aput_size, s1]
    refine wpIn_cond_false (by simp [eval_slot, slot_put, aput_size, s1]) (wpIn_skip (wpIn_region_lit ?_))
    refine listVal rfl (fun _ h => by cases h) (w' := W') (v := .int .i64 k) ?_ ?_
    ·simp [execOp, eval_slot, slot_put, aput_size, s1, s4']
    refine listVal rfl (fun _ h => by cases h) (w' := W') (v := .int .i64 ((k : Int) - 1)) ?_ ?_
    ·have := wrap64 (n := (k : Int) - 1) (by omega) (by omega)
     simp [execOp, go_sem, Op.intArith, eval_slot, slot_put, aput_size, s1, this]
    refine listVal rfl (fun _ h => by cases h) (w' := W') (v := .int .i64 ((k : Int) - 1)) ?_ ?_
    ·simp [execOp, eval_slot, slot_put, aput_size, s1]
    refine ⟨hi', by omega, ?_, ?_, ?_, ?_, ?_⟩
    ·simp [aput_size, s1]
    ·simp [slot_put, aput_size, s1, s2]
    ·simp [slot_put, aput_size, s1, s3]
    ·simp [slot_put, aput_size, s1]
    ·simp [aput_def, s5]
   ·refine ⟨_, rfl, ?_⟩
    refine listVal rfl (fun _ h => by cases h) (w' := W') (v := .bool true) ?_ ?_
    ·simp [execOp, go_sem, Op.unary, eval_slot, slot_put, aput_size, s1]
    refine wpIn_cond_true (by simp [eval_slot, slot_put, aput_size, s1]) (wpIn_ret ?_)
    exact ⟨by simp [aput_def, s5], _, results_none rfl _ _ _, ⟨_, rfl⟩, .inr hs⟩
 ·refine ⟨h0, Nat.le_refl _, ?_, ?_, ?_, ?_, ?_⟩ <;> simp [slot, Act.put]

theorem ml_szToken_ok (a0 : SToken) (a1 : Int) {r : Int} (h : ml_szToken a0 a1 = some r) :
    AC0 19 [.agg [V.i a0.Kind, V.s a0.Text, V.i a0.At], V.i a1] [] (V.i r) [] := by
 rw [ml_szToken] at h
 refine AC.enter Tryz.func19 rfl (cV 100 (cV 101 (CO.seq' (cV 101 ?_))))
 refine cI h (fun _ h => ?_) (fun _ h => ?_)
 ·refine cV 101 ?_
  cases h
  exact e1 4 id
 refine CO.skip (cV 101 ?_)
 cases h
 exact e1 4 id

theorem ml_szTokenS_ok (N : Nat) (a0 : LT) (a1 : Int) {r : Int} (h : ml_szTokenS N a0 a1 = some r) :
    AC0 5 [sL eTk a0, V.i a1] [] (V.i r) [] := by
 rw [ml_szTokenS] at h
 refine AC.enter Tryz.func5 rfl (cV 100 (CO.sw mix (wR 2 100 (wN eTk a0 [] (wR 2 100 (wF (CO.seq' (cV 100 ?_))))))))
 refine cI h (fun _ h => ?_) (fun _ h => ?_)
 ·refine cV 100 ?_
  cases h
  exact e1 4 id
 refine CO.skip (CO.seq' (cV 100 (CO.block' (CO.loopJ (fun (⟨a0, y37, y38⟩ : (LT × Int × Int)) => ⟨tl 27 [(0, sL eTk a0), (1, V.i y37), (5, V.i y38)], []⟩) (fun n i => ml_szTokenS_l1 N n i = some r) (n0 := N) (i0 := (a0, (wr (a1 - (a0.length : Int))), 0)) (wS [] [0, 1, 5]) h (fun i h => by simp [ml_szTokenS_l1] at h) ?_))))
 rintro n1 ⟨a0, y37, y38⟩ h65 ih66
 rw [ml_szTokenS_l1] at h65
 refine CO.seq' (CO.sw mix (wR 2 160 (wN eTk a0 [] (wR 1 160 (wF ?_)))))
 refine cI h65 (fun _ h65 => ?_) (fun _ h65 => ?_)
 ·refine CO.skip (CO.seq' (CO.block' (bB h65 fun e55 hx76 h65 => (bB h65 fun r56 hx77 h65 => (CO.sw mix (wR 2 160 (wX eTk hx76 3 (wR 2 160 ?_))))))))
  refine w0 (ml_szToken_ok e55 y37 hx77) cok19 (wR 1 160 (wF (cV 160 ?_)))
  refine cI h65 (fun _ h65 => ?_) (fun _ h65 => ?_)
  ·refine cV 160 ?_
   cases h65
   exact e1 4 id
  refine CO.skip ?_
  exact cK 160 ih66 (a0, r56, (wr (y38 + 1))) h65 [] [0, 1, 5]
 refine CO.exit (cV 160 ?_)
 cases h65
 exact e1 4 id

theorem ml_toToken_ok (a0 : SToken) {r : SToken} (h : ml_toToken a0 = some r) :
    AC0 26 [.agg [V.i a0.Kind, V.s a0.Text, V.i a0.At]] [] (.agg [V.i r.Kind, V.s r.Text, V.i r.At]) [] := by
 rw [ml_toToken] at h
 refine AC.enter Tryz.func26 rfl (cV 100 (cV 102 (cV 103 (cV 103 (cV 103 (cV 103 (CO.ret ?_)))))))
 have h := sI h
 subst h
 exact eG [] (.inr rfl) (RetV.one rfl (OneR.cell Dk (r := .agg [V.i a0.Kind, V.s a0.Text, V.i a0.At]) (i := 101) (ety := 52) (cs := [V.i a0.Kind, V.s a0.Text, V.i a0.At]) (by kernel_rfl) (by kernel_rfl) (by kernel_rfl)))

theorem ml_toTokenS_ok (N : Nat) (a0 : LT) {r : LT} (h : ml_toTokenS N a0 = some r) :
    AC0 7 [sL eTk a0] [] (.own 100) [(100, vX 52 3 eTk r)] := by
 rw [ml_toTokenS] at h
 refine AC.enter Tryz.func7 rfl (cV 100 (bB h fun x2 hx2 h => (CO.sw mix (wR 1 100 (wN eTk a0 [] (W.mk Dk eTk 32 hx2 100 52 3 [.int .i64 0, .string ⟨#[]⟩, .int .i64 0] (by kernel_rfl) (by kernel_rfl) (wR 1 101 (wF ?_))))))))
 refine CO.seq' (cV 101 (CO.block' (CO.loopJ (fun (⟨a0, y71, y72⟩ : (LT × Int × LT)) => ⟨tl 23 [(0, sL eTk a0), (3, .own 100), (4, V.i y71)], [(100, vX 52 3 eTk y72)]⟩) (fun n i => ml_toTokenS_l1 N n i = some r) (n0 := N) (i0 := (a0, 0, x2)) (wS [(100, 100)] [0, 3, 4]) h (fun i h => by simp [ml_toTokenS_l1] at h) ?_)))
 rintro n1 ⟨a0, y71, y72⟩ h95 ih96
 rw [ml_toTokenS_l1] at h95
 refine CO.seq' (CO.sw mix (wR 2 161 (wN eTk a0 [] (wR 1 161 (wF ?_)))))
 refine cI h95 (fun _ h95 => ?_) (fun _ h95 => ?_)
 ·refine CO.skip (CO.seq' (CO.block' (bB h95 fun e103 hx111 h95 => (bB h95 fun r104 hx112 h95 => (bB h95 fun e105 hx113 h95 => (bB h95 fun x106 hu114 h95 => ?_))))))
  refine CO.endR (tl 23 [(0, sL eTk a0), (3, .own 100), (4, V.i y71)]) [(100, vX 52 3 eTk x106)] mix (by
   refine wR 4 161 (wX eTk hx111 3 (wR 1 161 (w0 (ml_toToken_ok e103 hx112) cok26 (W.ixO Dk eTk hx113 100 3 (by kernel_rfl) (W.stO Dk eTk (x' := r104) hx113 hu114 (j := 100) (nn := false) (ety := 52) (sz := 3) (b := 0) (ys := [V.i r104.Kind, V.s r104.Text, V.i r104.At]) (C := []) (R := []) (by kernel_rfl) (by kernel_rfl) ?_)))))
   exact fI
   ) (fun st hw => ?_)
  refine CO.weak hw ?_
  exact cK 161 ih96 (a0, (wr (y71 + 1)), x106) h95 [(100, 100)] [0, 3, 4]
 refine CO.exit (cV 161 (CO.ret ?_))
 cases h95
 exact eG [(100, 100)] (.inr rfl) (RetV.one rfl (oT (t := 2) (r := .own 100)))

theorem ms_OpLevel_ok (a0 : Int) {r : Int} (h : ms_OpLevel a0 = some r) :
    AC0 47 [V.i a0] [] (V.i r) [] := by
 rw [ms_OpLevel] at h
 refine AC.enter Tryz.func47 rfl (cV 100 (CO.seq' (cV 100 (CO.block' (cV 100 ?_)))))
 refine cI h (fun _ h => ?_) (fun _ h => ?_)
 ·refine cV 100 ?_
  cases h
  exact e1 2 id
 refine cV 100 ?_
 refine cI h (fun _ h => ?_) (fun _ h => ?_)
 ·refine cV 100 ?_
  cases h
  exact e1 2 id
 refine CO.join (fun (⟨a0, y5⟩ : (Int × Bool)) => ⟨tl 29 [(3, V.i a0), (8, V.b y5)], []⟩) (fun i => ms_OpLevel_k1 i = some r) ?_ ?_
 · rintro ⟨a0, y5⟩ h38
   rw [ms_OpLevel_k1] at h38
   refine cI h38 (fun _ h38 => ?_) (fun _ h38 => ?_)
   ·refine cV 100 ?_
    cases h38
    exact e1 2 id
   refine CO.join (fun (⟨a0, y6⟩ : (Int × Bool)) => ⟨tl 29 [(3, V.i a0), (11, V.b y6)], []⟩) (fun i => ms_OpLevel_k2 i = some r) ?_ ?_
   · rintro ⟨a0, y6⟩ h45
     rw [ms_OpLevel_k2] at h45
     refine cI h45 (fun _ h45 => ?_) (fun _ h45 => ?_)
     ·refine cV 100 ?_
      cases h45
      exact e1 2 id
     refine cV 100 ?_
     refine cI h45 (fun _ h45 => ?_) (fun _ h45 => ?_)
     ·refine cV 100 ?_
      cases h45
      exact e1 2 id
     refine CO.join (fun (⟨a0, y7⟩ : (Int × Bool)) => ⟨tl 29 [(3, V.i a0), (20, V.b y7)], []⟩) (fun i => ms_OpLevel_k3 i = some r) ?_ ?_
     · rintro ⟨a0, y7⟩ h49
       rw [ms_OpLevel_k3] at h49
       refine cI h49 (fun _ h49 => ?_) (fun _ h49 => ?_)
       ·refine cV 100 ?_
        cases h49
        exact e1 2 id
       refine CO.join (fun (⟨a0, y8⟩ : (Int × Bool)) => ⟨tl 29 [(3, V.i a0), (23, V.b y8)], []⟩) (fun i => ms_OpLevel_k4 i = some r) ?_ ?_
       · rintro ⟨a0, y8⟩ h53
         rw [ms_OpLevel_k4] at h53
         refine cI h53 (fun _ h53 => ?_) (fun _ h53 => ?_)
         ·refine cV 100 ?_
          cases h53
          exact e1 2 id
         refine cV 100 ?_
         refine cI h53 (fun _ h53 => ?_) (fun _ h53 => ?_)
         ·refine cV 100 ?_
          cases h53
          exact e1 2 id
         refine CO.skip (cV 100 ?_)
         cases h53
         exact e1 2 id
       intro hk56
       refine cV 100 ?_
       refine cI h49 (fun _ h49 => ?_) (fun _ h49 => ?_)
       ·exact sK hk56 (a0, (a0 == 57)) h49 [] [3, 23]
       refine cV 100 ?_
       refine cI h49 (fun _ h49 => ?_) (fun _ h49 => ?_)
       ·exact sK hk56 (a0, (a0 == 58)) h49 [] [3, 23]
       exact cK 100 hk56 (a0, (a0 == 59)) h49 [] [3, 23]
     intro hk59
     refine cV 100 ?_
     refine cI h45 (fun _ h45 => ?_) (fun _ h45 => ?_)
     ·exact sK hk59 (a0, (a0 == 55)) h45 [] [3, 20]
     exact cK 100 hk59 (a0, (a0 == 56)) h45 [] [3, 20]
   intro hk61
   refine cV 100 ?_
   refine cI h38 (fun _ h38 => ?_) (fun _ h38 => ?_)
   ·exact sK hk61 (a0, (a0 == 63)) h38 [] [3, 11]
   refine cV 100 ?_
   refine cI h38 (fun _ h38 => ?_) (fun _ h38 => ?_)
   ·exact sK hk61 (a0, (a0 == 48)) h38 [] [3, 11]
   refine cV 100 ?_
   refine cI h38 (fun _ h38 => ?_) (fun _ h38 => ?_)
   ·exact sK hk61 (a0, (a0 == 47)) h38 [] [3, 11]
   refine cV 100 ?_
   refine cI h38 (fun _ h38 => ?_) (fun _ h38 => ?_)
   ·exact sK hk61 (a0, (a0 == 50)) h38 [] [3, 11]
   refine cV 100 ?_
   refine cI h38 (fun _ h38 => ?_) (fun _ h38 => ?_)
   ·exact sK hk61 (a0, (a0 == 62)) h38 [] [3, 11]
   exact cK 100 hk61 (a0, (a0 == 49)) h38 [] [3, 11]
 intro hk67
 refine cV 100 ?_
 refine cI h (fun _ h => ?_) (fun _ h => ?_)
 ·exact sK hk67 (a0, (a0 == 67)) h [] [3, 8]
 exact cK 100 hk67 (a0, (a0 == 46)) h [] [3, 8]

theorem ms_l4Plain_ok (N : Nat) (a0 : LU) {r : Bool} (h : ms_l4Plain N a0 = some r) :
    AC0 108 [V.s a0] [] (V.b r) [] := by
 rw [ms_l4Plain] at h
 refine AC.enter Tryz.func108 rfl (cV 100 (CO.seq' (cV 100 (CO.block' (CO.loopJ (fun (⟨a0, y19⟩ : (LU × Int)) => ⟨tl 14 [(0, V.s a0), (3, V.i y19)], []⟩) (fun n i => ms_l4Plain_l1 N n i = some r) (n0 := N) (i0 := (a0, 0)) (wS [] [0, 3]) h (fun i h => by simp [ms_l4Plain_l1] at h) ?_)))))
 rintro n1 ⟨a0, y19⟩ h43 ih44
 rw [ms_l4Plain_l1] at h43
 refine CO.seq' (cV 160 ?_)
 refine cI h43 (fun _ h43 => ?_) (fun _ h43 => ?_)
 ·refine CO.skip (CO.seq' (CO.block' (bB h43 fun b28 hx51 h43 => (CO.sw mix (wR 2 160 (W.ixS Dk hx51 (by kernel_rfl) (wR 1 160 (wF ?_))))))))
  refine cI h43 (fun _ h43 => ?_) (fun _ h43 => ?_)
  ·refine cV 160 ?_
   cases h43
   exact e1 2 id
  refine CO.skip ?_
  exact cK 160 ih44 (a0, (wr (y19 + 1))) h43 [] [0, 3]
 refine CO.exit (cV 160 ?_)
 cases h43
 exact e1 2 id

theorem ms_l4Byte_ok (a0 : LU) (a1 : Int) {r : Int} (h : ms_l4Byte a0 a1 = some r) :
    AC0 159 [V.s a0, V.i a1] [] (V.i r) [] := by
 rw [ms_l4Byte] at h
 refine AC.enter Tryz.func159 rfl (cV 100 (CO.seq' (bB h fun y2 hv6 h => ?_)))
 refine CO.cutR (tl 17 [(0, V.s a0), (1, V.i a1), (12, V.b y2)]) [] mix (by
  refine wR 3 100 ?_
  refine wJ 7 hv6 (fun hv6 => ?_) (fun hv6 => ?_)
  ·refine wR 5 100 ?_
   cases hv6
   exact fS [] [0, 1, 12]
  refine wR 5 100 ?_
  cases hv6
  exact fS [] [0, 1, 12]
  ) ?_
 refine cI h (fun _ h => ?_) (fun _ h => ?_)
 ·refine cV 100 ?_
  cases h
  exact e1 4 id
 refine CO.skip (bB h fun b4 hx10 h => (CO.sw mix (wR 2 100 (W.ixS Dk hx10 (by kernel_rfl) (wR 2 100 (wF ?_))))))
 cases h
 exact e1 4 id

theorem ms_l1In_ok (a0 : Int) (a1 : Int) (a2 : Int) {r : Bool} (h : ms_l1In a0 a1 a2 = some r) :
    AC0 68 [V.i a0, V.i a1, V.i a2] [] (V.b r) [] := by
 rw [ms_l1In] at h
 refine AC.enter Tryz.func68 rfl (cV 100 (bB h fun y1 hv2 h => ?_))
 refine CO.cutR (tl 15 [(6, V.b y1)]) [] mix (by
  refine wR 4 100 ?_
  refine wJ 10 hv2 (fun hv2 => ?_) (fun hv2 => ?_)
  ·refine wR 5 100 ?_
   cases hv2
   exact fS [] [6]
  refine wR 5 100 ?_
  cases hv2
  exact fS [] [6]
  ) ?_
 cases h
 exact e1 6 id

theorem ms_IsDigit_ok (a0 : Int) {r : Bool} (h : ms_IsDigit a0 = some r) :
    AC0 191 [V.i a0] [] (V.b r) [] := by
 rw [ms_IsDigit] at h
 refine AC.enter Tryz.func191 rfl (cV 100 (bB h fun r2 hx2 h => (cC 1 100 (ms_l1In_ok a0 48 57 hx2) cok68 ?_)))
 cases h
 exact e1 2 id

theorem ms_l4Digits_ok (N : Nat) (a0 : LU) (a1 : Int) {r : Int} (h : ms_l4Digits N a0 a1 = some r) :
    AC0 158 [V.s a0, V.i a1] [] (V.i r) [] := by
 rw [ms_l4Digits] at h
 refine AC.enter Tryz.func158 rfl (cV 100 (CO.seq' (CO.block' (CO.loopJ (fun (⟨a0, a1⟩ : (LU × Int)) => ⟨tl 12 [(0, V.s a0), (1, V.i a1)], []⟩) (fun n i => ms_l4Digits_l1 N n i = some r) (n0 := N) (i0 := (a0, a1)) (wS [] [0, 1]) h (fun i h => by simp [ms_l4Digits_l1] at h) ?_))))
 rintro n1 ⟨a0, a1⟩ h33 ih34
 rw [ms_l4Digits_l1] at h33
 refine CO.seq' (bB h33 fun r33 hx42 h33 => (bB h33 fun r34 hx43 h33 => (CO.sw mix (wR 2 140 (w0 (ms_l4Byte_ok a0 a1 hx42) cok159 (w0 (ms_IsDigit_ok r33 hx43) cok191 (wF ?_)))))))
 refine cI h33 (fun _ h33 => ?_) (fun _ h33 => ?_)
 ·refine CO.skip (CO.block' ?_)
  exact cK 140 ih34 (a0, (wr (a1 + 1))) h33 [] [0, 1]
 refine CO.exit (cV 140 ?_)
 cases h33
 exact e1 4 id

theorem ms_NumEnd_ok (N : Nat) (a0 : LU) (a1 : Int) {r : Int} (h : ms_NumEnd N a0 a1 = some r) :
    AC0 109 [V.s a0, V.i a1] [] (V.i r) [] := by
 rw [ms_NumEnd] at h
 refine AC.enter Tryz.func109 rfl (cV 100 (CO.seq' (cV 100 ?_)))
 refine cI h (fun _ h => ?_) (fun _ h => ?_)
 ·refine cV 100 ?_
  cases h
  exact e1 4 id
 refine CO.skip (bB h fun r2 hx4 h => (cC 2 100 (ms_l4Digits_ok N a0 a1 hx4) cok158 ?_))
 refine CO.join (fun (⟨a0, a1, y9⟩ : (LU × Int × Int)) => ⟨tl 67 [(0, V.s a0), (1, V.i a1), (5, V.i y9)], []⟩) (fun i => ms_NumEnd_k1 N i = some r) ?_ ?_
 · rintro ⟨a0, a1, y9⟩ h18
   rw [ms_NumEnd_k1] at h18
   refine CO.seq' (cV 100 ?_)
   refine cI h18 (fun _ h18 => ?_) (fun _ h18 => ?_)
   ·refine cV 100 ?_
    cases h18
    exact e1 4 id
   refine CO.skip ?_
   refine CO.join (fun (y9 : Int) => ⟨tl 67 [(5, V.i y9)], []⟩) (fun i => ms_NumEnd_k2 N i = some r) ?_ ?_
   · rintro y9 h52
     rw [ms_NumEnd_k2] at h52
     refine cV 100 ?_
     cases h52
     exact e1 4 id
   intro hk53
   refine bB h18 fun y32 hv57 h18 => ?_
   refine CO.cutR (tl 67 [(0, V.s a0), (5, V.i y9), (43, V.b y32)]) [] mix (by
    refine wR 2 100 (bB hv57 fun r33 hx58 hv57 => (w0 (ms_l4Byte_ok a0 y9 hx58) cok159 (wR 2 100 ?_)))
    refine wJ 38 hv57 (fun hv57 => ?_) (fun hv57 => ?_)
    ·refine wR 5 100 ?_
     cases hv57
     exact fS [] [0, 5, 43]
    refine wR 2 100 (bB hv57 fun r34 hx60 hv57 => (w0 (ms_l4Byte_ok a0 y9 hx60) cok159 (wR 2 100 ?_)))
    cases hv57
    exact fS [] [0, 5, 43]
    ) ?_
   refine cI h18 (fun _ h18 => ?_) (fun _ h18 => ?_)
   ·refine cV 100 ?_
    refine CO.join (fun (⟨a0, y9, y40⟩ : (LU × Int × Int)) => ⟨tl 67 [(0, V.s a0), (5, V.i y9), (7, V.i y40)], []⟩) (fun i => ms_NumEnd_k3 N i = some r) ?_ ?_
    · rintro ⟨a0, y9, y40⟩ h70
      rw [ms_NumEnd_k3] at h70
      refine bB h70 fun r42 hx72 h70 => (cC 2 100 (ms_l4Digits_ok N a0 y40 hx72) cok158 ?_)
      refine cI h70 (fun _ h70 => ?_) (fun _ h70 => ?_)
      ·refine bB h70 fun r44 hx75 h70 => (cC 2 100 (ms_l4Digits_ok N a0 y40 hx75) cok158 ?_)
       cases h70
       exact e1 4 id
      exact sK hk53 y9 h70 [] [5]
    intro hk76
    refine bB h18 fun y47 hv80 h18 => ?_
    refine CO.cutR (tl 67 [(0, V.s a0), (5, V.i y9), (7, V.i (wr (y9 + 1))), (55, V.b y47)]) [] mix (by
     refine wR 2 100 (bB hv80 fun r48 hx81 hv80 => (w0 (ms_l4Byte_ok a0 (wr (y9 + 1)) hx81) cok159 (wR 2 100 ?_)))
     refine wJ 50 hv80 (fun hv80 => ?_) (fun hv80 => ?_)
     ·refine wR 5 100 ?_
      cases hv80
      exact fS [] [0, 5, 7, 55]
     refine wR 2 100 (bB hv80 fun r49 hx83 hv80 => (w0 (ms_l4Byte_ok a0 (wr (y9 + 1)) hx83) cok159 (wR 2 100 ?_)))
     cases hv80
     exact fS [] [0, 5, 7, 55]
     ) ?_
    refine cI h18 (fun _ h18 => ?_) (fun _ h18 => ?_)
    ·exact cK 100 hk76 (a0, y9, (wr ((wr (y9 + 1)) + 1))) h18 [] [0, 5, 7]
    exact sK hk76 (a0, y9, (wr (y9 + 1))) h18 [] [0, 5, 7]
   exact sK hk53 y9 h18 [] [5]
 intro hk85
 refine bB h fun r51 hx87 h => (cC 2 100 (ms_l4Byte_ok a0 r2 hx87) cok159 ?_)
 refine cI h (fun _ h => ?_) (fun _ h => ?_)
 ·refine bB h fun r53 hx90 h => (cC 3 100 (ms_l4Digits_ok N a0 (wr (r2 + 1)) hx90) cok158 (CO.seq' (bB h fun y55 hv96 h => ?_)))
  refine CO.cutR (tl 67 [(0, V.s a0), (1, V.i a1), (6, V.i r53), (29, V.b y55)]) [] mix (by
   refine wR 4 100 ?_
   refine wJ 24 hv96 (fun hv96 => ?_) (fun hv96 => ?_)
   ·refine wR 5 100 ?_
    cases hv96
    exact fS [] [0, 1, 6, 29]
   refine wR 5 100 ?_
   cases hv96
   exact fS [] [0, 1, 6, 29]
   ) ?_
  refine cI h (fun _ h => ?_) (fun _ h => ?_)
  ·refine cV 100 ?_
   cases h
   exact e1 4 id
  refine CO.skip ?_
  exact cK 100 hk85 (a0, a1, r53) h [] [0, 1, 5]
 exact sK hk85 (a0, a1, r2) h [] [0, 1, 5]

theorem ms_l4Quoted_ok (N : Nat) (a0 : LU) (a1 : Int) (a2 : Int) {r : Int} (h : ms_l4Quoted N a0 a1 a2 = some r) :
    AC0 160 [V.s a0, V.i a1, V.i a2] [] (V.i r) [] := by
 rw [ms_l4Quoted] at h
 refine AC.enter Tryz.func160 rfl (cV 100 (CO.seq' (bB h fun r4 hx5 h => (cC 2 100 (ms_l4Byte_ok a0 a1 hx5) cok159 ?_))))
 refine cI h (fun _ h => ?_) (fun _ h => ?_)
 ·refine cV 100 ?_
  cases h
  exact e1 6 id
 refine CO.skip (CO.seq' (cV 100 (CO.block' (CO.loopJ (fun (⟨a0, a2, y43⟩ : (LU × Int × Int)) => ⟨tl 40 [(0, V.s a0), (2, V.i a2), (7, V.i y43)], []⟩) (fun n i => ms_l4Quoted_l1 N n i = some r) (n0 := N) (i0 := (a0, a2, (wr (a1 + 1)))) (wS [] [0, 2, 7]) h (fun i h => by simp [ms_l4Quoted_l1] at h) ?_))))
 rintro n1 ⟨a0, a2, y43⟩ h109 ih110
 rw [ms_l4Quoted_l1] at h109
 refine CO.seq' (cV 160 ?_)
 refine cI h109 (fun _ h109 => ?_) (fun _ h109 => ?_)
 ·refine CO.skip ?_
  refine CO.join (fun (⟨a0, a2, y58⟩ : (LU × Int × Int)) => ⟨tl 40 [(0, V.s a0), (2, V.i a2), (7, V.i y58)], []⟩) (fun i => ms_l4Quoted_k2 N (ms_l4Quoted_l1 N n1) i = some r) ?_ ?_
  · rintro ⟨a0, a2, y58⟩ h121
    rw [ms_l4Quoted_k2] at h121
    exact cK 160 ih110 (a0, a2, (wr (y58 + 1))) h121 [] [0, 2, 7]
  intro hk122
  refine CO.block' (bB h109 fun b60 hx124 h109 => (CO.sw mix (wR 2 160 (W.ixS Dk hx124 (by kernel_rfl) (wR 1 160 (wF (CO.block' (cV 160 ?_))))))))
  refine cI h109 (fun _ h109 => ?_) (fun _ h109 => ?_)
  ·refine cV 160 ?_
   cases h109
   exact e1 6 id
  refine cV 160 ?_
  refine cI h109 (fun _ h109 => ?_) (fun _ h109 => ?_)
  ·refine cV 160 ?_
   cases h109
   exact e1 6 id
  refine cV 160 ?_
  refine cI h109 (fun _ h109 => ?_) (fun _ h109 => ?_)
  ·refine cV 160 (bB h109 fun r62 hx129 h109 => (cC 2 160 (ms_l4Byte_ok a0 (wr (y43 + 1)) hx129) cok159 ?_))
   refine cI h109 (fun _ h109 => ?_) (fun _ h109 => ?_)
   ·refine cV 160 ?_
    cases h109
    exact e1 6 id
   exact sK hk122 (a0, a2, (wr (y43 + 1))) h109 [] [0, 2, 7]
  exact sK hk122 (a0, a2, y43) h109 [] [0, 2, 7]
 refine CO.exit (cV 160 ?_)
 cases h109
 exact e1 6 id

theorem ms_StrEnd_ok (N : Nat) (a0 : LU) (a1 : Int) {r : Int} (h : ms_StrEnd N a0 a1 = some r) :
    AC0 110 [V.s a0, V.i a1] [] (V.i r) [] := by
 rw [ms_StrEnd] at h
 refine AC.enter Tryz.func110 rfl (cV 100 (bB h fun r2 hx2 h => (cC 2 100 (ms_l4Quoted_ok N a0 a1 34 hx2) cok160 ?_)))
 cases h
 exact e1 4 id

theorem ms_EreEnd_ok (N : Nat) (a0 : LU) (a1 : Int) {r : Int} (h : ms_EreEnd N a0 a1 = some r) :
    AC0 111 [V.s a0, V.i a1] [] (V.i r) [] := by
 rw [ms_EreEnd] at h
 refine AC.enter Tryz.func111 rfl (cV 100 (bB h fun r2 hx2 h => (cC 2 100 (ms_l4Quoted_ok N a0 a1 47 hx2) cok160 (CO.seq' (cV 100 ?_)))))
 refine cI h (fun _ h => ?_) (fun _ h => ?_)
 ·refine cV 100 ?_
  cases h
  exact e1 4 id
 refine CO.skip (cV 100 ?_)
 cases h
 exact e1 4 id

theorem ms_IsLetter_ok (a0 : Int) {r : Bool} (h : ms_IsLetter a0 = some r) :
    AC0 193 [V.i a0] [] (V.b r) [] := by
 rw [ms_IsLetter] at h
 refine AC.enter Tryz.func193 rfl (cV 100 (bB h fun y3 hv5 h => ?_))
 refine CO.cutR (tl 13 [(2, V.b y3)]) [] mix (by
  refine wR 1 100 (bB hv5 fun r4 hx6 hv5 => (w0 (ms_l1In_ok a0 97 122 hx6) cok68 (wR 1 100 ?_)))
  refine wJ 5 hv5 (fun hv5 => ?_) (fun hv5 => ?_)
  ·refine wR 8 100 ?_
   cases hv5
   exact fS [] [2]
  refine wR 1 100 (bB hv5 fun r5 hx8 hv5 => (w0 (ms_l1In_ok a0 65 90 hx8) cok68 (wR 2 100 ?_)))
  refine wJ 9 hv5 (fun hv5 => ?_) (fun hv5 => ?_)
  ·refine wR 4 100 ?_
   cases hv5
   exact fS [] [2]
  refine wR 4 100 ?_
  cases hv5
  exact fS [] [2]
  ) ?_
 cases h
 exact e1 2 id

theorem ms_IsWordByte_ok (a0 : Int) {r : Bool} (h : ms_IsWordByte a0 = some r) :
    AC0 192 [V.i a0] [] (V.b r) [] := by
 rw [ms_IsWordByte] at h
 refine AC.enter Tryz.func192 rfl (cV 100 (bB h fun y3 hv4 h => ?_))
 refine CO.cutR (tl 9 [(2, V.b y3)]) [] mix (by
  refine wR 1 100 (bB hv4 fun r4 hx5 hv4 => (w0 (ms_IsLetter_ok a0 hx5) cok193 (wR 1 100 ?_)))
  refine wJ 5 hv4 (fun hv4 => ?_) (fun hv4 => ?_)
  ·refine wR 4 100 ?_
   cases hv4
   exact fS [] [2]
  refine wR 1 100 (bB hv4 fun r5 hx7 hv4 => (w0 (ms_IsDigit_ok a0 hx7) cok191 (wR 2 100 ?_)))
  cases hv4
  exact fS [] [2]
  ) ?_
 cases h
 exact e1 2 id

theorem ms_NameShape_ok (N : Nat) (a0 : LU) {r : Bool} (h : ms_NameShape N a0 = some r) :
    AC0 161 [V.s a0] [] (V.b r) [] := by
 rw [ms_NameShape] at h
 refine AC.enter Tryz.func161 rfl (cV 100 (CO.seq' (cV 100 (CO.block' (CO.loopJ (fun (⟨a0, y35⟩ : (LU × Int)) => ⟨tl 25 [(0, V.s a0), (3, V.i y35)], []⟩) (fun n i => ms_NameShape_l1 N n i = some r) (n0 := N) (i0 := (a0, 0)) (wS [] [0, 3]) h (fun i h => by simp [ms_NameShape_l1] at h) ?_)))))
 rintro n1 ⟨a0, y35⟩ h63 ih64
 rw [ms_NameShape_l1] at h63
 refine CO.seq' (cV 160 ?_)
 refine cI h63 (fun _ h63 => ?_) (fun _ h63 => ?_)
 ·refine CO.skip (CO.seq' (CO.block' (bB h63 fun b51 hx74 h63 => (bB h63 fun r52 hx75 h63 => (CO.sw mix (wR 2 160 (W.ixS Dk hx74 (by kernel_rfl) (wR 1 160 ?_))))))))
  refine w0 (ms_IsWordByte_ok (wr ((b51).toNat : Int)) hx75) cok192 (wR 1 160 (wF ?_))
  refine cI h63 (fun _ h63 => ?_) (fun _ h63 => ?_)
  ·refine cV 160 ?_
   cases h63
   exact e1 2 id
  refine CO.skip ?_
  exact cK 160 ih64 (a0, (wr (y35 + 1))) h63 [] [0, 3]
 refine CO.exit (bB h63 fun y56 hv81 h63 => ?_)
 refine CO.cutR (tl 25 [(2, V.b y56)]) [] mix (by
  refine wR 2 160 (bB hv81 fun r57 hx82 hv81 => (w0 (ms_l1In_ok (a0.length : Int) 1 12 hx82) cok68 (wR 1 160 ?_)))
  refine wJ 19 hv81 (fun hv81 => ?_) (fun hv81 => ?_)
  ·refine wR 1 160 (bB hv81 fun b58 hx84 hv81 => (W.ixS Dk hx84 (by kernel_rfl) (wR 1 160 (bB hv81 fun r59 hx85 hv81 => (w0 (ms_IsLetter_ok (wr ((b58).toNat : Int)) hx85) cok193 (wR 2 160 ?_))))))
   cases hv81
   exact fS [] [2]
  refine wR 6 160 ?_
  cases hv81
  exact fS [] [2]
  ) ?_
 cases h63
 exact e1 2 id

theorem ms_l3Words_ok {r : LLU} (h : ms_l3Words = some r) :
    AC0 165 [] [] (.own 100) [(100, vN r)] := by
 rw [ms_l3Words] at h
 refine AC.enter Tryz.func165 rfl (cV 100 (cV 100 (CO.ret ?_)))
 cases h
 exact eG [(100, 100)] (.inr rfl) (RetV.one rfl (oT (t := 0) (r := .own 100)))

theorem ms_l3Find_ok (N : Nat) (a0 : LLU) (a1 : LU) {r : Int} (h : ms_l3Find N a0 a1 = some r) :
    AC0 163 [sL eNS a0, V.s a1] [] (V.i r) [] := by
 rw [ms_l3Find] at h
 refine AC.enter Tryz.func163 rfl (cV 100 (CO.seq' (cV 100 (CO.block' (CO.loopJ (fun (⟨a0, a1, y19⟩ : (LLU × LU × Int)) => ⟨tl 19 [(0, sL eNS a0), (1, V.s a1), (5, V.i y19)], []⟩) (fun n i => ms_l3Find_l1 N n i = some r) (n0 := N) (i0 := (a0, a1, 0)) (wS [] [0, 1, 5]) h (fun i h => by simp [ms_l3Find_l1] at h) ?_)))))
 rintro n1 ⟨a0, a1, y19⟩ h43 ih44
 rw [ms_l3Find_l1] at h43
 refine CO.seq' (CO.sw mix (wR 2 160 (wN eNS a0 [] (wR 1 160 (wF ?_)))))
 refine cI h43 (fun _ h43 => ?_) (fun _ h43 => ?_)
 ·refine CO.skip (CO.seq' (CO.block' (bB h43 fun e28 hx51 h43 => (CO.sw mix (wR 2 160 (wX eNS hx51 1 (wR 3 160 (wF ?_))))))))
  refine cI h43 (fun _ h43 => ?_) (fun _ h43 => ?_)
  ·refine cV 160 ?_
   cases h43
   exact e1 4 id
  refine CO.skip ?_
  exact cK 160 ih44 (a0, a1, (wr (y19 + 1))) h43 [] [0, 1, 5]
 refine CO.exit (cV 160 ?_)
 cases h43
 exact e1 4 id

theorem ms_KeywordOf_ok (N : Nat) (a0 : LU) {r : Int} (h : ms_KeywordOf N a0 = some r) :
    AC0 162 [V.s a0] [] (V.i r) [] := by
 rw [ms_KeywordOf] at h
 refine AC.enter Tryz.func162 rfl (cV 100 (bB h fun r3 hx3 h => (bB h fun r4 hx4 h => (CO.sw mix (wC (ms_l3Words_ok  hx3) cok165 [] [(100, 100)] [100] (wR 1 101 (W.lend (ms_l3Find_ok N r3 a0 hx4) cok163 [] [] (LayOk.cons (j := 100) eNS eNS r3 (by kernel_rfl) (fun _ => rfl) lO) (.c _) .nil (by kernel_rfl) (by kernel_rfl) (wR 1 101 ?_))))))))
 refine wF (CO.seq' (cV 101 ?_))
 refine cI h (fun _ h => ?_) (fun _ h => ?_)
 ·refine cV 101 ?_
  cases h
  exact e1 2 id
 refine CO.skip (cV 101 ?_)
 cases h
 exact e1 2 id

theorem ms_l3Builtins_ok {r : LLU} (h : ms_l3Builtins = some r) :
    AC0 164 [] [] (.own 100) [(100, vN r)] := by
 rw [ms_l3Builtins] at h
 refine AC.enter Tryz.func164 rfl (cV 100 (cV 100 (CO.ret ?_)))
 cases h
 exact eG [(100, 100)] (.inr rfl) (RetV.one rfl (oT (t := 0) (r := .own 100)))

theorem ms_IsBuiltin_ok (N : Nat) (a0 : LU) {r : Bool} (h : ms_IsBuiltin N a0 = some r) :
    AC0 113 [V.s a0] [] (V.b r) [] := by
 rw [ms_IsBuiltin] at h
 refine AC.enter Tryz.func113 rfl (cV 100 (bB h fun r3 hx3 h => (bB h fun r4 hx4 h => (CO.sw mix (wC (ms_l3Builtins_ok  hx3) cok164 [] [(100, 100)] [100] (wR 1 101 (W.lend (ms_l3Find_ok N r3 a0 hx4) cok163 [] [] (LayOk.cons (j := 100) eNS eNS r3 (by kernel_rfl) (fun _ => rfl) lO) (.c _) .nil (by kernel_rfl) (by kernel_rfl) (wR 2 101 ?_))))))))
 refine wF ?_
 cases h
 exact e1 2 id

theorem ms_NameOk_ok (N : Nat) (a0 : LU) {r : Bool} (h : ms_NameOk N a0 = some r) :
    AC0 112 [V.s a0] [] (V.b r) [] := by
 rw [ms_NameOk] at h
 refine AC.enter Tryz.func112 rfl (cV 100 (bB h fun y4 hv6 h => ?_))
 refine CO.cutR (tl 15 [(2, V.b y4)]) [] mix (by
  refine wR 1 100 (bB hv6 fun r5 hx7 hv6 => (w0 (ms_NameShape_ok N a0 hx7) cok161 (wR 1 100 ?_)))
  refine wJ 5 hv6 (fun hv6 => ?_) (fun hv6 => ?_)
  ·refine wR 1 100 (bB hv6 fun r6 hx9 hv6 => (w0 (ms_KeywordOf_ok N a0 hx9) cok162 (wR 3 100 ?_)))
   refine wJ 10 hv6 (fun hv6 => ?_) (fun hv6 => ?_)
   ·refine wR 1 100 (bB hv6 fun r7 hx11 hv6 => (w0 (ms_IsBuiltin_ok N a0 hx11) cok113 (wR 3 100 ?_)))
    cases hv6
    exact fS [] [2]
   refine wR 5 100 ?_
   cases hv6
   exact fS [] [2]
  refine wR 10 100 ?_
  cases hv6
  exact fS [] [2]
  ) ?_
 cases h
 exact e1 2 id

theorem ms_l3Signs_ok {r : LLU} (h : ms_l3Signs = some r) :
    AC0 166 [] [] (.own 100) [(100, vN r)] := by
 rw [ms_l3Signs] at h
 refine AC.enter Tryz.func166 rfl (cV 100 (cV 100 (CO.ret ?_)))
 cases h
 exact eG [(100, 100)] (.inr rfl) (RetV.one rfl (oT (t := 0) (r := .own 100)))

theorem ms_SpellOf_ok (a0 : Int) {r : LU} (h : ms_SpellOf a0 = some r) :
    AC0 114 [V.i a0] [] (V.s r) [] := by
 rw [ms_SpellOf] at h
 refine AC.enter Tryz.func114 rfl (cV 100 (CO.seq' (CO.block' (cV 100 ?_))))
 refine cI h (fun _ h => ?_) (fun _ h => ?_)
 ·refine cV 100 ?_
  cases h
  exact e1 2 id
 refine bB h fun r14 hx18 h => (cC 1 100 (ms_l1In_ok a0 10 26 hx18) cok68 ?_)
 refine cI h (fun _ h => ?_) (fun _ h => ?_)
 ·refine bB h fun r17 hx22 h => (bB h fun e18 hx23 h => (CO.sw mix (wC (ms_l3Words_ok  hx22) cok165 [] [(100, 100)] [100] (wR 2 101 (W.ixO Dk eNS hx23 100 1 (by kernel_rfl) (W.ldO Dk eNS hx23 9 100 0 (V.s e18) (by kernel_rfl) (by kernel_rfl) (wR 1 101 (wF ?_))))))))
  cases h
  exact e1 2 id
 refine bB h fun r20 hx25 h => (cC 1 100 (ms_l1In_ok a0 30 68 hx25) cok68 ?_)
 refine cI h (fun _ h => ?_) (fun _ h => ?_)
 ·refine bB h fun r23 hx29 h => (bB h fun e24 hx30 h => (CO.sw mix (wC (ms_l3Signs_ok  hx29) cok166 [] [(100, 100)] [100] (wR 2 101 (W.ixO Dk eNS hx30 100 1 (by kernel_rfl) (W.ldO Dk eNS hx30 9 100 0 (V.s e24) (by kernel_rfl) (by kernel_rfl) (wR 1 101 (wF ?_))))))))
  cases h
  exact e1 2 id
 refine CO.skip (cV 100 ?_)
 cases h
 exact e1 2 id

theorem ms_TokenOk_ok (N : Nat) (a0 : SToken) {r : Bool} (h : ms_TokenOk N a0 = some r) :
    AC0 65 [.agg [V.i a0.Kind, V.s a0.Text, V.i a0.At]] [] (V.b r) [] := by
 rw [ms_TokenOk] at h
 refine AC.enter Tryz.func65 rfl (cV 100 (cV 101 (CO.seq' (cV 101 (CO.block' (cV 101 ?_))))))
 refine cI h (fun _ h => ?_) (fun _ h => ?_)
 ·refine bB h fun y20 hv38 h => ?_
  refine CO.cutR (tl 71 [(2, V.b y20)]) [] mix (by
   refine wR 3 101 ?_
   refine wJ 13 hv38 (fun hv38 => ?_) (fun hv38 => ?_)
   ·refine wR 2 101 (bB hv38 fun b21 hx40 hv38 => (W.ixS Dk hx40 (by kernel_rfl) (wR 3 101 ?_)))
    refine wJ 19 hv38 (fun hv38 => ?_) (fun hv38 => ?_)
    ·refine wR 2 101 (bB hv38 fun r22 hx42 hv38 => (w0 (ms_l4Plain_ok N a0.Text hx42) cok108 (wR 2 101 ?_)))
     cases hv38
     exact fS [] [2]
    refine wR 5 101 ?_
    cases hv38
    exact fS [] [2]
   refine wR 11 101 ?_
   cases hv38
   exact fS [] [2]
   ) ?_
  cases h
  exact e1 2 id
 refine cV 101 ?_
 refine cI h (fun _ h => ?_) (fun _ h => ?_)
 ·refine bB h fun y24 hv46 h => ?_
  refine CO.cutR (tl 71 [(2, V.b y24)]) [] mix (by
   refine wR 3 101 ?_
   refine wJ 28 hv46 (fun hv46 => ?_) (fun hv46 => ?_)
   ·refine wR 2 101 (bB hv46 fun r25 hx48 hv46 => (w0 (ms_NumEnd_ok N a0.Text 0 hx48) cok109 (wR 4 101 ?_)))
    cases hv46
    exact fS [] [2]
   refine wR 7 101 ?_
   cases hv46
   exact fS [] [2]
   ) ?_
  cases h
  exact e1 2 id
 refine cV 101 ?_
 refine cI h (fun _ h => ?_) (fun _ h => ?_)
 ·refine bB h fun r27 hx51 h => (cC 2 101 (ms_StrEnd_ok N a0.Text 0 hx51) cok110 ?_)
  cases h
  exact e1 2 id
 refine cV 101 ?_
 refine cI h (fun _ h => ?_) (fun _ h => ?_)
 ·refine bB h fun r29 hx54 h => (cC 2 101 (ms_EreEnd_ok N a0.Text 0 hx54) cok111 ?_)
  cases h
  exact e1 2 id
 refine CO.join (fun (⟨a0, y30⟩ : (SToken × Bool)) => ⟨tl 71 [(1, .loc 100 0), (8, V.i a0.Kind), (49, V.b y30)], [(100, .cells 52 [V.i a0.Kind, V.s a0.Text, V.i a0.At])]⟩) (fun i => ms_TokenOk_k1 N i = some r) ?_ ?_
 · rintro ⟨a0, y30⟩ h56
   rw [ms_TokenOk_k1] at h56
   refine cI h56 (fun _ h56 => ?_) (fun _ h56 => ?_)
   ·refine bB h56 fun r32 hx59 h56 => (cC 2 101 (ms_NameOk_ok N a0.Text hx59) cok112 ?_)
    cases h56
    exact e1 2 id
   refine cV 101 ?_
   refine cI h56 (fun _ h56 => ?_) (fun _ h56 => ?_)
   ·refine bB h56 fun r34 hx62 h56 => (cC 2 101 (ms_IsBuiltin_ok N a0.Text hx62) cok113 ?_)
    cases h56
    exact e1 2 id
   refine CO.skip (bB h56 fun y36 hv65 h56 => ?_)
   refine CO.cutR (tl 71 [(2, V.b y36)]) [] mix (by
    refine wR 4 101 ?_
    refine wJ 63 hv65 (fun hv65 => ?_) (fun hv65 => ?_)
    ·refine wR 2 101 (bB hv65 fun r37 hx67 hv65 => (w0 (ms_SpellOf_ok a0.Kind hx67) cok114 (wR 5 101 ?_)))
     cases hv65
     exact fS [] [2]
    refine wR 8 101 ?_
    cases hv65
    exact fS [] [2]
    ) ?_
   cases h56
   exact e1 2 id
 intro hk68
 refine cV 101 ?_
 refine cI h (fun _ h => ?_) (fun _ h => ?_)
 ·exact sK hk68 (a0, (a0.Kind == 6)) h [(100, 100)] [1, 8, 49]
 exact cK 101 hk68 (a0, (a0.Kind == 7)) h [(100, 100)] [1, 8, 49]

theorem ms_EndsOperand_ok (a0 : Int) {r : Bool} (h : ms_EndsOperand a0 = some r) :
    AC0 66 [V.i a0] [] (V.b r) [] := by
 rw [ms_EndsOperand] at h
 refine AC.enter Tryz.func66 rfl (cV 100 (CO.seq' (cV 100 (CO.block' ?_))))
 refine CO.join (fun (y2 : Bool) => ⟨tl 14 [(4, V.b y2)], []⟩) (fun i => ms_EndsOperand_k1 i = some r) ?_ ?_
 · rintro y2 h28
   rw [ms_EndsOperand_k1] at h28
   refine cI h28 (fun _ h28 => ?_) (fun _ h28 => ?_)
   ·refine cV 100 ?_
    cases h28
    exact e1 2 id
   refine CO.skip (cV 100 ?_)
   cases h28
   exact e1 2 id
 intro hk30
 refine cV 100 ?_
 refine cI h (fun _ h => ?_) (fun _ h => ?_)
 ·exact sK hk30 (a0 == 3) h [] [4]
 refine cV 100 ?_
 refine cI h (fun _ h => ?_) (fun _ h => ?_)
 ·exact sK hk30 (a0 == 4) h [] [4]
 refine cV 100 ?_
 refine cI h (fun _ h => ?_) (fun _ h => ?_)
 ·exact sK hk30 (a0 == 5) h [] [4]
 refine cV 100 ?_
 refine cI h (fun _ h => ?_) (fun _ h => ?_)
 ·exact sK hk30 (a0 == 6) h [] [4]
 refine cV 100 ?_
 refine cI h (fun _ h => ?_) (fun _ h => ?_)
 ·exact sK hk30 (a0 == 8) h [] [4]
 refine cV 100 ?_
 refine cI h (fun _ h => ?_) (fun _ h => ?_)
 ·exact sK hk30 (a0 == 33) h [] [4]
 refine cV 100 ?_
 refine cI h (fun _ h => ?_) (fun _ h => ?_)
 ·exact sK hk30 (a0 == 35) h [] [4]
 refine cV 100 ?_
 refine cI h (fun _ h => ?_) (fun _ h => ?_)
 ·exact sK hk30 (a0 == 51) h [] [4]
 exact cK 100 hk30 (a0 == 52) h [] [4]

theorem ms_TokensOk_ok (N : Nat) (a0 : LT) {r : Bool} (h : ms_TokensOk N a0 = some r) :
    AC0 37 [sL eTk a0] [] (V.b r) [] := by
 rw [ms_TokensOk] at h
 refine AC.enter Tryz.func37 rfl (cV 100 (CO.seq' (CO.sw mix (wR 1 100 (wN eTk a0 [] (wR 1 100 (wF ?_)))))))
 refine cI h (fun _ h => ?_) (fun _ h => ?_)
 ·refine cV 100 ?_
  cases h
  exact e1 2 id
 refine CO.skip (cV 100 (CO.seq' (cV 100 (CO.block' (CO.loopJ (fun (⟨a0, y317, y318⟩ : (LT × Int × Int)) => ⟨tl 81 [(0, sL eTk a0), (3, V.i y317), (4, V.i y318)], []⟩) (fun n i => ms_TokensOk_l1 N n i = some r) (n0 := N) (i0 := (a0, 0, 0)) (wS [] [0, 3, 4]) h (fun i h => by simp [ms_TokensOk_l1] at h) ?_)))))
 rintro n1 ⟨a0, y317, y318⟩ h995 ih996
 rw [ms_TokensOk_l1] at h995
 refine CO.seq' (CO.sw mix (wR 2 160 (wN eTk a0 [] (wR 1 160 (wF ?_)))))
 refine cI h995 (fun _ h995 => ?_) (fun _ h995 => ?_)
 ·refine CO.skip (CO.seq' (CO.block' (cV 160 ?_)))
  refine CO.join (fun (⟨a0, y317, y318, y440⟩ : (LT × Int × Int × Int)) => ⟨tl 81 [(0, sL eTk a0), (3, V.i y317), (4, V.i y318), (5, V.i y440)], []⟩) (fun i => ms_TokensOk_k2 N (ms_TokensOk_l1 N n1) i = some r) ?_ ?_
  · rintro ⟨a0, y317, y318, y440⟩ h1100
    rw [ms_TokensOk_k2] at h1100
    refine bB h1100 fun e442 hx1102 h1100 => (CO.sw mix (wR 2 160 (wX eTk hx1102 3 (wR 3 160 (wF (CO.seq' (bB h1100 fun y450 hv1132 h1100 => ?_)))))))
    refine CO.cutR (tl 81 [(0, sL eTk a0), (3, V.i y317), (4, V.i y318), (6, V.i e442.Kind), (60, V.b y450)]) [] mix (by
     refine wR 2 160 (bB hv1132 fun e451 hx1133 hv1132 => (wX eTk hx1133 3 (wR 1 160 (bB hv1132 fun r452 hx1134 hv1132 => (w0 (ms_TokenOk_ok N e451 hx1134) cok65 (wR 2 160 ?_))))))
     refine wJ 38 hv1132 (fun hv1132 => ?_) (fun hv1132 => ?_)
     ·refine wR 22 160 ?_
      cases hv1132
      exact fS [] [0, 3, 4, 6, 60]
     refine wR 3 160 ?_
     refine wJ 41 hv1132 (fun hv1132 => ?_) (fun hv1132 => ?_)
     ·refine wR 5 160 ?_
      refine wJ 46 hv1132 (fun hv1132 => ?_) (fun hv1132 => ?_)
      ·refine wR 14 160 ?_
       cases hv1132
       exact fS [] [0, 3, 4, 6, 60]
      refine wR 3 160 ?_
      refine wJ 49 hv1132 (fun hv1132 => ?_) (fun hv1132 => ?_)
      ·refine wR 4 160 ?_
       refine wJ 53 hv1132 (fun hv1132 => ?_) (fun hv1132 => ?_)
       ·refine wR 3 160 (wN eTk a0 [] (wR 3 160 ?_))
        cases hv1132
        exact fS [] [0, 3, 4, 6, 60]
       refine wR 7 160 ?_
       cases hv1132
       exact fS [] [0, 3, 4, 6, 60]
      refine wR 11 160 ?_
      cases hv1132
      exact fS [] [0, 3, 4, 6, 60]
     refine wR 8 160 ?_
     refine wJ 49 hv1132 (fun hv1132 => ?_) (fun hv1132 => ?_)
     ·refine wR 4 160 ?_
      refine wJ 53 hv1132 (fun hv1132 => ?_) (fun hv1132 => ?_)
      ·refine wR 3 160 (wN eTk a0 [] (wR 3 160 ?_))
       cases hv1132
       exact fS [] [0, 3, 4, 6, 60]
      refine wR 7 160 ?_
      cases hv1132
      exact fS [] [0, 3, 4, 6, 60]
     refine wR 11 160 ?_
     cases hv1132
     exact fS [] [0, 3, 4, 6, 60]
     ) ?_
    refine cI h1100 (fun _ h1100 => ?_) (fun _ h1100 => ?_)
    ·refine cV 160 ?_
     cases h1100
     exact e1 2 id
    refine CO.skip (CO.seq' (bB h1100 fun y469 hv1178 h1100 => ?_))
    refine CO.cutR (tl 81 [(0, sL eTk a0), (4, V.i y318), (6, V.i e442.Kind), (79, V.b y469)]) [] mix (by
     refine wR 3 160 ?_
     refine wJ 63 hv1178 (fun hv1178 => ?_) (fun hv1178 => ?_)
     ·refine wR 1 160 (bB hv1178 fun r470 hx1180 hv1178 => (w0 (ms_EndsOperand_ok y317 hx1180) cok66 (wR 2 160 ?_)))
      refine wJ 67 hv1178 (fun hv1178 => ?_) (fun hv1178 => ?_)
      ·refine wR 12 160 ?_
       cases hv1178
       exact fS [] [0, 4, 6, 79]
      refine wR 3 160 ?_
      refine wJ 70 hv1178 (fun hv1178 => ?_) (fun hv1178 => ?_)
      ·refine wR 5 160 (bB hv1178 fun r471 hx1183 hv1178 => (w0 (ms_EndsOperand_ok y317 hx1183) cok66 (wR 3 160 ?_)))
       cases hv1178
       exact fS [] [0, 4, 6, 79]
      refine wR 4 160 ?_
      refine wJ 74 hv1178 (fun hv1178 => ?_) (fun hv1178 => ?_)
      ·refine wR 1 160 (bB hv1178 fun r472 hx1185 hv1178 => (w0 (ms_EndsOperand_ok y317 hx1185) cok66 (wR 3 160 ?_)))
       cases hv1178
       exact fS [] [0, 4, 6, 79]
      refine wR 5 160 ?_
      cases hv1178
      exact fS [] [0, 4, 6, 79]
     refine wR 7 160 ?_
     refine wJ 70 hv1178 (fun hv1178 => ?_) (fun hv1178 => ?_)
     ·refine wR 5 160 (bB hv1178 fun r473 hx1187 hv1178 => (w0 (ms_EndsOperand_ok y317 hx1187) cok66 (wR 3 160 ?_)))
      cases hv1178
      exact fS [] [0, 4, 6, 79]
     refine wR 4 160 ?_
     refine wJ 74 hv1178 (fun hv1178 => ?_) (fun hv1178 => ?_)
     ·refine wR 1 160 (bB hv1178 fun r474 hx1189 hv1178 => (w0 (ms_EndsOperand_ok y317 hx1189) cok66 (wR 3 160 ?_)))
      cases hv1178
      exact fS [] [0, 4, 6, 79]
     refine wR 5 160 ?_
     cases hv1178
     exact fS [] [0, 4, 6, 79]
     ) ?_
    refine cI h1100 (fun _ h1100 => ?_) (fun _ h1100 => ?_)
    ·refine cV 160 ?_
     cases h1100
     exact e1 2 id
    refine CO.skip ?_
    refine cE 2 160 (tl 81 [(0, sL eTk a0), (3, V.i e442.Kind), (4, V.i y318)]) [] (fun st hw => ?_)
    refine CO.weak hw ?_
    exact cK 160 ih996 (a0, e442.Kind, (wr (y318 + 1))) h1100 [] [0, 3, 4]
  intro hk1191
  refine CO.sw mix (wR 3 160 (wN eTk a0 [] (wR 1 160 (wF ?_))))
  refine cI h995 (fun _ h995 => ?_) (fun _ h995 => ?_)
  ·refine bB h995 fun e476 hx1194 h995 => (CO.w mix (wR 3 160 (wX eTk hx1194 3 (wR 3 160 ?_))))
   exact wK hk1191 (a0, y317, y318, e476.Kind) h995 [] [0, 3, 4, 5]
  exact sK hk1191 (a0, y317, y318, 0) h995 [] [0, 3, 4, 5]
 refine CO.exit (cV 160 ?_)
 cases h995
 exact e1 2 id

theorem ms_Shunts_ok (N : Nat) (a0 : LT) {r : Bool} (h : ms_Shunts N a0 = some r) :
    AC0 20 [sL eTk a0] [] (V.b r) [] := by
 rw [ms_Shunts] at h
 refine AC.enter Tryz.func20 rfl (cV 100 (cV 100 (cV 100 (CO.seq' (cV 100 (CO.block' (CO.loopJ (fun (⟨a0, y95, y96, y97⟩ : (LT × Bool × Int × Int)) => ⟨tl 69 [(0, sL eTk a0), (3, V.b y95), (4, V.i y96), (5, V.i y97)], []⟩) (fun n i => ms_Shunts_l1 N n i = some r) (n0 := N) (i0 := (a0, true, 0, 0)) (wS [] [0, 3, 4, 5]) h (fun i h => by simp [ms_Shunts_l1] at h) ?_)))))))
 rintro n1 ⟨a0, y95, y96, y97⟩ h367 ih368
 rw [ms_Shunts_l1] at h367
 refine CO.seq' (CO.sw mix (wR 2 160 (wN eTk a0 [] (wR 1 160 (wF ?_)))))
 refine cI h367 (fun _ h367 => ?_) (fun _ h367 => ?_)
 ·refine CO.skip (CO.seq' (CO.block' (bB h367 fun e150 hx421 h367 => (CO.sw mix (wR 2 160 (wX eTk hx421 3 (wR 3 160 (wF ?_))))))))
  refine CO.join (fun (⟨a0, y97, y157, y158⟩ : (LT × Int × Bool × Int)) => ⟨tl 69 [(0, sL eTk a0), (3, V.b y157), (4, V.i y158), (5, V.i y97)], []⟩) (fun i => ms_Shunts_k2 N (ms_Shunts_l1 N n1) i = some r) ?_ ?_
  · rintro ⟨a0, y97, y157, y158⟩ h444
    rw [ms_Shunts_k2] at h444
    refine cV 160 ?_
    refine cI h444 (fun _ h444 => ?_) (fun _ h444 => ?_)
    ·refine cV 160 ?_
     cases h444
     exact e1 2 id
    refine CO.skip ?_
    exact cK 160 ih368 (a0, y157, y158, (wr (y97 + 1))) h444 [] [0, 3, 4, 5]
  intro hk446
  refine CO.block' (bB h367 fun y159 hv448 h367 => ?_)
  refine CO.cutR (tl 69 [(0, sL eTk a0), (3, V.b y95), (4, V.i y96), (5, V.i y97), (6, V.i e150.Kind), (18, V.b y159)]) [] mix (by
   refine wR 2 160 ?_
   refine wJ 20 hv448 (fun hv448 => ?_) (fun hv448 => ?_)
   ·refine wR 4 160 ?_
    cases hv448
    exact fS [] [0, 3, 4, 5, 6, 18]
   refine wR 4 160 ?_
   cases hv448
   exact fS [] [0, 3, 4, 5, 6, 18]
   ) ?_
  refine cI h367 (fun _ h367 => ?_) (fun _ h367 => ?_)
  ·exact cK 160 hk446 (a0, y97, y95, (wr (y96 + 1))) h367 [] [0, 3, 4, 5]
  refine bB h367 fun y160 hv453 h367 => ?_
  refine CO.cutR (tl 69 [(0, sL eTk a0), (3, V.b y95), (4, V.i y96), (5, V.i y97), (6, V.i e150.Kind), (26, V.b y160)]) [] mix (by
   refine wR 2 160 ?_
   refine wJ 28 hv453 (fun hv453 => ?_) (fun hv453 => ?_)
   ·refine wR 3 160 ?_
    refine wJ 31 hv453 (fun hv453 => ?_) (fun hv453 => ?_)
    ·refine wR 5 160 ?_
     cases hv453
     exact fS [] [0, 3, 4, 5, 6, 26]
    refine wR 5 160 ?_
    cases hv453
    exact fS [] [0, 3, 4, 5, 6, 26]
   refine wR 8 160 ?_
   cases hv453
   exact fS [] [0, 3, 4, 5, 6, 26]
   ) ?_
  refine cI h367 (fun _ h367 => ?_) (fun _ h367 => ?_)
  ·exact cK 160 hk446 (a0, y97, false, y96) h367 [] [0, 3, 4, 5]
  refine bB h367 fun y161 hv458 h367 => ?_
  refine CO.cutR (tl 69 [(0, sL eTk a0), (3, V.b y95), (4, V.i y96), (5, V.i y97), (6, V.i e150.Kind), (36, V.b y161)]) [] mix (by
   refine wR 3 160 ?_
   refine wJ 39 hv458 (fun hv458 => ?_) (fun hv458 => ?_)
   ·refine wR 4 160 ?_
    cases hv458
    exact fS [] [0, 3, 4, 5, 6, 36]
   refine wR 4 160 ?_
   cases hv458
   exact fS [] [0, 3, 4, 5, 6, 36]
   ) ?_
  refine cI h367 (fun _ h367 => ?_) (fun _ h367 => ?_)
  ·exact cK 160 hk446 (a0, y97, y95, (wr (y96 - 1))) h367 [] [0, 3, 4, 5]
  refine bB h367 fun y163 hv464 h367 => ?_
  refine CO.cutR (tl 69 [(0, sL eTk a0), (4, V.i y96), (5, V.i y97), (45, V.b y163)]) [] mix (by
   refine wR 3 160 ?_
   refine wJ 48 hv464 (fun hv464 => ?_) (fun hv464 => ?_)
   ·refine wR 4 160 ?_
    refine wJ 52 hv464 (fun hv464 => ?_) (fun hv464 => ?_)
    ·refine wR 1 160 (bB hv464 fun r164 hx467 hv464 => (w0 (ms_OpLevel_ok e150.Kind hx467) cok47 (wR 3 160 ?_)))
     cases hv464
     exact fS [] [0, 4, 5, 45]
    refine wR 5 160 ?_
    cases hv464
    exact fS [] [0, 4, 5, 45]
   refine wR 9 160 ?_
   cases hv464
   exact fS [] [0, 4, 5, 45]
   ) ?_
  refine cI h367 (fun _ h367 => ?_) (fun _ h367 => ?_)
  ·exact cK 160 hk446 (a0, y97, true, y96) h367 [] [0, 3, 4, 5]
  refine cV 160 ?_
  cases h367
  exact e1 2 id
 refine CO.exit (bB h367 fun y166 hv472 h367 => ?_)
 refine CO.cutR (tl 69 [(2, V.b y166)]) [] mix (by
  refine wR 3 160 ?_
  refine wJ 61 hv472 (fun hv472 => ?_) (fun hv472 => ?_)
  ·refine wR 4 160 ?_
   refine wJ 65 hv472 (fun hv472 => ?_) (fun hv472 => ?_)
   ·refine wR 1 160 (bB hv472 fun r167 hx475 hv472 => (w0 (ms_TokensOk_ok N a0 hx475) cok37 (wR 2 160 ?_)))
    cases hv472
    exact fS [] [2]
   refine wR 4 160 ?_
   cases hv472
   exact fS [] [2]
  refine wR 8 160 ?_
  cases hv472
  exact fS [] [2]
  ) ?_
 cases h367
 exact e1 2 id

theorem ms_l10Close_ok (a0 : Int) {r : Bool} (h : ms_l10Close a0 = some r) :
    AC0 48 [V.i a0] [] (V.b r) [] := by
 rw [ms_l10Close] at h
 refine AC.enter Tryz.func48 rfl (cV 100 (bB h fun y1 hv3 h => ?_))
 refine CO.cutR (tl 13 [(2, V.b y1)]) [] mix (by
  refine wR 3 100 ?_
  refine wJ 5 hv3 (fun hv3 => ?_) (fun hv3 => ?_)
  ·refine wR 8 100 ?_
   cases hv3
   exact fS [] [2]
  refine wR 4 100 ?_
  refine wJ 9 hv3 (fun hv3 => ?_) (fun hv3 => ?_)
  ·refine wR 4 100 ?_
   cases hv3
   exact fS [] [2]
  refine wR 4 100 ?_
  cases hv3
  exact fS [] [2]
  ) ?_
 cases h
 exact e1 2 id

theorem ms_l10Open_ok (a0 : Int) {r : Bool} (h : ms_l10Open a0 = some r) :
    AC0 49 [V.i a0] [] (V.b r) [] := by
 rw [ms_l10Open] at h
 refine AC.enter Tryz.func49 rfl (cV 100 (bB h fun y1 hv3 h => ?_))
 refine CO.cutR (tl 13 [(2, V.b y1)]) [] mix (by
  refine wR 3 100 ?_
  refine wJ 5 hv3 (fun hv3 => ?_) (fun hv3 => ?_)
  ·refine wR 8 100 ?_
   cases hv3
   exact fS [] [2]
  refine wR 4 100 ?_
  refine wJ 9 hv3 (fun hv3 => ?_) (fun hv3 => ?_)
  ·refine wR 4 100 ?_
   cases hv3
   exact fS [] [2]
  refine wR 4 100 ?_
  cases hv3
  exact fS [] [2]
  ) ?_
 cases h
 exact e1 2 id

theorem ms_NestOf_ok (N : Nat) (a0 : LT) {r : Int} (h : ms_NestOf N a0 = some r) :
    AC0 21 [sL eTk a0] [] (V.i r) [] := by
 rw [ms_NestOf] at h
 refine AC.enter Tryz.func21 rfl (cV 100 (cV 100 (CO.seq' (cV 100 (CO.block' (CO.loopJ (fun (⟨a0, y149, y150⟩ : (LT × Int × Int)) => ⟨tl 31 [(0, sL eTk a0), (3, V.i y149), (4, V.i y150)], []⟩) (fun n i => ms_NestOf_l1 N n i = some r) (n0 := N) (i0 := (a0, 0, 0)) (wS [] [0, 3, 4]) h (fun i h => by simp [ms_NestOf_l1] at h) ?_))))))
 rintro n1 ⟨a0, y149, y150⟩ h263 ih264
 rw [ms_NestOf_l1] at h263
 refine CO.seq' (CO.sw mix (wR 2 160 (wN eTk a0 [] (wR 1 160 (wF ?_)))))
 refine cI h263 (fun _ h263 => ?_) (fun _ h263 => ?_)
 ·refine CO.skip (CO.seq' (CO.block' ?_))
  refine CO.join (fun (⟨a0, y150, y211⟩ : (LT × Int × Int)) => ⟨tl 31 [(0, sL eTk a0), (3, V.i y211), (4, V.i y150)], []⟩) (fun i => ms_NestOf_k2 N (ms_NestOf_l1 N n1) i = some r) ?_ ?_
  · rintro ⟨a0, y150, y211⟩ h297
    rw [ms_NestOf_k2] at h297
    refine CO.join (fun (⟨a0, y150, y216⟩ : (LT × Int × Int)) => ⟨tl 31 [(0, sL eTk a0), (3, V.i y216), (4, V.i y150)], []⟩) (fun i => ms_NestOf_k3 N (ms_NestOf_l1 N n1) i = some r) ?_ ?_
    · rintro ⟨a0, y150, y216⟩ h303
      rw [ms_NestOf_k3] at h303
      refine cV 160 ?_
      refine cI h303 (fun _ h303 => ?_) (fun _ h303 => ?_)
      ·refine cV 160 ?_
       cases h303
       exact e1 2 id
      refine CO.skip ?_
      exact cK 160 ih264 (a0, y216, (wr (y150 + 1))) h303 [] [0, 3, 4]
    intro hk305
    refine bB h297 fun e219 hx308 h297 => (bB h297 fun r220 hx309 h297 => (CO.sw mix (wR 2 160 (wX eTk hx308 3 (wR 2 160 (w0 (ms_l10Open_ok e219.Kind hx309) cok49 (wF ?_)))))))
    refine cI h297 (fun _ h297 => ?_) (fun _ h297 => ?_)
    ·exact cK 160 hk305 (a0, y150, (wr (y211 + 1))) h297 [] [0, 3, 4]
    exact sK hk305 (a0, y150, y211) h297 [] [0, 3, 4]
  intro hk311
  refine bB h263 fun e223 hx314 h263 => (bB h263 fun r224 hx315 h263 => (CO.sw mix (wR 2 160 (wX eTk hx314 3 (wR 2 160 (w0 (ms_l10Close_ok e223.Kind hx315) cok48 (wF ?_)))))))
  refine cI h263 (fun _ h263 => ?_) (fun _ h263 => ?_)
  ·exact cK 160 hk311 (a0, y150, (if (wr (y149 - 1)) > 0 then (wr (y149 - 1)) else 0)) h263 [] [0, 3, 4]
  exact sK hk311 (a0, y150, y149) h263 [] [0, 3, 4]
 refine CO.exit (cV 160 ?_)
 cases h263
 exact e1 2 id

theorem ms_l6Shift_ok (N : Nat) (a0 : LN) (a1 : Int) {r : LN} (h : ms_l6Shift N a0 a1 = some r) :
    AC0 84 [.sl false false (a0.map (eSN false)), V.i a1] [] (.own 100) [(100, .vec false 54 5 (r.map (eSN true)))] := by
 rw [ms_l6Shift] at h
 refine AC.enter Tryz.func84 rfl (cV 100 (cV 100 (CO.seq' (cV 101 (CO.block' (CO.loopJ (fun (⟨a0, a1, y869, y870⟩ : (LN × Int × Int × LN)) => ⟨tl 52 [(0, .sl false false (a0.map (eSN false))), (1, V.i a1), (5, .own 100), (6, V.i y869)], [(100, .vec false 54 5 (y870.map (eSN true)))]⟩) (fun n i => ms_l6Shift_l1 N n i = some r) (n0 := N) (i0 := (a0, a1, 0, [])) (wS [(100, 100)] [0, 1, 5, 6]) h (fun i h => by simp [ms_l6Shift_l1] at h) ?_))))))
 rintro n1 ⟨a0, a1, y869, y870⟩ h1173 ih1174
 rw [ms_l6Shift_l1] at h1173
 refine CO.seq' (CO.sw mix (wR 2 297 (wN (eSN false) a0 [] (wR 1 297 (wF ?_)))))
 refine cI h1173 (fun _ h1173 => ?_) (fun _ h1173 => ?_)
 ·refine CO.skip (CO.seq' (CO.block' (bB h1173 fun e1198 hx1294 h1173 => (CO.sw mix (wR 2 297 (wX (eSN false) hx1294 5 (wR 3 297 (wF ?_))))))))
  refine cV 298 (CO.seq' (cV 299 (CO.block' (CO.loopJ (fun (⟨a0, a1, y869, y870, e1198, y1267, y1268⟩ : (LN × Int × Int × LN × SNode × Int × (List Int))) => ⟨tl 52 [(0, .sl false false (a0.map (eSN false))), (1, V.i a1), (5, .own 100), (6, V.i y869), (7, .loc 101 0), (8, V.i y1267)], [(100, .vec false 54 5 (y870.map (eSN true))), (101, .cells 54 [V.i e1198.Kind, V.i e1198.Op, V.s e1198.Text, V.s e1198.Other, .own 102]), (102, vX 3 1 eNI y1268)]⟩) (fun n i => ms_l6Shift_l2 N (ms_l6Shift_l1 N n1) n i = some r) (n0 := N) (i0 := (a0, a1, y869, y870, e1198, 0, [])) (wS [(100, 100), (297, 101), (298, 102)] [0, 1, 5, 6, 7, 8]) h1173 (fun i h => by simp [ms_l6Shift_l2] at h) ?_))))
  rintro n2 ⟨a0, a1, y869, y870, e1198, y1267, y1268⟩ h1387 ih1388
  rw [ms_l6Shift_l2] at h1387
  refine CO.seq' (bB h1387 fun e1290 hx1393 h1387 => (CO.sw mix (wR 3 363 (wX (eSN false) hx1393 5 (wR 2 363 (wN eNI e1290.Kids [] (wR 1 363 (wF ?_))))))))
  refine cI h1387 (fun _ h1387 => ?_) (fun _ h1387 => ?_)
  ·refine CO.skip (CO.seq' (CO.block' (bB h1387 fun e1300 hx1404 h1387 => (bB h1387 fun e1301 hx1405 h1387 => (bB h1387 fun x1302 hx1406 h1387 => ?_)))))
   refine CO.endR (tl 52 [(0, .sl false false (a0.map (eSN false))), (1, V.i a1), (5, .own 100), (6, V.i y869), (7, .loc 101 0), (8, V.i y1267)]) [(101, .cells 54 [V.i e1198.Kind, V.i e1198.Op, V.s e1198.Text, V.s e1198.Other, .own 364]), (364, vX 3 1 eNI x1302), (100, .vec false 54 5 (y870.map (eSN true)))] mix (by
    refine wR 4 363 (wX (eSN false) hx1404 5 (wR 3 363 (wX eNI hx1405 1 (wR 4 363 (W.appO Dk eNI (a := 102) (c := 363) (el := 3) (sz := 1) 8 hx1406 rfl 364 (by kernel_rfl) (wR 2 365 ?_))))))
    exact fI
    ) (fun st hw => ?_)
   refine CO.weak hw ?_
   exact cK 365 ih1388 (a0, a1, y869, y870, e1198, (wr (y1267 + 1)), x1302) h1387 [(100, 100), (101, 101), (364, 102)] [0, 1, 5, 6, 7, 8]
  refine CO.exit (bB h1387 fun x1304 hx1408 h1387 => ?_)
  refine CO.endR (tl 52 [(0, .sl false false (a0.map (eSN false))), (1, V.i a1), (5, .own 364), (6, V.i y869)]) [(364, .vec false 54 5 (x1304.map (eSN true)))] mix (by
   refine wR 3 363 (W.appO Dk (eSN true) (a := 100) (c := 363) (el := 54) (sz := 5) 72 hx1408 rfl 364 (by kernel_rfl) (wR 1 365 ?_))
   exact fI
   ) (fun st hw => ?_)
  refine CO.weak hw ?_
  exact cK 365 ih1174 (a0, a1, (wr (y869 + 1)), x1304) h1387 [(364, 100)] [0, 1, 5, 6]
 refine CO.exit (cV 297 (CO.ret ?_))
 cases h1173
 exact eG [(100, 100)] (.inr rfl) (RetV.one rfl (oT (t := 4) (r := .own 100)))

theorem ms_l6Make_ok (N : Nat) (a0 : SNode) (a1 : List LN) {r : LN} (h : ms_l6Make N a0 a1 = some r) :
    AC0 50 [.agg [V.i a0.Kind, V.i a0.Op, V.s a0.Text, V.s a0.Other, sL eNI a0.Kids], .sl false false (a1.map (encL false (eSN false)))] [] (.own 100) [(100, .vec false 54 5 (r.map (eSN true)))] := by
 rw [ms_l6Make] at h
 refine AC.enter Tryz.func50 rfl (cV 100 (cV 101 (cV 102 (CO.seq' (cV 103 (CO.block' (CO.loopJ (fun (⟨a1, a0, y71, y72, y73⟩ : ((List LN) × SNode × Int × LN × (List Int))) => ⟨tl 37 [(1, .sl false false (a1.map (encL false (eSN false)))), (2, .loc 100 0), (5, .own 101), (6, V.i y71)], [(100, .cells 54 [V.i a0.Kind, V.i a0.Op, V.s a0.Text, V.s a0.Other, .own 102]), (101, .vec false 54 5 (y72.map (eSN true))), (102, vX 3 1 eNI y73)]⟩) (fun n i => ms_l6Make_l1 N n i = some r) (n0 := N) (i0 := (a1, a0, 0, [], [])) (wS [(100, 100), (101, 101), (102, 102)] [1, 2, 5, 6]) h (fun i h => by simp [ms_l6Make_l1] at h) ?_)))))))
 rintro n1 ⟨a1, a0, y71, y72, y73⟩ h93 ih94
 rw [ms_l6Make_l1] at h93
 refine CO.seq' (CO.sw mix (wR 2 171 (wN (encL false (eSN false)) a1 [] (wR 1 171 (wF ?_)))))
 refine cI h93 (fun _ h93 => ?_) (fun _ h93 => ?_)
 ·refine CO.skip (CO.seq' (CO.block' (bB h93 fun e104 hx108 h93 => (bB h93 fun r105 hx109 h93 => (bB h93 fun x106 hx110 h93 => (CO.sw mix (wR 3 171 (wX (encL false (eSN false)) hx108 1 ?_))))))))
  refine wR 2 171 (wN (eSN true) y72 [101] (wC (ms_l6Shift_ok N e104 (y72.length : Int) hx109) cok84 [] [(100, 171)] [171] (W.appO Dk (eSN true) (a := 101) (c := 171) (el := 54) (sz := 5) 72 hx110 rfl 172 (by kernel_rfl) (wR 1 173 (wF (bB h93 fun x108 hx112 h93 => ?_))))))
  refine CO.endR (tl 37 [(1, .sl false false (a1.map (encL false (eSN false)))), (2, .loc 100 0), (5, .own 172), (6, V.i y71)]) [(100, .cells 54 [V.i a0.Kind, V.i a0.Op, V.s a0.Text, V.s a0.Other, .own 174]), (174, vX 3 1 eNI x108), (172, .vec false 54 5 (x106.map (eSN true)))] mix (by
   refine wR 3 173 (wN (eSN true) x106 [172] (wR 2 173 (W.appO Dk eNI (a := 102) (c := 173) (el := 3) (sz := 1) 8 hx112 rfl 174 (by kernel_rfl) (wR 2 175 ?_))))
   exact fI
   ) (fun st hw => ?_)
  refine CO.weak hw ?_
  exact cK 175 ih94 (a1, a0, (wr (y71 + 1)), x106, x108) h93 [(100, 100), (172, 101), (174, 102)] [1, 2, 5, 6]
 refine CO.exit (bB h93 fun x110 hx114 h93 => (CO.sw mix (wR 3 171 (W.appO Dk (eSN true) (a := 101) (c := 171) (el := 54) (sz := 5) 72 hx114 rfl 172 (by kernel_rfl) (wR 1 173 (wF (CO.ret ?_)))))))
 cases h93
 exact eG [(172, 100)] (.inr rfl) (RetV.one rfl (oT (t := 4) (r := .own 172)))

theorem ms_l37Join_ok (N : Nat) (p0 : List Int) (p1 : List LN) {r : SL37S} (h : ms_l37Join N p0 p1 = some r) :
    AC0 22 [.agg [.own 0, .own 1]] [(0, vX 3 1 eNI p0), (1, .vec false 24 1 (p1.map (encL false (eSN false))))] (.agg [.own 100, .own 101]) [(100, vX 3 1 eNI r.ops), (101, .vec false 24 1 (r.trees.map (encL false (eSN false))))] := by
 rw [ms_l37Join] at h
 refine AC.enter Tryz.func22 rfl (cV 100 (CO.sw mix (wR 2 102 (wN (encL false (eSN false)) p1 [1] (wR 1 102 (wF (bB h fun e2 hx2 h => (CO.sw mix ?_))))))))
 refine wR 4 102 (wN eNI p0 [0] (wR 1 102 (W.ixO Dk eNI hx2 0 1 (by kernel_rfl) (W.ldO Dk eNI hx2 3 0 0 (V.i e2) (by kernel_rfl) (by kernel_rfl) (wR 1 102 (wF (bB h fun e6 hx6 h => (bB h fun e7 hx7 h => ?_))))))))
 refine bB h fun r8 hx8 h => (CO.sw mix (wR 6 102 (W.ixO Dk (encL false (eSN false)) hx6 1 1 (by kernel_rfl) (W.ldO Dk (encL false (eSN false)) hx6 24 1 0 (.sl false false (e6.map (eSN false))) (by kernel_rfl) (by kernel_rfl) (wR 4 102 (W.ixO Dk (encL false (eSN false)) hx7 1 1 (by kernel_rfl) (W.ldO Dk (encL false (eSN false)) hx7 24 1 0 (.sl false false (e7.map (eSN false))) (by kernel_rfl) (by kernel_rfl) (wR 1 102 ?_))))))))
 refine W.lend (ms_l6Make_ok N (⟨12, e2, [], [], []⟩ : SNode) [e6, e7] hx8) cok50 [(100, 103)] [103] (LayOk.cons (j := 102) (encL false (eSN false)) (encL false (eSN false)) ([e6, e7] : List LN) (by kernel_rfl) (share_encL _ (sh_eSN _)) lO) (.own _) (.cons (DeepR.map (fun _ => (.cons (.c _) (.cons (.c _) (.cons (.c _) (.cons (.c _) (.cons (.sl _ _ (DeepR.map (fun _ => (.cons (.c _) .nil)) _)) .nil)))))) _) .nil) (by kernel_rfl) (by kernel_rfl) (wR 1 104 (wF (bB h fun l10 hx10 h => (CO.sw mix (wR 4 104 (wN eNI p0 [0] (wR 1 104 (W.cutO Dk eNI hx10 104 (j := 0) (el := 3) (sz := 1) (by kernel_rfl) ?_))))))))
 refine wR 2 105 (wF (bB h fun l14 hx14 h => (bB h fun x15 hx15 h => (bB h fun x16 hx16 h => (CO.sw mix (W.layop Dk lO (by kernel_rfl) 105 { v := .own 105, R := [], new := [(105, .vec true 24 1 [])], N := [105] } (by kernel_rfl) (W.vecEq 105 (nn := true) (e := 24) (k := 1) (rows := []) (rows' := [].map (encL false (eSN false))) (by kernel_rfl) (by kernel_rfl) (wR 4 106 ?_))))))))
 refine W.cutO Dk (encL false (eSN false)) hx14 106 (j := 1) (el := 24) (sz := 1) (by kernel_rfl) (W.appO Dk (encL false (eSN false)) (a := 105) (c := 106) (el := 24) (sz := 1) 24 hx15 rfl 107 (by kernel_rfl) (wR 1 108 (W.layop Dk (LayOk.cons (j := 103) (eSN true) (eSN false) r8 (by kernel_rfl) (sh_eSN _) lO) (by kernel_rfl) 108 { v := .own 108, R := [], new := [(108, .vec true 24 1 [[.sl false false (r8.map (eSN false))]])], N := [108] } (by kernel_rfl) (W.vecEq 108 (nn := true) (e := 24) (k := 1) (rows := [[.sl false false (r8.map (eSN false))]]) (rows' := [r8].map (encL false (eSN false))) (by kernel_rfl) (by kernel_rfl) (W.appO Dk (encL false (eSN false)) (a := 107) (c := 108) (el := 24) (sz := 1) 24 hx16 rfl 109 (by kernel_rfl) (wR 2 110 (wF (cV 110 ?_))))))))
 refine CO.ret ?_
 cases h
 exact eG [(104, 100), (109, 101)] (.inr rfl) (RetV.one rfl (OneR.cell Dk (r := .agg [.own 104, .own 109]) (i := 101) (ety := 51) (cs := [.own 104, .own 109]) (by kernel_rfl) (by kernel_rfl) (by kernel_rfl)))

theorem ms_l37Bad_ok (a0 : Int) (a1 : Int) {r : Bool} (h : ms_l37Bad a0 a1 = some r) :
    AC0 23 [V.i a0, V.i a1] [] (V.b r) [] := by
 rw [ms_l37Bad] at h
 refine AC.enter Tryz.func23 rfl (cV 100 (bB h fun r2 hx2 h => (cC 1 100 (ms_OpLevel_ok a1 hx2) cok47 (bB h fun y4 hv7 h => ?_))))
 refine CO.cutR (tl 24 [(4, V.b y4)]) [] mix (by
  refine wR 3 100 ?_
  refine wJ 10 hv7 (fun hv7 => ?_) (fun hv7 => ?_)
  ·refine wR 1 100 (bB hv7 fun r5 hx9 hv7 => (w0 (ms_OpLevel_ok a0 hx9) cok47 (wR 4 100 ?_)))
   refine wJ 16 hv7 (fun hv7 => ?_) (fun hv7 => ?_)
   ·refine wR 3 100 ?_
    refine wJ 19 hv7 (fun hv7 => ?_) (fun hv7 => ?_)
    ·refine wR 5 100 ?_
     cases hv7
     exact fS [] [4]
    refine wR 5 100 ?_
    cases hv7
    exact fS [] [4]
   refine wR 8 100 ?_
   cases hv7
   exact fS [] [4]
  refine wR 14 100 ?_
  cases hv7
  exact fS [] [4]
  ) ?_
 cases h
 exact e1 4 id

theorem ms_l37First_ok (a0 : Int) (a1 : Int) {r : Bool} (h : ms_l37First a0 a1 = some r) :
    AC0 24 [V.i a0, V.i a1] [] (V.b r) [] := by
 rw [ms_l37First] at h
 refine AC.enter Tryz.func24 rfl (cV 100 (CO.seq' (bB h fun y8 hv12 h => ?_)))
 refine CO.cutR (tl 23 [(0, V.i a0), (1, V.i a1), (13, V.b y8)]) [] mix (by
  refine wR 3 100 ?_
  refine wJ 7 hv12 (fun hv12 => ?_) (fun hv12 => ?_)
  ·refine wR 6 100 ?_
   cases hv12
   exact fS [] [0, 1, 13]
  refine wR 1 100 (bB hv12 fun r9 hx14 hv12 => (w0 (ms_OpLevel_ok a0 hx14) cok47 (wR 1 100 (bB hv12 fun r10 hx15 hv12 => (w0 (ms_OpLevel_ok a1 hx15) cok47 (wR 2 100 ?_))))))
  cases hv12
  exact fS [] [0, 1, 13]
  ) ?_
 refine cI h (fun _ h => ?_) (fun _ h => ?_)
 ·refine cV 100 ?_
  cases h
  exact e1 4 id
 refine CO.skip (bB h fun y13 hv20 h => ?_)
 refine CO.cutR (tl 23 [(4, V.b y13)]) [] mix (by
  refine wR 1 100 (bB hv20 fun r14 hx21 hv20 => (w0 (ms_OpLevel_ok a0 hx21) cok47 (wR 1 100 (bB hv20 fun r15 hx22 hv20 => (w0 (ms_OpLevel_ok a1 hx22) cok47 (wR 2 100 ?_))))))
  refine wJ 19 hv20 (fun hv20 => ?_) (fun hv20 => ?_)
  ·refine wR 4 100 ?_
   cases hv20
   exact fS [] [4]
  refine wR 4 100 ?_
  cases hv20
  exact fS [] [4]
  ) ?_
 cases h
 exact e1 4 id

theorem ms_l6Starts_ok (N : Nat) (a0 : LN) {r : ((List Int) × Bool)} (h : ms_l6Starts N a0 = some r) :
    AC0 85 [.sl false false (a0.map (eSN false))] [] (.tup [.own 100, V.b r.2]) [(100, vX 3 1 eNI r.1)] := by
 rw [ms_l6Starts] at h
 refine AC.enter Tryz.func85 rfl (cV 100 (cV 100 (CO.seq' (cV 101 (CO.block' (CO.loopJ (fun (⟨a0, y917, y918⟩ : (LN × Int × (List Int))) => ⟨tl 53 [(0, .sl false false (a0.map (eSN false))), (4, .own 100), (5, V.i y917)], [(100, vX 3 1 eNI y918)]⟩) (fun n i => ms_l6Starts_l1 N n i = some r) (n0 := N) (i0 := (a0, 0, [])) (wS [(100, 100)] [0, 4, 5]) h (fun i h => by simp [ms_l6Starts_l1] at h) ?_))))))
 rintro n1 ⟨a0, y917, y918⟩ h1961 ih1962
 rw [ms_l6Starts_l1] at h1961
 refine CO.seq' (CO.sw mix (wR 2 245 (wN (eSN false) a0 [] (wR 1 245 (wF ?_)))))
 refine cI h1961 (fun _ h1961 => ?_) (fun _ h1961 => ?_)
 ·refine CO.skip (CO.seq' (CO.block' (cV 245 (CO.seq' (bB h1961 fun e1474 hx2322 h1961 => (CO.sw mix (wR 2 245 (wX (eSN false) hx2322 5 ?_))))))))
  refine wR 2 245 (wN eNI e1474.Kids [] (wR 2 245 (wF (CO.block' (CO.loopJ (fun (⟨a0, y917, y918, y1499, y1500⟩ : (LN × Int × (List Int) × Int × Int)) => ⟨tl 53 [(0, .sl false false (a0.map (eSN false))), (4, .own 100), (5, V.i y917), (6, V.i y1499), (7, V.i y1500)], [(100, vX 3 1 eNI y918)]⟩) (fun n i => ms_l6Starts_l2 N (ms_l6Starts_l1 N n1) n i = some r) (n0 := N) (i0 := (a0, y917, y918, y917, (wr ((e1474.Kids.length : Int) - 1)))) (wS [(100, 100)] [0, 4, 5, 6, 7]) h1961 (fun i h => by simp [ms_l6Starts_l2] at h) ?_)))))
  rintro n2 ⟨a0, y917, y918, y1499, y1500⟩ h2399 ih2400
  rw [ms_l6Starts_l2] at h2399
  refine CO.seq' (cV 305 ?_)
  refine cI h2399 (fun _ h2399 => ?_) (fun _ h2399 => ?_)
  ·refine CO.skip (CO.seq' (CO.block' (CO.seq' (bB h2399 fun y1546 hv2432 h2399 => ?_))))
   refine CO.cutR (tl 53 [(0, .sl false false (a0.map (eSN false))), (4, .own 100), (5, V.i y917), (6, V.i y1499), (7, V.i y1500), (41, V.b y1546)]) [(100, vX 3 1 eNI y918)] mix (by
    refine wR 2 305 (bB hv2432 fun e1547 hx2433 hv2432 => (wX (eSN false) hx2433 5 (wR 3 305 (bB hv2432 fun e1548 hx2434 hv2432 => (wX eNI hx2434 1 (wR 5 305 ?_))))))
    refine wJ 38 hv2432 (fun hv2432 => ?_) (fun hv2432 => ?_)
    ·refine wR 3 305 ?_
     cases hv2432
     exact fS [(100, 100)] [0, 4, 5, 6, 7, 41]
    refine wR 3 305 ?_
    cases hv2432
    exact fS [(100, 100)] [0, 4, 5, 6, 7, 41]
    ) ?_
   refine cI h2399 (fun _ h2399 => ?_) (fun _ h2399 => ?_)
   ·refine cV 305 (CO.ret ?_)
    cases h2399
    exact eG [(305, 100)] (.inr rfl) (RetV.two rfl (oT (t := 2) (r := .own 305)) (oT (t := 3) (r := V.b false)))
   refine CO.skip (bB h2399 fun e1550 hx2438 h2399 => ?_)
   refine CO.endR (tl 53 [(0, .sl false false (a0.map (eSN false))), (4, .own 100), (5, V.i y917), (6, V.i e1550), (7, V.i y1500)]) [(100, vX 3 1 eNI y918)] mix (by
    refine wR 3 305 (W.ixO Dk eNI hx2438 100 1 (by kernel_rfl) (W.ldO Dk eNI hx2438 3 100 0 (V.i e1550) (by kernel_rfl) (by kernel_rfl) (wR 1 305 ?_)))
    exact fI
    ) (fun st hw => ?_)
   refine CO.weak hw ?_
   exact cK 305 ih2400 (a0, y917, y918, e1550, (wr (y1500 - 1))) h2399 [(100, 100)] [0, 4, 5, 6, 7]
  refine CO.exit (bB h2399 fun x1552 hx2440 h2399 => ?_)
  refine CO.endR (tl 53 [(0, .sl false false (a0.map (eSN false))), (4, .own 306), (5, V.i y917)]) [(306, vX 3 1 eNI x1552)] mix (by
   refine wR 3 305 (W.appO Dk eNI (a := 100) (c := 305) (el := 3) (sz := 1) 8 hx2440 rfl 306 (by kernel_rfl) (wR 1 307 ?_))
   exact fI
   ) (fun st hw => ?_)
  refine CO.weak hw ?_
  exact cK 307 ih1962 (a0, (wr (y917 + 1)), x1552) h2399 [(306, 100)] [0, 4, 5]
 refine CO.exit (cV 245 (CO.ret ?_))
 cases h1961
 exact eG [(100, 100)] (.inr rfl) (RetV.two rfl (oT (t := 2) (r := .own 100)) (oT (t := 3) (r := V.b true)))

theorem ms_ShapeOk_ok (N : Nat) (a0 : LN) {r : Bool} (h : ms_ShapeOk N a0 = some r) :
    AC0 51 [.sl false false (a0.map (eSN false))] [] (V.b r) [] := by
 rw [ms_ShapeOk] at h
 refine AC.enter Tryz.func51 rfl (cV 100 (CO.seq' (bB h fun r4 hx5 h => (CO.sw mix (wR 1 100 (wN (eSN false) a0 [] (w0 (ms_l1In_ok (a0.length : Int) 1 400 hx5) cok68 (wR 1 100 ?_))))))))
 refine wF ?_
 refine cI h (fun _ h => ?_) (fun _ h => ?_)
 ·refine cV 100 ?_
  cases h
  exact e1 2 id
 refine CO.skip (bB h fun r6 hx8 h => (CO.sw mix (wR 1 100 (wC (ms_l6Starts_ok N a0 hx8) cok85 [] [(100, 100)] [100] (wR 5 101 (wF (bB h fun y8 hv11 h => ?_)))))))
 refine CO.cutR (tl 24 [(2, V.b y8)]) [] mix (by
  refine wR 2 101 ?_
  refine wJ 15 hv11 (fun hv11 => ?_) (fun hv11 => ?_)
  ·refine wR 2 101 (wN (eSN false) a0 [] (wR 1 101 (bB hv11 fun e9 hx13 hv11 => (W.ixO Dk eNI hx13 100 1 (by kernel_rfl) (W.ldO Dk eNI hx13 3 100 0 (V.i e9) (by kernel_rfl) (by kernel_rfl) (wR 3 101 ?_))))))
   cases hv11
   exact fS [] [2]
  refine wR 9 101 ?_
  cases hv11
  exact fS [] [2]
  ) ?_
 cases h
 exact e1 2 id

theorem ms_DepthOf_ok (N : Nat) (a0 : LN) {r : Int} (h : ms_DepthOf N a0 = some r) :
    AC0 52 [.sl false false (a0.map (eSN false))] [] (V.i r) [] := by
 rw [ms_DepthOf] at h
 refine AC.enter Tryz.func52 rfl (cV 100 (CO.seq' (bB h fun r4 hx5 h => (cC 1 100 (ms_ShapeOk_ok N a0 hx5) cok51 ?_))))
 refine cI h (fun _ h => ?_) (fun _ h => ?_)
 ·refine cV 100 ?_
  cases h
  exact e1 2 id
 refine CO.skip (cV 100 (CO.seq' (cV 101 (CO.block' (CO.loopJ (fun (⟨a0, y857, y858⟩ : (LN × Int × (List Int))) => ⟨tl 51 [(0, .sl false false (a0.map (eSN false))), (3, .own 100), (4, V.i y857)], [(100, vX 3 1 eNI y858)]⟩) (fun n i => ms_DepthOf_l1 N n i = some r) (n0 := N) (i0 := (a0, 0, [])) (wS [(100, 100)] [0, 3, 4]) h (fun i h => by simp [ms_DepthOf_l1] at h) ?_)))))
 rintro n1 ⟨a0, y857, y858⟩ h1159 ih1160
 rw [ms_DepthOf_l1] at h1159
 refine CO.seq' (CO.sw mix (wR 2 285 (wN (eSN false) a0 [] (wR 1 285 (wF ?_)))))
 refine cI h1159 (fun _ h1159 => ?_) (fun _ h1159 => ?_)
 ·refine CO.skip (CO.seq' (CO.block' (cV 285 (CO.seq' (cV 285 (CO.block' (CO.loopJ (fun (⟨a0, y857, y858, y1247, y1248⟩ : (LN × Int × (List Int) × Int × Int)) => ⟨tl 51 [(0, .sl false false (a0.map (eSN false))), (3, .own 100), (4, V.i y857), (5, V.i y1247), (6, V.i y1248)], [(100, vX 3 1 eNI y858)]⟩) (fun n i => ms_DepthOf_l2 N (ms_DepthOf_l1 N n1) n i = some r) (n0 := N) (i0 := (a0, y857, y858, 1, 0)) (wS [(100, 100)] [0, 3, 4, 5, 6]) h1159 (fun i h => by simp [ms_DepthOf_l2] at h) ?_)))))))
  rintro n2 ⟨a0, y857, y858, y1247, y1248⟩ h1369 ih1370
  rw [ms_DepthOf_l2] at h1369
  refine CO.seq' (bB h1369 fun e1270 hx1375 h1369 => (CO.sw mix (wR 3 345 (wX (eSN false) hx1375 5 (wR 2 345 (wN eNI e1270.Kids [] (wR 1 345 (wF ?_))))))))
  refine cI h1369 (fun _ h1369 => ?_) (fun _ h1369 => ?_)
  ·refine CO.skip (CO.seq' (CO.block' (bB h1369 fun e1280 hx1386 h1369 => (bB h1369 fun e1281 hx1387 h1369 => (bB h1369 fun e1282 hx1388 h1369 => ?_)))))
   refine CO.endR (tl 51 [(0, .sl false false (a0.map (eSN false))), (3, .own 100), (4, V.i y857), (5, V.i (if (wr (1 + e1282)) > y1247 then (wr (1 + e1282)) else y1247)), (6, V.i y1248)]) [(100, vX 3 1 eNI y858)] mix (by
    refine wR 4 345 (wX (eSN false) hx1386 5 (wR 3 345 (wX eNI hx1387 1 (wR 1 345 (W.ixO Dk eNI hx1388 100 1 (by kernel_rfl) (W.ldO Dk eNI hx1388 3 100 0 (V.i e1282) (by kernel_rfl) (by kernel_rfl) (wR 3 345 ?_)))))))
    exact fI
    ) (fun st hw => ?_)
   refine CO.weak hw ?_
   exact cK 345 ih1370 (a0, y857, y858, (if (wr (1 + e1282)) > y1247 then (wr (1 + e1282)) else y1247), (wr (y1248 + 1))) h1369 [(100, 100)] [0, 3, 4, 5, 6]
  refine CO.exit (bB h1369 fun x1284 hx1390 h1369 => ?_)
  refine CO.endR (tl 51 [(0, .sl false false (a0.map (eSN false))), (3, .own 346), (4, V.i y857)]) [(346, vX 3 1 eNI x1284)] mix (by
   refine wR 3 345 (W.appO Dk eNI (a := 100) (c := 345) (el := 3) (sz := 1) 8 hx1390 rfl 346 (by kernel_rfl) (wR 1 347 ?_))
   exact fI
   ) (fun st hw => ?_)
  refine CO.weak hw ?_
  exact cK 347 ih1160 (a0, (wr (y857 + 1)), x1284) h1369 [(346, 100)] [0, 3, 4]
 refine CO.exit (bB h1159 fun e1286 hx1392 h1159 => (CO.sw mix (wR 2 285 (wN (eSN false) a0 [] (wR 1 285 (W.ixO Dk eNI hx1392 100 1 (by kernel_rfl) (W.ldO Dk eNI hx1392 3 100 0 (V.i e1286) (by kernel_rfl) (by kernel_rfl) (wR 1 285 ?_))))))))
 refine wF ?_
 cases h1159
 exact e1 2 id

end Go.Proofs.Tryz
