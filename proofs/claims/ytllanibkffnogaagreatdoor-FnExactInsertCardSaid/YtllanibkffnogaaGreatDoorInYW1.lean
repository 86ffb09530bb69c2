/-
  The walks that show that the code computes the models, part 1.
-/
import Derived.Test.YtllanibkffnogaaGreatDoorInYM1
namespace Go.Proofs.Tryz
open Go.Av
set_option maxRecDepth 100000
set_option maxHeartbeats 8000000
set_option linter.unusedSimpArgs false
set_option linter.unusedVariables false

theorem ext168 (s : List UInt8) (c : Int) (w : World) : (callFunc 168 #[.string ⟨⟨s⟩⟩, .int .u8 c]).run Tryz.prog w = .ok (.value (.int .i64 (Go.Lib.indexByte s c.toNat.toUInt8))) w := by
  rw [run_callFunc_extern Tryz.func168 (by kernel_rfl) rfl (by kernel_rfl) (by kernel_rfl)]
  rw [show _ = _ from Go.Lib.run_indexByteString ⟨⟨s⟩⟩ c w]
  rfl

theorem cok6 : callOk Tryz.prog 6 := fun _ _ => Tryz.call6 _ _
theorem cok10 : callOk Tryz.prog 10 := fun _ _ => Tryz.call10 _ _
theorem cok11 : callOk Tryz.prog 11 := fun _ _ => Tryz.call11 _ _
theorem cok12 : callOk Tryz.prog 12 := fun _ _ => Tryz.call12 _ _
theorem cok13 : callOk Tryz.prog 13 := fun _ _ => Tryz.call13 _ _
theorem cok15 : callOk Tryz.prog 15 := fun _ _ => Tryz.call15 _ _
theorem cok17 : callOk Tryz.prog 17 := fun _ _ => Tryz.call17 _ _
theorem cok18 : callOk Tryz.prog 18 := fun _ _ => Tryz.call18 _ _
theorem cok19 : callOk Tryz.prog 19 := fun _ _ => Tryz.call19 _ _
theorem cok25 : callOk Tryz.prog 25 := fun _ _ => Tryz.call25 _ _
theorem cok26 : callOk Tryz.prog 26 := fun _ _ => Tryz.call26 _ _
theorem cok32 : callOk Tryz.prog 32 := fun _ _ => Tryz.call32 _ _
theorem cok36 : callOk Tryz.prog 36 := fun _ _ => Tryz.call36 _ _
theorem cok38 : callOk Tryz.prog 38 := fun _ _ => Tryz.call38 _ _
theorem cok39 : callOk Tryz.prog 39 := fun _ _ => Tryz.call39 _ _
theorem cok40 : callOk Tryz.prog 40 := fun _ _ => Tryz.call40 _ _
theorem cok43 : callOk Tryz.prog 43 := fun _ _ => Tryz.call43 _ _
theorem cok45 : callOk Tryz.prog 45 := fun _ _ => Tryz.call45 _ _
theorem cok46 : callOk Tryz.prog 46 := fun _ _ => Tryz.call46 _ _
theorem cok48 : callOk Tryz.prog 48 := fun _ _ => Tryz.call48 _ _
theorem cok49 : callOk Tryz.prog 49 := fun _ _ => Tryz.call49 _ _
theorem cok51 : callOk Tryz.prog 51 := fun _ _ => Tryz.call51 _ _
theorem cok52 : callOk Tryz.prog 52 := fun _ _ => Tryz.call52 _ _
theorem cok53 : callOk Tryz.prog 53 := fun _ _ => Tryz.call53 _ _
theorem cok54 : callOk Tryz.prog 54 := fun _ _ => Tryz.call54 _ _
theorem cok55 : callOk Tryz.prog 55 := fun _ _ => Tryz.call55 _ _
theorem cok56 : callOk Tryz.prog 56 := fun _ _ => Tryz.call56 _ _
theorem cok57 : callOk Tryz.prog 57 := fun _ _ => Tryz.call57 _ _
theorem cok58 : callOk Tryz.prog 58 := fun _ _ => Tryz.call58 _ _
theorem cok59 : callOk Tryz.prog 59 := fun _ _ => Tryz.call59 _ _
theorem cok60 : callOk Tryz.prog 60 := fun _ _ => Tryz.call60 _ _
theorem cok68 : callOk Tryz.prog 68 := fun _ _ => Tryz.call68 _ _
theorem cok69 : callOk Tryz.prog 69 := fun _ _ => Tryz.call69 _ _
theorem cok70 : callOk Tryz.prog 70 := fun _ _ => Tryz.call70 _ _
theorem cok71 : callOk Tryz.prog 71 := fun _ _ => Tryz.call71 _ _
theorem cok75 : callOk Tryz.prog 75 := fun _ _ => Tryz.call75 _ _
theorem cok76 : callOk Tryz.prog 76 := fun _ _ => Tryz.call76 _ _
theorem cok77 : callOk Tryz.prog 77 := fun _ _ => Tryz.call77 _ _
theorem cok78 : callOk Tryz.prog 78 := fun _ _ => Tryz.call78 _ _
theorem cok80 : callOk Tryz.prog 80 := fun _ _ => Tryz.call80 _ _
theorem cok81 : callOk Tryz.prog 81 := fun _ _ => Tryz.call81 _ _
theorem cok85 : callOk Tryz.prog 85 := fun _ _ => Tryz.call85 _ _
theorem cok89 : callOk Tryz.prog 89 := fun _ _ => Tryz.call89 _ _
theorem cok90 : callOk Tryz.prog 90 := fun _ _ => Tryz.call90 _ _
theorem cok91 : callOk Tryz.prog 91 := fun _ _ => Tryz.call91 _ _
theorem cok92 : callOk Tryz.prog 92 := fun _ _ => Tryz.call92 _ _
theorem cok93 : callOk Tryz.prog 93 := fun _ _ => Tryz.call93 _ _
theorem cok98 : callOk Tryz.prog 98 := fun _ _ => Tryz.call98 _ _
theorem cok99 : callOk Tryz.prog 99 := fun _ _ => Tryz.call99 _ _
theorem cok100 : callOk Tryz.prog 100 := fun _ _ => Tryz.call100 _ _
theorem cok101 : callOk Tryz.prog 101 := fun _ _ => Tryz.call101 _ _
theorem cok102 : callOk Tryz.prog 102 := fun _ _ => Tryz.call102 _ _
theorem cok103 : callOk Tryz.prog 103 := fun _ _ => Tryz.call103 _ _
theorem cok104 : callOk Tryz.prog 104 := fun _ _ => Tryz.call104 _ _
theorem cok105 : callOk Tryz.prog 105 := fun _ _ => Tryz.call105 _ _
theorem cok106 : callOk Tryz.prog 106 := fun _ _ => Tryz.call106 _ _
theorem cok107 : callOk Tryz.prog 107 := fun _ _ => Tryz.call107 _ _
theorem cok108 : callOk Tryz.prog 108 := fun _ _ => Tryz.call108 _ _
theorem cok109 : callOk Tryz.prog 109 := fun _ _ => Tryz.call109 _ _
theorem cok110 : callOk Tryz.prog 110 := fun _ _ => Tryz.call110 _ _
theorem cok114 : callOk Tryz.prog 114 := fun _ _ => Tryz.call114 _ _
theorem cok115 : callOk Tryz.prog 115 := fun _ _ => Tryz.call115 _ _
theorem cok116 : callOk Tryz.prog 116 := fun _ _ => Tryz.call116 _ _
theorem cok117 : callOk Tryz.prog 117 := fun _ _ => Tryz.call117 _ _
theorem cok118 : callOk Tryz.prog 118 := fun _ _ => Tryz.call118 _ _
theorem cok119 : callOk Tryz.prog 119 := fun _ _ => Tryz.call119 _ _
theorem cok120 : callOk Tryz.prog 120 := fun _ _ => Tryz.call120 _ _
theorem cok121 : callOk Tryz.prog 121 := fun _ _ => Tryz.call121 _ _
theorem cok122 : callOk Tryz.prog 122 := fun _ _ => Tryz.call122 _ _
theorem cok123 : callOk Tryz.prog 123 := fun _ _ => Tryz.call123 _ _
theorem cok124 : callOk Tryz.prog 124 := fun _ _ => Tryz.call124 _ _
theorem cok125 : callOk Tryz.prog 125 := fun _ _ => Tryz.call125 _ _
theorem cok126 : callOk Tryz.prog 126 := fun _ _ => Tryz.call126 _ _
theorem cok128 : callOk Tryz.prog 128 := fun _ _ => Tryz.call128 _ _
theorem cok129 : callOk Tryz.prog 129 := fun _ _ => Tryz.call129 _ _
theorem cok130 : callOk Tryz.prog 130 := fun _ _ => Tryz.call130 _ _
theorem cok131 : callOk Tryz.prog 131 := fun _ _ => Tryz.call131 _ _
theorem cok132 : callOk Tryz.prog 132 := fun _ _ => Tryz.call132 _ _
theorem cok133 : callOk Tryz.prog 133 := fun _ _ => Tryz.call133 _ _
theorem cok134 : callOk Tryz.prog 134 := fun _ _ => Tryz.call134 _ _
theorem cok135 : callOk Tryz.prog 135 := fun _ _ => Tryz.call135 _ _
theorem cok136 : callOk Tryz.prog 136 := fun _ _ => Tryz.call136 _ _
theorem cok137 : callOk Tryz.prog 137 := fun _ _ => Tryz.call137 _ _
theorem cok138 : callOk Tryz.prog 138 := fun _ _ => Tryz.call138 _ _
theorem cok139 : callOk Tryz.prog 139 := fun _ _ => Tryz.call139 _ _
theorem cok140 : callOk Tryz.prog 140 := fun _ _ => Tryz.call140 _ _
theorem cok141 : callOk Tryz.prog 141 := fun _ _ => Tryz.call141 _ _
theorem cok142 : callOk Tryz.prog 142 := fun _ _ => Tryz.call142 _ _
theorem cok143 : callOk Tryz.prog 143 := fun _ _ => Tryz.call143 _ _
theorem cok144 : callOk Tryz.prog 144 := fun _ _ => Tryz.call144 _ _
theorem cok145 : callOk Tryz.prog 145 := fun _ _ => Tryz.call145 _ _
theorem cok146 : callOk Tryz.prog 146 := fun _ _ => Tryz.call146 _ _
theorem cok147 : callOk Tryz.prog 147 := fun _ _ => Tryz.call147 _ _
theorem cok148 : callOk Tryz.prog 148 := fun _ _ => Tryz.call148 _ _
theorem cok149 : callOk Tryz.prog 149 := fun _ _ => Tryz.call149 _ _
theorem cok150 : callOk Tryz.prog 150 := fun _ _ => Tryz.call150 _ _
theorem cok151 : callOk Tryz.prog 151 := fun _ _ => Tryz.call151 _ _
theorem cok152 : callOk Tryz.prog 152 := fun _ _ => Tryz.call152 _ _
theorem cok153 : callOk Tryz.prog 153 := fun _ _ => Tryz.call153 _ _
theorem cok154 : callOk Tryz.prog 154 := fun _ _ => Tryz.call154 _ _
theorem cok155 : callOk Tryz.prog 155 := fun _ _ => Tryz.call155 _ _
theorem cok156 : callOk Tryz.prog 156 := fun _ _ => Tryz.call156 _ _
theorem cok157 : callOk Tryz.prog 157 := fun _ _ => Tryz.call157 _ _
theorem cok158 : callOk Tryz.prog 158 := fun _ _ => Tryz.call158 _ _
theorem cok159 : callOk Tryz.prog 159 := fun _ _ => Tryz.call159 _ _
theorem cok160 : callOk Tryz.prog 160 := fun _ _ => Tryz.call160 _ _
theorem cok161 : callOk Tryz.prog 161 := fun _ _ => Tryz.call161 _ _
theorem cok162 : callOk Tryz.prog 162 := fun _ _ => Tryz.call162 _ _
theorem cok163 : callOk Tryz.prog 163 := fun _ _ => Tryz.call163 _ _
theorem cok164 : callOk Tryz.prog 164 := fun _ _ => Tryz.call164 _ _

theorem back119 {G : Nat → Option (List V)} (l : List Int) : AC Tryz.prog G 119 [.sl false false (l.map encI)] [] (.fn 137 [.loc 100 0]) [(100, .cells 30 [.sl false false (l.map encI)])] := by
  refine AC.enter Tryz.func119 rfl ?_
  refine CO.cutR (tl 4 [(1, .loc 100 0)]) [(100, .cells 30 [.sl false false (l.map encI)])] mix (by
      refine wR 2 100 ?_
      exact W.fin (by decide) (by kernel_rfl) (wS [(100, 100)] [1])
      ) ?_
  refine CO.cutR (tl 4 [(2, .fn 137 [.loc 100 0])]) [(100, .cells 30 [.sl false false (l.map encI)])] mix (by
      refine wR 2 101 ?_
      exact W.fin (by decide) (by kernel_rfl) (wS [(100, 100)] [2])
      ) ?_
  refine CO.ret ?_
  exact eG [(100, 100)] (.inr rfl) (RetV.one rfl (oT (t := 2) (r := .fn 137 [.loc 100 0])))

theorem backok137 : BackOk Tryz.prog 137 := by
  intro l g n Inv Stop w hmax hlen hdraw hround h0
  refine callsIn_wide.1 (callsIn_of_wp (F := Fence.wide) (n := 0) Tryz.func137 rfl trivial ?_ rfl)
  show Code.wpIn (fen none) 0 _ _ _ _ _
  simp only [Tryz.ntmps137, List.size_toArray, List.length_cons, List.length_nil, Nat.reduceAdd, Nat.reduceSub, Array.replicate_succ, Array.replicate_zero, List.push_toArray, List.append_toArray, List.nil_append, List.cons_append]
  refine wpIn_seq ?_
  refine wpIn_region_lit ?_
  obtain ⟨a0, cap0, hc0⟩ := hlen w h0
  have hn64 : (n : Int) ≤ 9223372036854775807 := by
    simp only [maxLen] at hmax
    omega
  refine listVal rfl (fun _ h => by cases h) (w' := w) (v := .slice a0 n cap0) ?_ ?_
  · simp only [execOp, Sem.run_bind]
    rw [run_load1 Dk (t := 30) (by rfl) rfl (b := ⟨g, 0, none⟩) (by simp [Act.eval]) hc0]
    rfl
  refine listVal rfl (fun _ h => by cases h) (w' := w) (v := .int .i64 n) ?_ ?_
  · simp [execOp, resolve, invoke, builtin, Builtin.len_, run_underlying Tryz.underlying30, goInt, Act.eval, Act.put]
  refine listVal rfl (fun _ h => by cases h) (w' := w) (v := .int .i64 (IntKind.wrap .i64 ((n : Int) - 1))) ?_ ?_
  · simp [execOp, go_sem, Op.intArith, Act.eval, Act.put]
  refine listVal rfl (fun _ h => by cases h) (w' := w) (v := .int .i64 (IntKind.wrap .i64 ((n : Int) - 1))) ?_ ?_
  · simp [execOp, Act.eval, Act.put]
  unfold wpListIn
  rw [wrap64 (by omega) (by omega)]
  refine wpIn_block ?_
  refine wpIn_loop_rounds (n + 1) ?_
  refine rounds_by (fun k a W => Inv k W ∧ k ≤ n ∧ a.tmps.size = 19 ∧ slot a 0 = .func (.yield l) #[] #[] ∧ slot a 1 = .pointer (some ⟨g, 0, none⟩) ∧ slot a 3 = .int .i64 ((k : Int) - 1) ∧ a.defers = []) ?_ ?_ n _ w ?_
  · · rintro a W ⟨hi, hk, s1, s2, s3, s4, s5⟩
      refine wpIn_seq ?_
      refine wpIn_seq ?_
      refine wpIn_region_lit ?_
      refine listVal rfl (fun _ h => by cases h) (w' := W) (v := .int .i64 (-1)) ?_ ?_
      · simp only [execOp, eval_slot, s4]; rfl
      refine listVal rfl (fun _ h => by cases h) (w' := W) (v := .bool false) ?_ ?_
      · simp [execOp, go_sem, eval_slot, slot_put, s1]
      refine wpIn_cond_false (by simp [eval_slot, slot_put, aput_size, s1]) ?_
      refine wpIn_exit ?_
      refine ⟨by simp [aput_def, s5], _, results_none rfl _ _ _, ⟨_, rfl⟩, .inl hi⟩
  · · rintro k a W ⟨hi, hk, s1, s2, s3, s4, s5⟩
      have s4' : slot a 3 = .int .i64 (k : Int) := by rw [s4]; congr 1; omega
      obtain ⟨hkn, b, cap, v, c1, c2, c3, c4, f, tmps, asg, body, hy, hR⟩ := hround k W hi
      refine wpIn_seq ?_
      refine wpIn_seq ?_
      refine wpIn_region_lit ?_
      refine listVal rfl (fun _ h => by cases h) (w' := W) (v := .int .i64 k) ?_ ?_
      · simp only [execOp, eval_slot, s4']; rfl
      refine listVal rfl (fun _ h => by cases h) (w' := W) (v := .bool true) ?_ ?_
      · simp [execOp, go_sem, eval_slot, slot_put, s1]
      refine wpIn_cond_true (by simp [eval_slot, slot_put, aput_size, s1]) ?_
      refine wpIn_skip ?_
      refine wpIn_seq ?_
      refine wpIn_block ?_
      refine wpIn_seq ?_
      refine wpIn_region_lit ?_
      refine listVal rfl (fun _ h => by cases h) (w' := W) (v := .func (.yield l) #[] #[]) ?_ ?_
      · simp [execOp, eval_slot, slot_put, aput_size, s1, s2]
      refine listVal rfl (fun _ h => by cases h) (w' := W) (v := .int .i64 k) ?_ ?_
      · simp [execOp, eval_slot, slot_put, aput_size, s1, s4']
      refine listVal rfl (fun _ h => by cases h) (w' := W) (v := .slice (some b) n cap) ?_ ?_
      · simp only [execOp, Sem.run_bind]
        rw [run_load1 Dk (t := 30) rfl rfl (by simp [eval_slot, slot_put, aput_size, s1, s3]) c1]
        rfl
      refine listVal rfl (fun _ h => by cases h) (w' := W) (v := .int .i64 k) ?_ ?_
      · simp [execOp, eval_slot, slot_put, aput_size, s1, s4']
      refine listVal rfl (fun _ h => by cases h) (w' := W) (v := .pointer (some (b.add k))) ?_ ?_
      · unfold execOp
        have hz : D.at 3 = some { d := .int .i64, size := 1, bytes := 8, zero := [.int .i64 0], cmp := false } := by kernel_rfl
        have hk' : (0 : Int) ≤ (k : Int) ∧ (k : Int) < (n : Int) := by omega
        simp only [eval_slot, slot_put, aput_size, s1, s4', Nat.reduceLT, Nat.reduceEqDiff, if_pos, if_neg, reduceIte, Nat.reduceBEq]
        simp only [Instr.indexAt, Sem.run_bind, asIntOf, Sem.run_pure, Result.andThen_ok, run_underlying Tryz.underlying30, Sem.run_ite, if_pos hk', (Dk _ _ hz).sizeOf W]
        simp
      refine listVal rfl (fun _ h => by cases h) (w' := W) (v := v) ?_ ?_
      · simp only [execOp, Sem.run_bind]
        rw [run_load1 Dk (t := 3) rfl rfl (by simp [eval_slot, slot_put, aput_size, s1]) c3]
        rfl
      refine listRound rfl (fun _ h => by cases h) (l := l) (f := f) (tmps := tmps) (asg := asg) (body := body) ?_ hR ?_
      · simp [execOp, resolve, invoke, eval_slot, slot_put, aput_size, s1, Deferred.ofValue, hy]
      rintro e W' (⟨rfl, hi'⟩ | ⟨rfl, hs⟩)
      · refine ⟨_, rfl, ?_⟩
        refine listVal rfl (fun _ h => by cases h) (w' := W') (v := .bool false) ?_ ?_
        · simp [execOp, go_sem, Op.unary, eval_slot, slot_put, aput_size, s1]
        refine wpIn_cond_false (by simp [eval_slot, slot_put, aput_size, s1]) ?_
        refine wpIn_skip ?_
        refine wpIn_region_lit ?_
        refine listVal rfl (fun _ h => by cases h) (w' := W') (v := .int .i64 k) ?_ ?_
        · simp [execOp, eval_slot, slot_put, aput_size, s1, s4']
        refine listVal rfl (fun _ h => by cases h) (w' := W') (v := .int .i64 ((k : Int) - 1)) ?_ ?_
        · have := wrap64 (n := (k : Int) - 1) (by omega) (by omega)
          simp [execOp, go_sem, Op.intArith, eval_slot, slot_put, aput_size, s1, this]
        refine listVal rfl (fun _ h => by cases h) (w' := W') (v := .int .i64 ((k : Int) - 1)) ?_ ?_
        · simp [execOp, eval_slot, slot_put, aput_size, s1]
        refine ⟨hi', by omega, ?_, ?_, ?_, ?_, ?_⟩
        · simp [aput_size, s1]
        · simp [slot_put, aput_size, s1, s2]
        · simp [slot_put, aput_size, s1, s3]
        · simp [slot_put, aput_size, s1]
        · simp [aput_def, s5]
      · refine ⟨_, rfl, ?_⟩
        refine listVal rfl (fun _ h => by cases h) (w' := W') (v := .bool true) ?_ ?_
        · simp [execOp, go_sem, Op.unary, eval_slot, slot_put, aput_size, s1]
        refine wpIn_cond_true (by simp [eval_slot, slot_put, aput_size, s1]) ?_
        refine wpIn_ret ?_
        exact ⟨by simp [aput_def, s5], _, results_none rfl _ _ _, ⟨_, rfl⟩, .inr hs⟩
  · refine ⟨h0, Nat.le_refl _, ?_, ?_, ?_, ?_, ?_⟩ <;> simp [slot, Act.put]

theorem ml_szIntS_ok (a0 : List Int) (a1 : Int) {r : Int} (h : ml_szIntS a0 a1 = some r) :
    AC Tryz.prog (GS []) 80 [.sl false false (a0.map encI), V.i a1] [] (V.i r) [] := by
 rw [ml_szIntS] at h
 refine AC.enter Tryz.func80 rfl ?_
 refine cU 1 100 (tl 12 [(0, .sl false false (a0.map encI)), (1, V.i a1)]) [] ?_
 refine CO.cutR (tl 12 [(1, V.i (IntKind.wrap .i64 (a1 - (a0.length : Int))))]) [] mix (by
  refine wR 2 100 ?_
  refine W.len Dk encI a0 [] (by kernel_rfl) (by kernel_rfl) ?_
  refine wR 2 100 ?_
  exact fI
  ) ?_
 refine CO.seq' ?_
 refine cU 2 100 (tl 12 [(1, V.i (IntKind.wrap .i64 (a1 - (a0.length : Int)))), (10, V.b (decide ((IntKind.wrap .i64 (a1 - (a0.length : Int))) < 0)))]) [] ?_
 refine bC h (fun hc2 h => ?_) (fun hc2 h => ?_)
 ·refine iT hc2 ?_
  refine cU 1 100 (tl 12 [(4, V.i (-1))]) [] ?_
  refine CO.ret ?_
  have h := sI h
  subst h
  exact eG [] (.inr rfl) (RetV.one rfl (oT (t := 4) (r := V.i (-1))))
 refine iF hc2 ?_
 refine CO.skip ?_
 refine cU 2 100 (tl 12 [(4, V.i (IntKind.wrap .i64 (a1 - (a0.length : Int))))]) [] ?_
 refine CO.ret ?_
 have h := sI h
 subst h
 exact eG [] (.inr rfl) (RetV.one rfl (oT (t := 4) (r := V.i (IntKind.wrap .i64 (a1 - (a0.length : Int))))))

theorem ml_szNode_ok (a0 : SNode) (a1 : Int) {r : Int} (h : ml_szNode a0 a1 = some r) :
    AC Tryz.prog (GS []) 40 [.agg [V.i a0.Kind, V.i a0.Op, V.s a0.Text, V.s a0.Other, .sl false false (a0.Kids.map encI)], V.i a1] [] (V.i r) [] := by
 rw [ml_szNode] at h
 refine AC.enter Tryz.func40 rfl ?_
 refine cU 2 100 (tl 26 [(1, V.i a1), (2, .loc 100 0)]) [(100, .cells 63 [V.i a0.Kind, V.i a0.Op, V.s a0.Text, V.s a0.Other, .sl false false (a0.Kids.map encI)])] ?_
 refine cU 6 101 (tl 26 [(1, V.i (IntKind.wrap .i64 (a1 - (a0.Text.length : Int)))), (2, .loc 100 0)]) [(100, .cells 63 [V.i a0.Kind, V.i a0.Op, V.s a0.Text, V.s a0.Other, .sl false false (a0.Kids.map encI)])] ?_
 refine CO.seq' ?_
 refine cU 2 101 (tl 26 [(1, V.i (IntKind.wrap .i64 (a1 - (a0.Text.length : Int)))), (2, .loc 100 0), (11, V.b (decide ((IntKind.wrap .i64 (a1 - (a0.Text.length : Int))) < 0)))]) [(100, .cells 63 [V.i a0.Kind, V.i a0.Op, V.s a0.Text, V.s a0.Other, .sl false false (a0.Kids.map encI)])] ?_
 refine bC h (fun hc2 h => ?_) (fun hc2 h => ?_)
 ·refine iT hc2 ?_
  refine cU 1 101 (tl 26 [(4, V.i (-1))]) [] ?_
  refine CO.ret ?_
  have h := sI h
  subst h
  exact eG [] (.inr rfl) (RetV.one rfl (oT (t := 4) (r := V.i (-1))))
 refine iF hc2 ?_
 refine CO.skip ?_
 refine cU 6 101 (tl 26 [(1, V.i (IntKind.wrap .i64 ((IntKind.wrap .i64 (a1 - (a0.Text.length : Int))) - (a0.Other.length : Int)))), (2, .loc 100 0)]) [(100, .cells 63 [V.i a0.Kind, V.i a0.Op, V.s a0.Text, V.s a0.Other, .sl false false (a0.Kids.map encI)])] ?_
 refine CO.seq' ?_
 refine cU 2 101 (tl 26 [(1, V.i (IntKind.wrap .i64 ((IntKind.wrap .i64 (a1 - (a0.Text.length : Int))) - (a0.Other.length : Int)))), (2, .loc 100 0), (18, V.b (decide ((IntKind.wrap .i64 ((IntKind.wrap .i64 (a1 - (a0.Text.length : Int))) - (a0.Other.length : Int))) < 0)))]) [(100, .cells 63 [V.i a0.Kind, V.i a0.Op, V.s a0.Text, V.s a0.Other, .sl false false (a0.Kids.map encI)])] ?_
 refine bC h (fun hc4 h => ?_) (fun hc4 h => ?_)
 ·refine iT hc4 ?_
  refine cU 1 101 (tl 26 [(4, V.i (-1))]) [] ?_
  refine CO.ret ?_
  have h := sI h
  subst h
  exact eG [] (.inr rfl) (RetV.one rfl (oT (t := 4) (r := V.i (-1))))
 refine iF hc4 ?_
 refine CO.skip ?_
 refine bB h fun r2 hx6 h => ?_
 refine CO.cutR (tl 26 [(1, V.i r2)]) [] mix (by
  refine wR 3 101 ?_
  refine W.call0 (ml_szIntS_ok a0.Kids (IntKind.wrap .i64 ((IntKind.wrap .i64 (a1 - (a0.Text.length : Int))) - (a0.Other.length : Int))) hx6) cok80 rfl (by kernel_rfl) ?_
  refine wR 1 101 ?_
  exact fI
  ) ?_
 refine CO.seq' ?_
 refine cU 2 101 (tl 26 [(1, V.i r2), (24, V.b (decide (r2 < 0)))]) [] ?_
 refine bC h (fun hc8 h => ?_) (fun hc8 h => ?_)
 ·refine iT hc8 ?_
  refine cU 1 101 (tl 26 [(4, V.i (-1))]) [] ?_
  refine CO.ret ?_
  have h := sI h
  subst h
  exact eG [] (.inr rfl) (RetV.one rfl (oT (t := 4) (r := V.i (-1))))
 refine iF hc8 ?_
 refine CO.skip ?_
 refine cU 2 101 (tl 26 [(4, V.i r2)]) [] ?_
 refine CO.ret ?_
 have h := sI h
 subst h
 exact eG [] (.inr rfl) (RetV.one rfl (oT (t := 4) (r := V.i r2)))

theorem ml_szNodeS_ok (N : Nat) (a0 : List SNode) (a1 : Int) {r : Int} (h : ml_szNodeS N a0 a1 = some r) :
    AC Tryz.prog (GS []) 13 [.sl false false (a0.map (eSN false)), V.i a1] [] (V.i r) [] := by
 rw [ml_szNodeS] at h
 refine AC.enter Tryz.func13 rfl ?_
 refine cU 1 100 (tl 27 [(0, .sl false false (a0.map (eSN false))), (1, V.i a1)]) [] ?_
 refine CO.cutR (tl 27 [(0, .sl false false (a0.map (eSN false))), (1, V.i (IntKind.wrap .i64 (a1 - (a0.length : Int))))]) [] mix (by
  refine wR 2 100 ?_
  refine W.len Dk (eSN false) a0 [] (by kernel_rfl) (by kernel_rfl) ?_
  refine wR 2 100 ?_
  exact fI
  ) ?_
 refine CO.seq' ?_
 refine cU 2 100 (tl 27 [(0, .sl false false (a0.map (eSN false))), (1, V.i (IntKind.wrap .i64 (a1 - (a0.length : Int)))), (11, V.b (decide ((IntKind.wrap .i64 (a1 - (a0.length : Int))) < 0)))]) [] ?_
 refine bC h (fun hc2 h => ?_) (fun hc2 h => ?_)
 ·refine iT hc2 ?_
  refine cU 1 100 (tl 27 [(4, V.i (-1))]) [] ?_
  refine CO.ret ?_
  have h := sI h
  subst h
  exact eG [] (.inr rfl) (RetV.one rfl (oT (t := 4) (r := V.i (-1))))
 refine iF hc2 ?_
 refine CO.skip ?_
 refine CO.seq' ?_
 refine cU 1 100 (tl 27 [(0, .sl false false (a0.map (eSN false))), (1, V.i (IntKind.wrap .i64 (a1 - (a0.length : Int)))), (5, V.i 0)]) [] ?_
 refine CO.block' ?_
 refine CO.loopJ (fun (⟨a0, y37, y38⟩ : ((List SNode) × Int × Int)) => ⟨tl 27 [(0, .sl false false (a0.map (eSN false))), (1, V.i y37), (5, V.i y38)], []⟩) (fun n i => ml_szNodeS_l1 N n i = some r) (n0 := N) (i0 := (a0, (IntKind.wrap .i64 (a1 - (a0.length : Int))), 0)) (wS [] [0, 1, 5]) h (fun i h => by simp [ml_szNodeS_l1] at h) ?_
 rintro n1 ⟨a0, y37, y38⟩ h65 ih66
 rw [ml_szNodeS_l1] at h65
 refine CO.seq' ?_
 refine CO.cutR (tl 27 [(0, .sl false false (a0.map (eSN false))), (1, V.i y37), (5, V.i y38), (15, V.b (decide (y38 < (a0.length : Int))))]) [] mix (by
  refine wR 2 160 ?_
  refine W.len Dk (eSN false) a0 [] (by kernel_rfl) (by kernel_rfl) ?_
  refine wR 1 160 ?_
  exact fI
  ) ?_
 refine bC h65 (fun hc68 h65 => ?_) (fun hc68 h65 => ?_)
 ·refine iT hc68 ?_
  refine CO.skip ?_
  refine CO.seq' ?_
  refine CO.block' ?_
  refine bB h65 fun e55 hx76 h65 => ?_
  refine bB h65 fun r56 hx77 h65 => ?_
  refine CO.cutR (tl 27 [(0, .sl false false (a0.map (eSN false))), (1, V.i r56), (5, V.i y38)]) [] mix (by
   refine wR 2 160 ?_
   refine W.ixD Dk (eSN false) hx76 5 (by kernel_rfl) (by kernel_rfl) ?_
   refine wR 2 160 ?_
   refine W.call0 (ml_szNode_ok e55 y37 hx77) cok40 rfl (by kernel_rfl) ?_
   refine wR 1 160 ?_
   exact fI
   ) ?_
  refine cU 2 160 (tl 27 [(0, .sl false false (a0.map (eSN false))), (1, V.i r56), (5, V.i y38), (25, V.b (decide (r56 < 0)))]) [] ?_
  refine bC h65 (fun hc78 h65 => ?_) (fun hc78 h65 => ?_)
  ·refine iT hc78 ?_
   refine cU 1 160 (tl 27 [(4, V.i (-1))]) [] ?_
   refine CO.ret ?_
   have h65 := sI h65
   subst h65
   exact eG [] (.inr rfl) (RetV.one rfl (oT (t := 4) (r := V.i (-1))))
  refine iF hc78 ?_
  refine CO.skip ?_
  refine cE 3 160 (tl 27 [(0, .sl false false (a0.map (eSN false))), (1, V.i r56), (5, V.i (IntKind.wrap .i64 (y38 + 1)))]) [] (fun st hw => ?_)
  exact ih66 (a0, r56, (IntKind.wrap .i64 (y38 + 1))) h65 _ (hw.trans (wS [] [0, 1, 5]))
 refine iF hc68 ?_
 refine CO.exit ?_
 refine cU 2 160 (tl 27 [(4, V.i y37)]) [] ?_
 refine CO.ret ?_
 have h65 := sI h65
 subst h65
 exact eG [] (.inr rfl) (RetV.one rfl (oT (t := 4) (r := V.i y37)))

theorem ml_toIntS_ok (N : Nat) (a0 : List Int) {r : (List Int)} (h : ml_toIntS N a0 = some r) :
    AC Tryz.prog (GS []) 85 [.sl false false (a0.map encI)] [] (.own 100) [(100, .vec false 3 1 (r.map encI))] := by
 rw [ml_toIntS] at h
 refine AC.enter Tryz.func85 rfl ?_
 refine cU 1 100 (tl 22 [(0, .sl false false (a0.map encI))]) [] ?_
 refine bB h fun x2 hx2 h => ?_
 refine CO.cutR (tl 22 [(0, .sl false false (a0.map encI)), (3, .own 100)]) [(100, .vec false 3 1 (x2.map encI))] mix (by
  refine wR 1 100 ?_
  refine W.len Dk encI a0 [] (by kernel_rfl) (by kernel_rfl) ?_
  refine W.mk Dk encI 8 hx2 100 3 1 [.int .i64 0] (by kernel_rfl) (by kernel_rfl) ?_
  refine wR 1 101 ?_
  exact fI
  ) ?_
 refine CO.seq' ?_
 refine cU 1 101 (tl 22 [(0, .sl false false (a0.map encI)), (3, .own 100), (4, V.i 0)]) [(100, .vec false 3 1 (x2.map encI))] ?_
 refine CO.block' ?_
 refine CO.loopJ (fun (⟨a0, y55, y56⟩ : ((List Int) × Int × (List Int))) => ⟨tl 22 [(0, .sl false false (a0.map encI)), (3, .own 100), (4, V.i y55)], [(100, .vec false 3 1 (y56.map encI))]⟩) (fun n i => ml_toIntS_l1 N n i = some r) (n0 := N) (i0 := (a0, 0, x2)) (wS [(100, 100)] [0, 3, 4]) h (fun i h => by simp [ml_toIntS_l1] at h) ?_
 rintro n1 ⟨a0, y55, y56⟩ h75 ih76
 rw [ml_toIntS_l1] at h75
 refine CO.seq' ?_
 refine CO.cutR (tl 22 [(0, .sl false false (a0.map encI)), (3, .own 100), (4, V.i y55), (11, V.b (decide (y55 < (a0.length : Int))))]) [(100, .vec false 3 1 (y56.map encI))] mix (by
  refine wR 2 161 ?_
  refine W.len Dk encI a0 [] (by kernel_rfl) (by kernel_rfl) ?_
  refine wR 1 161 ?_
  exact fI
  ) ?_
 refine bC h75 (fun hc78 h75 => ?_) (fun hc78 h75 => ?_)
 ·refine iT hc78 ?_
  refine CO.skip ?_
  refine CO.seq' ?_
  refine CO.block' ?_
  refine bB h75 fun e80 hx88 h75 => ?_
  refine bB h75 fun e81 hx89 h75 => ?_
  refine bB h75 fun x82 hu90 h75 => ?_
  refine CO.endR (tl 22 [(0, .sl false false (a0.map encI)), (3, .own 100), (4, V.i y55)]) [(100, .vec false 3 1 (x82.map encI))] mix (by
   refine wR 4 161 ?_
   refine W.ixD Dk encI hx88 1 (by kernel_rfl) (by kernel_rfl) ?_
   refine wR 1 161 ?_
   refine W.ixO Dk encI hx89 100 1 (by kernel_rfl) ?_
   refine W.stO Dk encI (x' := e80) hx89 hu90 (j := 100) (nn := false) (ety := 3) (sz := 1) (b := 0) (ys := [V.i e80]) (C := []) (R := []) (by kernel_rfl) (by kernel_rfl) ?_
   exact fI
   ) (fun st hw => ?_)
  refine CO.weak hw ?_
  refine cE 3 161 (tl 22 [(0, .sl false false (a0.map encI)), (3, .own 100), (4, V.i (IntKind.wrap .i64 (y55 + 1)))]) [(100, .vec false 3 1 (x82.map encI))] (fun st hw => ?_)
  exact ih76 (a0, (IntKind.wrap .i64 (y55 + 1)), x82) h75 _ (hw.trans (wS [(100, 100)] [0, 3, 4]))
 refine iF hc78 ?_
 refine CO.exit ?_
 refine cU 2 161 (tl 22 [(2, .own 100)]) [(100, .vec false 3 1 (y56.map encI))] ?_
 refine CO.ret ?_
 have h75 := sI h75
 subst h75
 exact eG [(100, 100)] (.inr rfl) (RetV.one rfl (oT (t := 2) (r := .own 100)))

theorem ml_toNode_ok (N : Nat) (a0 : SNode) {r : SNode} (h : ml_toNode N a0 = some r) :
    AC Tryz.prog (GS []) 43 [.agg [V.i a0.Kind, V.i a0.Op, V.s a0.Text, V.s a0.Other, .sl false false (a0.Kids.map encI)]] [] (.agg [V.i r.Kind, V.i r.Op, V.s r.Text, V.s r.Other, .own 100]) [(100, .vec false 3 1 (r.Kids.map encI))] := by
 rw [ml_toNode] at h
 refine AC.enter Tryz.func43 rfl ?_
 refine cU 2 100 (tl 21 [(1, .loc 100 0), (2, .loc 101 0)]) [(101, .cells 48 [V.i 0, V.i 0, V.s [], V.s [], .c (.slice none 0 0)]), (100, .cells 63 [V.i a0.Kind, V.i a0.Op, V.s a0.Text, V.s a0.Other, .sl false false (a0.Kids.map encI)])] ?_
 refine cU 1 102 (tl 21 [(1, .loc 100 0), (2, .loc 101 0), (3, .loc 102 0)]) [(102, .cells 48 [V.i 0, V.i 0, V.s [], V.s [], .c (.slice none 0 0)]), (101, .cells 48 [V.i 0, V.i 0, V.s [], V.s [], .c (.slice none 0 0)]), (100, .cells 63 [V.i a0.Kind, V.i a0.Op, V.s a0.Text, V.s a0.Other, .sl false false (a0.Kids.map encI)])] ?_
 refine cU 4 103 (tl 21 [(1, .loc 100 0), (2, .loc 101 0), (3, .loc 102 0)]) [(102, .cells 48 [V.i a0.Kind, V.i 0, V.s [], V.s [], .c (.slice none 0 0)]), (101, .cells 48 [V.i 0, V.i 0, V.s [], V.s [], .c (.slice none 0 0)]), (100, .cells 63 [V.i a0.Kind, V.i a0.Op, V.s a0.Text, V.s a0.Other, .sl false false (a0.Kids.map encI)])] ?_
 refine cU 4 103 (tl 21 [(1, .loc 100 0), (2, .loc 101 0), (3, .loc 102 0)]) [(102, .cells 48 [V.i a0.Kind, V.i a0.Op, V.s [], V.s [], .c (.slice none 0 0)]), (101, .cells 48 [V.i 0, V.i 0, V.s [], V.s [], .c (.slice none 0 0)]), (100, .cells 63 [V.i a0.Kind, V.i a0.Op, V.s a0.Text, V.s a0.Other, .sl false false (a0.Kids.map encI)])] ?_
 refine cU 4 103 (tl 21 [(1, .loc 100 0), (2, .loc 101 0), (3, .loc 102 0)]) [(102, .cells 48 [V.i a0.Kind, V.i a0.Op, V.s a0.Text, V.s [], .c (.slice none 0 0)]), (101, .cells 48 [V.i 0, V.i 0, V.s [], V.s [], .c (.slice none 0 0)]), (100, .cells 63 [V.i a0.Kind, V.i a0.Op, V.s a0.Text, V.s a0.Other, .sl false false (a0.Kids.map encI)])] ?_
 refine cU 4 103 (tl 21 [(1, .loc 100 0), (2, .loc 101 0), (3, .loc 102 0)]) [(102, .cells 48 [V.i a0.Kind, V.i a0.Op, V.s a0.Text, V.s a0.Other, .c (.slice none 0 0)]), (101, .cells 48 [V.i 0, V.i 0, V.s [], V.s [], .c (.slice none 0 0)]), (100, .cells 63 [V.i a0.Kind, V.i a0.Op, V.s a0.Text, V.s a0.Other, .sl false false (a0.Kids.map encI)])] ?_
 refine bB h fun r2 hx2 h => ?_
 refine CO.cutR (tl 21 [(2, .loc 101 0), (3, .loc 102 0)]) [(102, .cells 48 [V.i a0.Kind, V.i a0.Op, V.s a0.Text, V.s a0.Other, .own 103]), (103, .vec false 3 1 (r2.map encI)), (101, .cells 48 [V.i 0, V.i 0, V.s [], V.s [], .c (.slice none 0 0)])] mix (by
  refine wR 2 103 ?_
  refine W.call (ml_toIntS_ok N a0.Kids hx2) cok85 [] [(100, 103)] [103] (show LayOk _ [] from trivial) (by kernel_rfl) (by kernel_rfl) ?_
  refine wR 2 104 ?_
  exact fI
  ) ?_
 refine cU 2 104 (tl 21 [(2, .loc 101 0)]) [(101, .cells 48 [V.i a0.Kind, V.i a0.Op, V.s a0.Text, V.s a0.Other, .own 103]), (103, .vec false 3 1 (r2.map encI))] ?_
 refine CO.ret ?_
 have h := sI h
 subst h
 exact eG [(103, 100)] (.inr rfl) (RetV.one rfl (OneR.cell Dk (r := .agg [V.i a0.Kind, V.i a0.Op, V.s a0.Text, V.s a0.Other, .own 103]) (i := 101) (ety := 48) (cs := [V.i a0.Kind, V.i a0.Op, V.s a0.Text, V.s a0.Other, .own 103]) (by kernel_rfl) (by kernel_rfl) (by kernel_rfl)))

theorem ml_toNodeS_ok (N : Nat) (a0 : List SNode) {r : (List SNode)} (h : ml_toNodeS N a0 = some r) :
    AC Tryz.prog (GS []) 15 [.sl false false (a0.map (eSN false))] [] (.own 100) [(100, .vec false 48 5 (r.map (eSN true)))] := by
 rw [ml_toNodeS] at h
 refine AC.enter Tryz.func15 rfl ?_
 refine cU 1 100 (tl 23 [(0, .sl false false (a0.map (eSN false)))]) [] ?_
 refine bB h fun x2 hx2 h => ?_
 refine CO.cutR (tl 23 [(0, .sl false false (a0.map (eSN false))), (3, .own 100)]) [(100, .vec false 48 5 (x2.map (eSN true)))] mix (by
  refine wR 1 100 ?_
  refine W.len Dk (eSN false) a0 [] (by kernel_rfl) (by kernel_rfl) ?_
  refine W.mkN Dk (eSN true) 72 hx2 100 48 5 [.int .i64 0, .int .i64 0, .string ⟨#[]⟩, .string ⟨#[]⟩, .slice none 0 0] (by kernel_rfl) (by kernel_rfl) ?_
  refine wR 1 101 ?_
  exact fI
  ) ?_
 refine CO.seq' ?_
 refine cU 1 101 (tl 23 [(0, .sl false false (a0.map (eSN false))), (3, .own 100), (4, V.i 0)]) [(100, .vec false 48 5 (x2.map (eSN true)))] ?_
 refine CO.block' ?_
 refine CO.loopJ (fun (⟨a0, y71, y72⟩ : ((List SNode) × Int × (List SNode))) => ⟨tl 23 [(0, .sl false false (a0.map (eSN false))), (3, .own 100), (4, V.i y71)], [(100, .vec false 48 5 (y72.map (eSN true)))]⟩) (fun n i => ml_toNodeS_l1 N n i = some r) (n0 := N) (i0 := (a0, 0, x2)) (wS [(100, 100)] [0, 3, 4]) h (fun i h => by simp [ml_toNodeS_l1] at h) ?_
 rintro n1 ⟨a0, y71, y72⟩ h95 ih96
 rw [ml_toNodeS_l1] at h95
 refine CO.seq' ?_
 refine CO.cutR (tl 23 [(0, .sl false false (a0.map (eSN false))), (3, .own 100), (4, V.i y71), (11, V.b (decide (y71 < (a0.length : Int))))]) [(100, .vec false 48 5 (y72.map (eSN true)))] mix (by
  refine wR 2 163 ?_
  refine W.len Dk (eSN false) a0 [] (by kernel_rfl) (by kernel_rfl) ?_
  refine wR 1 163 ?_
  exact fI
  ) ?_
 refine bC h95 (fun hc98 h95 => ?_) (fun hc98 h95 => ?_)
 ·refine iT hc98 ?_
  refine CO.skip ?_
  refine CO.seq' ?_
  refine CO.block' ?_
  refine bB h95 fun e103 hx111 h95 => ?_
  refine bB h95 fun r104 hx112 h95 => ?_
  refine bB h95 fun e105 hx113 h95 => ?_
  refine bB h95 fun x106 hu114 h95 => ?_
  refine CO.endR (tl 23 [(0, .sl false false (a0.map (eSN false))), (3, .own 100), (4, V.i y71)]) [(100, .vec false 48 5 (x106.map (eSN true)))] mix (by
   refine wR 4 163 ?_
   refine W.ixD Dk (eSN false) hx111 5 (by kernel_rfl) (by kernel_rfl) ?_
   refine wR 1 163 ?_
   refine W.call (ml_toNode_ok N e103 hx112) cok43 [] [(100, 163)] [163] (show LayOk _ [] from trivial) (by kernel_rfl) (by kernel_rfl) ?_
   refine W.ixO Dk (eSN true) hx113 100 5 (by kernel_rfl) ?_
   refine W.stO Dk (eSN true) (x' := r104) hx113 hu114 (j := 100) (nn := false) (ety := 48) (sz := 5) (b := 0) (ys := [V.i r104.Kind, V.i r104.Op, V.s r104.Text, V.s r104.Other, .sl false true (r104.Kids.map encI)]) (C := [163]) (R := []) (by kernel_rfl) (by kernel_rfl) ?_
   exact fI
   ) (fun st hw => ?_)
  refine CO.weak hw ?_
  refine cE 3 164 (tl 23 [(0, .sl false false (a0.map (eSN false))), (3, .own 100), (4, V.i (IntKind.wrap .i64 (y71 + 1)))]) [(100, .vec false 48 5 (x106.map (eSN true)))] (fun st hw => ?_)
  exact ih96 (a0, (IntKind.wrap .i64 (y71 + 1)), x106) h95 _ (hw.trans (wS [(100, 100)] [0, 3, 4]))
 refine iF hc98 ?_
 refine CO.exit ?_
 refine cU 2 163 (tl 23 [(2, .own 100)]) [(100, .vec false 48 5 (y72.map (eSN true)))] ?_
 refine CO.ret ?_
 have h95 := sI h95
 subst h95
 exact eG [(100, 100)] (.inr rfl) (RetV.one rfl (oT (t := 2) (r := .own 100)))

theorem ms_l1In_ok (a0 : Int) (a1 : Int) (a2 : Int) {r : Bool} (h : ms_l1In a0 a1 a2 = some r) :
    AC Tryz.prog (GS []) 51 [V.i a0, V.i a1, V.i a2] [] (V.b r) [] := by
 rw [ms_l1In] at h
 refine AC.enter Tryz.func51 rfl ?_
 refine cU 1 100 (tl 15 [(0, V.i a0), (1, V.i a1), (2, V.i a2)]) [] ?_
 refine bB h fun y1 hv2 h => ?_
 refine CO.cutR (tl 15 [(6, V.b y1)]) [] mix (by
  refine wR 4 100 ?_
  refine bC hv2 (fun hc3 hv2 => ?_) (fun hc3 hv2 => ?_)
  ·refine wI 10 hc3 ?_
   refine wR 5 100 ?_
   have hv2 := sI hv2
   subst hv2
   exact fS [] [6]
  refine wI 10 hc3 ?_
  refine wR 5 100 ?_
  have hv2 := sI hv2
  subst hv2
  exact fS [] [6]
  ) ?_
 refine CO.ret ?_
 have h := sI h
 subst h
 exact eG [] (.inr rfl) (RetV.one rfl (oT (t := 6) (r := V.b y1)))

theorem ms_l6Starts_ok (N : Nat) (a0 : List SNode) {r : ((List Int) × Bool)} (h : ms_l6Starts N a0 = some r) :
    AC Tryz.prog (GS []) 98 [.sl false false (a0.map (eSN false))] [] (.tup [.own 100, V.b r.2]) [(100, .vec false 3 1 (r.1.map encI))] := by
 rw [ms_l6Starts] at h
 refine AC.enter Tryz.func98 rfl ?_
 refine cU 2 100 (tl 53 [(0, .sl false false (a0.map (eSN false)))]) [] ?_
 refine cU 2 100 (tl 53 [(0, .sl false false (a0.map (eSN false))), (4, .own 100)]) [(100, .vec false 3 1 ([].map encI))] ?_
 refine CO.seq' ?_
 refine cU 1 101 (tl 53 [(0, .sl false false (a0.map (eSN false))), (4, .own 100), (5, V.i 0)]) [(100, .vec false 3 1 ([].map encI))] ?_
 refine CO.block' ?_
 refine CO.loopJ (fun (⟨a0, y917, y918⟩ : ((List SNode) × Int × (List Int))) => ⟨tl 53 [(0, .sl false false (a0.map (eSN false))), (4, .own 100), (5, V.i y917)], [(100, .vec false 3 1 (y918.map encI))]⟩) (fun n i => ms_l6Starts_l1 N n i = some r) (n0 := N) (i0 := (a0, 0, [])) (wS [(100, 100)] [0, 4, 5]) h (fun i h => by simp [ms_l6Starts_l1] at h) ?_
 rintro n1 ⟨a0, y917, y918⟩ h1961 ih1962
 rw [ms_l6Starts_l1] at h1961
 refine CO.seq' ?_
 refine CO.cutR (tl 53 [(0, .sl false false (a0.map (eSN false))), (4, .own 100), (5, V.i y917), (12, V.b (decide (y917 < (a0.length : Int))))]) [(100, .vec false 3 1 (y918.map encI))] mix (by
  refine wR 2 245 ?_
  refine W.len Dk (eSN false) a0 [] (by kernel_rfl) (by kernel_rfl) ?_
  refine wR 1 245 ?_
  exact fI
  ) ?_
 refine bC h1961 (fun hc1964 h1961 => ?_) (fun hc1964 h1961 => ?_)
 ·refine iT hc1964 ?_
  refine CO.skip ?_
  refine CO.seq' ?_
  refine CO.block' ?_
  refine cU 2 245 (tl 53 [(0, .sl false false (a0.map (eSN false))), (4, .own 100), (5, V.i y917), (6, V.i y917)]) [(100, .vec false 3 1 (y918.map encI))] ?_
  refine CO.seq' ?_
  refine bB h1961 fun e1474 hx2322 h1961 => ?_
  refine CO.cutR (tl 53 [(0, .sl false false (a0.map (eSN false))), (4, .own 100), (5, V.i y917), (6, V.i y917), (7, V.i (IntKind.wrap .i64 ((e1474.Kids.length : Int) - 1)))]) [(100, .vec false 3 1 (y918.map encI))] mix (by
   refine wR 2 245 ?_
   refine W.ixD Dk (eSN false) hx2322 5 (by kernel_rfl) (by kernel_rfl) ?_
   refine wR 2 245 ?_
   refine W.len Dk encI e1474.Kids [] (by kernel_rfl) (by kernel_rfl) ?_
   refine wR 2 245 ?_
   exact fI
   ) ?_
  refine CO.block' ?_
  refine CO.loopJ (fun (⟨a0, y917, y918, y1499, y1500⟩ : ((List SNode) × Int × (List Int) × Int × Int)) => ⟨tl 53 [(0, .sl false false (a0.map (eSN false))), (4, .own 100), (5, V.i y917), (6, V.i y1499), (7, V.i y1500)], [(100, .vec false 3 1 (y918.map encI))]⟩) (fun n i => ms_l6Starts_l2 N (ms_l6Starts_l1 N n1) n i = some r) (n0 := N) (i0 := (a0, y917, y918, y917, (IntKind.wrap .i64 ((e1474.Kids.length : Int) - 1)))) (wS [(100, 100)] [0, 4, 5, 6, 7]) h1961 (fun i h => by simp [ms_l6Starts_l2] at h) ?_
  rintro n2 ⟨a0, y917, y918, y1499, y1500⟩ h2399 ih2400
  rw [ms_l6Starts_l2] at h2399
  refine CO.seq' ?_
  refine cU 2 305 (tl 53 [(0, .sl false false (a0.map (eSN false))), (4, .own 100), (5, V.i y917), (6, V.i y1499), (7, V.i y1500), (24, V.b (decide (y1500 ≥ 0)))]) [(100, .vec false 3 1 (y918.map encI))] ?_
  refine bC h2399 (fun hc2402 h2399 => ?_) (fun hc2402 h2399 => ?_)
  ·refine iT hc2402 ?_
   refine CO.skip ?_
   refine CO.seq' ?_
   refine CO.block' ?_
   refine CO.seq' ?_
   refine bB h2399 fun y1546 hv2432 h2399 => ?_
   refine CO.cutR (tl 53 [(0, .sl false false (a0.map (eSN false))), (4, .own 100), (5, V.i y917), (6, V.i y1499), (7, V.i y1500), (41, V.b y1546)]) [(100, .vec false 3 1 (y918.map encI))] mix (by
    refine wR 2 305 ?_
    refine bB hv2432 fun e1547 hx2433 hv2432 => ?_
    refine W.ixD Dk (eSN false) hx2433 5 (by kernel_rfl) (by kernel_rfl) ?_
    refine wR 3 305 ?_
    refine bB hv2432 fun e1548 hx2434 hv2432 => ?_
    refine W.ixD Dk encI hx2434 1 (by kernel_rfl) (by kernel_rfl) ?_
    refine wR 5 305 ?_
    refine bC hv2432 (fun hc2435 hv2432 => ?_) (fun hc2435 hv2432 => ?_)
    ·refine wI 38 hc2435 ?_
     refine wR 3 305 ?_
     have hv2432 := sI hv2432
     subst hv2432
     exact fS [(100, 100)] [0, 4, 5, 6, 7, 41]
    refine wI 38 hc2435 ?_
    refine wR 3 305 ?_
    have hv2432 := sI hv2432
    subst hv2432
    exact fS [(100, 100)] [0, 4, 5, 6, 7, 41]
    ) ?_
   refine bC h2399 (fun hc2436 h2399 => ?_) (fun hc2436 h2399 => ?_)
   ·refine iT hc2436 ?_
    refine cU 3 305 (tl 53 [(2, .own 305), (3, V.b false)]) [(305, .vec false 3 1 ([].map encI))] ?_
    refine CO.ret ?_
    have h2399 := sI h2399
    subst h2399
    exact eG [(305, 100)] (.inr rfl) (RetV.two rfl (oT (t := 2) (r := .own 305)) (oT (t := 3) (r := V.b false)))
   refine iF hc2436 ?_
   refine CO.skip ?_
   refine bB h2399 fun e1550 hx2438 h2399 => ?_
   refine CO.endR (tl 53 [(0, .sl false false (a0.map (eSN false))), (4, .own 100), (5, V.i y917), (6, V.i e1550), (7, V.i y1500)]) [(100, .vec false 3 1 (y918.map encI))] mix (by
    refine wR 3 305 ?_
    refine W.ixO Dk encI hx2438 100 1 (by kernel_rfl) ?_
    refine W.ldO Dk encI hx2438 3 100 0 (V.i e1550) (by kernel_rfl) (by kernel_rfl) ?_
    refine wR 1 305 ?_
    exact fI
    ) (fun st hw => ?_)
   refine CO.weak hw ?_
   refine cE 3 305 (tl 53 [(0, .sl false false (a0.map (eSN false))), (4, .own 100), (5, V.i y917), (6, V.i e1550), (7, V.i (IntKind.wrap .i64 (y1500 - 1)))]) [(100, .vec false 3 1 (y918.map encI))] (fun st hw => ?_)
   exact ih2400 (a0, y917, y918, e1550, (IntKind.wrap .i64 (y1500 - 1))) h2399 _ (hw.trans (wS [(100, 100)] [0, 4, 5, 6, 7]))
  refine iF hc2402 ?_
  refine CO.exit ?_
  refine bB h2399 fun x1552 hx2440 h2399 => ?_
  refine CO.endR (tl 53 [(0, .sl false false (a0.map (eSN false))), (4, .own 306), (5, V.i y917)]) [(306, .vec false 3 1 (x1552.map encI))] mix (by
   refine wR 3 305 ?_
   refine W.appO Dk encI (a := 100) (c := 305) (el := 3) (sz := 1) 8 hx2440 rfl 306 (by kernel_rfl) ?_
   refine wR 1 307 ?_
   exact fI
   ) (fun st hw => ?_)
  refine CO.weak hw ?_
  refine cE 3 307 (tl 53 [(0, .sl false false (a0.map (eSN false))), (4, .own 306), (5, V.i (IntKind.wrap .i64 (y917 + 1)))]) [(306, .vec false 3 1 (x1552.map encI))] (fun st hw => ?_)
  exact ih1962 (a0, (IntKind.wrap .i64 (y917 + 1)), x1552) h2399 _ (hw.trans (wS [(306, 100)] [0, 4, 5]))
 refine iF hc1964 ?_
 refine CO.exit ?_
 refine cU 3 245 (tl 53 [(2, .own 100), (3, V.b true)]) [(100, .vec false 3 1 (y918.map encI))] ?_
 refine CO.ret ?_
 have h1961 := sI h1961
 subst h1961
 exact eG [(100, 100)] (.inr rfl) (RetV.two rfl (oT (t := 2) (r := .own 100)) (oT (t := 3) (r := V.b true)))

theorem ms_ShapeOk_ok (N : Nat) (a0 : List SNode) {r : Bool} (h : ms_ShapeOk N a0 = some r) :
    AC Tryz.prog (GS []) 68 [.sl false false (a0.map (eSN false))] [] (V.b r) [] := by
 rw [ms_ShapeOk] at h
 refine AC.enter Tryz.func68 rfl ?_
 refine cU 1 100 (tl 24 [(0, .sl false false (a0.map (eSN false)))]) [] ?_
 refine CO.seq' ?_
 refine bB h fun r4 hx5 h => ?_
 refine CO.cutR (tl 24 [(0, .sl false false (a0.map (eSN false))), (8, V.b (!r4))]) [] mix (by
  refine wR 1 100 ?_
  refine W.len Dk (eSN false) a0 [] (by kernel_rfl) (by kernel_rfl) ?_
  refine W.call0 (ms_l1In_ok (a0.length : Int) 1 400 hx5) cok51 rfl (by kernel_rfl) ?_
  refine wR 1 100 ?_
  exact fI
  ) ?_
 refine bC h (fun hc6 h => ?_) (fun hc6 h => ?_)
 ·refine iT hc6 ?_
  refine cU 1 100 (tl 24 [(2, V.b false)]) [] ?_
  refine CO.ret ?_
  have h := sI h
  subst h
  exact eG [] (.inr rfl) (RetV.one rfl (oT (t := 2) (r := V.b false)))
 refine iF hc6 ?_
 refine CO.skip ?_
 refine bB h fun r6 hx8 h => ?_
 refine CO.cutR (tl 24 [(0, .sl false false (a0.map (eSN false))), (3, .own 100), (4, V.b r6.2)]) [(100, .vec false 3 1 (r6.1.map encI))] mix (by
  refine wR 1 100 ?_
  refine W.call (ms_l6Starts_ok N a0 hx8) cok98 [] [(100, 100)] [100] (show LayOk _ [] from trivial) (by kernel_rfl) (by kernel_rfl) ?_
  refine wR 5 101 ?_
  exact fI
  ) ?_
 refine bB h fun y8 hv11 h => ?_
 refine CO.cutR (tl 24 [(2, V.b y8)]) [] mix (by
  refine wR 2 101 ?_
  refine bC hv11 (fun hc12 hv11 => ?_) (fun hc12 hv11 => ?_)
  ·refine wI 15 hc12 ?_
   refine wR 2 101 ?_
   refine W.len Dk (eSN false) a0 [] (by kernel_rfl) (by kernel_rfl) ?_
   refine wR 1 101 ?_
   refine bB hv11 fun e9 hx13 hv11 => ?_
   refine W.ixO Dk encI hx13 100 1 (by kernel_rfl) ?_
   refine W.ldO Dk encI hx13 3 100 0 (V.i e9) (by kernel_rfl) (by kernel_rfl) ?_
   refine wR 3 101 ?_
   have hv11 := sI hv11
   subst hv11
   exact fS [] [2]
  refine wI 15 hc12 ?_
  refine wR 9 101 ?_
  have hv11 := sI hv11
  subst hv11
  exact fS [] [2]
  ) ?_
 refine CO.ret ?_
 have h := sI h
 subst h
 exact eG [] (.inr rfl) (RetV.one rfl (oT (t := 2) (r := V.b y8)))

theorem ms_DepthOf_ok (N : Nat) (a0 : List SNode) {r : Int} (h : ms_DepthOf N a0 = some r) :
    AC Tryz.prog (GS []) 69 [.sl false false (a0.map (eSN false))] [] (V.i r) [] := by
 rw [ms_DepthOf] at h
 refine AC.enter Tryz.func69 rfl ?_
 refine cU 1 100 (tl 51 [(0, .sl false false (a0.map (eSN false)))]) [] ?_
 refine CO.seq' ?_
 refine bB h fun r4 hx5 h => ?_
 refine CO.cutR (tl 51 [(0, .sl false false (a0.map (eSN false))), (9, V.b (!r4))]) [] mix (by
  refine wR 1 100 ?_
  refine W.call0 (ms_ShapeOk_ok N a0 hx5) cok68 rfl (by kernel_rfl) ?_
  refine wR 1 100 ?_
  exact fI
  ) ?_
 refine bC h (fun hc6 h => ?_) (fun hc6 h => ?_)
 ·refine iT hc6 ?_
  refine cU 1 100 (tl 51 [(2, V.i 0)]) [] ?_
  refine CO.ret ?_
  have h := sI h
  subst h
  exact eG [] (.inr rfl) (RetV.one rfl (oT (t := 2) (r := V.i 0)))
 refine iF hc6 ?_
 refine CO.skip ?_
 refine cU 2 100 (tl 51 [(0, .sl false false (a0.map (eSN false))), (3, .own 100)]) [(100, .vec false 3 1 ([].map encI))] ?_
 refine CO.seq' ?_
 refine cU 1 101 (tl 51 [(0, .sl false false (a0.map (eSN false))), (3, .own 100), (4, V.i 0)]) [(100, .vec false 3 1 ([].map encI))] ?_
 refine CO.block' ?_
 refine CO.loopJ (fun (⟨a0, y857, y858⟩ : ((List SNode) × Int × (List Int))) => ⟨tl 51 [(0, .sl false false (a0.map (eSN false))), (3, .own 100), (4, V.i y857)], [(100, .vec false 3 1 (y858.map encI))]⟩) (fun n i => ms_DepthOf_l1 N n i = some r) (n0 := N) (i0 := (a0, 0, [])) (wS [(100, 100)] [0, 3, 4]) h (fun i h => by simp [ms_DepthOf_l1] at h) ?_
 rintro n1 ⟨a0, y857, y858⟩ h1159 ih1160
 rw [ms_DepthOf_l1] at h1159
 refine CO.seq' ?_
 refine CO.cutR (tl 51 [(0, .sl false false (a0.map (eSN false))), (3, .own 100), (4, V.i y857), (14, V.b (decide (y857 < (a0.length : Int))))]) [(100, .vec false 3 1 (y858.map encI))] mix (by
  refine wR 2 285 ?_
  refine W.len Dk (eSN false) a0 [] (by kernel_rfl) (by kernel_rfl) ?_
  refine wR 1 285 ?_
  exact fI
  ) ?_
 refine bC h1159 (fun hc1162 h1159 => ?_) (fun hc1162 h1159 => ?_)
 ·refine iT hc1162 ?_
  refine CO.skip ?_
  refine CO.seq' ?_
  refine CO.block' ?_
  refine cU 1 285 (tl 51 [(0, .sl false false (a0.map (eSN false))), (3, .own 100), (4, V.i y857), (5, V.i 1)]) [(100, .vec false 3 1 (y858.map encI))] ?_
  refine CO.seq' ?_
  refine cU 1 285 (tl 51 [(0, .sl false false (a0.map (eSN false))), (3, .own 100), (4, V.i y857), (5, V.i 1), (6, V.i 0)]) [(100, .vec false 3 1 (y858.map encI))] ?_
  refine CO.block' ?_
  refine CO.loopJ (fun (⟨a0, y857, y858, y1247, y1248⟩ : ((List SNode) × Int × (List Int) × Int × Int)) => ⟨tl 51 [(0, .sl false false (a0.map (eSN false))), (3, .own 100), (4, V.i y857), (5, V.i y1247), (6, V.i y1248)], [(100, .vec false 3 1 (y858.map encI))]⟩) (fun n i => ms_DepthOf_l2 N (ms_DepthOf_l1 N n1) n i = some r) (n0 := N) (i0 := (a0, y857, y858, 1, 0)) (wS [(100, 100)] [0, 3, 4, 5, 6]) h1159 (fun i h => by simp [ms_DepthOf_l2] at h) ?_
  rintro n2 ⟨a0, y857, y858, y1247, y1248⟩ h1369 ih1370
  rw [ms_DepthOf_l2] at h1369
  refine CO.seq' ?_
  refine bB h1369 fun e1270 hx1375 h1369 => ?_
  refine CO.cutR (tl 51 [(0, .sl false false (a0.map (eSN false))), (3, .own 100), (4, V.i y857), (5, V.i y1247), (6, V.i y1248), (24, V.b (decide (y1248 < (e1270.Kids.length : Int))))]) [(100, .vec false 3 1 (y858.map encI))] mix (by
   refine wR 3 345 ?_
   refine W.ixD Dk (eSN false) hx1375 5 (by kernel_rfl) (by kernel_rfl) ?_
   refine wR 2 345 ?_
   refine W.len Dk encI e1270.Kids [] (by kernel_rfl) (by kernel_rfl) ?_
   refine wR 1 345 ?_
   exact fI
   ) ?_
  refine bC h1369 (fun hc1376 h1369 => ?_) (fun hc1376 h1369 => ?_)
  ·refine iT hc1376 ?_
   refine CO.skip ?_
   refine CO.seq' ?_
   refine CO.block' ?_
   refine bB h1369 fun e1280 hx1386 h1369 => ?_
   refine bB h1369 fun e1281 hx1387 h1369 => ?_
   refine bB h1369 fun e1282 hx1388 h1369 => ?_
   refine CO.endR (tl 51 [(0, .sl false false (a0.map (eSN false))), (3, .own 100), (4, V.i y857), (5, V.i (if (IntKind.wrap .i64 (1 + e1282)) > y1247 then (IntKind.wrap .i64 (1 + e1282)) else y1247)), (6, V.i y1248)]) [(100, .vec false 3 1 (y858.map encI))] mix (by
    refine wR 4 345 ?_
    refine W.ixD Dk (eSN false) hx1386 5 (by kernel_rfl) (by kernel_rfl) ?_
    refine wR 3 345 ?_
    refine W.ixD Dk encI hx1387 1 (by kernel_rfl) (by kernel_rfl) ?_
    refine wR 1 345 ?_
    refine W.ixO Dk encI hx1388 100 1 (by kernel_rfl) ?_
    refine W.ldO Dk encI hx1388 3 100 0 (V.i e1282) (by kernel_rfl) (by kernel_rfl) ?_
    refine wR 3 345 ?_
    exact fI
    ) (fun st hw => ?_)
   refine CO.weak hw ?_
   refine cE 3 345 (tl 51 [(0, .sl false false (a0.map (eSN false))), (3, .own 100), (4, V.i y857), (5, V.i (if (IntKind.wrap .i64 (1 + e1282)) > y1247 then (IntKind.wrap .i64 (1 + e1282)) else y1247)), (6, V.i (IntKind.wrap .i64 (y1248 + 1)))]) [(100, .vec false 3 1 (y858.map encI))] (fun st hw => ?_)
   exact ih1370 (a0, y857, y858, (if (IntKind.wrap .i64 (1 + e1282)) > y1247 then (IntKind.wrap .i64 (1 + e1282)) else y1247), (IntKind.wrap .i64 (y1248 + 1))) h1369 _ (hw.trans (wS [(100, 100)] [0, 3, 4, 5, 6]))
  refine iF hc1376 ?_
  refine CO.exit ?_
  refine bB h1369 fun x1284 hx1390 h1369 => ?_
  refine CO.endR (tl 51 [(0, .sl false false (a0.map (eSN false))), (3, .own 346), (4, V.i y857)]) [(346, .vec false 3 1 (x1284.map encI))] mix (by
   refine wR 3 345 ?_
   refine W.appO Dk encI (a := 100) (c := 345) (el := 3) (sz := 1) 8 hx1390 rfl 346 (by kernel_rfl) ?_
   refine wR 1 347 ?_
   exact fI
   ) (fun st hw => ?_)
  refine CO.weak hw ?_
  refine cE 3 347 (tl 51 [(0, .sl false false (a0.map (eSN false))), (3, .own 346), (4, V.i (IntKind.wrap .i64 (y857 + 1)))]) [(346, .vec false 3 1 (x1284.map encI))] (fun st hw => ?_)
  exact ih1160 (a0, (IntKind.wrap .i64 (y857 + 1)), x1284) h1369 _ (hw.trans (wS [(346, 100)] [0, 3, 4]))
 refine iF hc1162 ?_
 refine CO.exit ?_
 refine bB h1159 fun e1286 hx1392 h1159 => ?_
 refine CO.cutR (tl 51 [(2, V.i e1286)]) [] mix (by
  refine wR 2 285 ?_
  refine W.len Dk (eSN false) a0 [] (by kernel_rfl) (by kernel_rfl) ?_
  refine wR 1 285 ?_
  refine W.ixO Dk encI hx1392 100 1 (by kernel_rfl) ?_
  refine W.ldO Dk encI hx1392 3 100 0 (V.i e1286) (by kernel_rfl) (by kernel_rfl) ?_
  refine wR 1 285 ?_
  exact fI
  ) ?_
 refine CO.ret ?_
 have h1159 := sI h1159
 subst h1159
 exact eG [] (.inr rfl) (RetV.one rfl (oT (t := 2) (r := V.i e1286)))

theorem ms_l7Many_ok (a0 : SNode) {r : (Int × Int)} (h : ms_l7Many a0 = some r) :
    AC Tryz.prog (GS []) 99 [.agg [V.i a0.Kind, V.i a0.Op, V.s a0.Text, V.s a0.Other, .sl false false (a0.Kids.map encI)]] [] (.tup [V.i r.1, V.i r.2]) [] := by
 rw [ms_l7Many] at h
 refine AC.enter Tryz.func99 rfl ?_
 refine cU 3 100 (tl 75 [(1, .loc 100 0)]) [(100, .cells 48 [V.i a0.Kind, V.i a0.Op, V.s a0.Text, V.s a0.Other, .sl false false (a0.Kids.map encI)])] ?_
 refine CO.seq' ?_
 refine cU 2 101 (tl 75 [(1, .loc 100 0), (6, V.i a0.Kind)]) [(100, .cells 48 [V.i a0.Kind, V.i a0.Op, V.s a0.Text, V.s a0.Other, .sl false false (a0.Kids.map encI)])] ?_
 refine CO.block' ?_
 refine CO.join (fun (⟨a0, y7⟩ : (SNode × Bool)) => ⟨tl 75 [(1, .loc 100 0), (6, V.i a0.Kind), (7, V.b y7)], [(100, .cells 48 [V.i a0.Kind, V.i a0.Op, V.s a0.Text, V.s a0.Other, .sl false false (a0.Kids.map encI)])]⟩) (fun i => ms_l7Many_k1 i = some r) ?_ ?_
 · rintro ⟨a0, y7⟩ h59
   rw [ms_l7Many_k1] at h59
   refine bC h59 (fun hc60 h59 => ?_) (fun hc60 h59 => ?_)
   ·refine iT hc60 ?_
    refine cU 2 101 (tl 75 [(2, V.i 1), (3, V.i 6)]) [] ?_
    refine CO.ret ?_
    have h59 := sI h59
    subst h59
    exact eG [] (.inr rfl) (RetV.two rfl (oT (t := 2) (r := V.i 1)) (oT (t := 3) (r := V.i 6)))
   refine iF hc60 ?_
   refine CO.join (fun (⟨a0, y8⟩ : (SNode × Bool)) => ⟨tl 75 [(1, .loc 100 0), (6, V.i a0.Kind), (10, V.b y8)], [(100, .cells 48 [V.i a0.Kind, V.i a0.Op, V.s a0.Text, V.s a0.Other, .sl false false (a0.Kids.map encI)])]⟩) (fun i => ms_l7Many_k2 i = some r) ?_ ?_
   · rintro ⟨a0, y8⟩ h63
     rw [ms_l7Many_k2] at h63
     refine bC h63 (fun hc64 h63 => ?_) (fun hc64 h63 => ?_)
     ·refine iT hc64 ?_
      refine cU 2 101 (tl 75 [(2, V.i 0), (3, V.i 6)]) [] ?_
      refine CO.ret ?_
      have h63 := sI h63
      subst h63
      exact eG [] (.inr rfl) (RetV.two rfl (oT (t := 2) (r := V.i 0)) (oT (t := 3) (r := V.i 6)))
     refine iF hc64 ?_
     refine CO.join (fun (⟨a0, y9⟩ : (SNode × Bool)) => ⟨tl 75 [(1, .loc 100 0), (6, V.i a0.Kind), (14, V.b y9)], [(100, .cells 48 [V.i a0.Kind, V.i a0.Op, V.s a0.Text, V.s a0.Other, .sl false false (a0.Kids.map encI)])]⟩) (fun i => ms_l7Many_k3 i = some r) ?_ ?_
     · rintro ⟨a0, y9⟩ h72
       rw [ms_l7Many_k3] at h72
       refine bC h72 (fun hc73 h72 => ?_) (fun hc73 h72 => ?_)
       ·refine iT hc73 ?_
        refine cU 2 101 (tl 75 [(2, V.i 1), (3, V.i 1)]) [] ?_
        refine CO.ret ?_
        have h72 := sI h72
        subst h72
        exact eG [] (.inr rfl) (RetV.two rfl (oT (t := 2) (r := V.i 1)) (oT (t := 3) (r := V.i 1)))
       refine iF hc73 ?_
       refine CO.join (fun (⟨a0, y10⟩ : (SNode × Bool)) => ⟨tl 75 [(1, .loc 100 0), (6, V.i a0.Kind), (23, V.b y10)], [(100, .cells 48 [V.i a0.Kind, V.i a0.Op, V.s a0.Text, V.s a0.Other, .sl false false (a0.Kids.map encI)])]⟩) (fun i => ms_l7Many_k4 i = some r) ?_ ?_
       · rintro ⟨a0, y10⟩ h77
         rw [ms_l7Many_k4] at h77
         refine bC h77 (fun hc78 h77 => ?_) (fun hc78 h77 => ?_)
         ·refine iT hc78 ?_
          refine cU 2 101 (tl 75 [(2, V.i 2), (3, V.i 2)]) [] ?_
          refine CO.ret ?_
          have h77 := sI h77
          subst h77
          exact eG [] (.inr rfl) (RetV.two rfl (oT (t := 2) (r := V.i 2)) (oT (t := 3) (r := V.i 2)))
         refine iF hc78 ?_
         refine cU 2 101 (tl 75 [(1, .loc 100 0), (6, V.i a0.Kind), (28, V.b (a0.Kind == 14))]) [(100, .cells 48 [V.i a0.Kind, V.i a0.Op, V.s a0.Text, V.s a0.Other, .sl false false (a0.Kids.map encI)])] ?_
         refine bC h77 (fun hc79 h77 => ?_) (fun hc79 h77 => ?_)
         ·refine iT hc79 ?_
          refine cU 2 101 (tl 75 [(2, V.i 3), (3, V.i 3)]) [] ?_
          refine CO.ret ?_
          have h77 := sI h77
          subst h77
          exact eG [] (.inr rfl) (RetV.two rfl (oT (t := 2) (r := V.i 3)) (oT (t := 3) (r := V.i 3)))
         refine iF hc79 ?_
         refine cU 2 101 (tl 75 [(1, .loc 100 0), (6, V.i a0.Kind), (30, V.b (a0.Kind == 21))]) [(100, .cells 48 [V.i a0.Kind, V.i a0.Op, V.s a0.Text, V.s a0.Other, .sl false false (a0.Kids.map encI)])] ?_
         refine bC h77 (fun hc80 h77 => ?_) (fun hc80 h77 => ?_)
         ·refine iT hc80 ?_
          refine cU 3 101 (tl 75 [(1, .loc 100 0), (4, V.i a0.Op)]) [(100, .cells 48 [V.i a0.Kind, V.i a0.Op, V.s a0.Text, V.s a0.Other, .sl false false (a0.Kids.map encI)])] ?_
          refine CO.seq' ?_
          refine cU 3 101 (tl 75 [(4, V.i a0.Op), (36, V.b (!(a0.Other == [])))]) [] ?_
          refine bC h77 (fun hc82 h77 => ?_) (fun hc82 h77 => ?_)
          ·refine iT hc82 ?_
           refine cU 4 101 (tl 75 [(2, V.i (IntKind.wrap .i64 (a0.Op + 1))), (3, V.i 7)]) [] ?_
           refine CO.ret ?_
           have h77 := sI h77
           subst h77
           exact eG [] (.inr rfl) (RetV.two rfl (oT (t := 2) (r := V.i (IntKind.wrap .i64 (a0.Op + 1)))) (oT (t := 3) (r := V.i 7)))
          refine iF hc82 ?_
          refine CO.skip ?_
          refine cU 3 101 (tl 75 [(2, V.i a0.Op), (3, V.i 6)]) [] ?_
          refine CO.ret ?_
          have h77 := sI h77
          subst h77
          exact eG [] (.inr rfl) (RetV.two rfl (oT (t := 2) (r := V.i a0.Op)) (oT (t := 3) (r := V.i 6)))
         refine iF hc80 ?_
         refine CO.join (fun (⟨a0, y11⟩ : (SNode × Bool)) => ⟨tl 75 [(1, .loc 100 0), (6, V.i a0.Kind), (40, V.b y11)], [(100, .cells 48 [V.i a0.Kind, V.i a0.Op, V.s a0.Text, V.s a0.Other, .sl false false (a0.Kids.map encI)])]⟩) (fun i => ms_l7Many_k5 i = some r) ?_ ?_
         · rintro ⟨a0, y11⟩ h84
           rw [ms_l7Many_k5] at h84
           refine bC h84 (fun hc85 h84 => ?_) (fun hc85 h84 => ?_)
           ·refine iT hc85 ?_
            refine cU 2 101 (tl 75 [(2, V.i 0), (3, V.i 1)]) [] ?_
            refine CO.ret ?_
            have h84 := sI h84
            subst h84
            exact eG [] (.inr rfl) (RetV.two rfl (oT (t := 2) (r := V.i 0)) (oT (t := 3) (r := V.i 1)))
           refine iF hc85 ?_
           refine cU 2 101 (tl 75 [(1, .loc 100 0), (6, V.i a0.Kind), (43, V.b (a0.Kind == 28))]) [(100, .cells 48 [V.i a0.Kind, V.i a0.Op, V.s a0.Text, V.s a0.Other, .sl false false (a0.Kids.map encI)])] ?_
           refine bC h84 (fun hc86 h84 => ?_) (fun hc86 h84 => ?_)
           ·refine iT hc86 ?_
            refine cU 2 101 (tl 75 [(2, V.i 2), (3, V.i 3)]) [] ?_
            refine CO.ret ?_
            have h84 := sI h84
            subst h84
            exact eG [] (.inr rfl) (RetV.two rfl (oT (t := 2) (r := V.i 2)) (oT (t := 3) (r := V.i 3)))
           refine iF hc86 ?_
           refine cU 2 101 (tl 75 [(1, .loc 100 0), (6, V.i a0.Kind), (45, V.b (a0.Kind == 31))]) [(100, .cells 48 [V.i a0.Kind, V.i a0.Op, V.s a0.Text, V.s a0.Other, .sl false false (a0.Kids.map encI)])] ?_
           refine bC h84 (fun hc87 h84 => ?_) (fun hc87 h84 => ?_)
           ·refine iT hc87 ?_
            refine cU 2 101 (tl 75 [(2, V.i 4), (3, V.i 4)]) [] ?_
            refine CO.ret ?_
            have h84 := sI h84
            subst h84
            exact eG [] (.inr rfl) (RetV.two rfl (oT (t := 2) (r := V.i 4)) (oT (t := 3) (r := V.i 4)))
           refine iF hc87 ?_
           refine CO.join (fun (⟨a0, y12⟩ : (SNode × Bool)) => ⟨tl 75 [(1, .loc 100 0), (6, V.i a0.Kind), (47, V.b y12)], [(100, .cells 48 [V.i a0.Kind, V.i a0.Op, V.s a0.Text, V.s a0.Other, .sl false false (a0.Kids.map encI)])]⟩) (fun i => ms_l7Many_k6 i = some r) ?_ ?_
           · rintro ⟨a0, y12⟩ h89
             rw [ms_l7Many_k6] at h89
             refine bC h89 (fun hc90 h89 => ?_) (fun hc90 h89 => ?_)
             ·refine iT hc90 ?_
              refine CO.cutR (tl 75 [(2, V.i 0), (3, V.i (a0.Kids.length : Int))]) [] mix (by
               refine wR 2 101 ?_
               refine W.len Dk encI a0.Kids [] (by kernel_rfl) (by kernel_rfl) ?_
               refine wR 2 101 ?_
               exact fI
               ) ?_
              refine CO.ret ?_
              have h89 := sI h89
              subst h89
              exact eG [] (.inr rfl) (RetV.two rfl (oT (t := 2) (r := V.i 0)) (oT (t := 3) (r := V.i (a0.Kids.length : Int))))
             refine iF hc90 ?_
             refine cU 2 101 (tl 75 [(1, .loc 100 0), (6, V.i a0.Kind), (53, V.b (a0.Kind == 42))]) [(100, .cells 48 [V.i a0.Kind, V.i a0.Op, V.s a0.Text, V.s a0.Other, .sl false false (a0.Kids.map encI)])] ?_
             refine bC h89 (fun hc91 h89 => ?_) (fun hc91 h89 => ?_)
             ·refine iT hc91 ?_
              refine cU 10 101 (tl 75 [(2, V.i (IntKind.wrap .i64 (1 + (IntKind.wrap .i64 (Int.tdiv a0.Op 3))))), (3, V.i (IntKind.wrap .i64 (1 + (IntKind.wrap .i64 (Int.tdiv a0.Op 3)))))]) [] ?_
              refine CO.ret ?_
              have h89 := sI h89
              subst h89
              exact eG [] (.inr rfl) (RetV.two rfl (oT (t := 2) (r := V.i (IntKind.wrap .i64 (1 + (IntKind.wrap .i64 (Int.tdiv a0.Op 3)))))) (oT (t := 3) (r := V.i (IntKind.wrap .i64 (1 + (IntKind.wrap .i64 (Int.tdiv a0.Op 3)))))))
             refine iF hc91 ?_
             refine cU 2 101 (tl 75 [(1, .loc 100 0), (6, V.i a0.Kind), (63, V.b (a0.Kind == 43))]) [(100, .cells 48 [V.i a0.Kind, V.i a0.Op, V.s a0.Text, V.s a0.Other, .sl false false (a0.Kids.map encI)])] ?_
             refine bC h89 (fun hc92 h89 => ?_) (fun hc92 h89 => ?_)
             ·refine iT hc92 ?_
              refine cU 10 101 (tl 75 [(2, V.i (IntKind.wrap .i64 (2 + (IntKind.wrap .i64 (Int.tdiv a0.Op 3))))), (3, V.i (IntKind.wrap .i64 (2 + (IntKind.wrap .i64 (Int.tdiv a0.Op 3)))))]) [] ?_
              refine CO.ret ?_
              have h89 := sI h89
              subst h89
              exact eG [] (.inr rfl) (RetV.two rfl (oT (t := 2) (r := V.i (IntKind.wrap .i64 (2 + (IntKind.wrap .i64 (Int.tdiv a0.Op 3)))))) (oT (t := 3) (r := V.i (IntKind.wrap .i64 (2 + (IntKind.wrap .i64 (Int.tdiv a0.Op 3)))))))
             refine iF hc92 ?_
             refine cU 2 101 (tl 75 [(73, V.b (a0.Kind == 44))]) [] ?_
             refine bC h89 (fun hc93 h89 => ?_) (fun hc93 h89 => ?_)
             ·refine iT hc93 ?_
              refine cU 2 101 (tl 75 [(2, V.i 1), (3, V.i 7)]) [] ?_
              refine CO.ret ?_
              have h89 := sI h89
              subst h89
              exact eG [] (.inr rfl) (RetV.two rfl (oT (t := 2) (r := V.i 1)) (oT (t := 3) (r := V.i 7)))
             refine iF hc93 ?_
             refine CO.skip ?_
             refine cU 2 101 (tl 75 [(2, V.i 0), (3, V.i 0)]) [] ?_
             refine CO.ret ?_
             have h89 := sI h89
             subst h89
             exact eG [] (.inr rfl) (RetV.two rfl (oT (t := 2) (r := V.i 0)) (oT (t := 3) (r := V.i 0)))
           intro hk94
           refine cU 2 101 (tl 75 [(1, .loc 100 0), (6, V.i a0.Kind), (47, V.b (a0.Kind == 33))]) [(100, .cells 48 [V.i a0.Kind, V.i a0.Op, V.s a0.Text, V.s a0.Other, .sl false false (a0.Kids.map encI)])] ?_
           refine bC h84 (fun hc95 h84 => ?_) (fun hc95 h84 => ?_)
           ·refine iT hc95 ?_
            refine CO.skip ?_
            exact hk94 (a0, (a0.Kind == 33)) h84 _ (wS [(100, 100)] [1, 6, 47])
           refine iF hc95 ?_
           refine cE 2 101 (tl 75 [(1, .loc 100 0), (6, V.i a0.Kind), (47, V.b (a0.Kind == 45))]) [(100, .cells 48 [V.i a0.Kind, V.i a0.Op, V.s a0.Text, V.s a0.Other, .sl false false (a0.Kids.map encI)])] (fun st hw => ?_)
           exact hk94 (a0, (a0.Kind == 45)) h84 _ (hw.trans (wS [(100, 100)] [1, 6, 47]))
         intro hk96
         refine cU 2 101 (tl 75 [(1, .loc 100 0), (6, V.i a0.Kind), (40, V.b (a0.Kind == 23))]) [(100, .cells 48 [V.i a0.Kind, V.i a0.Op, V.s a0.Text, V.s a0.Other, .sl false false (a0.Kids.map encI)])] ?_
         refine bC h77 (fun hc97 h77 => ?_) (fun hc97 h77 => ?_)
         ·refine iT hc97 ?_
          refine CO.skip ?_
          exact hk96 (a0, (a0.Kind == 23)) h77 _ (wS [(100, 100)] [1, 6, 40])
         refine iF hc97 ?_
         refine cE 2 101 (tl 75 [(1, .loc 100 0), (6, V.i a0.Kind), (40, V.b (a0.Kind == 24))]) [(100, .cells 48 [V.i a0.Kind, V.i a0.Op, V.s a0.Text, V.s a0.Other, .sl false false (a0.Kids.map encI)])] (fun st hw => ?_)
         exact hk96 (a0, (a0.Kind == 24)) h77 _ (hw.trans (wS [(100, 100)] [1, 6, 40]))
       intro hk98
       refine cU 2 101 (tl 75 [(1, .loc 100 0), (6, V.i a0.Kind), (23, V.b (a0.Kind == 12))]) [(100, .cells 48 [V.i a0.Kind, V.i a0.Op, V.s a0.Text, V.s a0.Other, .sl false false (a0.Kids.map encI)])] ?_
       refine bC h72 (fun hc99 h72 => ?_) (fun hc99 h72 => ?_)
       ·refine iT hc99 ?_
        refine CO.skip ?_
        exact hk98 (a0, (a0.Kind == 12)) h72 _ (wS [(100, 100)] [1, 6, 23])
       refine iF hc99 ?_
       refine cU 2 101 (tl 75 [(1, .loc 100 0), (6, V.i a0.Kind), (23, V.b (a0.Kind == 15))]) [(100, .cells 48 [V.i a0.Kind, V.i a0.Op, V.s a0.Text, V.s a0.Other, .sl false false (a0.Kids.map encI)])] ?_
       refine bC h72 (fun hc100 h72 => ?_) (fun hc100 h72 => ?_)
       ·refine iT hc100 ?_
        refine CO.skip ?_
        exact hk98 (a0, (a0.Kind == 15)) h72 _ (wS [(100, 100)] [1, 6, 23])
       refine iF hc100 ?_
       refine cU 2 101 (tl 75 [(1, .loc 100 0), (6, V.i a0.Kind), (23, V.b (a0.Kind == 29))]) [(100, .cells 48 [V.i a0.Kind, V.i a0.Op, V.s a0.Text, V.s a0.Other, .sl false false (a0.Kids.map encI)])] ?_
       refine bC h72 (fun hc101 h72 => ?_) (fun hc101 h72 => ?_)
       ·refine iT hc101 ?_
        refine CO.skip ?_
        exact hk98 (a0, (a0.Kind == 29)) h72 _ (wS [(100, 100)] [1, 6, 23])
       refine iF hc101 ?_
       refine cE 2 101 (tl 75 [(1, .loc 100 0), (6, V.i a0.Kind), (23, V.b (a0.Kind == 30))]) [(100, .cells 48 [V.i a0.Kind, V.i a0.Op, V.s a0.Text, V.s a0.Other, .sl false false (a0.Kids.map encI)])] (fun st hw => ?_)
       exact hk98 (a0, (a0.Kind == 30)) h72 _ (hw.trans (wS [(100, 100)] [1, 6, 23]))
     intro hk102
     refine cU 2 101 (tl 75 [(1, .loc 100 0), (6, V.i a0.Kind), (14, V.b (a0.Kind == 6))]) [(100, .cells 48 [V.i a0.Kind, V.i a0.Op, V.s a0.Text, V.s a0.Other, .sl false false (a0.Kids.map encI)])] ?_
     refine bC h63 (fun hc103 h63 => ?_) (fun hc103 h63 => ?_)
     ·refine iT hc103 ?_
      refine CO.skip ?_
      exact hk102 (a0, (a0.Kind == 6)) h63 _ (wS [(100, 100)] [1, 6, 14])
     refine iF hc103 ?_
     refine cU 2 101 (tl 75 [(1, .loc 100 0), (6, V.i a0.Kind), (14, V.b (a0.Kind == 9))]) [(100, .cells 48 [V.i a0.Kind, V.i a0.Op, V.s a0.Text, V.s a0.Other, .sl false false (a0.Kids.map encI)])] ?_
     refine bC h63 (fun hc104 h63 => ?_) (fun hc104 h63 => ?_)
     ·refine iT hc104 ?_
      refine CO.skip ?_
      exact hk102 (a0, (a0.Kind == 9)) h63 _ (wS [(100, 100)] [1, 6, 14])
     refine iF hc104 ?_
     refine cU 2 101 (tl 75 [(1, .loc 100 0), (6, V.i a0.Kind), (14, V.b (a0.Kind == 10))]) [(100, .cells 48 [V.i a0.Kind, V.i a0.Op, V.s a0.Text, V.s a0.Other, .sl false false (a0.Kids.map encI)])] ?_
     refine bC h63 (fun hc105 h63 => ?_) (fun hc105 h63 => ?_)
     ·refine iT hc105 ?_
      refine CO.skip ?_
      exact hk102 (a0, (a0.Kind == 10)) h63 _ (wS [(100, 100)] [1, 6, 14])
     refine iF hc105 ?_
     refine cU 2 101 (tl 75 [(1, .loc 100 0), (6, V.i a0.Kind), (14, V.b (a0.Kind == 11))]) [(100, .cells 48 [V.i a0.Kind, V.i a0.Op, V.s a0.Text, V.s a0.Other, .sl false false (a0.Kids.map encI)])] ?_
     refine bC h63 (fun hc106 h63 => ?_) (fun hc106 h63 => ?_)
     ·refine iT hc106 ?_
      refine CO.skip ?_
      exact hk102 (a0, (a0.Kind == 11)) h63 _ (wS [(100, 100)] [1, 6, 14])
     refine iF hc106 ?_
     refine cU 2 101 (tl 75 [(1, .loc 100 0), (6, V.i a0.Kind), (14, V.b (a0.Kind == 20))]) [(100, .cells 48 [V.i a0.Kind, V.i a0.Op, V.s a0.Text, V.s a0.Other, .sl false false (a0.Kids.map encI)])] ?_
     refine bC h63 (fun hc107 h63 => ?_) (fun hc107 h63 => ?_)
     ·refine iT hc107 ?_
      refine CO.skip ?_
      exact hk102 (a0, (a0.Kind == 20)) h63 _ (wS [(100, 100)] [1, 6, 14])
     refine iF hc107 ?_
     refine cU 2 101 (tl 75 [(1, .loc 100 0), (6, V.i a0.Kind), (14, V.b (a0.Kind == 32))]) [(100, .cells 48 [V.i a0.Kind, V.i a0.Op, V.s a0.Text, V.s a0.Other, .sl false false (a0.Kids.map encI)])] ?_
     refine bC h63 (fun hc108 h63 => ?_) (fun hc108 h63 => ?_)
     ·refine iT hc108 ?_
      refine CO.skip ?_
      exact hk102 (a0, (a0.Kind == 32)) h63 _ (wS [(100, 100)] [1, 6, 14])
     refine iF hc108 ?_
     refine cU 2 101 (tl 75 [(1, .loc 100 0), (6, V.i a0.Kind), (14, V.b (a0.Kind == 40))]) [(100, .cells 48 [V.i a0.Kind, V.i a0.Op, V.s a0.Text, V.s a0.Other, .sl false false (a0.Kids.map encI)])] ?_
     refine bC h63 (fun hc109 h63 => ?_) (fun hc109 h63 => ?_)
     ·refine iT hc109 ?_
      refine CO.skip ?_
      exact hk102 (a0, (a0.Kind == 40)) h63 _ (wS [(100, 100)] [1, 6, 14])
     refine iF hc109 ?_
     refine cE 2 101 (tl 75 [(1, .loc 100 0), (6, V.i a0.Kind), (14, V.b (a0.Kind == 41))]) [(100, .cells 48 [V.i a0.Kind, V.i a0.Op, V.s a0.Text, V.s a0.Other, .sl false false (a0.Kids.map encI)])] (fun st hw => ?_)
     exact hk102 (a0, (a0.Kind == 41)) h63 _ (hw.trans (wS [(100, 100)] [1, 6, 14]))
   intro hk110
   refine cU 2 101 (tl 75 [(1, .loc 100 0), (6, V.i a0.Kind), (10, V.b (a0.Kind == 7))]) [(100, .cells 48 [V.i a0.Kind, V.i a0.Op, V.s a0.Text, V.s a0.Other, .sl false false (a0.Kids.map encI)])] ?_
   refine bC h59 (fun hc111 h59 => ?_) (fun hc111 h59 => ?_)
   ·refine iT hc111 ?_
    refine CO.skip ?_
    exact hk110 (a0, (a0.Kind == 7)) h59 _ (wS [(100, 100)] [1, 6, 10])
   refine iF hc111 ?_
   refine cU 2 101 (tl 75 [(1, .loc 100 0), (6, V.i a0.Kind), (10, V.b (a0.Kind == 8))]) [(100, .cells 48 [V.i a0.Kind, V.i a0.Op, V.s a0.Text, V.s a0.Other, .sl false false (a0.Kids.map encI)])] ?_
   refine bC h59 (fun hc112 h59 => ?_) (fun hc112 h59 => ?_)
   ·refine iT hc112 ?_
    refine CO.skip ?_
    exact hk110 (a0, (a0.Kind == 8)) h59 _ (wS [(100, 100)] [1, 6, 10])
   refine iF hc112 ?_
   refine cE 2 101 (tl 75 [(1, .loc 100 0), (6, V.i a0.Kind), (10, V.b (a0.Kind == 27))]) [(100, .cells 48 [V.i a0.Kind, V.i a0.Op, V.s a0.Text, V.s a0.Other, .sl false false (a0.Kids.map encI)])] (fun st hw => ?_)
   exact hk110 (a0, (a0.Kind == 27)) h59 _ (hw.trans (wS [(100, 100)] [1, 6, 10]))
 intro hk113
 refine cU 2 101 (tl 75 [(1, .loc 100 0), (6, V.i a0.Kind), (7, V.b (a0.Kind == 5))]) [(100, .cells 48 [V.i a0.Kind, V.i a0.Op, V.s a0.Text, V.s a0.Other, .sl false false (a0.Kids.map encI)])] ?_
 refine bC h (fun hc114 h => ?_) (fun hc114 h => ?_)
 ·refine iT hc114 ?_
  refine CO.skip ?_
  exact hk113 (a0, (a0.Kind == 5)) h _ (wS [(100, 100)] [1, 6, 7])
 refine iF hc114 ?_
 refine cE 2 101 (tl 75 [(1, .loc 100 0), (6, V.i a0.Kind), (7, V.b (a0.Kind == 13))]) [(100, .cells 48 [V.i a0.Kind, V.i a0.Op, V.s a0.Text, V.s a0.Other, .sl false false (a0.Kids.map encI)])] (fun st hw => ?_)
 exact hk113 (a0, (a0.Kind == 13)) h _ (hw.trans (wS [(100, 100)] [1, 6, 7]))

theorem ms_l7IsBin_ok (a0 : Int) {r : Bool} (h : ms_l7IsBin a0 = some r) :
    AC Tryz.prog (GS []) 114 [V.i a0] [] (V.b r) [] := by
 rw [ms_l7IsBin] at h
 refine AC.enter Tryz.func114 rfl ?_
 refine cU 1 100 (tl 22 [(0, V.i a0)]) [] ?_
 refine CO.seq' ?_
 refine cU 1 100 (tl 22 [(3, V.i a0)]) [] ?_
 refine CO.block' ?_
 refine CO.join (fun (y2 : Bool) => ⟨tl 22 [(4, V.b y2)], []⟩) (fun i => ms_l7IsBin_k1 i = some r) ?_ ?_
 · rintro y2 h52
   rw [ms_l7IsBin_k1] at h52
   refine bC h52 (fun hc53 h52 => ?_) (fun hc53 h52 => ?_)
   ·refine iT hc53 ?_
    refine cU 1 100 (tl 22 [(2, V.b true)]) [] ?_
    refine CO.ret ?_
    have h52 := sI h52
    subst h52
    exact eG [] (.inr rfl) (RetV.one rfl (oT (t := 2) (r := V.b true)))
   refine iF hc53 ?_
   refine CO.skip ?_
   refine cU 1 100 (tl 22 [(2, V.b false)]) [] ?_
   refine CO.ret ?_
   have h52 := sI h52
   subst h52
   exact eG [] (.inr rfl) (RetV.one rfl (oT (t := 2) (r := V.b false)))
 intro hk54
 refine cU 2 100 (tl 22 [(3, V.i a0), (4, V.b (a0 == 60))]) [] ?_
 refine bC h (fun hc55 h => ?_) (fun hc55 h => ?_)
 ·refine iT hc55 ?_
  refine CO.skip ?_
  exact hk54 (a0 == 60) h _ (wS [] [4])
 refine iF hc55 ?_
 refine cU 2 100 (tl 22 [(3, V.i a0), (4, V.b (a0 == 57))]) [] ?_
 refine bC h (fun hc56 h => ?_) (fun hc56 h => ?_)
 ·refine iT hc56 ?_
  refine CO.skip ?_
  exact hk54 (a0 == 57) h _ (wS [] [4])
 refine iF hc56 ?_
 refine cU 2 100 (tl 22 [(3, V.i a0), (4, V.b (a0 == 58))]) [] ?_
 refine bC h (fun hc57 h => ?_) (fun hc57 h => ?_)
 ·refine iT hc57 ?_
  refine CO.skip ?_
  exact hk54 (a0 == 58) h _ (wS [] [4])
 refine iF hc57 ?_
 refine cU 2 100 (tl 22 [(3, V.i a0), (4, V.b (a0 == 59))]) [] ?_
 refine bC h (fun hc58 h => ?_) (fun hc58 h => ?_)
 ·refine iT hc58 ?_
  refine CO.skip ?_
  exact hk54 (a0 == 59) h _ (wS [] [4])
 refine iF hc58 ?_
 refine cU 2 100 (tl 22 [(3, V.i a0), (4, V.b (a0 == 55))]) [] ?_
 refine bC h (fun hc59 h => ?_) (fun hc59 h => ?_)
 ·refine iT hc59 ?_
  refine CO.skip ?_
  exact hk54 (a0 == 55) h _ (wS [] [4])
 refine iF hc59 ?_
 refine cU 2 100 (tl 22 [(3, V.i a0), (4, V.b (a0 == 56))]) [] ?_
 refine bC h (fun hc60 h => ?_) (fun hc60 h => ?_)
 ·refine iT hc60 ?_
  refine CO.skip ?_
  exact hk54 (a0 == 56) h _ (wS [] [4])
 refine iF hc60 ?_
 refine cU 2 100 (tl 22 [(3, V.i a0), (4, V.b (a0 == 99))]) [] ?_
 refine bC h (fun hc61 h => ?_) (fun hc61 h => ?_)
 ·refine iT hc61 ?_
  refine CO.skip ?_
  exact hk54 (a0 == 99) h _ (wS [] [4])
 refine iF hc61 ?_
 refine cU 2 100 (tl 22 [(3, V.i a0), (4, V.b (a0 == 63))]) [] ?_
 refine bC h (fun hc62 h => ?_) (fun hc62 h => ?_)
 ·refine iT hc62 ?_
  refine CO.skip ?_
  exact hk54 (a0 == 63) h _ (wS [] [4])
 refine iF hc62 ?_
 refine cU 2 100 (tl 22 [(3, V.i a0), (4, V.b (a0 == 48))]) [] ?_
 refine bC h (fun hc63 h => ?_) (fun hc63 h => ?_)
 ·refine iT hc63 ?_
  refine CO.skip ?_
  exact hk54 (a0 == 48) h _ (wS [] [4])
 refine iF hc63 ?_
 refine cU 2 100 (tl 22 [(3, V.i a0), (4, V.b (a0 == 47))]) [] ?_
 refine bC h (fun hc64 h => ?_) (fun hc64 h => ?_)
 ·refine iT hc64 ?_
  refine CO.skip ?_
  exact hk54 (a0 == 47) h _ (wS [] [4])
 refine iF hc64 ?_
 refine cU 2 100 (tl 22 [(3, V.i a0), (4, V.b (a0 == 50))]) [] ?_
 refine bC h (fun hc65 h => ?_) (fun hc65 h => ?_)
 ·refine iT hc65 ?_
  refine CO.skip ?_
  exact hk54 (a0 == 50) h _ (wS [] [4])
 refine iF hc65 ?_
 refine cU 2 100 (tl 22 [(3, V.i a0), (4, V.b (a0 == 62))]) [] ?_
 refine bC h (fun hc66 h => ?_) (fun hc66 h => ?_)
 ·refine iT hc66 ?_
  refine CO.skip ?_
  exact hk54 (a0 == 62) h _ (wS [] [4])
 refine iF hc66 ?_
 refine cU 2 100 (tl 22 [(3, V.i a0), (4, V.b (a0 == 49))]) [] ?_
 refine bC h (fun hc67 h => ?_) (fun hc67 h => ?_)
 ·refine iT hc67 ?_
  refine CO.skip ?_
  exact hk54 (a0 == 49) h _ (wS [] [4])
 refine iF hc67 ?_
 refine cU 2 100 (tl 22 [(3, V.i a0), (4, V.b (a0 == 67))]) [] ?_
 refine bC h (fun hc68 h => ?_) (fun hc68 h => ?_)
 ·refine iT hc68 ?_
  refine CO.skip ?_
  exact hk54 (a0 == 67) h _ (wS [] [4])
 refine iF hc68 ?_
 refine cU 2 100 (tl 22 [(3, V.i a0), (4, V.b (a0 == 46))]) [] ?_
 refine bC h (fun hc69 h => ?_) (fun hc69 h => ?_)
 ·refine iT hc69 ?_
  refine CO.skip ?_
  exact hk54 (a0 == 46) h _ (wS [] [4])
 refine iF hc69 ?_
 refine cU 2 100 (tl 22 [(3, V.i a0), (4, V.b (a0 == 45))]) [] ?_
 refine bC h (fun hc70 h => ?_) (fun hc70 h => ?_)
 ·refine iT hc70 ?_
  refine CO.skip ?_
  exact hk54 (a0 == 45) h _ (wS [] [4])
 refine iF hc70 ?_
 refine cE 2 100 (tl 22 [(4, V.b (a0 == 44))]) [] (fun st hw => ?_)
 exact hk54 (a0 == 44) h _ (hw.trans (wS [] [4]))

theorem ms_l7IsAssign_ok (a0 : Int) {r : Bool} (h : ms_l7IsAssign a0 = some r) :
    AC Tryz.prog (GS []) 115 [V.i a0] [] (V.b r) [] := by
 rw [ms_l7IsAssign] at h
 refine AC.enter Tryz.func115 rfl ?_
 refine cU 1 100 (tl 9 [(0, V.i a0)]) [] ?_
 refine bB h fun y2 hv3 h => ?_
 refine CO.cutR (tl 9 [(2, V.b y2)]) [] mix (by
  refine wR 3 100 ?_
  refine bC hv3 (fun hc4 hv3 => ?_) (fun hc4 hv3 => ?_)
  ·refine wI 5 hc4 ?_
   refine wR 4 100 ?_
   have hv3 := sI hv3
   subst hv3
   exact fS [] [2]
  refine wI 5 hc4 ?_
  refine wR 1 100 ?_
  refine bB hv3 fun r3 hx5 hv3 => ?_
  refine W.call0 (ms_l1In_ok a0 38 43 hx5) cok51 rfl (by kernel_rfl) ?_
  refine wR 2 100 ?_
  have hv3 := sI hv3
  subst hv3
  exact fS [] [2]
  ) ?_
 refine CO.ret ?_
 have h := sI h
 subst h
 exact eG [] (.inr rfl) (RetV.one rfl (oT (t := 2) (r := V.b y2)))

theorem ms_l7Op_ok (a0 : SNode) {r : Bool} (h : ms_l7Op a0 = some r) :
    AC Tryz.prog (GS []) 100 [.agg [V.i a0.Kind, V.i a0.Op, V.s a0.Text, V.s a0.Other, .sl false false (a0.Kids.map encI)]] [] (V.b r) [] := by
 rw [ms_l7Op] at h
 refine AC.enter Tryz.func100 rfl ?_
 refine cU 2 100 (tl 64 [(1, .loc 100 0)]) [(100, .cells 48 [V.i a0.Kind, V.i a0.Op, V.s a0.Text, V.s a0.Other, .sl false false (a0.Kids.map encI)])] ?_
 refine CO.seq' ?_
 refine cU 2 101 (tl 64 [(1, .loc 100 0), (4, V.i a0.Kind)]) [(100, .cells 48 [V.i a0.Kind, V.i a0.Op, V.s a0.Text, V.s a0.Other, .sl false false (a0.Kids.map encI)])] ?_
 refine CO.block' ?_
 refine CO.join (fun (⟨a0, y13⟩ : (SNode × Bool)) => ⟨tl 64 [(1, .loc 100 0), (4, V.i a0.Kind), (5, V.b y13)], [(100, .cells 48 [V.i a0.Kind, V.i a0.Op, V.s a0.Text, V.s a0.Other, .sl false false (a0.Kids.map encI)])]⟩) (fun i => ms_l7Op_k1 i = some r) ?_ ?_
 · rintro ⟨a0, y13⟩ h32
   rw [ms_l7Op_k1] at h32
   refine bC h32 (fun hc33 h32 => ?_) (fun hc33 h32 => ?_)
   ·refine iT hc33 ?_
    refine bB h32 fun y14 hv35 h32 => ?_
    refine CO.cutR (tl 64 [(2, V.b y14)]) [] mix (by
     refine wR 4 101 ?_
     refine bC hv35 (fun hc36 hv35 => ?_) (fun hc36 hv35 => ?_)
     ·refine wI 11 hc36 ?_
      refine wR 5 101 ?_
      have hv35 := sI hv35
      subst hv35
      exact fS [] [2]
     refine wI 11 hc36 ?_
     refine wR 5 101 ?_
     have hv35 := sI hv35
     subst hv35
     exact fS [] [2]
     ) ?_
    refine CO.ret ?_
    have h32 := sI h32
    subst h32
    exact eG [] (.inr rfl) (RetV.one rfl (oT (t := 2) (r := V.b y14)))
   refine iF hc33 ?_
   refine cU 2 101 (tl 64 [(1, .loc 100 0), (4, V.i a0.Kind), (16, V.b (a0.Kind == 11))]) [(100, .cells 48 [V.i a0.Kind, V.i a0.Op, V.s a0.Text, V.s a0.Other, .sl false false (a0.Kids.map encI)])] ?_
   refine bC h32 (fun hc37 h32 => ?_) (fun hc37 h32 => ?_)
   ·refine iT hc37 ?_
    refine bB h32 fun y15 hv40 h32 => ?_
    refine CO.cutR (tl 64 [(2, V.b y15)]) [] mix (by
     refine wR 4 101 ?_
     refine bC hv40 (fun hc41 hv40 => ?_) (fun hc41 hv40 => ?_)
     ·refine wI 21 hc41 ?_
      refine wR 10 101 ?_
      have hv40 := sI hv40
      subst hv40
      exact fS [] [2]
     refine wI 21 hc41 ?_
     refine wR 5 101 ?_
     refine bC hv40 (fun hc42 hv40 => ?_) (fun hc42 hv40 => ?_)
     ·refine wI 26 hc42 ?_
      refine wR 5 101 ?_
      have hv40 := sI hv40
      subst hv40
      exact fS [] [2]
     refine wI 26 hc42 ?_
     refine wR 5 101 ?_
     have hv40 := sI hv40
     subst hv40
     exact fS [] [2]
     ) ?_
    refine CO.ret ?_
    have h32 := sI h32
    subst h32
    exact eG [] (.inr rfl) (RetV.one rfl (oT (t := 2) (r := V.b y15)))
   refine iF hc37 ?_
   refine cU 2 101 (tl 64 [(1, .loc 100 0), (4, V.i a0.Kind), (31, V.b (a0.Kind == 12))]) [(100, .cells 48 [V.i a0.Kind, V.i a0.Op, V.s a0.Text, V.s a0.Other, .sl false false (a0.Kids.map encI)])] ?_
   refine bC h32 (fun hc43 h32 => ?_) (fun hc43 h32 => ?_)
   ·refine iT hc43 ?_
    refine bB h32 fun r17 hx45 h32 => ?_
    refine CO.cutR (tl 64 [(2, V.b r17)]) [] mix (by
     refine wR 2 101 ?_
     refine W.call0 (ms_l7IsBin_ok a0.Op hx45) cok114 rfl (by kernel_rfl) ?_
     refine wR 1 101 ?_
     exact fI
     ) ?_
    refine CO.ret ?_
    have h32 := sI h32
    subst h32
    exact eG [] (.inr rfl) (RetV.one rfl (oT (t := 2) (r := V.b r17)))
   refine iF hc43 ?_
   refine cU 2 101 (tl 64 [(1, .loc 100 0), (4, V.i a0.Kind), (36, V.b (a0.Kind == 15))]) [(100, .cells 48 [V.i a0.Kind, V.i a0.Op, V.s a0.Text, V.s a0.Other, .sl false false (a0.Kids.map encI)])] ?_
   refine bC h32 (fun hc46 h32 => ?_) (fun hc46 h32 => ?_)
   ·refine iT hc46 ?_
    refine bB h32 fun r19 hx48 h32 => ?_
    refine CO.cutR (tl 64 [(2, V.b r19)]) [] mix (by
     refine wR 2 101 ?_
     refine W.call0 (ms_l7IsAssign_ok a0.Op hx48) cok115 rfl (by kernel_rfl) ?_
     refine wR 1 101 ?_
     exact fI
     ) ?_
    refine CO.ret ?_
    have h32 := sI h32
    subst h32
    exact eG [] (.inr rfl) (RetV.one rfl (oT (t := 2) (r := V.b r19)))
   refine iF hc46 ?_
   refine cU 2 101 (tl 64 [(1, .loc 100 0), (4, V.i a0.Kind), (41, V.b (a0.Kind == 21))]) [(100, .cells 48 [V.i a0.Kind, V.i a0.Op, V.s a0.Text, V.s a0.Other, .sl false false (a0.Kids.map encI)])] ?_
   refine bC h32 (fun hc49 h32 => ?_) (fun hc49 h32 => ?_)
   ·refine iT hc49 ?_
    refine bB h32 fun r21 hx51 h32 => ?_
    refine CO.cutR (tl 64 [(2, V.b r21)]) [] mix (by
     refine wR 2 101 ?_
     refine W.call0 (ms_l1In_ok a0.Op 0 1 hx51) cok51 rfl (by kernel_rfl) ?_
     refine wR 1 101 ?_
     exact fI
     ) ?_
    refine CO.ret ?_
    have h32 := sI h32
    subst h32
    exact eG [] (.inr rfl) (RetV.one rfl (oT (t := 2) (r := V.b r21)))
   refine iF hc49 ?_
   refine cU 2 101 (tl 64 [(1, .loc 100 0), (4, V.i a0.Kind), (46, V.b (a0.Kind == 42))]) [(100, .cells 48 [V.i a0.Kind, V.i a0.Op, V.s a0.Text, V.s a0.Other, .sl false false (a0.Kids.map encI)])] ?_
   refine bC h32 (fun hc52 h32 => ?_) (fun hc52 h32 => ?_)
   ·refine iT hc52 ?_
    refine bB h32 fun r23 hx54 h32 => ?_
    refine CO.cutR (tl 64 [(2, V.b r23)]) [] mix (by
     refine wR 2 101 ?_
     refine W.call0 (ms_l1In_ok a0.Op 1 3 hx54) cok51 rfl (by kernel_rfl) ?_
     refine wR 1 101 ?_
     exact fI
     ) ?_
    refine CO.ret ?_
    have h32 := sI h32
    subst h32
    exact eG [] (.inr rfl) (RetV.one rfl (oT (t := 2) (r := V.b r23)))
   refine iF hc52 ?_
   refine cU 2 101 (tl 64 [(1, .loc 100 0), (51, V.b (a0.Kind == 43))]) [(100, .cells 48 [V.i a0.Kind, V.i a0.Op, V.s a0.Text, V.s a0.Other, .sl false false (a0.Kids.map encI)])] ?_
   refine bC h32 (fun hc55 h32 => ?_) (fun hc55 h32 => ?_)
   ·refine iT hc55 ?_
    refine bB h32 fun y24 hv57 h32 => ?_
    refine CO.cutR (tl 64 [(2, V.b y24)]) [] mix (by
     refine wR 4 101 ?_
     refine bC hv57 (fun hc58 hv57 => ?_) (fun hc58 hv57 => ?_)
     ·refine wI 56 hc58 ?_
      refine wR 5 101 ?_
      have hv57 := sI hv57
      subst hv57
      exact fS [] [2]
     refine wI 56 hc58 ?_
     refine wR 5 101 ?_
     have hv57 := sI hv57
     subst hv57
     exact fS [] [2]
     ) ?_
    refine CO.ret ?_
    have h32 := sI h32
    subst h32
    exact eG [] (.inr rfl) (RetV.one rfl (oT (t := 2) (r := V.b y24)))
   refine iF hc55 ?_
   refine CO.skip ?_
   refine cU 4 101 (tl 64 [(2, V.b (a0.Op == 0))]) [] ?_
   refine CO.ret ?_
   have h32 := sI h32
   subst h32
   exact eG [] (.inr rfl) (RetV.one rfl (oT (t := 2) (r := V.b (a0.Op == 0))))
 intro hk59
 refine cU 2 101 (tl 64 [(1, .loc 100 0), (4, V.i a0.Kind), (5, V.b (a0.Kind == 9))]) [(100, .cells 48 [V.i a0.Kind, V.i a0.Op, V.s a0.Text, V.s a0.Other, .sl false false (a0.Kids.map encI)])] ?_
 refine bC h (fun hc60 h => ?_) (fun hc60 h => ?_)
 ·refine iT hc60 ?_
  refine CO.skip ?_
  exact hk59 (a0, (a0.Kind == 9)) h _ (wS [(100, 100)] [1, 4, 5])
 refine iF hc60 ?_
 refine cE 2 101 (tl 64 [(1, .loc 100 0), (4, V.i a0.Kind), (5, V.b (a0.Kind == 10))]) [(100, .cells 48 [V.i a0.Kind, V.i a0.Op, V.s a0.Text, V.s a0.Other, .sl false false (a0.Kids.map encI)])] (fun st hw => ?_)
 exact hk59 (a0, (a0.Kind == 10)) h _ (hw.trans (wS [(100, 100)] [1, 4, 5]))

theorem ms_IsLetter_ok (a0 : Int) {r : Bool} (h : ms_IsLetter a0 = some r) :
    AC Tryz.prog (GS []) 147 [V.i a0] [] (V.b r) [] := by
 rw [ms_IsLetter] at h
 refine AC.enter Tryz.func147 rfl ?_
 refine cU 1 100 (tl 13 [(0, V.i a0)]) [] ?_
 refine bB h fun y3 hv5 h => ?_
 refine CO.cutR (tl 13 [(2, V.b y3)]) [] mix (by
  refine wR 1 100 ?_
  refine bB hv5 fun r4 hx6 hv5 => ?_
  refine W.call0 (ms_l1In_ok a0 97 122 hx6) cok51 rfl (by kernel_rfl) ?_
  refine wR 1 100 ?_
  refine bC hv5 (fun hc7 hv5 => ?_) (fun hc7 hv5 => ?_)
  ·refine wI 5 hc7 ?_
   refine wR 8 100 ?_
   have hv5 := sI hv5
   subst hv5
   exact fS [] [2]
  refine wI 5 hc7 ?_
  refine wR 1 100 ?_
  refine bB hv5 fun r5 hx8 hv5 => ?_
  refine W.call0 (ms_l1In_ok a0 65 90 hx8) cok51 rfl (by kernel_rfl) ?_
  refine wR 2 100 ?_
  refine bC hv5 (fun hc9 hv5 => ?_) (fun hc9 hv5 => ?_)
  ·refine wI 9 hc9 ?_
   refine wR 4 100 ?_
   have hv5 := sI hv5
   subst hv5
   exact fS [] [2]
  refine wI 9 hc9 ?_
  refine wR 4 100 ?_
  have hv5 := sI hv5
  subst hv5
  exact fS [] [2]
  ) ?_
 refine CO.ret ?_
 have h := sI h
 subst h
 exact eG [] (.inr rfl) (RetV.one rfl (oT (t := 2) (r := V.b y3)))

theorem ms_IsDigit_ok (a0 : Int) {r : Bool} (h : ms_IsDigit a0 = some r) :
    AC Tryz.prog (GS []) 161 [V.i a0] [] (V.b r) [] := by
 rw [ms_IsDigit] at h
 refine AC.enter Tryz.func161 rfl ?_
 refine cU 1 100 (tl 5 [(0, V.i a0)]) [] ?_
 refine bB h fun r2 hx2 h => ?_
 refine CO.cutR (tl 5 [(2, V.b r2)]) [] mix (by
  refine wR 1 100 ?_
  refine W.call0 (ms_l1In_ok a0 48 57 hx2) cok51 rfl (by kernel_rfl) ?_
  refine wR 1 100 ?_
  exact fI
  ) ?_
 refine CO.ret ?_
 have h := sI h
 subst h
 exact eG [] (.inr rfl) (RetV.one rfl (oT (t := 2) (r := V.b r2)))

theorem ms_IsWordByte_ok (a0 : Int) {r : Bool} (h : ms_IsWordByte a0 = some r) :
    AC Tryz.prog (GS []) 146 [V.i a0] [] (V.b r) [] := by
 rw [ms_IsWordByte] at h
 refine AC.enter Tryz.func146 rfl ?_
 refine cU 1 100 (tl 9 [(0, V.i a0)]) [] ?_
 refine bB h fun y3 hv4 h => ?_
 refine CO.cutR (tl 9 [(2, V.b y3)]) [] mix (by
  refine wR 1 100 ?_
  refine bB hv4 fun r4 hx5 hv4 => ?_
  refine W.call0 (ms_IsLetter_ok a0 hx5) cok147 rfl (by kernel_rfl) ?_
  refine wR 1 100 ?_
  refine bC hv4 (fun hc6 hv4 => ?_) (fun hc6 hv4 => ?_)
  ·refine wI 5 hc6 ?_
   refine wR 4 100 ?_
   have hv4 := sI hv4
   subst hv4
   exact fS [] [2]
  refine wI 5 hc6 ?_
  refine wR 1 100 ?_
  refine bB hv4 fun r5 hx7 hv4 => ?_
  refine W.call0 (ms_IsDigit_ok a0 hx7) cok161 rfl (by kernel_rfl) ?_
  refine wR 2 100 ?_
  have hv4 := sI hv4
  subst hv4
  exact fS [] [2]
  ) ?_
 refine CO.ret ?_
 have h := sI h
 subst h
 exact eG [] (.inr rfl) (RetV.one rfl (oT (t := 2) (r := V.b y3)))

theorem ms_NameShape_ok (N : Nat) (a0 : List UInt8) {r : Bool} (h : ms_NameShape N a0 = some r) :
    AC Tryz.prog (GS []) 128 [V.s a0] [] (V.b r) [] := by
 rw [ms_NameShape] at h
 refine AC.enter Tryz.func128 rfl ?_
 refine cU 1 100 (tl 25 [(0, V.s a0)]) [] ?_
 refine CO.seq' ?_
 refine cU 1 100 (tl 25 [(0, V.s a0), (3, V.i 0)]) [] ?_
 refine CO.block' ?_
 refine CO.loopJ (fun (⟨a0, y35⟩ : ((List UInt8) × Int)) => ⟨tl 25 [(0, V.s a0), (3, V.i y35)], []⟩) (fun n i => ms_NameShape_l1 N n i = some r) (n0 := N) (i0 := (a0, 0)) (wS [] [0, 3]) h (fun i h => by simp [ms_NameShape_l1] at h) ?_
 rintro n1 ⟨a0, y35⟩ h63 ih64
 rw [ms_NameShape_l1] at h63
 refine CO.seq' ?_
 refine cU 4 160 (tl 25 [(0, V.s a0), (3, V.i y35), (7, V.b (decide (y35 < (a0.length : Int))))]) [] ?_
 refine bC h63 (fun hc66 h63 => ?_) (fun hc66 h63 => ?_)
 ·refine iT hc66 ?_
  refine CO.skip ?_
  refine CO.seq' ?_
  refine CO.block' ?_
  refine bB h63 fun b51 hx74 h63 => ?_
  refine bB h63 fun r52 hx75 h63 => ?_
  refine CO.cutR (tl 25 [(0, V.s a0), (3, V.i y35), (15, V.b (!r52))]) [] mix (by
   refine wR 2 160 ?_
   refine W.ixS Dk hx74 (by kernel_rfl) ?_
   refine wR 1 160 ?_
   refine W.call0 (ms_IsWordByte_ok (IntKind.wrap .i64 ((b51).toNat : Int)) hx75) cok146 rfl (by kernel_rfl) ?_
   refine wR 1 160 ?_
   exact fI
   ) ?_
  refine bC h63 (fun hc76 h63 => ?_) (fun hc76 h63 => ?_)
  ·refine iT hc76 ?_
   refine cU 1 160 (tl 25 [(2, V.b false)]) [] ?_
   refine CO.ret ?_
   have h63 := sI h63
   subst h63
   exact eG [] (.inr rfl) (RetV.one rfl (oT (t := 2) (r := V.b false)))
  refine iF hc76 ?_
  refine CO.skip ?_
  refine cE 3 160 (tl 25 [(0, V.s a0), (3, V.i (IntKind.wrap .i64 (y35 + 1)))]) [] (fun st hw => ?_)
  exact ih64 (a0, (IntKind.wrap .i64 (y35 + 1))) h63 _ (hw.trans (wS [] [0, 3]))
 refine iF hc66 ?_
 refine CO.exit ?_
 refine bB h63 fun y56 hv81 h63 => ?_
 refine CO.cutR (tl 25 [(2, V.b y56)]) [] mix (by
  refine wR 2 160 ?_
  refine bB hv81 fun r57 hx82 hv81 => ?_
  refine W.call0 (ms_l1In_ok (a0.length : Int) 1 12 hx82) cok51 rfl (by kernel_rfl) ?_
  refine wR 1 160 ?_
  refine bC hv81 (fun hc83 hv81 => ?_) (fun hc83 hv81 => ?_)
  ·refine wI 19 hc83 ?_
   refine wR 1 160 ?_
   refine bB hv81 fun b58 hx84 hv81 => ?_
   refine W.ixS Dk hx84 (by kernel_rfl) ?_
   refine wR 1 160 ?_
   refine bB hv81 fun r59 hx85 hv81 => ?_
   refine W.call0 (ms_IsLetter_ok (IntKind.wrap .i64 ((b58).toNat : Int)) hx85) cok147 rfl (by kernel_rfl) ?_
   refine wR 2 160 ?_
   have hv81 := sI hv81
   subst hv81
   exact fS [] [2]
  refine wI 19 hc83 ?_
  refine wR 6 160 ?_
  have hv81 := sI hv81
  subst hv81
  exact fS [] [2]
  ) ?_
 refine CO.ret ?_
 have h63 := sI h63
 subst h63
 exact eG [] (.inr rfl) (RetV.one rfl (oT (t := 2) (r := V.b y56)))

theorem ms_l3Words_ok {r : (List (List UInt8))} (h : ms_l3Words = some r) :
    AC Tryz.prog (GS []) 148 [] [] (.own 100) [(100, .vec false 9 1 (r.map encS))] := by
 rw [ms_l3Words] at h
 refine AC.enter Tryz.func148 rfl ?_
 refine cU 1 100 (tl 2 []) [] ?_
 refine cU 2 100 (tl 2 [(0, .own 100)]) [(100, .vec false 9 1 ([[66, 69, 71, 73, 78], [69, 78, 68], [102, 117, 110, 99, 116, 105, 111, 110], [105, 102], [101, 108, 115, 101], [119, 104, 105, 108, 101], [102, 111, 114], [100, 111], [98, 114, 101, 97, 107], [99, 111, 110, 116, 105, 110, 117, 101], [110, 101, 120, 116], [101, 120, 105, 116], [114, 101, 116, 117, 114, 110], [100, 101, 108, 101, 116, 101], [105, 110], [112, 114, 105, 110, 116], [112, 114, 105, 110, 116, 102]].map encS))] ?_
 refine CO.ret ?_
 have h := sI h
 subst h
 exact eG [(100, 100)] (.inr rfl) (RetV.one rfl (oT (t := 0) (r := .own 100)))

theorem ms_l3Find_ok (N : Nat) (a0 : List (List UInt8)) (a1 : List UInt8) {r : Int} (h : ms_l3Find N a0 a1 = some r) :
    AC Tryz.prog (GS []) 135 [.sl false false (a0.map encS), V.s a1] [] (V.i r) [] := by
 rw [ms_l3Find] at h
 refine AC.enter Tryz.func135 rfl ?_
 refine cU 1 100 (tl 19 [(0, .sl false false (a0.map encS)), (1, V.s a1)]) [] ?_
 refine CO.seq' ?_
 refine cU 1 100 (tl 19 [(0, .sl false false (a0.map encS)), (1, V.s a1), (5, V.i 0)]) [] ?_
 refine CO.block' ?_
 refine CO.loopJ (fun (⟨a0, a1, y19⟩ : ((List (List UInt8)) × (List UInt8) × Int)) => ⟨tl 19 [(0, .sl false false (a0.map encS)), (1, V.s a1), (5, V.i y19)], []⟩) (fun n i => ms_l3Find_l1 N n i = some r) (n0 := N) (i0 := (a0, a1, 0)) (wS [] [0, 1, 5]) h (fun i h => by simp [ms_l3Find_l1] at h) ?_
 rintro n1 ⟨a0, a1, y19⟩ h43 ih44
 rw [ms_l3Find_l1] at h43
 refine CO.seq' ?_
 refine CO.cutR (tl 19 [(0, .sl false false (a0.map encS)), (1, V.s a1), (5, V.i y19), (9, V.b (decide (y19 < (a0.length : Int))))]) [] mix (by
  refine wR 2 160 ?_
  refine W.len Dk encS a0 [] (by kernel_rfl) (by kernel_rfl) ?_
  refine wR 1 160 ?_
  exact fI
  ) ?_
 refine bC h43 (fun hc46 h43 => ?_) (fun hc46 h43 => ?_)
 ·refine iT hc46 ?_
  refine CO.skip ?_
  refine CO.seq' ?_
  refine CO.block' ?_
  refine bB h43 fun e28 hx51 h43 => ?_
  refine CO.cutR (tl 19 [(0, .sl false false (a0.map encS)), (1, V.s a1), (5, V.i y19), (17, V.b (e28 == a1))]) [] mix (by
   refine wR 2 160 ?_
   refine W.ixD Dk encS hx51 1 (by kernel_rfl) (by kernel_rfl) ?_
   refine wR 3 160 ?_
   exact fI
   ) ?_
  refine bC h43 (fun hc52 h43 => ?_) (fun hc52 h43 => ?_)
  ·refine iT hc52 ?_
   refine cU 2 160 (tl 19 [(4, V.i y19)]) [] ?_
   refine CO.ret ?_
   have h43 := sI h43
   subst h43
   exact eG [] (.inr rfl) (RetV.one rfl (oT (t := 4) (r := V.i y19)))
  refine iF hc52 ?_
  refine CO.skip ?_
  refine cE 3 160 (tl 19 [(0, .sl false false (a0.map encS)), (1, V.s a1), (5, V.i (IntKind.wrap .i64 (y19 + 1)))]) [] (fun st hw => ?_)
  exact ih44 (a0, a1, (IntKind.wrap .i64 (y19 + 1))) h43 _ (hw.trans (wS [] [0, 1, 5]))
 refine iF hc46 ?_
 refine CO.exit ?_
 refine cU 1 160 (tl 19 [(4, V.i (-1))]) [] ?_
 refine CO.ret ?_
 have h43 := sI h43
 subst h43
 exact eG [] (.inr rfl) (RetV.one rfl (oT (t := 4) (r := V.i (-1))))

theorem ms_KeywordOf_ok (N : Nat) (a0 : List UInt8) {r : Int} (h : ms_KeywordOf N a0 = some r) :
    AC Tryz.prog (GS []) 129 [V.s a0] [] (V.i r) [] := by
 rw [ms_KeywordOf] at h
 refine AC.enter Tryz.func129 rfl ?_
 refine cU 1 100 (tl 11 [(0, V.s a0)]) [] ?_
 refine bB h fun r3 hx3 h => ?_
 refine bB h fun r4 hx4 h => ?_
 refine CO.cutR (tl 11 [(3, V.i r4)]) [] mix (by
  refine W.call (ms_l3Words_ok  hx3) cok148 [] [(100, 100)] [100] (show LayOk _ [] from trivial) (by kernel_rfl) (by kernel_rfl) ?_
  refine wR 1 101 ?_
  refine W.lend (ms_l3Find_ok N r3 a0 hx4) cok135 [] [] (LayOk.cons (j := 100) encS encS r3 (by kernel_rfl) (fun _ => rfl) (show LayOk _ [] from trivial)) (.c _) .nil (by kernel_rfl) (by kernel_rfl) ?_
  refine wR 1 101 ?_
  exact fI
  ) ?_
 refine CO.seq' ?_
 refine cU 2 101 (tl 11 [(3, V.i r4), (8, V.b (decide (r4 < 0)))]) [] ?_
 refine bC h (fun hc6 h => ?_) (fun hc6 h => ?_)
 ·refine iT hc6 ?_
  refine cU 1 101 (tl 11 [(2, V.i 0)]) [] ?_
  refine CO.ret ?_
  have h := sI h
  subst h
  exact eG [] (.inr rfl) (RetV.one rfl (oT (t := 2) (r := V.i 0)))
 refine iF hc6 ?_
 refine CO.skip ?_
 refine cU 3 101 (tl 11 [(2, V.i (IntKind.wrap .i64 (10 + r4)))]) [] ?_
 refine CO.ret ?_
 have h := sI h
 subst h
 exact eG [] (.inr rfl) (RetV.one rfl (oT (t := 2) (r := V.i (IntKind.wrap .i64 (10 + r4)))))

theorem ms_l3Builtins_ok {r : (List (List UInt8))} (h : ms_l3Builtins = some r) :
    AC Tryz.prog (GS []) 136 [] [] (.own 100) [(100, .vec false 9 1 (r.map encS))] := by
 rw [ms_l3Builtins] at h
 refine AC.enter Tryz.func136 rfl ?_
 refine cU 1 100 (tl 2 []) [] ?_
 refine cU 2 100 (tl 2 [(0, .own 100)]) [(100, .vec false 9 1 ([[97, 116, 97, 110, 50], [99, 108, 111, 115, 101], [99, 111, 115], [101, 120, 112], [103, 115, 117, 98], [105, 110, 100, 101, 120], [105, 110, 116], [108, 101, 110, 103, 116, 104], [108, 111, 103], [109, 97, 116, 99, 104], [114, 97, 110, 100], [115, 105, 110], [115, 112, 108, 105, 116], [115, 112, 114, 105, 110, 116, 102], [115, 113, 114, 116], [115, 114, 97, 110, 100], [115, 117, 98], [115, 117, 98, 115, 116, 114], [115, 121, 115, 116, 101, 109], [116, 111, 108, 111, 119, 101, 114], [116, 111, 117, 112, 112, 101, 114]].map encS))] ?_
 refine CO.ret ?_
 have h := sI h
 subst h
 exact eG [(100, 100)] (.inr rfl) (RetV.one rfl (oT (t := 0) (r := .own 100)))

theorem ms_IsBuiltin_ok (N : Nat) (a0 : List UInt8) {r : Bool} (h : ms_IsBuiltin N a0 = some r) :
    AC Tryz.prog (GS []) 118 [V.s a0] [] (V.b r) [] := by
 rw [ms_IsBuiltin] at h
 refine AC.enter Tryz.func118 rfl ?_
 refine cU 1 100 (tl 7 [(0, V.s a0)]) [] ?_
 refine bB h fun r3 hx3 h => ?_
 refine bB h fun r4 hx4 h => ?_
 refine CO.cutR (tl 7 [(2, V.b (decide (r4 ≥ 0)))]) [] mix (by
  refine W.call (ms_l3Builtins_ok  hx3) cok136 [] [(100, 100)] [100] (show LayOk _ [] from trivial) (by kernel_rfl) (by kernel_rfl) ?_
  refine wR 1 101 ?_
  refine W.lend (ms_l3Find_ok N r3 a0 hx4) cok135 [] [] (LayOk.cons (j := 100) encS encS r3 (by kernel_rfl) (fun _ => rfl) (show LayOk _ [] from trivial)) (.c _) .nil (by kernel_rfl) (by kernel_rfl) ?_
  refine wR 2 101 ?_
  exact fI
  ) ?_
 refine CO.ret ?_
 have h := sI h
 subst h
 exact eG [] (.inr rfl) (RetV.one rfl (oT (t := 2) (r := V.b (decide (r4 ≥ 0)))))

theorem ms_NameOk_ok (N : Nat) (a0 : List UInt8) {r : Bool} (h : ms_NameOk N a0 = some r) :
    AC Tryz.prog (GS []) 116 [V.s a0] [] (V.b r) [] := by
 rw [ms_NameOk] at h
 refine AC.enter Tryz.func116 rfl ?_
 refine cU 1 100 (tl 15 [(0, V.s a0)]) [] ?_
 refine bB h fun y4 hv6 h => ?_
 refine CO.cutR (tl 15 [(2, V.b y4)]) [] mix (by
  refine wR 1 100 ?_
  refine bB hv6 fun r5 hx7 hv6 => ?_
  refine W.call0 (ms_NameShape_ok N a0 hx7) cok128 rfl (by kernel_rfl) ?_
  refine wR 1 100 ?_
  refine bC hv6 (fun hc8 hv6 => ?_) (fun hc8 hv6 => ?_)
  ·refine wI 5 hc8 ?_
   refine wR 1 100 ?_
   refine bB hv6 fun r6 hx9 hv6 => ?_
   refine W.call0 (ms_KeywordOf_ok N a0 hx9) cok129 rfl (by kernel_rfl) ?_
   refine wR 3 100 ?_
   refine bC hv6 (fun hc10 hv6 => ?_) (fun hc10 hv6 => ?_)
   ·refine wI 10 hc10 ?_
    refine wR 1 100 ?_
    refine bB hv6 fun r7 hx11 hv6 => ?_
    refine W.call0 (ms_IsBuiltin_ok N a0 hx11) cok118 rfl (by kernel_rfl) ?_
    refine wR 3 100 ?_
    have hv6 := sI hv6
    subst hv6
    exact fS [] [2]
   refine wI 10 hc10 ?_
   refine wR 5 100 ?_
   have hv6 := sI hv6
   subst hv6
   exact fS [] [2]
  refine wI 5 hc8 ?_
  refine wR 10 100 ?_
  have hv6 := sI hv6
  subst hv6
  exact fS [] [2]
  ) ?_
 refine CO.ret ?_
 have h := sI h
 subst h
 exact eG [] (.inr rfl) (RetV.one rfl (oT (t := 2) (r := V.b y4)))

theorem ms_l4Plain_ok (N : Nat) (a0 : List UInt8) {r : Bool} (h : ms_l4Plain N a0 = some r) :
    AC Tryz.prog (GS []) 130 [V.s a0] [] (V.b r) [] := by
 rw [ms_l4Plain] at h
 refine AC.enter Tryz.func130 rfl ?_
 refine cU 1 100 (tl 14 [(0, V.s a0)]) [] ?_
 refine CO.seq' ?_
 refine cU 1 100 (tl 14 [(0, V.s a0), (3, V.i 0)]) [] ?_
 refine CO.block' ?_
 refine CO.loopJ (fun (⟨a0, y19⟩ : ((List UInt8) × Int)) => ⟨tl 14 [(0, V.s a0), (3, V.i y19)], []⟩) (fun n i => ms_l4Plain_l1 N n i = some r) (n0 := N) (i0 := (a0, 0)) (wS [] [0, 3]) h (fun i h => by simp [ms_l4Plain_l1] at h) ?_
 rintro n1 ⟨a0, y19⟩ h43 ih44
 rw [ms_l4Plain_l1] at h43
 refine CO.seq' ?_
 refine cU 4 160 (tl 14 [(0, V.s a0), (3, V.i y19), (7, V.b (decide (y19 < (a0.length : Int))))]) [] ?_
 refine bC h43 (fun hc46 h43 => ?_) (fun hc46 h43 => ?_)
 ·refine iT hc46 ?_
  refine CO.skip ?_
  refine CO.seq' ?_
  refine CO.block' ?_
  refine bB h43 fun b28 hx51 h43 => ?_
  refine CO.cutR (tl 14 [(0, V.s a0), (3, V.i y19), (13, V.b (((b28).toNat : Int) == 10))]) [] mix (by
   refine wR 2 160 ?_
   refine W.ixS Dk hx51 (by kernel_rfl) ?_
   refine wR 1 160 ?_
   exact fI
   ) ?_
  refine bC h43 (fun hc52 h43 => ?_) (fun hc52 h43 => ?_)
  ·refine iT hc52 ?_
   refine cU 1 160 (tl 14 [(2, V.b false)]) [] ?_
   refine CO.ret ?_
   have h43 := sI h43
   subst h43
   exact eG [] (.inr rfl) (RetV.one rfl (oT (t := 2) (r := V.b false)))
  refine iF hc52 ?_
  refine CO.skip ?_
  refine cE 3 160 (tl 14 [(0, V.s a0), (3, V.i (IntKind.wrap .i64 (y19 + 1)))]) [] (fun st hw => ?_)
  exact ih44 (a0, (IntKind.wrap .i64 (y19 + 1))) h43 _ (hw.trans (wS [] [0, 3]))
 refine iF hc46 ?_
 refine CO.exit ?_
 refine cU 1 160 (tl 14 [(2, V.b true)]) [] ?_
 refine CO.ret ?_
 have h43 := sI h43
 subst h43
 exact eG [] (.inr rfl) (RetV.one rfl (oT (t := 2) (r := V.b true)))

theorem ms_l4Byte_ok (a0 : List UInt8) (a1 : Int) {r : Int} (h : ms_l4Byte a0 a1 = some r) :
    AC Tryz.prog (GS []) 150 [V.s a0, V.i a1] [] (V.i r) [] := by
 rw [ms_l4Byte] at h
 refine AC.enter Tryz.func150 rfl ?_
 refine cU 1 100 (tl 17 [(0, V.s a0), (1, V.i a1)]) [] ?_
 refine CO.seq' ?_
 refine bB h fun y2 hv6 h => ?_
 refine CO.cutR (tl 17 [(0, V.s a0), (1, V.i a1), (12, V.b y2)]) [] mix (by
  refine wR 3 100 ?_
  refine bC hv6 (fun hc7 hv6 => ?_) (fun hc7 hv6 => ?_)
  ·refine wI 7 hc7 ?_
   refine wR 5 100 ?_
   have hv6 := sI hv6
   subst hv6
   exact fS [] [0, 1, 12]
  refine wI 7 hc7 ?_
  refine wR 5 100 ?_
  have hv6 := sI hv6
  subst hv6
  exact fS [] [0, 1, 12]
  ) ?_
 refine bC h (fun hc8 h => ?_) (fun hc8 h => ?_)
 ·refine iT hc8 ?_
  refine cU 1 100 (tl 17 [(4, V.i (-1))]) [] ?_
  refine CO.ret ?_
  have h := sI h
  subst h
  exact eG [] (.inr rfl) (RetV.one rfl (oT (t := 4) (r := V.i (-1))))
 refine iF hc8 ?_
 refine CO.skip ?_
 refine bB h fun b4 hx10 h => ?_
 refine CO.cutR (tl 17 [(4, V.i (IntKind.wrap .i64 ((b4).toNat : Int)))]) [] mix (by
  refine wR 2 100 ?_
  refine W.ixS Dk hx10 (by kernel_rfl) ?_
  refine wR 2 100 ?_
  exact fI
  ) ?_
 refine CO.ret ?_
 have h := sI h
 subst h
 exact eG [] (.inr rfl) (RetV.one rfl (oT (t := 4) (r := V.i (IntKind.wrap .i64 ((b4).toNat : Int)))))

theorem ms_l4Digits_ok (N : Nat) (a0 : List UInt8) (a1 : Int) {r : Int} (h : ms_l4Digits N a0 a1 = some r) :
    AC Tryz.prog (GS []) 149 [V.s a0, V.i a1] [] (V.i r) [] := by
 rw [ms_l4Digits] at h
 refine AC.enter Tryz.func149 rfl ?_
 refine cU 1 100 (tl 12 [(0, V.s a0), (1, V.i a1)]) [] ?_
 refine CO.seq' ?_
 refine CO.block' ?_
 refine CO.loopJ (fun (⟨a0, a1⟩ : ((List UInt8) × Int)) => ⟨tl 12 [(0, V.s a0), (1, V.i a1)], []⟩) (fun n i => ms_l4Digits_l1 N n i = some r) (n0 := N) (i0 := (a0, a1)) (wS [] [0, 1]) h (fun i h => by simp [ms_l4Digits_l1] at h) ?_
 rintro n1 ⟨a0, a1⟩ h33 ih34
 rw [ms_l4Digits_l1] at h33
 refine CO.seq' ?_
 refine bB h33 fun r33 hx42 h33 => ?_
 refine bB h33 fun r34 hx43 h33 => ?_
 refine CO.cutR (tl 12 [(0, V.s a0), (1, V.i a1), (8, V.b r34)]) [] mix (by
  refine wR 2 140 ?_
  refine W.call0 (ms_l4Byte_ok a0 a1 hx42) cok150 rfl (by kernel_rfl) ?_
  refine W.call0 (ms_IsDigit_ok r33 hx43) cok161 rfl (by kernel_rfl) ?_
  exact fI
  ) ?_
 refine bC h33 (fun hc44 h33 => ?_) (fun hc44 h33 => ?_)
 ·refine iT hc44 ?_
  refine CO.skip ?_
  refine CO.block' ?_
  refine cE 3 140 (tl 12 [(0, V.s a0), (1, V.i (IntKind.wrap .i64 (a1 + 1)))]) [] (fun st hw => ?_)
  exact ih34 (a0, (IntKind.wrap .i64 (a1 + 1))) h33 _ (hw.trans (wS [] [0, 1]))
 refine iF hc44 ?_
 refine CO.exit ?_
 refine cU 2 140 (tl 12 [(4, V.i a1)]) [] ?_
 refine CO.ret ?_
 have h33 := sI h33
 subst h33
 exact eG [] (.inr rfl) (RetV.one rfl (oT (t := 4) (r := V.i a1)))

theorem ms_NumEnd_ok (N : Nat) (a0 : List UInt8) (a1 : Int) {r : Int} (h : ms_NumEnd N a0 a1 = some r) :
    AC Tryz.prog (GS []) 131 [V.s a0, V.i a1] [] (V.i r) [] := by
 rw [ms_NumEnd] at h
 refine AC.enter Tryz.func131 rfl ?_
 refine cU 1 100 (tl 67 [(0, V.s a0), (1, V.i a1)]) [] ?_
 refine CO.seq' ?_
 refine cU 2 100 (tl 67 [(0, V.s a0), (1, V.i a1), (9, V.b (decide (a1 < 0)))]) [] ?_
 refine bC h (fun hc2 h => ?_) (fun hc2 h => ?_)
 ·refine iT hc2 ?_
  refine cU 1 100 (tl 67 [(4, V.i (-1))]) [] ?_
  refine CO.ret ?_
  have h := sI h
  subst h
  exact eG [] (.inr rfl) (RetV.one rfl (oT (t := 4) (r := V.i (-1))))
 refine iF hc2 ?_
 refine CO.skip ?_
 refine bB h fun r2 hx4 h => ?_
 refine CO.cutR (tl 67 [(0, V.s a0), (1, V.i a1), (5, V.i r2)]) [] mix (by
  refine wR 2 100 ?_
  refine W.call0 (ms_l4Digits_ok N a0 a1 hx4) cok149 rfl (by kernel_rfl) ?_
  refine wR 1 100 ?_
  exact fI
  ) ?_
 refine CO.join (fun (⟨a0, a1, y9⟩ : ((List UInt8) × Int × Int)) => ⟨tl 67 [(0, V.s a0), (1, V.i a1), (5, V.i y9)], []⟩) (fun i => ms_NumEnd_k1 N i = some r) ?_ ?_
 · rintro ⟨a0, a1, y9⟩ h18
   rw [ms_NumEnd_k1] at h18
   refine CO.seq' ?_
   refine cU 3 100 (tl 67 [(0, V.s a0), (5, V.i y9), (33, V.b (y9 == a1))]) [] ?_
   refine bC h18 (fun hc20 h18 => ?_) (fun hc20 h18 => ?_)
   ·refine iT hc20 ?_
    refine cU 1 100 (tl 67 [(4, V.i (-1))]) [] ?_
    refine CO.ret ?_
    have h18 := sI h18
    subst h18
    exact eG [] (.inr rfl) (RetV.one rfl (oT (t := 4) (r := V.i (-1))))
   refine iF hc20 ?_
   refine CO.skip ?_
   refine CO.join (fun (y9 : Int) => ⟨tl 67 [(5, V.i y9)], []⟩) (fun i => ms_NumEnd_k2 N i = some r) ?_ ?_
   · rintro y9 h52
     rw [ms_NumEnd_k2] at h52
     refine cU 2 100 (tl 67 [(4, V.i y9)]) [] ?_
     refine CO.ret ?_
     have h52 := sI h52
     subst h52
     exact eG [] (.inr rfl) (RetV.one rfl (oT (t := 4) (r := V.i y9)))
   intro hk53
   refine bB h18 fun y32 hv57 h18 => ?_
   refine CO.cutR (tl 67 [(0, V.s a0), (5, V.i y9), (43, V.b y32)]) [] mix (by
    refine wR 2 100 ?_
    refine bB hv57 fun r33 hx58 hv57 => ?_
    refine W.call0 (ms_l4Byte_ok a0 y9 hx58) cok150 rfl (by kernel_rfl) ?_
    refine wR 2 100 ?_
    refine bC hv57 (fun hc59 hv57 => ?_) (fun hc59 hv57 => ?_)
    ·refine wI 38 hc59 ?_
     refine wR 5 100 ?_
     have hv57 := sI hv57
     subst hv57
     exact fS [] [0, 5, 43]
    refine wI 38 hc59 ?_
    refine wR 2 100 ?_
    refine bB hv57 fun r34 hx60 hv57 => ?_
    refine W.call0 (ms_l4Byte_ok a0 y9 hx60) cok150 rfl (by kernel_rfl) ?_
    refine wR 2 100 ?_
    have hv57 := sI hv57
    subst hv57
    exact fS [] [0, 5, 43]
    ) ?_
   refine bC h18 (fun hc61 h18 => ?_) (fun hc61 h18 => ?_)
   ·refine iT hc61 ?_
    refine cU 3 100 (tl 67 [(0, V.s a0), (5, V.i y9), (7, V.i (IntKind.wrap .i64 (y9 + 1)))]) [] ?_
    refine CO.join (fun (⟨a0, y9, y40⟩ : ((List UInt8) × Int × Int)) => ⟨tl 67 [(0, V.s a0), (5, V.i y9), (7, V.i y40)], []⟩) (fun i => ms_NumEnd_k3 N i = some r) ?_ ?_
    · rintro ⟨a0, y9, y40⟩ h70
      rw [ms_NumEnd_k3] at h70
      refine bB h70 fun r42 hx72 h70 => ?_
      refine CO.cutR (tl 67 [(0, V.s a0), (5, V.i y9), (7, V.i y40), (62, V.b (decide (r42 > y40)))]) [] mix (by
       refine wR 2 100 ?_
       refine W.call0 (ms_l4Digits_ok N a0 y40 hx72) cok149 rfl (by kernel_rfl) ?_
       refine wR 2 100 ?_
       exact fI
       ) ?_
      refine bC h70 (fun hc73 h70 => ?_) (fun hc73 h70 => ?_)
      ·refine iT hc73 ?_
       refine bB h70 fun r44 hx75 h70 => ?_
       refine CO.cutR (tl 67 [(4, V.i r44)]) [] mix (by
        refine wR 2 100 ?_
        refine W.call0 (ms_l4Digits_ok N a0 y40 hx75) cok149 rfl (by kernel_rfl) ?_
        refine wR 1 100 ?_
        exact fI
        ) ?_
       refine CO.ret ?_
       have h70 := sI h70
       subst h70
       exact eG [] (.inr rfl) (RetV.one rfl (oT (t := 4) (r := V.i r44)))
      refine iF hc73 ?_
      refine CO.skip ?_
      exact hk53 y9 h70 _ (wS [] [5])
    intro hk76
    refine bB h18 fun y47 hv80 h18 => ?_
    refine CO.cutR (tl 67 [(0, V.s a0), (5, V.i y9), (7, V.i (IntKind.wrap .i64 (y9 + 1))), (55, V.b y47)]) [] mix (by
     refine wR 2 100 ?_
     refine bB hv80 fun r48 hx81 hv80 => ?_
     refine W.call0 (ms_l4Byte_ok a0 (IntKind.wrap .i64 (y9 + 1)) hx81) cok150 rfl (by kernel_rfl) ?_
     refine wR 2 100 ?_
     refine bC hv80 (fun hc82 hv80 => ?_) (fun hc82 hv80 => ?_)
     ·refine wI 50 hc82 ?_
      refine wR 5 100 ?_
      have hv80 := sI hv80
      subst hv80
      exact fS [] [0, 5, 7, 55]
     refine wI 50 hc82 ?_
     refine wR 2 100 ?_
     refine bB hv80 fun r49 hx83 hv80 => ?_
     refine W.call0 (ms_l4Byte_ok a0 (IntKind.wrap .i64 (y9 + 1)) hx83) cok150 rfl (by kernel_rfl) ?_
     refine wR 2 100 ?_
     have hv80 := sI hv80
     subst hv80
     exact fS [] [0, 5, 7, 55]
     ) ?_
    refine bC h18 (fun hc84 h18 => ?_) (fun hc84 h18 => ?_)
    ·refine iT hc84 ?_
     refine cE 3 100 (tl 67 [(0, V.s a0), (5, V.i y9), (7, V.i (IntKind.wrap .i64 ((IntKind.wrap .i64 (y9 + 1)) + 1)))]) [] (fun st hw => ?_)
     exact hk76 (a0, y9, (IntKind.wrap .i64 ((IntKind.wrap .i64 (y9 + 1)) + 1))) h18 _ (hw.trans (wS [] [0, 5, 7]))
    refine iF hc84 ?_
    refine CO.skip ?_
    exact hk76 (a0, y9, (IntKind.wrap .i64 (y9 + 1))) h18 _ (wS [] [0, 5, 7])
   refine iF hc61 ?_
   refine CO.skip ?_
   exact hk53 y9 h18 _ (wS [] [5])
 intro hk85
 refine bB h fun r51 hx87 h => ?_
 refine CO.cutR (tl 67 [(0, V.s a0), (1, V.i a1), (5, V.i r2), (16, V.b (r51 == 46))]) [] mix (by
  refine wR 2 100 ?_
  refine W.call0 (ms_l4Byte_ok a0 r2 hx87) cok150 rfl (by kernel_rfl) ?_
  refine wR 1 100 ?_
  exact fI
  ) ?_
 refine bC h (fun hc88 h => ?_) (fun hc88 h => ?_)
 ·refine iT hc88 ?_
  refine bB h fun r53 hx90 h => ?_
  refine CO.cutR (tl 67 [(0, V.s a0), (1, V.i a1), (5, V.i r2), (6, V.i r53)]) [] mix (by
   refine wR 3 100 ?_
   refine W.call0 (ms_l4Digits_ok N a0 (IntKind.wrap .i64 (r2 + 1)) hx90) cok149 rfl (by kernel_rfl) ?_
   refine wR 1 100 ?_
   exact fI
   ) ?_
  refine CO.seq' ?_
  refine bB h fun y55 hv96 h => ?_
  refine CO.cutR (tl 67 [(0, V.s a0), (1, V.i a1), (6, V.i r53), (29, V.b y55)]) [] mix (by
   refine wR 4 100 ?_
   refine bC hv96 (fun hc97 hv96 => ?_) (fun hc97 hv96 => ?_)
   ·refine wI 24 hc97 ?_
    refine wR 5 100 ?_
    have hv96 := sI hv96
    subst hv96
    exact fS [] [0, 1, 6, 29]
   refine wI 24 hc97 ?_
   refine wR 5 100 ?_
   have hv96 := sI hv96
   subst hv96
   exact fS [] [0, 1, 6, 29]
   ) ?_
  refine bC h (fun hc98 h => ?_) (fun hc98 h => ?_)
  ·refine iT hc98 ?_
   refine cU 1 100 (tl 67 [(4, V.i (-1))]) [] ?_
   refine CO.ret ?_
   have h := sI h
   subst h
   exact eG [] (.inr rfl) (RetV.one rfl (oT (t := 4) (r := V.i (-1))))
  refine iF hc98 ?_
  refine CO.skip ?_
  refine cE 2 100 (tl 67 [(0, V.s a0), (1, V.i a1), (5, V.i r53)]) [] (fun st hw => ?_)
  exact hk85 (a0, a1, r53) h _ (hw.trans (wS [] [0, 1, 5]))
 refine iF hc88 ?_
 refine CO.skip ?_
 exact hk85 (a0, a1, r2) h _ (wS [] [0, 1, 5])

theorem ms_l4Quoted_ok (N : Nat) (a0 : List UInt8) (a1 : Int) (a2 : Int) {r : Int} (h : ms_l4Quoted N a0 a1 a2 = some r) :
    AC Tryz.prog (GS []) 151 [V.s a0, V.i a1, V.i a2] [] (V.i r) [] := by
 rw [ms_l4Quoted] at h
 refine AC.enter Tryz.func151 rfl ?_
 refine cU 1 100 (tl 40 [(0, V.s a0), (1, V.i a1), (2, V.i a2)]) [] ?_
 refine CO.seq' ?_
 refine bB h fun r4 hx5 h => ?_
 refine CO.cutR (tl 40 [(0, V.s a0), (1, V.i a1), (2, V.i a2), (12, V.b (r4 != a2))]) [] mix (by
  refine wR 2 100 ?_
  refine W.call0 (ms_l4Byte_ok a0 a1 hx5) cok150 rfl (by kernel_rfl) ?_
  refine wR 2 100 ?_
  exact fI
  ) ?_
 refine bC h (fun hc6 h => ?_) (fun hc6 h => ?_)
 ·refine iT hc6 ?_
  refine cU 1 100 (tl 40 [(6, V.i (-1))]) [] ?_
  refine CO.ret ?_
  have h := sI h
  subst h
  exact eG [] (.inr rfl) (RetV.one rfl (oT (t := 6) (r := V.i (-1))))
 refine iF hc6 ?_
 refine CO.skip ?_
 refine CO.seq' ?_
 refine cU 3 100 (tl 40 [(0, V.s a0), (2, V.i a2), (7, V.i (IntKind.wrap .i64 (a1 + 1)))]) [] ?_
 refine CO.block' ?_
 refine CO.loopJ (fun (⟨a0, a2, y43⟩ : ((List UInt8) × Int × Int)) => ⟨tl 40 [(0, V.s a0), (2, V.i a2), (7, V.i y43)], []⟩) (fun n i => ms_l4Quoted_l1 N n i = some r) (n0 := N) (i0 := (a0, a2, (IntKind.wrap .i64 (a1 + 1)))) (wS [] [0, 2, 7]) h (fun i h => by simp [ms_l4Quoted_l1] at h) ?_
 rintro n1 ⟨a0, a2, y43⟩ h109 ih110
 rw [ms_l4Quoted_l1] at h109
 refine CO.seq' ?_
 refine cU 4 160 (tl 40 [(0, V.s a0), (2, V.i a2), (7, V.i y43), (18, V.b (decide (y43 < (a0.length : Int))))]) [] ?_
 refine bC h109 (fun hc112 h109 => ?_) (fun hc112 h109 => ?_)
 ·refine iT hc112 ?_
  refine CO.skip ?_
  refine CO.join (fun (⟨a0, a2, y58⟩ : ((List UInt8) × Int × Int)) => ⟨tl 40 [(0, V.s a0), (2, V.i a2), (7, V.i y58)], []⟩) (fun i => ms_l4Quoted_k2 N (ms_l4Quoted_l1 N n1) i = some r) ?_ ?_
  · rintro ⟨a0, a2, y58⟩ h121
    rw [ms_l4Quoted_k2] at h121
    refine cE 3 160 (tl 40 [(0, V.s a0), (2, V.i a2), (7, V.i (IntKind.wrap .i64 (y58 + 1)))]) [] (fun st hw => ?_)
    exact ih110 (a0, a2, (IntKind.wrap .i64 (y58 + 1))) h121 _ (hw.trans (wS [] [0, 2, 7]))
  intro hk122
  refine CO.block' ?_
  refine bB h109 fun b60 hx124 h109 => ?_
  refine CO.cutR (tl 40 [(0, V.s a0), (2, V.i a2), (7, V.i y43), (24, V.i (IntKind.wrap .i64 ((b60).toNat : Int)))]) [] mix (by
   refine wR 2 160 ?_
   refine W.ixS Dk hx124 (by kernel_rfl) ?_
   refine wR 1 160 ?_
   exact fI
   ) ?_
  refine CO.block' ?_
  refine cU 3 160 (tl 40 [(0, V.s a0), (2, V.i a2), (7, V.i y43), (24, V.i (IntKind.wrap .i64 ((b60).toNat : Int))), (25, V.b ((IntKind.wrap .i64 ((b60).toNat : Int)) == a2))]) [] ?_
  refine bC h109 (fun hc125 h109 => ?_) (fun hc125 h109 => ?_)
  ·refine iT hc125 ?_
   refine cU 3 160 (tl 40 [(6, V.i (IntKind.wrap .i64 (y43 + 1)))]) [] ?_
   refine CO.ret ?_
   have h109 := sI h109
   subst h109
   exact eG [] (.inr rfl) (RetV.one rfl (oT (t := 6) (r := V.i (IntKind.wrap .i64 (y43 + 1)))))
  refine iF hc125 ?_
  refine cU 2 160 (tl 40 [(0, V.s a0), (2, V.i a2), (7, V.i y43), (24, V.i (IntKind.wrap .i64 ((b60).toNat : Int))), (30, V.b ((IntKind.wrap .i64 ((b60).toNat : Int)) == 10))]) [] ?_
  refine bC h109 (fun hc126 h109 => ?_) (fun hc126 h109 => ?_)
  ·refine iT hc126 ?_
   refine cU 1 160 (tl 40 [(6, V.i (-1))]) [] ?_
   refine CO.ret ?_
   have h109 := sI h109
   subst h109
   exact eG [] (.inr rfl) (RetV.one rfl (oT (t := 6) (r := V.i (-1))))
  refine iF hc126 ?_
  refine cU 2 160 (tl 40 [(0, V.s a0), (2, V.i a2), (7, V.i y43), (32, V.b ((IntKind.wrap .i64 ((b60).toNat : Int)) == 92))]) [] ?_
  refine bC h109 (fun hc127 h109 => ?_) (fun hc127 h109 => ?_)
  ·refine iT hc127 ?_
   refine cU 3 160 (tl 40 [(0, V.s a0), (2, V.i a2), (7, V.i (IntKind.wrap .i64 (y43 + 1)))]) [] ?_
   refine bB h109 fun r62 hx129 h109 => ?_
   refine CO.cutR (tl 40 [(0, V.s a0), (2, V.i a2), (7, V.i (IntKind.wrap .i64 (y43 + 1))), (39, V.b (r62 == 10))]) [] mix (by
    refine wR 2 160 ?_
    refine W.call0 (ms_l4Byte_ok a0 (IntKind.wrap .i64 (y43 + 1)) hx129) cok150 rfl (by kernel_rfl) ?_
    refine wR 1 160 ?_
    exact fI
    ) ?_
   refine bC h109 (fun hc130 h109 => ?_) (fun hc130 h109 => ?_)
   ·refine iT hc130 ?_
    refine cU 1 160 (tl 40 [(6, V.i (-1))]) [] ?_
    refine CO.ret ?_
    have h109 := sI h109
    subst h109
    exact eG [] (.inr rfl) (RetV.one rfl (oT (t := 6) (r := V.i (-1))))
   refine iF hc130 ?_
   refine CO.skip ?_
   exact hk122 (a0, a2, (IntKind.wrap .i64 (y43 + 1))) h109 _ (wS [] [0, 2, 7])
  refine iF hc127 ?_
  refine CO.skip ?_
  exact hk122 (a0, a2, y43) h109 _ (wS [] [0, 2, 7])
 refine iF hc112 ?_
 refine CO.exit ?_
 refine cU 1 160 (tl 40 [(6, V.i (-1))]) [] ?_
 refine CO.ret ?_
 have h109 := sI h109
 subst h109
 exact eG [] (.inr rfl) (RetV.one rfl (oT (t := 6) (r := V.i (-1))))

theorem ms_StrEnd_ok (N : Nat) (a0 : List UInt8) (a1 : Int) {r : Int} (h : ms_StrEnd N a0 a1 = some r) :
    AC Tryz.prog (GS []) 132 [V.s a0, V.i a1] [] (V.i r) [] := by
 rw [ms_StrEnd] at h
 refine AC.enter Tryz.func132 rfl ?_
 refine cU 1 100 (tl 8 [(0, V.s a0), (1, V.i a1)]) [] ?_
 refine bB h fun r2 hx2 h => ?_
 refine CO.cutR (tl 8 [(4, V.i r2)]) [] mix (by
  refine wR 2 100 ?_
  refine W.call0 (ms_l4Quoted_ok N a0 a1 34 hx2) cok151 rfl (by kernel_rfl) ?_
  refine wR 1 100 ?_
  exact fI
  ) ?_
 refine CO.ret ?_
 have h := sI h
 subst h
 exact eG [] (.inr rfl) (RetV.one rfl (oT (t := 4) (r := V.i r2)))

theorem ms_EreEnd_ok (N : Nat) (a0 : List UInt8) (a1 : Int) {r : Int} (h : ms_EreEnd N a0 a1 = some r) :
    AC Tryz.prog (GS []) 133 [V.s a0, V.i a1] [] (V.i r) [] := by
 rw [ms_EreEnd] at h
 refine AC.enter Tryz.func133 rfl ?_
 refine cU 1 100 (tl 14 [(0, V.s a0), (1, V.i a1)]) [] ?_
 refine bB h fun r2 hx2 h => ?_
 refine CO.cutR (tl 14 [(1, V.i a1), (5, V.i r2)]) [] mix (by
  refine wR 2 100 ?_
  refine W.call0 (ms_l4Quoted_ok N a0 a1 47 hx2) cok151 rfl (by kernel_rfl) ?_
  refine wR 1 100 ?_
  exact fI
  ) ?_
 refine CO.seq' ?_
 refine cU 4 100 (tl 14 [(5, V.i r2), (12, V.b (r2 == (IntKind.wrap .i64 (a1 + 2))))]) [] ?_
 refine bC h (fun hc4 h => ?_) (fun hc4 h => ?_)
 ·refine iT hc4 ?_
  refine cU 1 100 (tl 14 [(4, V.i (-1))]) [] ?_
  refine CO.ret ?_
  have h := sI h
  subst h
  exact eG [] (.inr rfl) (RetV.one rfl (oT (t := 4) (r := V.i (-1))))
 refine iF hc4 ?_
 refine CO.skip ?_
 refine cU 2 100 (tl 14 [(4, V.i r2)]) [] ?_
 refine CO.ret ?_
 have h := sI h
 subst h
 exact eG [] (.inr rfl) (RetV.one rfl (oT (t := 4) (r := V.i r2)))

theorem ms_l3Signs_ok {r : (List (List UInt8))} (h : ms_l3Signs = some r) :
    AC Tryz.prog (GS []) 152 [] [] (.own 100) [(100, .vec false 9 1 (r.map encS))] := by
 rw [ms_l3Signs] at h
 refine AC.enter Tryz.func152 rfl ?_
 refine cU 1 100 (tl 2 []) [] ?_
 refine cU 2 100 (tl 2 [(0, .own 100)]) [(100, .vec false 9 1 ([[123], [125], [40], [41], [91], [93], [44], [59], [43, 61], [45, 61], [42, 61], [47, 61], [37, 61], [94, 61], [124, 124], [38, 38], [33, 126], [61, 61], [60, 61], [62, 61], [33, 61], [43, 43], [45, 45], [62, 62], [61], [43], [45], [42], [47], [37], [94], [33], [62], [60], [124], [63], [58], [126], [36]].map encS))] ?_
 refine CO.ret ?_
 have h := sI h
 subst h
 exact eG [(100, 100)] (.inr rfl) (RetV.one rfl (oT (t := 0) (r := .own 100)))

theorem ms_SpellOf_ok (a0 : Int) {r : (List UInt8)} (h : ms_SpellOf a0 = some r) :
    AC Tryz.prog (GS []) 134 [V.i a0] [] (V.s r) [] := by
 rw [ms_SpellOf] at h
 refine AC.enter Tryz.func134 rfl ?_
 refine cU 1 100 (tl 22 [(0, V.i a0)]) [] ?_
 refine CO.seq' ?_
 refine CO.block' ?_
 refine cU 3 100 (tl 22 [(0, V.i a0), (3, V.b (a0 == 1))]) [] ?_
 refine bC h (fun hc16 h => ?_) (fun hc16 h => ?_)
 ·refine iT hc16 ?_
  refine cU 1 100 (tl 22 [(2, V.s [10])]) [] ?_
  refine CO.ret ?_
  have h := sI h
  subst h
  exact eG [] (.inr rfl) (RetV.one rfl (oT (t := 2) (r := V.s [10])))
 refine iF hc16 ?_
 refine bB h fun r14 hx18 h => ?_
 refine CO.cutR (tl 22 [(0, V.i a0), (6, V.b r14)]) [] mix (by
  refine wR 1 100 ?_
  refine W.call0 (ms_l1In_ok a0 10 26 hx18) cok51 rfl (by kernel_rfl) ?_
  refine wR 1 100 ?_
  exact fI
  ) ?_
 refine bC h (fun hc19 h => ?_) (fun hc19 h => ?_)
 ·refine iT hc19 ?_
  refine bB h fun r17 hx22 h => ?_
  refine bB h fun e18 hx23 h => ?_
  refine CO.cutR (tl 22 [(2, V.s e18)]) [] mix (by
   refine W.call (ms_l3Words_ok  hx22) cok148 [] [(100, 100)] [100] (show LayOk _ [] from trivial) (by kernel_rfl) (by kernel_rfl) ?_
   refine wR 2 101 ?_
   refine W.ixO Dk encS hx23 100 1 (by kernel_rfl) ?_
   refine W.ldO Dk encS hx23 9 100 0 (V.s e18) (by kernel_rfl) (by kernel_rfl) ?_
   refine wR 1 101 ?_
   exact fI
   ) ?_
  refine CO.ret ?_
  have h := sI h
  subst h
  exact eG [] (.inr rfl) (RetV.one rfl (oT (t := 2) (r := V.s e18)))
 refine iF hc19 ?_
 refine bB h fun r20 hx25 h => ?_
 refine CO.cutR (tl 22 [(0, V.i a0), (14, V.b r20)]) [] mix (by
  refine wR 1 100 ?_
  refine W.call0 (ms_l1In_ok a0 30 68 hx25) cok51 rfl (by kernel_rfl) ?_
  refine wR 1 100 ?_
  exact fI
  ) ?_
 refine bC h (fun hc26 h => ?_) (fun hc26 h => ?_)
 ·refine iT hc26 ?_
  refine bB h fun r23 hx29 h => ?_
  refine bB h fun e24 hx30 h => ?_
  refine CO.cutR (tl 22 [(2, V.s e24)]) [] mix (by
   refine W.call (ms_l3Signs_ok  hx29) cok152 [] [(100, 100)] [100] (show LayOk _ [] from trivial) (by kernel_rfl) (by kernel_rfl) ?_
   refine wR 2 101 ?_
   refine W.ixO Dk encS hx30 100 1 (by kernel_rfl) ?_
   refine W.ldO Dk encS hx30 9 100 0 (V.s e24) (by kernel_rfl) (by kernel_rfl) ?_
   refine wR 1 101 ?_
   exact fI
   ) ?_
  refine CO.ret ?_
  have h := sI h
  subst h
  exact eG [] (.inr rfl) (RetV.one rfl (oT (t := 2) (r := V.s e24)))
 refine iF hc26 ?_
 refine CO.skip ?_
 refine cU 1 100 (tl 22 [(2, V.s [])]) [] ?_
 refine CO.ret ?_
 have h := sI h
 subst h
 exact eG [] (.inr rfl) (RetV.one rfl (oT (t := 2) (r := V.s [])))

theorem ms_TokenOk_ok (N : Nat) (a0 : SToken) {r : Bool} (h : ms_TokenOk N a0 = some r) :
    AC Tryz.prog (GS []) 117 [.agg [V.i a0.Kind, V.s a0.Text, V.i a0.At]] [] (V.b r) [] := by
 rw [ms_TokenOk] at h
 refine AC.enter Tryz.func117 rfl ?_
 refine cU 2 100 (tl 71 [(1, .loc 100 0)]) [(100, .cells 120 [V.i a0.Kind, V.s a0.Text, V.i a0.At])] ?_
 refine cU 4 101 (tl 71 [(1, .loc 100 0), (3, V.i (a0.Text.length : Int))]) [(100, .cells 120 [V.i a0.Kind, V.s a0.Text, V.i a0.At])] ?_
 refine CO.seq' ?_
 refine cU 2 101 (tl 71 [(1, .loc 100 0), (3, V.i (a0.Text.length : Int)), (8, V.i a0.Kind)]) [(100, .cells 120 [V.i a0.Kind, V.s a0.Text, V.i a0.At])] ?_
 refine CO.block' ?_
 refine cU 2 101 (tl 71 [(1, .loc 100 0), (3, V.i (a0.Text.length : Int)), (8, V.i a0.Kind), (9, V.b (a0.Kind == 2))]) [(100, .cells 120 [V.i a0.Kind, V.s a0.Text, V.i a0.At])] ?_
 refine bC h (fun hc33 h => ?_) (fun hc33 h => ?_)
 ·refine iT hc33 ?_
  refine bB h fun y20 hv38 h => ?_
  refine CO.cutR (tl 71 [(2, V.b y20)]) [] mix (by
   refine wR 3 101 ?_
   refine bC hv38 (fun hc39 hv38 => ?_) (fun hc39 hv38 => ?_)
   ·refine wI 13 hc39 ?_
    refine wR 2 101 ?_
    refine bB hv38 fun b21 hx40 hv38 => ?_
    refine W.ixS Dk hx40 (by kernel_rfl) ?_
    refine wR 3 101 ?_
    refine bC hv38 (fun hc41 hv38 => ?_) (fun hc41 hv38 => ?_)
    ·refine wI 19 hc41 ?_
     refine wR 2 101 ?_
     refine bB hv38 fun r22 hx42 hv38 => ?_
     refine W.call0 (ms_l4Plain_ok N a0.Text hx42) cok130 rfl (by kernel_rfl) ?_
     refine wR 2 101 ?_
     have hv38 := sI hv38
     subst hv38
     exact fS [] [2]
    refine wI 19 hc41 ?_
    refine wR 5 101 ?_
    have hv38 := sI hv38
    subst hv38
    exact fS [] [2]
   refine wI 13 hc39 ?_
   refine wR 11 101 ?_
   have hv38 := sI hv38
   subst hv38
   exact fS [] [2]
   ) ?_
  refine CO.ret ?_
  have h := sI h
  subst h
  exact eG [] (.inr rfl) (RetV.one rfl (oT (t := 2) (r := V.b y20)))
 refine iF hc33 ?_
 refine cU 2 101 (tl 71 [(1, .loc 100 0), (3, V.i (a0.Text.length : Int)), (8, V.i a0.Kind), (24, V.b (a0.Kind == 3))]) [(100, .cells 120 [V.i a0.Kind, V.s a0.Text, V.i a0.At])] ?_
 refine bC h (fun hc43 h => ?_) (fun hc43 h => ?_)
 ·refine iT hc43 ?_
  refine bB h fun y24 hv46 h => ?_
  refine CO.cutR (tl 71 [(2, V.b y24)]) [] mix (by
   refine wR 3 101 ?_
   refine bC hv46 (fun hc47 hv46 => ?_) (fun hc47 hv46 => ?_)
   ·refine wI 28 hc47 ?_
    refine wR 2 101 ?_
    refine bB hv46 fun r25 hx48 hv46 => ?_
    refine W.call0 (ms_NumEnd_ok N a0.Text 0 hx48) cok131 rfl (by kernel_rfl) ?_
    refine wR 4 101 ?_
    have hv46 := sI hv46
    subst hv46
    exact fS [] [2]
   refine wI 28 hc47 ?_
   refine wR 7 101 ?_
   have hv46 := sI hv46
   subst hv46
   exact fS [] [2]
   ) ?_
  refine CO.ret ?_
  have h := sI h
  subst h
  exact eG [] (.inr rfl) (RetV.one rfl (oT (t := 2) (r := V.b y24)))
 refine iF hc43 ?_
 refine cU 2 101 (tl 71 [(1, .loc 100 0), (3, V.i (a0.Text.length : Int)), (8, V.i a0.Kind), (35, V.b (a0.Kind == 4))]) [(100, .cells 120 [V.i a0.Kind, V.s a0.Text, V.i a0.At])] ?_
 refine bC h (fun hc49 h => ?_) (fun hc49 h => ?_)
 ·refine iT hc49 ?_
  refine bB h fun r27 hx51 h => ?_
  refine CO.cutR (tl 71 [(2, V.b (r27 == (a0.Text.length : Int)))]) [] mix (by
   refine wR 2 101 ?_
   refine W.call0 (ms_StrEnd_ok N a0.Text 0 hx51) cok132 rfl (by kernel_rfl) ?_
   refine wR 3 101 ?_
   exact fI
   ) ?_
  refine CO.ret ?_
  have h := sI h
  subst h
  exact eG [] (.inr rfl) (RetV.one rfl (oT (t := 2) (r := V.b (r27 == (a0.Text.length : Int)))))
 refine iF hc49 ?_
 refine cU 2 101 (tl 71 [(1, .loc 100 0), (3, V.i (a0.Text.length : Int)), (8, V.i a0.Kind), (42, V.b (a0.Kind == 5))]) [(100, .cells 120 [V.i a0.Kind, V.s a0.Text, V.i a0.At])] ?_
 refine bC h (fun hc52 h => ?_) (fun hc52 h => ?_)
 ·refine iT hc52 ?_
  refine bB h fun r29 hx54 h => ?_
  refine CO.cutR (tl 71 [(2, V.b (r29 == (a0.Text.length : Int)))]) [] mix (by
   refine wR 2 101 ?_
   refine W.call0 (ms_EreEnd_ok N a0.Text 0 hx54) cok133 rfl (by kernel_rfl) ?_
   refine wR 3 101 ?_
   exact fI
   ) ?_
  refine CO.ret ?_
  have h := sI h
  subst h
  exact eG [] (.inr rfl) (RetV.one rfl (oT (t := 2) (r := V.b (r29 == (a0.Text.length : Int)))))
 refine iF hc52 ?_
 refine CO.join (fun (⟨a0, y30⟩ : (SToken × Bool)) => ⟨tl 71 [(1, .loc 100 0), (8, V.i a0.Kind), (49, V.b y30)], [(100, .cells 120 [V.i a0.Kind, V.s a0.Text, V.i a0.At])]⟩) (fun i => ms_TokenOk_k1 N i = some r) ?_ ?_
 · rintro ⟨a0, y30⟩ h56
   rw [ms_TokenOk_k1] at h56
   refine bC h56 (fun hc57 h56 => ?_) (fun hc57 h56 => ?_)
   ·refine iT hc57 ?_
    refine bB h56 fun r32 hx59 h56 => ?_
    refine CO.cutR (tl 71 [(2, V.b r32)]) [] mix (by
     refine wR 2 101 ?_
     refine W.call0 (ms_NameOk_ok N a0.Text hx59) cok116 rfl (by kernel_rfl) ?_
     refine wR 1 101 ?_
     exact fI
     ) ?_
    refine CO.ret ?_
    have h56 := sI h56
    subst h56
    exact eG [] (.inr rfl) (RetV.one rfl (oT (t := 2) (r := V.b r32)))
   refine iF hc57 ?_
   refine cU 2 101 (tl 71 [(1, .loc 100 0), (55, V.b (a0.Kind == 8))]) [(100, .cells 120 [V.i a0.Kind, V.s a0.Text, V.i a0.At])] ?_
   refine bC h56 (fun hc60 h56 => ?_) (fun hc60 h56 => ?_)
   ·refine iT hc60 ?_
    refine bB h56 fun r34 hx62 h56 => ?_
    refine CO.cutR (tl 71 [(2, V.b r34)]) [] mix (by
     refine wR 2 101 ?_
     refine W.call0 (ms_IsBuiltin_ok N a0.Text hx62) cok118 rfl (by kernel_rfl) ?_
     refine wR 1 101 ?_
     exact fI
     ) ?_
    refine CO.ret ?_
    have h56 := sI h56
    subst h56
    exact eG [] (.inr rfl) (RetV.one rfl (oT (t := 2) (r := V.b r34)))
   refine iF hc60 ?_
   refine CO.skip ?_
   refine bB h56 fun y36 hv65 h56 => ?_
   refine CO.cutR (tl 71 [(2, V.b y36)]) [] mix (by
    refine wR 4 101 ?_
    refine bC hv65 (fun hc66 hv65 => ?_) (fun hc66 hv65 => ?_)
    ·refine wI 63 hc66 ?_
     refine wR 2 101 ?_
     refine bB hv65 fun r37 hx67 hv65 => ?_
     refine W.call0 (ms_SpellOf_ok a0.Kind hx67) cok134 rfl (by kernel_rfl) ?_
     refine wR 5 101 ?_
     have hv65 := sI hv65
     subst hv65
     exact fS [] [2]
    refine wI 63 hc66 ?_
    refine wR 8 101 ?_
    have hv65 := sI hv65
    subst hv65
    exact fS [] [2]
    ) ?_
   refine CO.ret ?_
   have h56 := sI h56
   subst h56
   exact eG [] (.inr rfl) (RetV.one rfl (oT (t := 2) (r := V.b y36)))
 intro hk68
 refine cU 2 101 (tl 71 [(1, .loc 100 0), (8, V.i a0.Kind), (49, V.b (a0.Kind == 6))]) [(100, .cells 120 [V.i a0.Kind, V.s a0.Text, V.i a0.At])] ?_
 refine bC h (fun hc69 h => ?_) (fun hc69 h => ?_)
 ·refine iT hc69 ?_
  refine CO.skip ?_
  exact hk68 (a0, (a0.Kind == 6)) h _ (wS [(100, 100)] [1, 8, 49])
 refine iF hc69 ?_
 refine cE 2 101 (tl 71 [(1, .loc 100 0), (8, V.i a0.Kind), (49, V.b (a0.Kind == 7))]) [(100, .cells 120 [V.i a0.Kind, V.s a0.Text, V.i a0.At])] (fun st hw => ?_)
 exact hk68 (a0, (a0.Kind == 7)) h _ (hw.trans (wS [(100, 100)] [1, 8, 49]))

theorem ms_l7Text_ok (N : Nat) (a0 : SNode) {r : Bool} (h : ms_l7Text N a0 = some r) :
    AC Tryz.prog (GS []) 101 [.agg [V.i a0.Kind, V.i a0.Op, V.s a0.Text, V.s a0.Other, .sl false false (a0.Kids.map encI)]] [] (V.b r) [] := by
 rw [ms_l7Text] at h
 refine AC.enter Tryz.func101 rfl ?_
 refine cU 2 100 (tl 117 [(1, .loc 100 0)]) [(100, .cells 48 [V.i a0.Kind, V.i a0.Op, V.s a0.Text, V.s a0.Other, .sl false false (a0.Kids.map encI)])] ?_
 refine CO.seq' ?_
 refine cU 2 101 (tl 117 [(1, .loc 100 0), (4, V.i a0.Kind)]) [(100, .cells 48 [V.i a0.Kind, V.i a0.Op, V.s a0.Text, V.s a0.Other, .sl false false (a0.Kids.map encI)])] ?_
 refine CO.block' ?_
 refine CO.join (fun (⟨a0, y26⟩ : (SNode × Bool)) => ⟨tl 117 [(1, .loc 100 0), (4, V.i a0.Kind), (5, V.b y26)], [(100, .cells 48 [V.i a0.Kind, V.i a0.Op, V.s a0.Text, V.s a0.Other, .sl false false (a0.Kids.map encI)])]⟩) (fun i => ms_l7Text_k1 N i = some r) ?_ ?_
 · rintro ⟨a0, y26⟩ h72
   rw [ms_l7Text_k1] at h72
   refine bC h72 (fun hc73 h72 => ?_) (fun hc73 h72 => ?_)
   ·refine iT hc73 ?_
    refine bB h72 fun y28 hv76 h72 => ?_
    refine CO.cutR (tl 117 [(2, V.b y28)]) [] mix (by
     refine wR 2 101 ?_
     refine bB hv76 fun r29 hx77 hv76 => ?_
     refine W.call0 (ms_NameOk_ok N a0.Text hx77) cok116 rfl (by kernel_rfl) ?_
     refine wR 1 101 ?_
     refine bC hv76 (fun hc78 hv76 => ?_) (fun hc78 hv76 => ?_)
     ·refine wI 15 hc78 ?_
      refine wR 5 101 ?_
      have hv76 := sI hv76
      subst hv76
      exact fS [] [2]
     refine wI 15 hc78 ?_
     refine wR 5 101 ?_
     have hv76 := sI hv76
     subst hv76
     exact fS [] [2]
     ) ?_
    refine CO.ret ?_
    have h72 := sI h72
    subst h72
    exact eG [] (.inr rfl) (RetV.one rfl (oT (t := 2) (r := V.b y28)))
   refine iF hc73 ?_
   refine cU 2 101 (tl 117 [(1, .loc 100 0), (4, V.i a0.Kind), (20, V.b (a0.Kind == 2))]) [(100, .cells 48 [V.i a0.Kind, V.i a0.Op, V.s a0.Text, V.s a0.Other, .sl false false (a0.Kids.map encI)])] ?_
   refine bC h72 (fun hc79 h72 => ?_) (fun hc79 h72 => ?_)
   ·refine iT hc79 ?_
    refine bB h72 fun y31 hv82 h72 => ?_
    refine CO.cutR (tl 117 [(2, V.b y31)]) [] mix (by
     refine wR 3 101 ?_
     refine bB hv82 fun r32 hx83 hv82 => ?_
     refine W.call0 (ms_TokenOk_ok N (⟨3, a0.Text, 0⟩ : SToken) hx83) cok117 rfl (by kernel_rfl) ?_
     refine wR 1 101 ?_
     refine bC hv82 (fun hc84 hv82 => ?_) (fun hc84 hv82 => ?_)
     ·refine wI 26 hc84 ?_
      refine wR 5 101 ?_
      have hv82 := sI hv82
      subst hv82
      exact fS [] [2]
     refine wI 26 hc84 ?_
     refine wR 5 101 ?_
     have hv82 := sI hv82
     subst hv82
     exact fS [] [2]
     ) ?_
    refine CO.ret ?_
    have h72 := sI h72
    subst h72
    exact eG [] (.inr rfl) (RetV.one rfl (oT (t := 2) (r := V.b y31)))
   refine iF hc79 ?_
   refine cU 2 101 (tl 117 [(1, .loc 100 0), (4, V.i a0.Kind), (31, V.b (a0.Kind == 3))]) [(100, .cells 48 [V.i a0.Kind, V.i a0.Op, V.s a0.Text, V.s a0.Other, .sl false false (a0.Kids.map encI)])] ?_
   refine bC h72 (fun hc85 h72 => ?_) (fun hc85 h72 => ?_)
   ·refine iT hc85 ?_
    refine bB h72 fun y34 hv88 h72 => ?_
    refine CO.cutR (tl 117 [(2, V.b y34)]) [] mix (by
     refine wR 3 101 ?_
     refine bB hv88 fun r35 hx89 hv88 => ?_
     refine W.call0 (ms_TokenOk_ok N (⟨4, a0.Text, 0⟩ : SToken) hx89) cok117 rfl (by kernel_rfl) ?_
     refine wR 1 101 ?_
     refine bC hv88 (fun hc90 hv88 => ?_) (fun hc90 hv88 => ?_)
     ·refine wI 37 hc90 ?_
      refine wR 5 101 ?_
      have hv88 := sI hv88
      subst hv88
      exact fS [] [2]
     refine wI 37 hc90 ?_
     refine wR 5 101 ?_
     have hv88 := sI hv88
     subst hv88
     exact fS [] [2]
     ) ?_
    refine CO.ret ?_
    have h72 := sI h72
    subst h72
    exact eG [] (.inr rfl) (RetV.one rfl (oT (t := 2) (r := V.b y34)))
   refine iF hc85 ?_
   refine cU 2 101 (tl 117 [(1, .loc 100 0), (4, V.i a0.Kind), (42, V.b (a0.Kind == 4))]) [(100, .cells 48 [V.i a0.Kind, V.i a0.Op, V.s a0.Text, V.s a0.Other, .sl false false (a0.Kids.map encI)])] ?_
   refine bC h72 (fun hc91 h72 => ?_) (fun hc91 h72 => ?_)
   ·refine iT hc91 ?_
    refine bB h72 fun y37 hv94 h72 => ?_
    refine CO.cutR (tl 117 [(2, V.b y37)]) [] mix (by
     refine wR 3 101 ?_
     refine bB hv94 fun r38 hx95 hv94 => ?_
     refine W.call0 (ms_TokenOk_ok N (⟨5, a0.Text, 0⟩ : SToken) hx95) cok117 rfl (by kernel_rfl) ?_
     refine wR 1 101 ?_
     refine bC hv94 (fun hc96 hv94 => ?_) (fun hc96 hv94 => ?_)
     ·refine wI 48 hc96 ?_
      refine wR 5 101 ?_
      have hv94 := sI hv94
      subst hv94
      exact fS [] [2]
     refine wI 48 hc96 ?_
     refine wR 5 101 ?_
     have hv94 := sI hv94
     subst hv94
     exact fS [] [2]
     ) ?_
    refine CO.ret ?_
    have h72 := sI h72
    subst h72
    exact eG [] (.inr rfl) (RetV.one rfl (oT (t := 2) (r := V.b y37)))
   refine iF hc91 ?_
   refine cU 2 101 (tl 117 [(1, .loc 100 0), (4, V.i a0.Kind), (53, V.b (a0.Kind == 34))]) [(100, .cells 48 [V.i a0.Kind, V.i a0.Op, V.s a0.Text, V.s a0.Other, .sl false false (a0.Kids.map encI)])] ?_
   refine bC h72 (fun hc97 h72 => ?_) (fun hc97 h72 => ?_)
   ·refine iT hc97 ?_
    refine bB h72 fun y40 hv100 h72 => ?_
    refine CO.cutR (tl 117 [(2, V.b y40)]) [] mix (by
     refine wR 3 101 ?_
     refine bB hv100 fun r41 hx101 hv100 => ?_
     refine W.call0 (ms_TokenOk_ok N (⟨2, a0.Text, 0⟩ : SToken) hx101) cok117 rfl (by kernel_rfl) ?_
     refine wR 1 101 ?_
     refine bC hv100 (fun hc102 hv100 => ?_) (fun hc102 hv100 => ?_)
     ·refine wI 59 hc102 ?_
      refine wR 5 101 ?_
      have hv100 := sI hv100
      subst hv100
      exact fS [] [2]
     refine wI 59 hc102 ?_
     refine wR 5 101 ?_
     have hv100 := sI hv100
     subst hv100
     exact fS [] [2]
     ) ?_
    refine CO.ret ?_
    have h72 := sI h72
    subst h72
    exact eG [] (.inr rfl) (RetV.one rfl (oT (t := 2) (r := V.b y40)))
   refine iF hc97 ?_
   refine cU 2 101 (tl 117 [(1, .loc 100 0), (4, V.i a0.Kind), (64, V.b (a0.Kind == 8))]) [(100, .cells 48 [V.i a0.Kind, V.i a0.Op, V.s a0.Text, V.s a0.Other, .sl false false (a0.Kids.map encI)])] ?_
   refine bC h72 (fun hc103 h72 => ?_) (fun hc103 h72 => ?_)
   ·refine iT hc103 ?_
    refine bB h72 fun y43 hv106 h72 => ?_
    refine CO.cutR (tl 117 [(2, V.b y43)]) [] mix (by
     refine wR 2 101 ?_
     refine bB hv106 fun r44 hx107 hv106 => ?_
     refine W.call0 (ms_IsBuiltin_ok N a0.Text hx107) cok118 rfl (by kernel_rfl) ?_
     refine wR 1 101 ?_
     refine bC hv106 (fun hc108 hv106 => ?_) (fun hc108 hv106 => ?_)
     ·refine wI 69 hc108 ?_
      refine wR 5 101 ?_
      have hv106 := sI hv106
      subst hv106
      exact fS [] [2]
     refine wI 69 hc108 ?_
     refine wR 5 101 ?_
     have hv106 := sI hv106
     subst hv106
     exact fS [] [2]
     ) ?_
    refine CO.ret ?_
    have h72 := sI h72
    subst h72
    exact eG [] (.inr rfl) (RetV.one rfl (oT (t := 2) (r := V.b y43)))
   refine iF hc103 ?_
   refine cU 2 101 (tl 117 [(1, .loc 100 0), (4, V.i a0.Kind), (74, V.b (a0.Kind == 32))]) [(100, .cells 48 [V.i a0.Kind, V.i a0.Op, V.s a0.Text, V.s a0.Other, .sl false false (a0.Kids.map encI)])] ?_
   refine bC h72 (fun hc109 h72 => ?_) (fun hc109 h72 => ?_)
   ·refine iT hc109 ?_
    refine bB h72 fun y47 hv113 h72 => ?_
    refine CO.cutR (tl 117 [(2, V.b y47)]) [] mix (by
     refine wR 2 101 ?_
     refine bB hv113 fun r48 hx114 hv113 => ?_
     refine W.call0 (ms_NameOk_ok N a0.Text hx114) cok116 rfl (by kernel_rfl) ?_
     refine wR 1 101 ?_
     refine bC hv113 (fun hc115 hv113 => ?_) (fun hc115 hv113 => ?_)
     ·refine wI 79 hc115 ?_
      refine wR 2 101 ?_
      refine bB hv113 fun r49 hx116 hv113 => ?_
      refine W.call0 (ms_NameOk_ok N a0.Other hx116) cok116 rfl (by kernel_rfl) ?_
      refine wR 2 101 ?_
      have hv113 := sI hv113
      subst hv113
      exact fS [] [2]
     refine wI 79 hc115 ?_
     refine wR 5 101 ?_
     have hv113 := sI hv113
     subst hv113
     exact fS [] [2]
     ) ?_
    refine CO.ret ?_
    have h72 := sI h72
    subst h72
    exact eG [] (.inr rfl) (RetV.one rfl (oT (t := 2) (r := V.b y47)))
   refine iF hc109 ?_
   refine cU 2 101 (tl 117 [(1, .loc 100 0), (84, V.b (a0.Kind == 21))]) [(100, .cells 48 [V.i a0.Kind, V.i a0.Op, V.s a0.Text, V.s a0.Other, .sl false false (a0.Kids.map encI)])] ?_
   refine bC h72 (fun hc117 h72 => ?_) (fun hc117 h72 => ?_)
   ·refine iT hc117 ?_
    refine bB h72 fun y50 hv122 h72 => ?_
    refine CO.cutR (tl 117 [(2, V.b y50)]) [] mix (by
     refine wR 4 101 ?_
     refine bC hv122 (fun hc123 hv122 => ?_) (fun hc123 hv122 => ?_)
     ·refine wI 89 hc123 ?_
      refine wR 4 101 ?_
      refine bC hv122 (fun hc124 hv122 => ?_) (fun hc124 hv122 => ?_)
      ·refine wI 93 hc124 ?_
       refine wR 16 101 ?_
       have hv122 := sI hv122
       subst hv122
       exact fS [] [2]
      refine wI 93 hc124 ?_
      refine wR 5 101 ?_
      refine bC hv122 (fun hc125 hv122 => ?_) (fun hc125 hv122 => ?_)
      ·refine wI 98 hc125 ?_
       refine wR 11 101 ?_
       have hv122 := sI hv122
       subst hv122
       exact fS [] [2]
      refine wI 98 hc125 ?_
      refine wR 5 101 ?_
      refine bC hv122 (fun hc126 hv122 => ?_) (fun hc126 hv122 => ?_)
      ·refine wI 103 hc126 ?_
       refine wR 6 101 ?_
       have hv122 := sI hv122
       subst hv122
       exact fS [] [2]
      refine wI 103 hc126 ?_
      refine wR 6 101 ?_
      have hv122 := sI hv122
      subst hv122
      exact fS [] [2]
     refine wI 89 hc123 ?_
     refine wR 20 101 ?_
     have hv122 := sI hv122
     subst hv122
     exact fS [] [2]
     ) ?_
    refine CO.ret ?_
    have h72 := sI h72
    subst h72
    exact eG [] (.inr rfl) (RetV.one rfl (oT (t := 2) (r := V.b y50)))
   refine iF hc117 ?_
   refine CO.skip ?_
   refine bB h72 fun y51 hv128 h72 => ?_
   refine CO.cutR (tl 117 [(2, V.b y51)]) [] mix (by
    refine wR 4 101 ?_
    refine bC hv128 (fun hc129 hv128 => ?_) (fun hc129 hv128 => ?_)
    ·refine wI 112 hc129 ?_
     refine wR 5 101 ?_
     have hv128 := sI hv128
     subst hv128
     exact fS [] [2]
    refine wI 112 hc129 ?_
    refine wR 5 101 ?_
    have hv128 := sI hv128
    subst hv128
    exact fS [] [2]
    ) ?_
   refine CO.ret ?_
   have h72 := sI h72
   subst h72
   exact eG [] (.inr rfl) (RetV.one rfl (oT (t := 2) (r := V.b y51)))
 intro hk130
 refine cU 2 101 (tl 117 [(1, .loc 100 0), (4, V.i a0.Kind), (5, V.b (a0.Kind == 1))]) [(100, .cells 48 [V.i a0.Kind, V.i a0.Op, V.s a0.Text, V.s a0.Other, .sl false false (a0.Kids.map encI)])] ?_
 refine bC h (fun hc131 h => ?_) (fun hc131 h => ?_)
 ·refine iT hc131 ?_
  refine CO.skip ?_
  exact hk130 (a0, (a0.Kind == 1)) h _ (wS [(100, 100)] [1, 4, 5])
 refine iF hc131 ?_
 refine cU 2 101 (tl 117 [(1, .loc 100 0), (4, V.i a0.Kind), (5, V.b (a0.Kind == 5))]) [(100, .cells 48 [V.i a0.Kind, V.i a0.Op, V.s a0.Text, V.s a0.Other, .sl false false (a0.Kids.map encI)])] ?_
 refine bC h (fun hc132 h => ?_) (fun hc132 h => ?_)
 ·refine iT hc132 ?_
  refine CO.skip ?_
  exact hk130 (a0, (a0.Kind == 5)) h _ (wS [(100, 100)] [1, 4, 5])
 refine iF hc132 ?_
 refine cU 2 101 (tl 117 [(1, .loc 100 0), (4, V.i a0.Kind), (5, V.b (a0.Kind == 7))]) [(100, .cells 48 [V.i a0.Kind, V.i a0.Op, V.s a0.Text, V.s a0.Other, .sl false false (a0.Kids.map encI)])] ?_
 refine bC h (fun hc133 h => ?_) (fun hc133 h => ?_)
 ·refine iT hc133 ?_
  refine CO.skip ?_
  exact hk130 (a0, (a0.Kind == 7)) h _ (wS [(100, 100)] [1, 4, 5])
 refine iF hc133 ?_
 refine cU 2 101 (tl 117 [(1, .loc 100 0), (4, V.i a0.Kind), (5, V.b (a0.Kind == 13))]) [(100, .cells 48 [V.i a0.Kind, V.i a0.Op, V.s a0.Text, V.s a0.Other, .sl false false (a0.Kids.map encI)])] ?_
 refine bC h (fun hc134 h => ?_) (fun hc134 h => ?_)
 ·refine iT hc134 ?_
  refine CO.skip ?_
  exact hk130 (a0, (a0.Kind == 13)) h _ (wS [(100, 100)] [1, 4, 5])
 refine iF hc134 ?_
 refine cU 2 101 (tl 117 [(1, .loc 100 0), (4, V.i a0.Kind), (5, V.b (a0.Kind == 27))]) [(100, .cells 48 [V.i a0.Kind, V.i a0.Op, V.s a0.Text, V.s a0.Other, .sl false false (a0.Kids.map encI)])] ?_
 refine bC h (fun hc135 h => ?_) (fun hc135 h => ?_)
 ·refine iT hc135 ?_
  refine CO.skip ?_
  exact hk130 (a0, (a0.Kind == 27)) h _ (wS [(100, 100)] [1, 4, 5])
 refine iF hc135 ?_
 refine cE 2 101 (tl 117 [(1, .loc 100 0), (4, V.i a0.Kind), (5, V.b (a0.Kind == 44))]) [(100, .cells 48 [V.i a0.Kind, V.i a0.Op, V.s a0.Text, V.s a0.Other, .sl false false (a0.Kids.map encI)])] (fun st hw => ?_)
 exact hk130 (a0, (a0.Kind == 44)) h _ (hw.trans (wS [(100, 100)] [1, 4, 5]))

theorem ms_FieldsOk_ok (N : Nat) (a0 : SNode) {r : Bool} (h : ms_FieldsOk N a0 = some r) :
    AC Tryz.prog (GS []) 70 [.agg [V.i a0.Kind, V.i a0.Op, V.s a0.Text, V.s a0.Other, .sl false false (a0.Kids.map encI)]] [] (V.b r) [] := by
 rw [ms_FieldsOk] at h
 refine AC.enter Tryz.func70 rfl ?_
 refine cU 2 100 (tl 41 [(1, .loc 100 0)]) [(100, .cells 48 [V.i a0.Kind, V.i a0.Op, V.s a0.Text, V.s a0.Other, .sl false false (a0.Kids.map encI)])] ?_
 refine bB h fun r2 hx2 h => ?_
 refine CO.cutR (tl 41 [(1, .loc 100 0), (3, V.i r2.1), (4, V.i r2.2)]) [(100, .cells 48 [V.i a0.Kind, V.i a0.Op, V.s a0.Text, V.s a0.Other, .sl false false (a0.Kids.map encI)])] mix (by
  refine wR 1 101 ?_
  refine W.call0 (ms_l7Many_ok a0 hx2) cok99 rfl (by kernel_rfl) ?_
  refine wR 5 101 ?_
  exact fI
  ) ?_
 refine bB h fun y6 hv8 h => ?_
 refine CO.cutR (tl 41 [(1, .loc 100 0), (3, V.i r2.1), (4, V.i r2.2), (5, V.b y6)]) [(100, .cells 48 [V.i a0.Kind, V.i a0.Op, V.s a0.Text, V.s a0.Other, .sl false false (a0.Kids.map encI)])] mix (by
  refine wR 2 101 ?_
  refine bB hv8 fun r7 hx9 hv8 => ?_
  refine W.call0 (ms_l1In_ok a0.Kind 1 16 hx9) cok51 rfl (by kernel_rfl) ?_
  refine wR 1 101 ?_
  refine bC hv8 (fun hc10 hv8 => ?_) (fun hc10 hv8 => ?_)
  ·refine wI 14 hc10 ?_
   refine wR 10 101 ?_
   have hv8 := sI hv8
   subst hv8
   exact fS [(100, 100)] [1, 3, 4, 5]
  refine wI 14 hc10 ?_
  refine wR 2 101 ?_
  refine bB hv8 fun r8 hx11 hv8 => ?_
  refine W.call0 (ms_l1In_ok a0.Kind 20 34 hx11) cok51 rfl (by kernel_rfl) ?_
  refine wR 2 101 ?_
  refine bC hv8 (fun hc12 hv8 => ?_) (fun hc12 hv8 => ?_)
  ·refine wI 19 hc12 ?_
   refine wR 5 101 ?_
   have hv8 := sI hv8
   subst hv8
   exact fS [(100, 100)] [1, 3, 4, 5]
  refine wI 19 hc12 ?_
  refine wR 2 101 ?_
  refine bB hv8 fun r9 hx13 hv8 => ?_
  refine W.call0 (ms_l1In_ok a0.Kind 40 45 hx13) cok51 rfl (by kernel_rfl) ?_
  refine wR 2 101 ?_
  have hv8 := sI hv8
  subst hv8
  exact fS [(100, 100)] [1, 3, 4, 5]
  ) ?_
 refine bB h fun y13 hv20 h => ?_
 refine CO.cutR (tl 41 [(2, V.b y13)]) [] mix (by
  refine wR 2 101 ?_
  refine bC hv20 (fun hc21 hv20 => ?_) (fun hc21 hv20 => ?_)
  ·refine wI 25 hc21 ?_
   refine wR 1 101 ?_
   refine bB hv20 fun r14 hx22 hv20 => ?_
   refine W.call0 (ms_l7Op_ok a0 hx22) cok100 rfl (by kernel_rfl) ?_
   refine wR 2 101 ?_
   refine bC hv20 (fun hc23 hv20 => ?_) (fun hc23 hv20 => ?_)
   ·refine wI 29 hc23 ?_
    refine wR 1 101 ?_
    refine bB hv20 fun r15 hx24 hv20 => ?_
    refine W.call0 (ms_l7Text_ok N a0 hx24) cok101 rfl (by kernel_rfl) ?_
    refine wR 2 101 ?_
    refine bC hv20 (fun hc25 hv20 => ?_) (fun hc25 hv20 => ?_)
    ·refine wI 33 hc25 ?_
     refine wR 2 101 ?_
     refine W.len Dk encI a0.Kids [] (by kernel_rfl) (by kernel_rfl) ?_
     refine wR 2 101 ?_
     refine bB hv20 fun r16 hx26 hv20 => ?_
     refine W.call0 (ms_l1In_ok (a0.Kids.length : Int) r2.1 r2.2 hx26) cok51 rfl (by kernel_rfl) ?_
     refine wR 2 101 ?_
     have hv20 := sI hv20
     subst hv20
     exact fS [] [2]
    refine wI 33 hc25 ?_
    refine wR 8 101 ?_
    have hv20 := sI hv20
    subst hv20
    exact fS [] [2]
   refine wI 29 hc23 ?_
   refine wR 12 101 ?_
   have hv20 := sI hv20
   subst hv20
   exact fS [] [2]
  refine wI 25 hc21 ?_
  refine wR 16 101 ?_
  have hv20 := sI hv20
  subst hv20
  exact fS [] [2]
  ) ?_
 refine CO.ret ?_
 have h := sI h
 subst h
 exact eG [] (.inr rfl) (RetV.one rfl (oT (t := 2) (r := V.b y13)))

theorem ms_IsLvalue_ok (a0 : Int) {r : Bool} (h : ms_IsLvalue a0 = some r) :
    AC Tryz.prog (GS []) 102 [V.i a0] [] (V.b r) [] := by
 rw [ms_IsLvalue] at h
 refine AC.enter Tryz.func102 rfl ?_
 refine cU 1 100 (tl 13 [(0, V.i a0)]) [] ?_
 refine bB h fun y1 hv3 h => ?_
 refine CO.cutR (tl 13 [(2, V.b y1)]) [] mix (by
  refine wR 3 100 ?_
  refine bC hv3 (fun hc4 hv3 => ?_) (fun hc4 hv3 => ?_)
  ·refine wI 5 hc4 ?_
   refine wR 8 100 ?_
   have hv3 := sI hv3
   subst hv3
   exact fS [] [2]
  refine wI 5 hc4 ?_
  refine wR 4 100 ?_
  refine bC hv3 (fun hc5 hv3 => ?_) (fun hc5 hv3 => ?_)
  ·refine wI 9 hc5 ?_
   refine wR 4 100 ?_
   have hv3 := sI hv3
   subst hv3
   exact fS [] [2]
  refine wI 9 hc5 ?_
  refine wR 4 100 ?_
  have hv3 := sI hv3
  subst hv3
  exact fS [] [2]
  ) ?_
 refine CO.ret ?_
 have h := sI h
 subst h
 exact eG [] (.inr rfl) (RetV.one rfl (oT (t := 2) (r := V.b y1)))

theorem ms_IsExpr_ok (a0 : Int) {r : Bool} (h : ms_IsExpr a0 = some r) :
    AC Tryz.prog (GS []) 81 [V.i a0] [] (V.b r) [] := by
 rw [ms_IsExpr] at h
 refine AC.enter Tryz.func81 rfl ?_
 refine cU 1 100 (tl 5 [(0, V.i a0)]) [] ?_
 refine bB h fun r2 hx2 h => ?_
 refine CO.cutR (tl 5 [(2, V.b r2)]) [] mix (by
  refine wR 1 100 ?_
  refine W.call0 (ms_l1In_ok a0 1 15 hx2) cok51 rfl (by kernel_rfl) ?_
  refine wR 1 100 ?_
  exact fI
  ) ?_
 refine CO.ret ?_
 have h := sI h
 subst h
 exact eG [] (.inr rfl) (RetV.one rfl (oT (t := 2) (r := V.b r2)))

theorem ms_IsStmt_ok (a0 : Int) {r : Bool} (h : ms_IsStmt a0 = some r) :
    AC Tryz.prog (GS []) 103 [V.i a0] [] (V.b r) [] := by
 rw [ms_IsStmt] at h
 refine AC.enter Tryz.func103 rfl ?_
 refine cU 1 100 (tl 5 [(0, V.i a0)]) [] ?_
 refine bB h fun r2 hx2 h => ?_
 refine CO.cutR (tl 5 [(2, V.b r2)]) [] mix (by
  refine wR 1 100 ?_
  refine W.call0 (ms_l1In_ok a0 20 34 hx2) cok51 rfl (by kernel_rfl) ?_
  refine wR 1 100 ?_
  exact fI
  ) ?_
 refine CO.ret ?_
 have h := sI h
 subst h
 exact eG [] (.inr rfl) (RetV.one rfl (oT (t := 2) (r := V.b r2)))

end Go.Proofs.Tryz
