/-
  The walks that show that the code computes the models, part 1.
-/
import Derived.Test.YtllanibkffnogaaGreatDoorReM1
namespace Go.Proofs.Tryz
open Go.Av
set_option maxRecDepth 100000
set_option maxHeartbeats 8000000
set_option linter.unusedSimpArgs false
set_option linter.unusedVariables false

theorem ext168 (s : List UInt8) (c : Int) (w : World) : (callFunc 168 #[.string ⟨⟨s⟩⟩, .int .u8 c]).run Tryz.prog w = .ok (.value (.int .i64 (Go.Lib.indexByte s c.toNat.toUInt8))) w := by
  rw [run_callFunc_extern Tryz.func168 (by kernel_rfl) rfl (by kernel_rfl) (by kernel_rfl)]
  rw [show _ = _ from Go.Lib.run_indexByteString ⟨⟨s⟩⟩ c w]
  rfl

theorem cok3 : callOk Tryz.prog 3 := fun _ _ => Tryz.call3 _ _
theorem cok8 : callOk Tryz.prog 8 := fun _ _ => Tryz.call8 _ _
theorem cok9 : callOk Tryz.prog 9 := fun _ _ => Tryz.call9 _ _
theorem cok10 : callOk Tryz.prog 10 := fun _ _ => Tryz.call10 _ _
theorem cok11 : callOk Tryz.prog 11 := fun _ _ => Tryz.call11 _ _
theorem cok12 : callOk Tryz.prog 12 := fun _ _ => Tryz.call12 _ _
theorem cok17 : callOk Tryz.prog 17 := fun _ _ => Tryz.call17 _ _
theorem cok18 : callOk Tryz.prog 18 := fun _ _ => Tryz.call18 _ _
theorem cok19 : callOk Tryz.prog 19 := fun _ _ => Tryz.call19 _ _
theorem cok29 : callOk Tryz.prog 29 := fun _ _ => Tryz.call29 _ _
theorem cok30 : callOk Tryz.prog 30 := fun _ _ => Tryz.call30 _ _
theorem cok31 : callOk Tryz.prog 31 := fun _ _ => Tryz.call31 _ _
theorem cok32 : callOk Tryz.prog 32 := fun _ _ => Tryz.call32 _ _
theorem cok33 : callOk Tryz.prog 33 := fun _ _ => Tryz.call33 _ _
theorem cok34 : callOk Tryz.prog 34 := fun _ _ => Tryz.call34 _ _
theorem cok35 : callOk Tryz.prog 35 := fun _ _ => Tryz.call35 _ _
theorem cok36 : callOk Tryz.prog 36 := fun _ _ => Tryz.call36 _ _
theorem cok37 : callOk Tryz.prog 37 := fun _ _ => Tryz.call37 _ _
theorem cok38 : callOk Tryz.prog 38 := fun _ _ => Tryz.call38 _ _
theorem cok39 : callOk Tryz.prog 39 := fun _ _ => Tryz.call39 _ _
theorem cok45 : callOk Tryz.prog 45 := fun _ _ => Tryz.call45 _ _
theorem cok46 : callOk Tryz.prog 46 := fun _ _ => Tryz.call46 _ _
theorem cok48 : callOk Tryz.prog 48 := fun _ _ => Tryz.call48 _ _
theorem cok51 : callOk Tryz.prog 51 := fun _ _ => Tryz.call51 _ _
theorem cok55 : callOk Tryz.prog 55 := fun _ _ => Tryz.call55 _ _
theorem cok67 : callOk Tryz.prog 67 := fun _ _ => Tryz.call67 _ _
theorem cok68 : callOk Tryz.prog 68 := fun _ _ => Tryz.call68 _ _
theorem cok69 : callOk Tryz.prog 69 := fun _ _ => Tryz.call69 _ _
theorem cok70 : callOk Tryz.prog 70 := fun _ _ => Tryz.call70 _ _
theorem cok71 : callOk Tryz.prog 71 := fun _ _ => Tryz.call71 _ _
theorem cok72 : callOk Tryz.prog 72 := fun _ _ => Tryz.call72 _ _
theorem cok73 : callOk Tryz.prog 73 := fun _ _ => Tryz.call73 _ _
theorem cok74 : callOk Tryz.prog 74 := fun _ _ => Tryz.call74 _ _
theorem cok75 : callOk Tryz.prog 75 := fun _ _ => Tryz.call75 _ _
theorem cok76 : callOk Tryz.prog 76 := fun _ _ => Tryz.call76 _ _
theorem cok77 : callOk Tryz.prog 77 := fun _ _ => Tryz.call77 _ _
theorem cok78 : callOk Tryz.prog 78 := fun _ _ => Tryz.call78 _ _
theorem cok79 : callOk Tryz.prog 79 := fun _ _ => Tryz.call79 _ _
theorem cok81 : callOk Tryz.prog 81 := fun _ _ => Tryz.call81 _ _
theorem cok98 : callOk Tryz.prog 98 := fun _ _ => Tryz.call98 _ _
theorem cok99 : callOk Tryz.prog 99 := fun _ _ => Tryz.call99 _ _
theorem cok100 : callOk Tryz.prog 100 := fun _ _ => Tryz.call100 _ _
theorem cok101 : callOk Tryz.prog 101 := fun _ _ => Tryz.call101 _ _
theorem cok102 : callOk Tryz.prog 102 := fun _ _ => Tryz.call102 _ _
theorem cok103 : callOk Tryz.prog 103 := fun _ _ => Tryz.call103 _ _
theorem cok104 : callOk Tryz.prog 104 := fun _ _ => Tryz.call104 _ _
theorem cok105 : callOk Tryz.prog 105 := fun _ _ => Tryz.call105 _ _
theorem cok106 : callOk Tryz.prog 106 := fun _ _ => Tryz.call106 _ _
theorem cok107 : callOk Tryz.prog 107 := fun _ _ => Tryz.call107 _ _
theorem cok108 : callOk Tryz.prog 108 := fun _ _ => Tryz.call108 _ _
theorem cok109 : callOk Tryz.prog 109 := fun _ _ => Tryz.call109 _ _
theorem cok110 : callOk Tryz.prog 110 := fun _ _ => Tryz.call110 _ _
theorem cok114 : callOk Tryz.prog 114 := fun _ _ => Tryz.call114 _ _
theorem cok115 : callOk Tryz.prog 115 := fun _ _ => Tryz.call115 _ _
theorem cok116 : callOk Tryz.prog 116 := fun _ _ => Tryz.call116 _ _
theorem cok117 : callOk Tryz.prog 117 := fun _ _ => Tryz.call117 _ _
theorem cok118 : callOk Tryz.prog 118 := fun _ _ => Tryz.call118 _ _
theorem cok119 : callOk Tryz.prog 119 := fun _ _ => Tryz.call119 _ _
theorem cok120 : callOk Tryz.prog 120 := fun _ _ => Tryz.call120 _ _
theorem cok121 : callOk Tryz.prog 121 := fun _ _ => Tryz.call121 _ _
theorem cok122 : callOk Tryz.prog 122 := fun _ _ => Tryz.call122 _ _
theorem cok123 : callOk Tryz.prog 123 := fun _ _ => Tryz.call123 _ _
theorem cok124 : callOk Tryz.prog 124 := fun _ _ => Tryz.call124 _ _
theorem cok125 : callOk Tryz.prog 125 := fun _ _ => Tryz.call125 _ _
theorem cok126 : callOk Tryz.prog 126 := fun _ _ => Tryz.call126 _ _
theorem cok128 : callOk Tryz.prog 128 := fun _ _ => Tryz.call128 _ _
theorem cok129 : callOk Tryz.prog 129 := fun _ _ => Tryz.call129 _ _
theorem cok130 : callOk Tryz.prog 130 := fun _ _ => Tryz.call130 _ _
theorem cok131 : callOk Tryz.prog 131 := fun _ _ => Tryz.call131 _ _
theorem cok132 : callOk Tryz.prog 132 := fun _ _ => Tryz.call132 _ _
theorem cok133 : callOk Tryz.prog 133 := fun _ _ => Tryz.call133 _ _
theorem cok134 : callOk Tryz.prog 134 := fun _ _ => Tryz.call134 _ _
theorem cok135 : callOk Tryz.prog 135 := fun _ _ => Tryz.call135 _ _
theorem cok136 : callOk Tryz.prog 136 := fun _ _ => Tryz.call136 _ _
theorem cok137 : callOk Tryz.prog 137 := fun _ _ => Tryz.call137 _ _
theorem cok138 : callOk Tryz.prog 138 := fun _ _ => Tryz.call138 _ _
theorem cok139 : callOk Tryz.prog 139 := fun _ _ => Tryz.call139 _ _
theorem cok140 : callOk Tryz.prog 140 := fun _ _ => Tryz.call140 _ _
theorem cok141 : callOk Tryz.prog 141 := fun _ _ => Tryz.call141 _ _
theorem cok142 : callOk Tryz.prog 142 := fun _ _ => Tryz.call142 _ _
theorem cok143 : callOk Tryz.prog 143 := fun _ _ => Tryz.call143 _ _
theorem cok144 : callOk Tryz.prog 144 := fun _ _ => Tryz.call144 _ _
theorem cok145 : callOk Tryz.prog 145 := fun _ _ => Tryz.call145 _ _
theorem cok146 : callOk Tryz.prog 146 := fun _ _ => Tryz.call146 _ _
theorem cok147 : callOk Tryz.prog 147 := fun _ _ => Tryz.call147 _ _
theorem cok148 : callOk Tryz.prog 148 := fun _ _ => Tryz.call148 _ _
theorem cok149 : callOk Tryz.prog 149 := fun _ _ => Tryz.call149 _ _
theorem cok150 : callOk Tryz.prog 150 := fun _ _ => Tryz.call150 _ _
theorem cok151 : callOk Tryz.prog 151 := fun _ _ => Tryz.call151 _ _
theorem cok152 : callOk Tryz.prog 152 := fun _ _ => Tryz.call152 _ _
theorem cok153 : callOk Tryz.prog 153 := fun _ _ => Tryz.call153 _ _
theorem cok154 : callOk Tryz.prog 154 := fun _ _ => Tryz.call154 _ _
theorem cok155 : callOk Tryz.prog 155 := fun _ _ => Tryz.call155 _ _
theorem cok156 : callOk Tryz.prog 156 := fun _ _ => Tryz.call156 _ _
theorem cok157 : callOk Tryz.prog 157 := fun _ _ => Tryz.call157 _ _
theorem cok158 : callOk Tryz.prog 158 := fun _ _ => Tryz.call158 _ _
theorem cok159 : callOk Tryz.prog 159 := fun _ _ => Tryz.call159 _ _
theorem cok160 : callOk Tryz.prog 160 := fun _ _ => Tryz.call160 _ _
theorem cok161 : callOk Tryz.prog 161 := fun _ _ => Tryz.call161 _ _
theorem cok162 : callOk Tryz.prog 162 := fun _ _ => Tryz.call162 _ _
theorem cok163 : callOk Tryz.prog 163 := fun _ _ => Tryz.call163 _ _
theorem cok164 : callOk Tryz.prog 164 := fun _ _ => Tryz.call164 _ _

theorem back119 {G : Nat → Option (List V)} (l : List Int) : AC Tryz.prog G 119 [.sl false false (l.map encI)] [] (.fn 137 [.loc 100 0]) [(100, .cells 30 [.sl false false (l.map encI)])] := by
  refine AC.enter Tryz.func119 rfl ?_
  refine CodeOk.cutR (tl 4 [(1, .loc 100 0)]) [(100, .cells 30 [.sl false false (l.map encI)])] mix (by
      refine W.run D_ok 2 100 (by kernel_rfl) ?_
      exact W.fin (by decide) (by kernel_rfl) (Weak.sel [(100, 100)] [1] (by kernel_rfl) (by kernel_rfl) (by kernel_rfl))
      ) ?_
  refine CodeOk.cutR (tl 4 [(2, .fn 137 [.loc 100 0])]) [(100, .cells 30 [.sl false false (l.map encI)])] mix (by
      refine W.run D_ok 2 101 (by kernel_rfl) ?_
      exact W.fin (by decide) (by kernel_rfl) (Weak.sel [(100, 100)] [2] (by kernel_rfl) (by kernel_rfl) (by kernel_rfl))
      ) ?_
  refine CodeOk.ret ?_
  exact Ends.gen [(100, 100)] (.inr rfl) (RetV.one rfl (OneR.tmp (t := 2) (r := .fn 137 [.loc 100 0]) (by kernel_rfl))) (by kernel_rfl) (by kernel_rfl) (by kernel_rfl)

theorem backok137 : BackOk Tryz.prog 137 := by
  intro l g n Inv Stop w hmax hlen hdraw hround h0
  refine callsIn_wide.1 (callsIn_of_wp (F := Fence.wide) (n := 0) Tryz.func137 rfl trivial ?_ rfl)
  show Code.wpIn (fen none) 0 _ _ _ _ _
  simp only [Tryz.ntmps137, List.size_toArray, List.length_cons, List.length_nil, Nat.reduceAdd, Nat.reduceSub, Array.replicate_succ, Array.replicate_zero, List.push_toArray, List.append_toArray, List.nil_append, List.cons_append]
  refine wpIn_seq ?_
  refine wpIn_region_lit ?_
  obtain ⟨a0, cap0, hc0⟩ := hlen w h0
  have hn64 : (n : Int) ≤ 9223372036854775807 := by
    simp only [maxLen] at hmax
    omega
  refine listVal rfl (fun _ h => by cases h) (w' := w) (v := .slice a0 n cap0) ?_ ?_
  · simp only [execOp, Sem.run_bind]
    rw [run_load1 D_ok (t := 30) (by rfl) rfl (b := ⟨g, 0, none⟩) (by simp [Act.eval]) hc0]
    rfl
  refine listVal rfl (fun _ h => by cases h) (w' := w) (v := .int .i64 n) ?_ ?_
  · simp [execOp, resolve, invoke, builtin, Builtin.len_, run_underlying Tryz.underlying30, goInt, Act.eval, Act.put]
  refine listVal rfl (fun _ h => by cases h) (w' := w) (v := .int .i64 (IntKind.wrap .i64 ((n : Int) - 1))) ?_ ?_
  · simp [execOp, go_sem, Op.intArith, Act.eval, Act.put]
  refine listVal rfl (fun _ h => by cases h) (w' := w) (v := .int .i64 (IntKind.wrap .i64 ((n : Int) - 1))) ?_ ?_
  · simp [execOp, Act.eval, Act.put]
  unfold wpListIn
  rw [wrap64 (by omega) (by omega)]
  refine wpIn_block ?_
  refine wpIn_loop_rounds (n + 1) ?_
  refine rounds_by (fun k a W => Inv k W ∧ k ≤ n ∧ a.tmps.size = 19 ∧ slot a 0 = .func (.yield l) #[] #[] ∧ slot a 1 = .pointer (some ⟨g, 0, none⟩) ∧ slot a 3 = .int .i64 ((k : Int) - 1) ∧ a.defers = []) ?_ ?_ n _ w ?_
  · · rintro a W ⟨hi, hk, s1, s2, s3, s4, s5⟩
      refine wpIn_seq ?_
      refine wpIn_seq ?_
      refine wpIn_region_lit ?_
      refine listVal rfl (fun _ h => by cases h) (w' := W) (v := .int .i64 (-1)) ?_ ?_
      · simp only [execOp, eval_slot, s4]; rfl
      refine listVal rfl (fun _ h => by cases h) (w' := W) (v := .bool false) ?_ ?_
      · simp [execOp, go_sem, eval_slot, slot_put, s1]
      refine wpIn_cond_false (by simp [eval_slot, slot_put, aput_size, s1]) ?_
      refine wpIn_exit ?_
      refine ⟨by simp [aput_def, s5], _, results_none rfl _ _ _, ⟨_, rfl⟩, .inl hi⟩
  · · rintro k a W ⟨hi, hk, s1, s2, s3, s4, s5⟩
      have s4' : slot a 3 = .int .i64 (k : Int) := by rw [s4]; congr 1; omega
      obtain ⟨hkn, b, cap, v, c1, c2, c3, c4, f, tmps, asg, body, hy, hR⟩ := hround k W hi
      refine wpIn_seq ?_
      refine wpIn_seq ?_
      refine wpIn_region_lit ?_
      refine listVal rfl (fun _ h => by cases h) (w' := W) (v := .int .i64 k) ?_ ?_
      · simp only [execOp, eval_slot, s4']; rfl
      refine listVal rfl (fun _ h => by cases h) (w' := W) (v := .bool true) ?_ ?_
      · simp [execOp, go_sem, eval_slot, slot_put, s1]
      refine wpIn_cond_true (by simp [eval_slot, slot_put, aput_size, s1]) ?_
      refine wpIn_skip ?_
      refine wpIn_seq ?_
      refine wpIn_block ?_
      refine wpIn_seq ?_
      refine wpIn_region_lit ?_
      refine listVal rfl (fun _ h => by cases h) (w' := W) (v := .func (.yield l) #[] #[]) ?_ ?_
      · simp [execOp, eval_slot, slot_put, aput_size, s1, s2]
      refine listVal rfl (fun _ h => by cases h) (w' := W) (v := .int .i64 k) ?_ ?_
      · simp [execOp, eval_slot, slot_put, aput_size, s1, s4']
      refine listVal rfl (fun _ h => by cases h) (w' := W) (v := .slice (some b) n cap) ?_ ?_
      · simp only [execOp, Sem.run_bind]
        rw [run_load1 D_ok (t := 30) rfl rfl (by simp [eval_slot, slot_put, aput_size, s1, s3]) c1]
        rfl
      refine listVal rfl (fun _ h => by cases h) (w' := W) (v := .int .i64 k) ?_ ?_
      · simp [execOp, eval_slot, slot_put, aput_size, s1, s4']
      refine listVal rfl (fun _ h => by cases h) (w' := W) (v := .pointer (some (b.add k))) ?_ ?_
      · unfold execOp
        have hz : D.at 3 = some { d := .int .i64, size := 1, bytes := 8, zero := [.int .i64 0], cmp := false } := by kernel_rfl
        have hk' : (0 : Int) ≤ (k : Int) ∧ (k : Int) < (n : Int) := by omega
        simp only [eval_slot, slot_put, aput_size, s1, s4', Nat.reduceLT, Nat.reduceEqDiff, if_pos, if_neg, reduceIte, Nat.reduceBEq]
        simp only [Instr.indexAt, Sem.run_bind, asIntOf, Sem.run_pure, Result.andThen_ok, run_underlying Tryz.underlying30, Sem.run_ite, if_pos hk', (D_ok _ _ hz).sizeOf W]
        simp
      refine listVal rfl (fun _ h => by cases h) (w' := W) (v := v) ?_ ?_
      · simp only [execOp, Sem.run_bind]
        rw [run_load1 D_ok (t := 3) rfl rfl (by simp [eval_slot, slot_put, aput_size, s1]) c3]
        rfl
      refine listRound rfl (fun _ h => by cases h) (l := l) (f := f) (tmps := tmps) (asg := asg) (body := body) ?_ hR ?_
      · simp [execOp, resolve, invoke, eval_slot, slot_put, aput_size, s1, Deferred.ofValue, hy]
      rintro e W' (⟨rfl, hi'⟩ | ⟨rfl, hs⟩)
      · refine ⟨_, rfl, ?_⟩
        refine listVal rfl (fun _ h => by cases h) (w' := W') (v := .bool false) ?_ ?_
        · simp [execOp, go_sem, Op.unary, eval_slot, slot_put, aput_size, s1]
        refine wpIn_cond_false (by simp [eval_slot, slot_put, aput_size, s1]) ?_
        refine wpIn_skip ?_
        refine wpIn_region_lit ?_
        refine listVal rfl (fun _ h => by cases h) (w' := W') (v := .int .i64 k) ?_ ?_
        · simp [execOp, eval_slot, slot_put, aput_size, s1, s4']
        refine listVal rfl (fun _ h => by cases h) (w' := W') (v := .int .i64 ((k : Int) - 1)) ?_ ?_
        · have := wrap64 (n := (k : Int) - 1) (by omega) (by omega)
          simp [execOp, go_sem, Op.intArith, eval_slot, slot_put, aput_size, s1, this]
        refine listVal rfl (fun _ h => by cases h) (w' := W') (v := .int .i64 ((k : Int) - 1)) ?_ ?_
        · simp [execOp, eval_slot, slot_put, aput_size, s1]
        refine ⟨hi', by omega, ?_, ?_, ?_, ?_, ?_⟩
        · simp [aput_size, s1]
        · simp [slot_put, aput_size, s1, s2]
        · simp [slot_put, aput_size, s1, s3]
        · simp [slot_put, aput_size, s1]
        · simp [aput_def, s5]
      · refine ⟨_, rfl, ?_⟩
        refine listVal rfl (fun _ h => by cases h) (w' := W') (v := .bool true) ?_ ?_
        · simp [execOp, go_sem, Op.unary, eval_slot, slot_put, aput_size, s1]
        refine wpIn_cond_true (by simp [eval_slot, slot_put, aput_size, s1]) ?_
        refine wpIn_ret ?_
        exact ⟨by simp [aput_def, s5], _, results_none rfl _ _ _, ⟨_, rfl⟩, .inr hs⟩
  · refine ⟨h0, Nat.le_refl _, ?_, ?_, ?_, ?_, ?_⟩ <;> simp [slot, Act.put]

theorem m_spec_l1In_ok (a0 : Int) (a1 : Int) (a2 : Int) {r : Bool} (h : m_spec_l1In a0 a1 a2 = some r) :
    AC Tryz.prog (GS []) 51 [V.int a0, V.int a1, V.int a2] [] (V.bool r) [] := by
 rw [m_spec_l1In] at h
 refine AC.enter Tryz.func51 rfl ?_
 refine cu D_ok mix 1 100 (tl 15 [(0, V.int a0), (1, V.int a1), (2, V.int a2)]) [] (by kernel_rfl) ?_
 (revert h; refine bind_rev fun y1 hv2 h => ?_)
 refine CodeOk.cutR (tl 15 [(6, V.bool y1)]) [] mix (by
  refine W.run D_ok 4 100 (by kernel_rfl) ?_
  (revert hv2; refine cond_rev (fun hc3 hv2 => ?_) (fun hc3 hv2 => ?_))
  ·refine W.is 10 hc3 (by kernel_rfl) ?_
   refine W.run D_ok 5 100 (by kernel_rfl) ?_
   have hv2 := Option.some.inj hv2
   subst hv2
   exact W.fs [] [6] (by kernel_rfl)
  refine W.is 10 hc3 (by kernel_rfl) ?_
  refine W.run D_ok 5 100 (by kernel_rfl) ?_
  have hv2 := Option.some.inj hv2
  subst hv2
  exact W.fs [] [6] (by kernel_rfl)
  ) ?_
 refine CodeOk.ret ?_
 have h := Option.some.inj h
 subst h
 exact Ends.gen [] (.inr rfl) (RetV.one rfl (OneR.tmp (t := 6) (r := V.bool y1) (by kernel_rfl))) (by kernel_rfl) (by kernel_rfl) (by kernel_rfl)

theorem m_spec_Var_ok (N : Nat) (a0 : Int) {r : (List UInt8)} (h : m_spec_Var N a0 = some r) :
    AC Tryz.prog (GS []) 72 [V.int a0] [] (V.str r) [] := by
 rw [m_spec_Var] at h
 refine AC.enter Tryz.func72 rfl ?_
 refine cu D_ok mix 1 100 (tl 25 [(0, V.int a0)]) [] (by kernel_rfl) ?_
 refine CodeOk.seq' ?_
 (revert h; refine bind_rev fun r4 hx5 h => ?_)
 refine CodeOk.cutR (tl 25 [(0, V.int a0), (6, V.bool (!r4))]) [] mix (by
  refine W.run D_ok 1 100 (by kernel_rfl) ?_
  refine W.call0 (m_spec_l1In_ok a0 0 562949953421311 hx5) cok51 rfl (by kernel_rfl) ?_
  refine W.run D_ok 1 100 (by kernel_rfl) ?_
  exact W.fi (by kernel_rfl)
  ) ?_
 (revert h; refine cond_rev (fun hc6 h => ?_) (fun hc6 h => ?_))
 ·refine CodeOk.ifT hc6 (by kernel_rfl) ?_
  refine cu D_ok mix 1 100 (tl 25 [(2, V.str [])]) [] (by kernel_rfl) ?_
  refine CodeOk.ret ?_
  have h := Option.some.inj h
  subst h
  exact Ends.gen [] (.inr rfl) (RetV.one rfl (OneR.tmp (t := 2) (r := V.str []) (by kernel_rfl))) (by kernel_rfl) (by kernel_rfl) (by kernel_rfl)
 refine CodeOk.ifF hc6 (by kernel_rfl) ?_
 refine CodeOk.skip ?_
 refine cu D_ok mix 2 100 (tl 25 [(0, V.int a0), (3, .own 100)]) [(100, .vec false 5 1 ([].map byteRow))] (by kernel_rfl) ?_
 refine CodeOk.seq' ?_
 refine CodeOk.block' ?_
 refine CodeOk.loopJ (fun (⟨y17, y18⟩ : (Int × (List UInt8))) => ⟨tl 25 [(0, V.int y17), (3, .own 100)], [(100, .vec false 5 1 (y18.map byteRow))]⟩) (fun n i => m_spec_Var_l1 N n i = some r) (n0 := N) (i0 := (a0, [])) (Weak.sel [(100, 100)] [0, 3] (by kernel_rfl) (by kernel_rfl) (by kernel_rfl)) h (fun i h => by simp [m_spec_Var_l1] at h) ?_
 rintro n1 ⟨y17, y18⟩ h29 ih30
 rw [m_spec_Var_l1] at h29
 refine CodeOk.seq' ?_
 refine cu D_ok mix 2 165 (tl 25 [(0, V.int y17), (3, .own 100), (9, V.bool (decide (y17 ≥ 128)))]) [(100, .vec false 5 1 (y18.map byteRow))] (by kernel_rfl) ?_
 (revert h29; refine cond_rev (fun hc32 h29 => ?_) (fun hc32 h29 => ?_))
 ·refine CodeOk.ifT hc32 (by kernel_rfl) ?_
  refine CodeOk.skip ?_
  refine CodeOk.block' ?_
  (revert h29; refine bind_rev fun x24 hx34 h29 => ?_)
  refine CodeOk.cutR (tl 25 [(0, V.int y17), (3, .own 166)]) [(166, .vec false 5 1 (x24.map byteRow))] mix (by
   refine W.run D_ok 5 165 (by kernel_rfl) ?_
   refine W.run D_ok 1 165 (by kernel_rfl) ?_
   refine W.vecEq 165 (nn := true) (e := 5) (k := 1) (rows := [[.c (.int .u8 (IntKind.wrap .u8 (IntKind.wrap .i64 (128 + (Int.tmod y17 128)))))]]) (rows' := [(bytI (IntKind.wrap .i64 (128 + (Int.tmod y17 128))))].map byteRow) (by kernel_rfl) (by first | (simp only [List.map_cons, List.map_nil, ← bytI_row]; done) | (simp only [List.map_cons, List.map_nil, ← bytI_row]; rfl)) ?_
   refine W.appO D_ok byteRow (a := 100) (c := 165) (el := 5) (sz := 1) 1 hx34 rfl 166 (by kernel_rfl) ?_
   refine W.run D_ok 1 167 (by kernel_rfl) ?_
   exact W.fi (by kernel_rfl)
   ) ?_
  refine ce D_ok mix 3 167 (tl 25 [(0, V.int (IntKind.wrap .i64 (Int.tdiv y17 128))), (3, .own 166)]) [(166, .vec false 5 1 (x24.map byteRow))] (by kernel_rfl) (fun st hw => ?_)
  exact ih30 ((IntKind.wrap .i64 (Int.tdiv y17 128)), x24) h29 _ (hw.trans (Weak.sel [(166, 100)] [0, 3] (by kernel_rfl) (by kernel_rfl) (by kernel_rfl)))
 refine CodeOk.ifF hc32 (by kernel_rfl) ?_
 refine CodeOk.exit ?_
 (revert h29; refine bind_rev fun x26 hx36 h29 => ?_)
 refine CodeOk.cutR (tl 25 [(2, V.str x26)]) [] mix (by
  refine W.run D_ok 3 165 (by kernel_rfl) ?_
  refine W.run D_ok 1 165 (by kernel_rfl) ?_
  refine W.vecEq 165 (nn := true) (e := 5) (k := 1) (rows := [[.c (.int .u8 (IntKind.wrap .u8 y17))]]) (rows' := [(bytI y17)].map byteRow) (by kernel_rfl) (by first | (simp only [List.map_cons, List.map_nil, ← bytI_row]; done) | (simp only [List.map_cons, List.map_nil, ← bytI_row]; rfl)) ?_
  refine W.appO D_ok byteRow (a := 100) (c := 165) (el := 5) (sz := 1) 1 hx36 rfl 166 (by kernel_rfl) ?_
  refine W.strO D_ok x26 (a := 166) (by kernel_rfl) ?_
  refine W.run D_ok 1 167 (by kernel_rfl) ?_
  exact W.fi (by kernel_rfl)
  ) ?_
 refine CodeOk.ret ?_
 have h29 := Option.some.inj h29
 subst h29
 exact Ends.gen [] (.inr rfl) (RetV.one rfl (OneR.tmp (t := 2) (r := V.str x26) (by kernel_rfl))) (by kernel_rfl) (by kernel_rfl) (by kernel_rfl)

theorem m_spec_ReadVar_ok (N : Nat) (a0 : List UInt8) {r : (Int × Int)} (h : m_spec_ReadVar N a0 = some r) :
    AC Tryz.prog (GS []) 67 [V.str a0] [] (.tup [V.int r.1, V.int r.2]) [] := by
 rw [m_spec_ReadVar] at h
 refine AC.enter Tryz.func67 rfl ?_
 refine cu D_ok mix 2 100 (tl 39 [(0, V.str a0)]) [] (by kernel_rfl) ?_
 refine CodeOk.seq' ?_
 refine cu D_ok mix 1 100 (tl 39 [(0, V.str a0), (4, V.int 1)]) [] (by kernel_rfl) ?_
 refine CodeOk.block' ?_
 refine CodeOk.loopJ (fun (⟨a0, y295⟩ : ((List UInt8) × Int)) => ⟨tl 39 [(0, V.str a0), (4, V.int y295)], []⟩) (fun n i => m_spec_ReadVar_l1 N n i = some r) (n0 := N) (i0 := (a0, 1)) (Weak.sel [] [0, 4] (by kernel_rfl) (by kernel_rfl) (by kernel_rfl)) h (fun i h => by simp [m_spec_ReadVar_l1] at h) ?_
 rintro n1 ⟨a0, y295⟩ h465 ih466
 rw [m_spec_ReadVar_l1] at h465
 refine CodeOk.seq' ?_
 (revert h465; refine bind_rev fun y372 hv472 h465 => ?_)
 refine CodeOk.cutR (tl 39 [(0, V.str a0), (4, V.int y295), (14, V.bool y372)]) [] mix (by
  refine W.run D_ok 3 280 (by kernel_rfl) ?_
  (revert hv472; refine cond_rev (fun hc473 hv472 => ?_) (fun hc473 hv472 => ?_))
  ·refine W.is 9 hc473 (by kernel_rfl) ?_
   refine W.run D_ok 5 280 (by kernel_rfl) ?_
   have hv472 := Option.some.inj hv472
   subst hv472
   exact W.fs [] [0, 4, 14] (by kernel_rfl)
  refine W.is 9 hc473 (by kernel_rfl) ?_
  refine W.run D_ok 5 280 (by kernel_rfl) ?_
  have hv472 := Option.some.inj hv472
  subst hv472
  exact W.fs [] [0, 4, 14] (by kernel_rfl)
  ) ?_
 (revert h465; refine cond_rev (fun hc474 h465 => ?_) (fun hc474 h465 => ?_))
 ·refine CodeOk.ifT hc474 (by kernel_rfl) ?_
  refine CodeOk.skip ?_
  refine CodeOk.seq' ?_
  refine CodeOk.block' ?_
  refine cu D_ok mix 1 280 (tl 39 [(0, V.str a0), (4, V.int y295), (5, V.int 0)]) [] (by kernel_rfl) ?_
  refine CodeOk.seq' ?_
  refine cu D_ok mix 3 280 (tl 39 [(0, V.str a0), (4, V.int y295), (5, V.int 0), (6, V.int (IntKind.wrap .i64 (y295 - 1)))]) [] (by kernel_rfl) ?_
  refine CodeOk.block' ?_
  refine CodeOk.loopJ (fun (⟨a0, y295, y429, y430⟩ : ((List UInt8) × Int × Int × Int)) => ⟨tl 39 [(0, V.str a0), (4, V.int y295), (5, V.int y429), (6, V.int y430)], []⟩) (fun n i => m_spec_ReadVar_l2 N (m_spec_ReadVar_l1 N n1) n i = some r) (n0 := N) (i0 := (a0, y295, 0, (IntKind.wrap .i64 (y295 - 1)))) (Weak.sel [] [0, 4, 5, 6] (by kernel_rfl) (by kernel_rfl) (by kernel_rfl)) h465 (fun i h => by simp [m_spec_ReadVar_l2] at h) ?_
  rintro n2 ⟨a0, y295, y429, y430⟩ h552 ih553
  rw [m_spec_ReadVar_l2] at h552
  refine CodeOk.seq' ?_
  refine cu D_ok mix 2 340 (tl 39 [(0, V.str a0), (4, V.int y295), (5, V.int y429), (6, V.int y430), (20, V.bool (decide (y430 ≥ 0)))]) [] (by kernel_rfl) ?_
  (revert h552; refine cond_rev (fun hc555 h552 => ?_) (fun hc555 h552 => ?_))
  ·refine CodeOk.ifT hc555 (by kernel_rfl) ?_
   refine CodeOk.skip ?_
   refine CodeOk.seq' ?_
   refine CodeOk.block' ?_
   (revert h552; refine bind_rev fun b440 hx559 h552 => ?_)
   refine CodeOk.endR (tl 39 [(0, V.str a0), (4, V.int y295), (5, V.int (IntKind.wrap .i64 ((IntKind.wrap .i64 (y429 * 128)) + (Int.tmod (IntKind.wrap .i64 ((b440).toNat : Int)) 128)))), (6, V.int y430)]) [] mix (by
    refine W.run D_ok 4 340 (by kernel_rfl) ?_
    refine W.ixS D_ok hx559 (by kernel_rfl) ?_
    refine W.run D_ok 4 340 (by kernel_rfl) ?_
    exact W.fi (by kernel_rfl)
    ) (fun st hw => ?_)
   refine CodeOk.weak hw ?_
   refine ce D_ok mix 3 340 (tl 39 [(0, V.str a0), (4, V.int y295), (5, V.int (IntKind.wrap .i64 ((IntKind.wrap .i64 (y429 * 128)) + (Int.tmod (IntKind.wrap .i64 ((b440).toNat : Int)) 128)))), (6, V.int (IntKind.wrap .i64 (y430 - 1)))]) [] (by kernel_rfl) (fun st hw => ?_)
   exact ih553 (a0, y295, (IntKind.wrap .i64 ((IntKind.wrap .i64 (y429 * 128)) + (Int.tmod (IntKind.wrap .i64 ((b440).toNat : Int)) 128))), (IntKind.wrap .i64 (y430 - 1))) h552 _ (hw.trans (Weak.sel [] [0, 4, 5, 6] (by kernel_rfl) (by kernel_rfl) (by kernel_rfl)))
  refine CodeOk.ifF hc555 (by kernel_rfl) ?_
  refine CodeOk.exit ?_
  (revert h552; refine bind_rev fun r443 hx562 h552 => ?_)
  (revert h552; refine bind_rev fun s444 hx563 h552 => ?_)
  refine CodeOk.cutR (tl 39 [(0, V.str a0), (4, V.int y295), (5, V.int y429), (36, V.bool (r443 == s444))]) [] mix (by
   refine W.run D_ok 1 340 (by kernel_rfl) ?_
   refine W.call0 (m_spec_Var_ok N y429 hx562) cok72 rfl (by kernel_rfl) ?_
   refine W.run D_ok 2 340 (by kernel_rfl) ?_
   refine W.cutS D_ok hx563 (by kernel_rfl) ?_
   refine W.run D_ok 1 340 (by kernel_rfl) ?_
   exact W.fi (by kernel_rfl)
   ) ?_
  (revert h552; refine cond_rev (fun hc564 h552 => ?_) (fun hc564 h552 => ?_))
  ·refine CodeOk.ifT hc564 (by kernel_rfl) ?_
   refine cu D_ok mix 4 340 (tl 39 [(2, V.int y429), (3, V.int y295)]) [] (by kernel_rfl) ?_
   refine CodeOk.ret ?_
   have h552 := Option.some.inj h552
   subst h552
   exact Ends.gen [] (.inr rfl) (RetV.two rfl (OneR.tmp (t := 2) (r := V.int y429) (by kernel_rfl)) (OneR.tmp (t := 3) (r := V.int y295) (by kernel_rfl))) (by kernel_rfl) (by kernel_rfl) (by kernel_rfl)
  refine CodeOk.ifF hc564 (by kernel_rfl) ?_
  refine CodeOk.skip ?_
  refine ce D_ok mix 3 340 (tl 39 [(0, V.str a0), (4, V.int (IntKind.wrap .i64 (y295 + 1)))]) [] (by kernel_rfl) (fun st hw => ?_)
  exact ih466 (a0, (IntKind.wrap .i64 (y295 + 1))) h552 _ (hw.trans (Weak.sel [] [0, 4] (by kernel_rfl) (by kernel_rfl) (by kernel_rfl)))
 refine CodeOk.ifF hc474 (by kernel_rfl) ?_
 refine CodeOk.exit ?_
 refine cu D_ok mix 2 280 (tl 39 [(2, V.int 0), (3, V.int 0)]) [] (by kernel_rfl) ?_
 refine CodeOk.ret ?_
 have h465 := Option.some.inj h465
 subst h465
 exact Ends.gen [] (.inr rfl) (RetV.two rfl (OneR.tmp (t := 2) (r := V.int 0) (by kernel_rfl)) (OneR.tmp (t := 3) (r := V.int 0) (by kernel_rfl))) (by kernel_rfl) (by kernel_rfl) (by kernel_rfl)

theorem m_spec_l43Num_ok (N : Nat) (a0 : List UInt8) (a1 : Int) {r : (Int × Int)} (h : m_spec_l43Num N a0 a1 = some r) :
    AC Tryz.prog (GS []) 29 [V.str a0, V.int a1] [] (.tup [V.int r.1, V.int r.2]) [] := by
 rw [m_spec_l43Num] at h
 refine AC.enter Tryz.func29 rfl ?_
 refine cu D_ok mix 2 100 (tl 23 [(0, V.str a0), (1, V.int a1)]) [] (by kernel_rfl) ?_
 refine CodeOk.seq' ?_
 refine cu D_ok mix 2 100 (tl 23 [(0, V.str a0), (1, V.int a1), (9, V.bool (decide (a1 < 0)))]) [] (by kernel_rfl) ?_
 (revert h; refine cond_rev (fun hc2 h => ?_) (fun hc2 h => ?_))
 ·refine CodeOk.ifT hc2 (by kernel_rfl) ?_
  refine cu D_ok mix 2 100 (tl 23 [(4, V.int 0), (5, V.int (-1))]) [] (by kernel_rfl) ?_
  refine CodeOk.ret ?_
  have h := Option.some.inj h
  subst h
  exact Ends.gen [] (.inr rfl) (RetV.two rfl (OneR.tmp (t := 4) (r := V.int 0) (by kernel_rfl)) (OneR.tmp (t := 5) (r := V.int (-1)) (by kernel_rfl))) (by kernel_rfl) (by kernel_rfl) (by kernel_rfl)
 refine CodeOk.ifF hc2 (by kernel_rfl) ?_
 refine CodeOk.skip ?_
 (revert h; refine bind_rev fun s3 hx5 h => ?_)
 (revert h; refine bind_rev fun r4 hx6 h => ?_)
 refine CodeOk.cutR (tl 23 [(1, V.int a1), (6, V.int r4.1), (7, V.int r4.2)]) [] mix (by
  refine W.run D_ok 2 100 (by kernel_rfl) ?_
  refine W.cutS D_ok hx5 (by kernel_rfl) ?_
  refine W.call0 (m_spec_ReadVar_ok N s3 hx6) cok67 rfl (by kernel_rfl) ?_
  refine W.run D_ok 5 100 (by kernel_rfl) ?_
  exact W.fi (by kernel_rfl)
  ) ?_
 refine CodeOk.seq' ?_
 refine cu D_ok mix 2 100 (tl 23 [(1, V.int a1), (6, V.int r4.1), (7, V.int r4.2), (18, V.bool (r4.2 == 0))]) [] (by kernel_rfl) ?_
 (revert h; refine cond_rev (fun hc8 h => ?_) (fun hc8 h => ?_))
 ·refine CodeOk.ifT hc8 (by kernel_rfl) ?_
  refine cu D_ok mix 2 100 (tl 23 [(4, V.int 0), (5, V.int (-1))]) [] (by kernel_rfl) ?_
  refine CodeOk.ret ?_
  have h := Option.some.inj h
  subst h
  exact Ends.gen [] (.inr rfl) (RetV.two rfl (OneR.tmp (t := 4) (r := V.int 0) (by kernel_rfl)) (OneR.tmp (t := 5) (r := V.int (-1)) (by kernel_rfl))) (by kernel_rfl) (by kernel_rfl) (by kernel_rfl)
 refine CodeOk.ifF hc8 (by kernel_rfl) ?_
 refine CodeOk.skip ?_
 refine cu D_ok mix 6 100 (tl 23 [(4, V.int r4.1), (5, V.int (IntKind.wrap .i64 (a1 + r4.2)))]) [] (by kernel_rfl) ?_
 refine CodeOk.ret ?_
 have h := Option.some.inj h
 subst h
 exact Ends.gen [] (.inr rfl) (RetV.two rfl (OneR.tmp (t := 4) (r := V.int r4.1) (by kernel_rfl)) (OneR.tmp (t := 5) (r := V.int (IntKind.wrap .i64 (a1 + r4.2))) (by kernel_rfl))) (by kernel_rfl) (by kernel_rfl) (by kernel_rfl)

theorem m_spec_l43Read_ok (N : Nat) (a0 : List UInt8) (a1 : Int) {r : ((List UInt8) × Int)} (h : m_spec_l43Read N a0 a1 = some r) :
    AC Tryz.prog (GS []) 30 [V.str a0, V.int a1] [] (.tup [V.str r.1, V.int r.2]) [] := by
 rw [m_spec_l43Read] at h
 refine AC.enter Tryz.func30 rfl ?_
 refine cu D_ok mix 2 100 (tl 33 [(0, V.str a0), (1, V.int a1)]) [] (by kernel_rfl) ?_
 (revert h; refine bind_rev fun r2 hx2 h => ?_)
 refine CodeOk.cutR (tl 33 [(0, V.str a0), (6, V.int r2.1), (7, V.int r2.2)]) [] mix (by
  refine W.run D_ok 2 100 (by kernel_rfl) ?_
  refine W.call0 (m_spec_l43Num_ok N a0 a1 hx2) cok29 rfl (by kernel_rfl) ?_
  refine W.run D_ok 5 100 (by kernel_rfl) ?_
  exact W.fi (by kernel_rfl)
  ) ?_
 refine CodeOk.seq' ?_
 (revert h; refine bind_rev fun y4 hv8 h => ?_)
 refine CodeOk.cutR (tl 33 [(0, V.str a0), (6, V.int r2.1), (7, V.int r2.2), (23, V.bool y4)]) [] mix (by
  refine W.run D_ok 3 100 (by kernel_rfl) ?_
  (revert hv8; refine cond_rev (fun hc9 hv8 => ?_) (fun hc9 hv8 => ?_))
  ·refine W.is 16 hc9 (by kernel_rfl) ?_
   refine W.run D_ok 7 100 (by kernel_rfl) ?_
   have hv8 := Option.some.inj hv8
   subst hv8
   exact W.fs [] [0, 6, 7, 23] (by kernel_rfl)
  refine W.is 16 hc9 (by kernel_rfl) ?_
  refine W.run D_ok 7 100 (by kernel_rfl) ?_
  have hv8 := Option.some.inj hv8
  subst hv8
  exact W.fs [] [0, 6, 7, 23] (by kernel_rfl)
  ) ?_
 (revert h; refine cond_rev (fun hc10 h => ?_) (fun hc10 h => ?_))
 ·refine CodeOk.ifT hc10 (by kernel_rfl) ?_
  refine cu D_ok mix 2 100 (tl 33 [(4, V.str []), (5, V.int (-1))]) [] (by kernel_rfl) ?_
  refine CodeOk.ret ?_
  have h := Option.some.inj h
  subst h
  exact Ends.gen [] (.inr rfl) (RetV.two rfl (OneR.tmp (t := 4) (r := V.str []) (by kernel_rfl)) (OneR.tmp (t := 5) (r := V.int (-1)) (by kernel_rfl))) (by kernel_rfl) (by kernel_rfl) (by kernel_rfl)
 refine CodeOk.ifF hc10 (by kernel_rfl) ?_
 refine CodeOk.skip ?_
 (revert h; refine bind_rev fun s6 hx12 h => ?_)
 refine CodeOk.cutR (tl 33 [(4, V.str s6), (5, V.int (IntKind.wrap .i64 (r2.2 + r2.1)))]) [] mix (by
  refine W.run D_ok 5 100 (by kernel_rfl) ?_
  refine W.cutS D_ok hx12 (by kernel_rfl) ?_
  refine W.run D_ok 5 100 (by kernel_rfl) ?_
  exact W.fi (by kernel_rfl)
  ) ?_
 refine CodeOk.ret ?_
 have h := Option.some.inj h
 subst h
 exact Ends.gen [] (.inr rfl) (RetV.two rfl (OneR.tmp (t := 4) (r := V.str s6) (by kernel_rfl)) (OneR.tmp (t := 5) (r := V.int (IntKind.wrap .i64 (r2.2 + r2.1))) (by kernel_rfl))) (by kernel_rfl) (by kernel_rfl) (by kernel_rfl)

theorem m_spec_l43Kids_ok (a0 : List Int) (a1 : Int) {r : ((List Int) × (List Int))} (h : m_spec_l43Kids a0 a1 = some r) :
    AC Tryz.prog (GS []) 31 [.sl false false (a0.map encI), V.int a1] [] (.tup [.sl false false (r.1.map encI), .own 100]) [(100, .vec false 3 1 (r.2.map encI))] := by
 rw [m_spec_l43Kids] at h
 refine AC.enter Tryz.func31 rfl ?_
 refine cu D_ok mix 2 100 (tl 26 [(0, .sl false false (a0.map encI)), (1, V.int a1)]) [] (by kernel_rfl) ?_
 refine CodeOk.seq' ?_
 refine CodeOk.cutR (tl 26 [(0, .sl false false (a0.map encI)), (1, V.int a1), (9, V.bool (decide (a1 > (a0.length : Int))))]) [] mix (by
  refine W.run D_ok 2 100 (by kernel_rfl) ?_
  refine W.len D_ok encI a0 [] (by kernel_rfl) (by kernel_rfl) ?_
  refine W.run D_ok 1 100 (by kernel_rfl) ?_
  exact W.fi (by kernel_rfl)
  ) ?_
 (revert h; refine cond_rev (fun hc2 h => ?_) (fun hc2 h => ?_))
 ·refine CodeOk.ifT hc2 (by kernel_rfl) ?_
  refine cu D_ok mix 4 100 (tl 26 [(4, .own 100), (5, .own 101)]) [(101, .vec false 3 1 ([(-1)].map encI)), (100, .vec false 3 1 ([].map encI))] (by kernel_rfl) ?_
  refine CodeOk.lay (tl 26 [(4, .sl false false ([].map encI)), (5, .own 101)]) [(101, .vec false 3 1 ([(-1)].map encI))] (LayOk.cons (j := 100) encI encI ([] : List Int) (by kernel_rfl) (fun _ => rfl) (show LayOk _ [] from trivial)) (by kernel_rfl) (by kernel_rfl) (by kernel_rfl) ?_
  refine CodeOk.ret ?_
  have h := Option.some.inj h
  subst h
  exact Ends.gen [(101, 100)] (.inr rfl) (RetV.two rfl (OneR.tmp (t := 4) (r := .sl false false ([].map encI)) (by kernel_rfl)) (OneR.tmp (t := 5) (r := .own 101) (by kernel_rfl))) (by kernel_rfl) (by kernel_rfl) (by kernel_rfl)
 refine CodeOk.ifF hc2 (by kernel_rfl) ?_
 refine CodeOk.skip ?_
 (revert h; refine bind_rev fun l4 hx6 h => ?_)
 (revert h; refine bind_rev fun l5 hx7 h => ?_)
 (revert h; refine bind_rev fun x6 hx8 h => ?_)
 refine CodeOk.cutR (tl 26 [(4, .sl false false (l4.map encI)), (5, .own 101)]) [(101, .vec false 3 1 (x6.map encI))] mix (by
  refine W.run D_ok 2 100 (by kernel_rfl) ?_
  refine W.len D_ok encI a0 [] (by kernel_rfl) (by kernel_rfl) ?_
  refine W.run D_ok 2 100 (by kernel_rfl) ?_
  refine W.cutD D_ok encI hx6 false 1 (fun _ => by first | rfl | kernel_rfl) (by kernel_rfl) ?_
  refine W.run D_ok 3 100 (by kernel_rfl) ?_
  refine W.len D_ok encI a0 [] (by kernel_rfl) (by kernel_rfl) ?_
  refine W.run D_ok 2 101 (by kernel_rfl) ?_
  refine W.cutD D_ok encI hx7 false 1 (fun _ => by first | rfl | kernel_rfl) (by kernel_rfl) ?_
  refine W.appD D_ok encI (a := 100) (el := 3) 8 hx8 rfl 101 1 (fun _ => by first | rfl | kernel_rfl) (by kernel_rfl) ?_
  refine W.run D_ok 2 102 (by kernel_rfl) ?_
  exact W.fi (by kernel_rfl)
  ) ?_
 refine CodeOk.ret ?_
 have h := Option.some.inj h
 subst h
 exact Ends.gen [(101, 100)] (.inr rfl) (RetV.two rfl (OneR.tmp (t := 4) (r := .sl false false (l4.map encI)) (by kernel_rfl)) (OneR.tmp (t := 5) (r := .own 101) (by kernel_rfl))) (by kernel_rfl) (by kernel_rfl) (by kernel_rfl)

theorem m_spec_l6Starts_ok (N : Nat) (a0 : List SNode) {r : ((List Int) × Bool)} (h : m_spec_l6Starts N a0 = some r) :
    AC Tryz.prog (GS []) 98 [.sl false false (a0.map (encSNode false))] [] (.tup [.own 100, V.bool r.2]) [(100, .vec false 3 1 (r.1.map encI))] := by
 rw [m_spec_l6Starts] at h
 refine AC.enter Tryz.func98 rfl ?_
 refine cu D_ok mix 2 100 (tl 53 [(0, .sl false false (a0.map (encSNode false)))]) [] (by kernel_rfl) ?_
 refine cu D_ok mix 2 100 (tl 53 [(0, .sl false false (a0.map (encSNode false))), (4, .own 100)]) [(100, .vec false 3 1 ([].map encI))] (by kernel_rfl) ?_
 refine CodeOk.seq' ?_
 refine cu D_ok mix 1 101 (tl 53 [(0, .sl false false (a0.map (encSNode false))), (4, .own 100), (5, V.int 0)]) [(100, .vec false 3 1 ([].map encI))] (by kernel_rfl) ?_
 refine CodeOk.block' ?_
 refine CodeOk.loopJ (fun (⟨a0, y917, y918⟩ : ((List SNode) × Int × (List Int))) => ⟨tl 53 [(0, .sl false false (a0.map (encSNode false))), (4, .own 100), (5, V.int y917)], [(100, .vec false 3 1 (y918.map encI))]⟩) (fun n i => m_spec_l6Starts_l1 N n i = some r) (n0 := N) (i0 := (a0, 0, [])) (Weak.sel [(100, 100)] [0, 4, 5] (by kernel_rfl) (by kernel_rfl) (by kernel_rfl)) h (fun i h => by simp [m_spec_l6Starts_l1] at h) ?_
 rintro n1 ⟨a0, y917, y918⟩ h1961 ih1962
 rw [m_spec_l6Starts_l1] at h1961
 refine CodeOk.seq' ?_
 refine CodeOk.cutR (tl 53 [(0, .sl false false (a0.map (encSNode false))), (4, .own 100), (5, V.int y917), (12, V.bool (decide (y917 < (a0.length : Int))))]) [(100, .vec false 3 1 (y918.map encI))] mix (by
  refine W.run D_ok 2 245 (by kernel_rfl) ?_
  refine W.len D_ok (encSNode false) a0 [] (by kernel_rfl) (by kernel_rfl) ?_
  refine W.run D_ok 1 245 (by kernel_rfl) ?_
  exact W.fi (by kernel_rfl)
  ) ?_
 (revert h1961; refine cond_rev (fun hc1964 h1961 => ?_) (fun hc1964 h1961 => ?_))
 ·refine CodeOk.ifT hc1964 (by kernel_rfl) ?_
  refine CodeOk.skip ?_
  refine CodeOk.seq' ?_
  refine CodeOk.block' ?_
  refine cu D_ok mix 2 245 (tl 53 [(0, .sl false false (a0.map (encSNode false))), (4, .own 100), (5, V.int y917), (6, V.int y917)]) [(100, .vec false 3 1 (y918.map encI))] (by kernel_rfl) ?_
  refine CodeOk.seq' ?_
  (revert h1961; refine bind_rev fun e1474 hx2322 h1961 => ?_)
  refine CodeOk.cutR (tl 53 [(0, .sl false false (a0.map (encSNode false))), (4, .own 100), (5, V.int y917), (6, V.int y917), (7, V.int (IntKind.wrap .i64 ((e1474.Kids.length : Int) - 1)))]) [(100, .vec false 3 1 (y918.map encI))] mix (by
   refine W.run D_ok 2 245 (by kernel_rfl) ?_
   refine W.ixD D_ok (encSNode false) hx2322 5 (by kernel_rfl) (by kernel_rfl) ?_
   refine W.run D_ok 2 245 (by kernel_rfl) ?_
   refine W.len D_ok encI e1474.Kids [] (by kernel_rfl) (by kernel_rfl) ?_
   refine W.run D_ok 2 245 (by kernel_rfl) ?_
   exact W.fi (by kernel_rfl)
   ) ?_
  refine CodeOk.block' ?_
  refine CodeOk.loopJ (fun (⟨a0, y917, y918, y1499, y1500⟩ : ((List SNode) × Int × (List Int) × Int × Int)) => ⟨tl 53 [(0, .sl false false (a0.map (encSNode false))), (4, .own 100), (5, V.int y917), (6, V.int y1499), (7, V.int y1500)], [(100, .vec false 3 1 (y918.map encI))]⟩) (fun n i => m_spec_l6Starts_l2 N (m_spec_l6Starts_l1 N n1) n i = some r) (n0 := N) (i0 := (a0, y917, y918, y917, (IntKind.wrap .i64 ((e1474.Kids.length : Int) - 1)))) (Weak.sel [(100, 100)] [0, 4, 5, 6, 7] (by kernel_rfl) (by kernel_rfl) (by kernel_rfl)) h1961 (fun i h => by simp [m_spec_l6Starts_l2] at h) ?_
  rintro n2 ⟨a0, y917, y918, y1499, y1500⟩ h2399 ih2400
  rw [m_spec_l6Starts_l2] at h2399
  refine CodeOk.seq' ?_
  refine cu D_ok mix 2 305 (tl 53 [(0, .sl false false (a0.map (encSNode false))), (4, .own 100), (5, V.int y917), (6, V.int y1499), (7, V.int y1500), (24, V.bool (decide (y1500 ≥ 0)))]) [(100, .vec false 3 1 (y918.map encI))] (by kernel_rfl) ?_
  (revert h2399; refine cond_rev (fun hc2402 h2399 => ?_) (fun hc2402 h2399 => ?_))
  ·refine CodeOk.ifT hc2402 (by kernel_rfl) ?_
   refine CodeOk.skip ?_
   refine CodeOk.seq' ?_
   refine CodeOk.block' ?_
   refine CodeOk.seq' ?_
   (revert h2399; refine bind_rev fun y1546 hv2432 h2399 => ?_)
   refine CodeOk.cutR (tl 53 [(0, .sl false false (a0.map (encSNode false))), (4, .own 100), (5, V.int y917), (6, V.int y1499), (7, V.int y1500), (41, V.bool y1546)]) [(100, .vec false 3 1 (y918.map encI))] mix (by
    refine W.run D_ok 2 305 (by kernel_rfl) ?_
    (revert hv2432; refine bind_rev fun e1547 hx2433 hv2432 => ?_)
    refine W.ixD D_ok (encSNode false) hx2433 5 (by kernel_rfl) (by kernel_rfl) ?_
    refine W.run D_ok 3 305 (by kernel_rfl) ?_
    (revert hv2432; refine bind_rev fun e1548 hx2434 hv2432 => ?_)
    refine W.ixD D_ok encI hx2434 1 (by kernel_rfl) (by kernel_rfl) ?_
    refine W.run D_ok 5 305 (by kernel_rfl) ?_
    (revert hv2432; refine cond_rev (fun hc2435 hv2432 => ?_) (fun hc2435 hv2432 => ?_))
    ·refine W.is 38 hc2435 (by kernel_rfl) ?_
     refine W.run D_ok 3 305 (by kernel_rfl) ?_
     have hv2432 := Option.some.inj hv2432
     subst hv2432
     exact W.fs [(100, 100)] [0, 4, 5, 6, 7, 41] (by kernel_rfl)
    refine W.is 38 hc2435 (by kernel_rfl) ?_
    refine W.run D_ok 3 305 (by kernel_rfl) ?_
    have hv2432 := Option.some.inj hv2432
    subst hv2432
    exact W.fs [(100, 100)] [0, 4, 5, 6, 7, 41] (by kernel_rfl)
    ) ?_
   (revert h2399; refine cond_rev (fun hc2436 h2399 => ?_) (fun hc2436 h2399 => ?_))
   ·refine CodeOk.ifT hc2436 (by kernel_rfl) ?_
    refine cu D_ok mix 3 305 (tl 53 [(2, .own 305), (3, V.bool false)]) [(305, .vec false 3 1 ([].map encI))] (by kernel_rfl) ?_
    refine CodeOk.ret ?_
    have h2399 := Option.some.inj h2399
    subst h2399
    exact Ends.gen [(305, 100)] (.inr rfl) (RetV.two rfl (OneR.tmp (t := 2) (r := .own 305) (by kernel_rfl)) (OneR.tmp (t := 3) (r := V.bool false) (by kernel_rfl))) (by kernel_rfl) (by kernel_rfl) (by kernel_rfl)
   refine CodeOk.ifF hc2436 (by kernel_rfl) ?_
   refine CodeOk.skip ?_
   (revert h2399; refine bind_rev fun e1550 hx2438 h2399 => ?_)
   refine CodeOk.endR (tl 53 [(0, .sl false false (a0.map (encSNode false))), (4, .own 100), (5, V.int y917), (6, V.int e1550), (7, V.int y1500)]) [(100, .vec false 3 1 (y918.map encI))] mix (by
    refine W.run D_ok 3 305 (by kernel_rfl) ?_
    refine W.ixO D_ok encI hx2438 100 1 (by kernel_rfl) ?_
    refine W.ldO D_ok encI hx2438 3 100 0 (V.int e1550) (by kernel_rfl) (by kernel_rfl) ?_
    refine W.run D_ok 1 305 (by kernel_rfl) ?_
    exact W.fi (by kernel_rfl)
    ) (fun st hw => ?_)
   refine CodeOk.weak hw ?_
   refine ce D_ok mix 3 305 (tl 53 [(0, .sl false false (a0.map (encSNode false))), (4, .own 100), (5, V.int y917), (6, V.int e1550), (7, V.int (IntKind.wrap .i64 (y1500 - 1)))]) [(100, .vec false 3 1 (y918.map encI))] (by kernel_rfl) (fun st hw => ?_)
   exact ih2400 (a0, y917, y918, e1550, (IntKind.wrap .i64 (y1500 - 1))) h2399 _ (hw.trans (Weak.sel [(100, 100)] [0, 4, 5, 6, 7] (by kernel_rfl) (by kernel_rfl) (by kernel_rfl)))
  refine CodeOk.ifF hc2402 (by kernel_rfl) ?_
  refine CodeOk.exit ?_
  (revert h2399; refine bind_rev fun x1552 hx2440 h2399 => ?_)
  refine CodeOk.endR (tl 53 [(0, .sl false false (a0.map (encSNode false))), (4, .own 306), (5, V.int y917)]) [(306, .vec false 3 1 (x1552.map encI))] mix (by
   refine W.run D_ok 3 305 (by kernel_rfl) ?_
   refine W.appO D_ok encI (a := 100) (c := 305) (el := 3) (sz := 1) 8 hx2440 rfl 306 (by kernel_rfl) ?_
   refine W.run D_ok 1 307 (by kernel_rfl) ?_
   exact W.fi (by kernel_rfl)
   ) (fun st hw => ?_)
  refine CodeOk.weak hw ?_
  refine ce D_ok mix 3 307 (tl 53 [(0, .sl false false (a0.map (encSNode false))), (4, .own 306), (5, V.int (IntKind.wrap .i64 (y917 + 1)))]) [(306, .vec false 3 1 (x1552.map encI))] (by kernel_rfl) (fun st hw => ?_)
  exact ih1962 (a0, (IntKind.wrap .i64 (y917 + 1)), x1552) h2399 _ (hw.trans (Weak.sel [(306, 100)] [0, 4, 5] (by kernel_rfl) (by kernel_rfl) (by kernel_rfl)))
 refine CodeOk.ifF hc1964 (by kernel_rfl) ?_
 refine CodeOk.exit ?_
 refine cu D_ok mix 3 245 (tl 53 [(2, .own 100), (3, V.bool true)]) [(100, .vec false 3 1 (y918.map encI))] (by kernel_rfl) ?_
 refine CodeOk.ret ?_
 have h1961 := Option.some.inj h1961
 subst h1961
 exact Ends.gen [(100, 100)] (.inr rfl) (RetV.two rfl (OneR.tmp (t := 2) (r := .own 100) (by kernel_rfl)) (OneR.tmp (t := 3) (r := V.bool true) (by kernel_rfl))) (by kernel_rfl) (by kernel_rfl) (by kernel_rfl)

theorem m_spec_ShapeOk_ok (N : Nat) (a0 : List SNode) {r : Bool} (h : m_spec_ShapeOk N a0 = some r) :
    AC Tryz.prog (GS []) 68 [.sl false false (a0.map (encSNode false))] [] (V.bool r) [] := by
 rw [m_spec_ShapeOk] at h
 refine AC.enter Tryz.func68 rfl ?_
 refine cu D_ok mix 1 100 (tl 24 [(0, .sl false false (a0.map (encSNode false)))]) [] (by kernel_rfl) ?_
 refine CodeOk.seq' ?_
 (revert h; refine bind_rev fun r4 hx5 h => ?_)
 refine CodeOk.cutR (tl 24 [(0, .sl false false (a0.map (encSNode false))), (8, V.bool (!r4))]) [] mix (by
  refine W.run D_ok 1 100 (by kernel_rfl) ?_
  refine W.len D_ok (encSNode false) a0 [] (by kernel_rfl) (by kernel_rfl) ?_
  refine W.call0 (m_spec_l1In_ok (a0.length : Int) 1 400 hx5) cok51 rfl (by kernel_rfl) ?_
  refine W.run D_ok 1 100 (by kernel_rfl) ?_
  exact W.fi (by kernel_rfl)
  ) ?_
 (revert h; refine cond_rev (fun hc6 h => ?_) (fun hc6 h => ?_))
 ·refine CodeOk.ifT hc6 (by kernel_rfl) ?_
  refine cu D_ok mix 1 100 (tl 24 [(2, V.bool false)]) [] (by kernel_rfl) ?_
  refine CodeOk.ret ?_
  have h := Option.some.inj h
  subst h
  exact Ends.gen [] (.inr rfl) (RetV.one rfl (OneR.tmp (t := 2) (r := V.bool false) (by kernel_rfl))) (by kernel_rfl) (by kernel_rfl) (by kernel_rfl)
 refine CodeOk.ifF hc6 (by kernel_rfl) ?_
 refine CodeOk.skip ?_
 (revert h; refine bind_rev fun r6 hx8 h => ?_)
 refine CodeOk.cutR (tl 24 [(0, .sl false false (a0.map (encSNode false))), (3, .own 100), (4, V.bool r6.2)]) [(100, .vec false 3 1 (r6.1.map encI))] mix (by
  refine W.run D_ok 1 100 (by kernel_rfl) ?_
  refine W.call (m_spec_l6Starts_ok N a0 hx8) cok98 [] [(100, 100)] [100] (show LayOk _ [] from trivial) (by kernel_rfl) (by kernel_rfl) ?_
  refine W.run D_ok 5 101 (by kernel_rfl) ?_
  exact W.fi (by kernel_rfl)
  ) ?_
 (revert h; refine bind_rev fun y8 hv11 h => ?_)
 refine CodeOk.cutR (tl 24 [(2, V.bool y8)]) [] mix (by
  refine W.run D_ok 2 101 (by kernel_rfl) ?_
  (revert hv11; refine cond_rev (fun hc12 hv11 => ?_) (fun hc12 hv11 => ?_))
  ·refine W.is 15 hc12 (by kernel_rfl) ?_
   refine W.run D_ok 2 101 (by kernel_rfl) ?_
   refine W.len D_ok (encSNode false) a0 [] (by kernel_rfl) (by kernel_rfl) ?_
   refine W.run D_ok 1 101 (by kernel_rfl) ?_
   (revert hv11; refine bind_rev fun e9 hx13 hv11 => ?_)
   refine W.ixO D_ok encI hx13 100 1 (by kernel_rfl) ?_
   refine W.ldO D_ok encI hx13 3 100 0 (V.int e9) (by kernel_rfl) (by kernel_rfl) ?_
   refine W.run D_ok 3 101 (by kernel_rfl) ?_
   have hv11 := Option.some.inj hv11
   subst hv11
   exact W.fs [] [2] (by kernel_rfl)
  refine W.is 15 hc12 (by kernel_rfl) ?_
  refine W.run D_ok 9 101 (by kernel_rfl) ?_
  have hv11 := Option.some.inj hv11
  subst hv11
  exact W.fs [] [2] (by kernel_rfl)
  ) ?_
 refine CodeOk.ret ?_
 have h := Option.some.inj h
 subst h
 exact Ends.gen [] (.inr rfl) (RetV.one rfl (OneR.tmp (t := 2) (r := V.bool y8) (by kernel_rfl))) (by kernel_rfl) (by kernel_rfl) (by kernel_rfl)

theorem m_spec_DepthOf_ok (N : Nat) (a0 : List SNode) {r : Int} (h : m_spec_DepthOf N a0 = some r) :
    AC Tryz.prog (GS []) 69 [.sl false false (a0.map (encSNode false))] [] (V.int r) [] := by
 rw [m_spec_DepthOf] at h
 refine AC.enter Tryz.func69 rfl ?_
 refine cu D_ok mix 1 100 (tl 51 [(0, .sl false false (a0.map (encSNode false)))]) [] (by kernel_rfl) ?_
 refine CodeOk.seq' ?_
 (revert h; refine bind_rev fun r4 hx5 h => ?_)
 refine CodeOk.cutR (tl 51 [(0, .sl false false (a0.map (encSNode false))), (9, V.bool (!r4))]) [] mix (by
  refine W.run D_ok 1 100 (by kernel_rfl) ?_
  refine W.call0 (m_spec_ShapeOk_ok N a0 hx5) cok68 rfl (by kernel_rfl) ?_
  refine W.run D_ok 1 100 (by kernel_rfl) ?_
  exact W.fi (by kernel_rfl)
  ) ?_
 (revert h; refine cond_rev (fun hc6 h => ?_) (fun hc6 h => ?_))
 ·refine CodeOk.ifT hc6 (by kernel_rfl) ?_
  refine cu D_ok mix 1 100 (tl 51 [(2, V.int 0)]) [] (by kernel_rfl) ?_
  refine CodeOk.ret ?_
  have h := Option.some.inj h
  subst h
  exact Ends.gen [] (.inr rfl) (RetV.one rfl (OneR.tmp (t := 2) (r := V.int 0) (by kernel_rfl))) (by kernel_rfl) (by kernel_rfl) (by kernel_rfl)
 refine CodeOk.ifF hc6 (by kernel_rfl) ?_
 refine CodeOk.skip ?_
 refine cu D_ok mix 2 100 (tl 51 [(0, .sl false false (a0.map (encSNode false))), (3, .own 100)]) [(100, .vec false 3 1 ([].map encI))] (by kernel_rfl) ?_
 refine CodeOk.seq' ?_
 refine cu D_ok mix 1 101 (tl 51 [(0, .sl false false (a0.map (encSNode false))), (3, .own 100), (4, V.int 0)]) [(100, .vec false 3 1 ([].map encI))] (by kernel_rfl) ?_
 refine CodeOk.block' ?_
 refine CodeOk.loopJ (fun (⟨a0, y857, y858⟩ : ((List SNode) × Int × (List Int))) => ⟨tl 51 [(0, .sl false false (a0.map (encSNode false))), (3, .own 100), (4, V.int y857)], [(100, .vec false 3 1 (y858.map encI))]⟩) (fun n i => m_spec_DepthOf_l1 N n i = some r) (n0 := N) (i0 := (a0, 0, [])) (Weak.sel [(100, 100)] [0, 3, 4] (by kernel_rfl) (by kernel_rfl) (by kernel_rfl)) h (fun i h => by simp [m_spec_DepthOf_l1] at h) ?_
 rintro n1 ⟨a0, y857, y858⟩ h1159 ih1160
 rw [m_spec_DepthOf_l1] at h1159
 refine CodeOk.seq' ?_
 refine CodeOk.cutR (tl 51 [(0, .sl false false (a0.map (encSNode false))), (3, .own 100), (4, V.int y857), (14, V.bool (decide (y857 < (a0.length : Int))))]) [(100, .vec false 3 1 (y858.map encI))] mix (by
  refine W.run D_ok 2 285 (by kernel_rfl) ?_
  refine W.len D_ok (encSNode false) a0 [] (by kernel_rfl) (by kernel_rfl) ?_
  refine W.run D_ok 1 285 (by kernel_rfl) ?_
  exact W.fi (by kernel_rfl)
  ) ?_
 (revert h1159; refine cond_rev (fun hc1162 h1159 => ?_) (fun hc1162 h1159 => ?_))
 ·refine CodeOk.ifT hc1162 (by kernel_rfl) ?_
  refine CodeOk.skip ?_
  refine CodeOk.seq' ?_
  refine CodeOk.block' ?_
  refine cu D_ok mix 1 285 (tl 51 [(0, .sl false false (a0.map (encSNode false))), (3, .own 100), (4, V.int y857), (5, V.int 1)]) [(100, .vec false 3 1 (y858.map encI))] (by kernel_rfl) ?_
  refine CodeOk.seq' ?_
  refine cu D_ok mix 1 285 (tl 51 [(0, .sl false false (a0.map (encSNode false))), (3, .own 100), (4, V.int y857), (5, V.int 1), (6, V.int 0)]) [(100, .vec false 3 1 (y858.map encI))] (by kernel_rfl) ?_
  refine CodeOk.block' ?_
  refine CodeOk.loopJ (fun (⟨a0, y857, y858, y1247, y1248⟩ : ((List SNode) × Int × (List Int) × Int × Int)) => ⟨tl 51 [(0, .sl false false (a0.map (encSNode false))), (3, .own 100), (4, V.int y857), (5, V.int y1247), (6, V.int y1248)], [(100, .vec false 3 1 (y858.map encI))]⟩) (fun n i => m_spec_DepthOf_l2 N (m_spec_DepthOf_l1 N n1) n i = some r) (n0 := N) (i0 := (a0, y857, y858, 1, 0)) (Weak.sel [(100, 100)] [0, 3, 4, 5, 6] (by kernel_rfl) (by kernel_rfl) (by kernel_rfl)) h1159 (fun i h => by simp [m_spec_DepthOf_l2] at h) ?_
  rintro n2 ⟨a0, y857, y858, y1247, y1248⟩ h1369 ih1370
  rw [m_spec_DepthOf_l2] at h1369
  refine CodeOk.seq' ?_
  (revert h1369; refine bind_rev fun e1270 hx1375 h1369 => ?_)
  refine CodeOk.cutR (tl 51 [(0, .sl false false (a0.map (encSNode false))), (3, .own 100), (4, V.int y857), (5, V.int y1247), (6, V.int y1248), (24, V.bool (decide (y1248 < (e1270.Kids.length : Int))))]) [(100, .vec false 3 1 (y858.map encI))] mix (by
   refine W.run D_ok 3 345 (by kernel_rfl) ?_
   refine W.ixD D_ok (encSNode false) hx1375 5 (by kernel_rfl) (by kernel_rfl) ?_
   refine W.run D_ok 2 345 (by kernel_rfl) ?_
   refine W.len D_ok encI e1270.Kids [] (by kernel_rfl) (by kernel_rfl) ?_
   refine W.run D_ok 1 345 (by kernel_rfl) ?_
   exact W.fi (by kernel_rfl)
   ) ?_
  (revert h1369; refine cond_rev (fun hc1376 h1369 => ?_) (fun hc1376 h1369 => ?_))
  ·refine CodeOk.ifT hc1376 (by kernel_rfl) ?_
   refine CodeOk.skip ?_
   refine CodeOk.seq' ?_
   refine CodeOk.block' ?_
   (revert h1369; refine bind_rev fun e1280 hx1386 h1369 => ?_)
   (revert h1369; refine bind_rev fun e1281 hx1387 h1369 => ?_)
   (revert h1369; refine bind_rev fun e1282 hx1388 h1369 => ?_)
   refine CodeOk.endR (tl 51 [(0, .sl false false (a0.map (encSNode false))), (3, .own 100), (4, V.int y857), (5, V.int (if (IntKind.wrap .i64 (1 + e1282)) > y1247 then (IntKind.wrap .i64 (1 + e1282)) else y1247)), (6, V.int y1248)]) [(100, .vec false 3 1 (y858.map encI))] mix (by
    refine W.run D_ok 4 345 (by kernel_rfl) ?_
    refine W.ixD D_ok (encSNode false) hx1386 5 (by kernel_rfl) (by kernel_rfl) ?_
    refine W.run D_ok 3 345 (by kernel_rfl) ?_
    refine W.ixD D_ok encI hx1387 1 (by kernel_rfl) (by kernel_rfl) ?_
    refine W.run D_ok 1 345 (by kernel_rfl) ?_
    refine W.ixO D_ok encI hx1388 100 1 (by kernel_rfl) ?_
    refine W.ldO D_ok encI hx1388 3 100 0 (V.int e1282) (by kernel_rfl) (by kernel_rfl) ?_
    refine W.run D_ok 3 345 (by kernel_rfl) ?_
    exact W.fi (by kernel_rfl)
    ) (fun st hw => ?_)
   refine CodeOk.weak hw ?_
   refine ce D_ok mix 3 345 (tl 51 [(0, .sl false false (a0.map (encSNode false))), (3, .own 100), (4, V.int y857), (5, V.int (if (IntKind.wrap .i64 (1 + e1282)) > y1247 then (IntKind.wrap .i64 (1 + e1282)) else y1247)), (6, V.int (IntKind.wrap .i64 (y1248 + 1)))]) [(100, .vec false 3 1 (y858.map encI))] (by kernel_rfl) (fun st hw => ?_)
   exact ih1370 (a0, y857, y858, (if (IntKind.wrap .i64 (1 + e1282)) > y1247 then (IntKind.wrap .i64 (1 + e1282)) else y1247), (IntKind.wrap .i64 (y1248 + 1))) h1369 _ (hw.trans (Weak.sel [(100, 100)] [0, 3, 4, 5, 6] (by kernel_rfl) (by kernel_rfl) (by kernel_rfl)))
  refine CodeOk.ifF hc1376 (by kernel_rfl) ?_
  refine CodeOk.exit ?_
  (revert h1369; refine bind_rev fun x1284 hx1390 h1369 => ?_)
  refine CodeOk.endR (tl 51 [(0, .sl false false (a0.map (encSNode false))), (3, .own 346), (4, V.int y857)]) [(346, .vec false 3 1 (x1284.map encI))] mix (by
   refine W.run D_ok 3 345 (by kernel_rfl) ?_
   refine W.appO D_ok encI (a := 100) (c := 345) (el := 3) (sz := 1) 8 hx1390 rfl 346 (by kernel_rfl) ?_
   refine W.run D_ok 1 347 (by kernel_rfl) ?_
   exact W.fi (by kernel_rfl)
   ) (fun st hw => ?_)
  refine CodeOk.weak hw ?_
  refine ce D_ok mix 3 347 (tl 51 [(0, .sl false false (a0.map (encSNode false))), (3, .own 346), (4, V.int (IntKind.wrap .i64 (y857 + 1)))]) [(346, .vec false 3 1 (x1284.map encI))] (by kernel_rfl) (fun st hw => ?_)
  exact ih1160 (a0, (IntKind.wrap .i64 (y857 + 1)), x1284) h1369 _ (hw.trans (Weak.sel [(346, 100)] [0, 3, 4] (by kernel_rfl) (by kernel_rfl) (by kernel_rfl)))
 refine CodeOk.ifF hc1162 (by kernel_rfl) ?_
 refine CodeOk.exit ?_
 (revert h1159; refine bind_rev fun e1286 hx1392 h1159 => ?_)
 refine CodeOk.cutR (tl 51 [(2, V.int e1286)]) [] mix (by
  refine W.run D_ok 2 285 (by kernel_rfl) ?_
  refine W.len D_ok (encSNode false) a0 [] (by kernel_rfl) (by kernel_rfl) ?_
  refine W.run D_ok 1 285 (by kernel_rfl) ?_
  refine W.ixO D_ok encI hx1392 100 1 (by kernel_rfl) ?_
  refine W.ldO D_ok encI hx1392 3 100 0 (V.int e1286) (by kernel_rfl) (by kernel_rfl) ?_
  refine W.run D_ok 1 285 (by kernel_rfl) ?_
  exact W.fi (by kernel_rfl)
  ) ?_
 refine CodeOk.ret ?_
 have h1159 := Option.some.inj h1159
 subst h1159
 exact Ends.gen [] (.inr rfl) (RetV.one rfl (OneR.tmp (t := 2) (r := V.int e1286) (by kernel_rfl))) (by kernel_rfl) (by kernel_rfl) (by kernel_rfl)

theorem m_spec_l7Many_ok (a0 : SNode) {r : (Int × Int)} (h : m_spec_l7Many a0 = some r) :
    AC Tryz.prog (GS []) 99 [.agg [V.int a0.Kind, V.int a0.Op, V.str a0.Text, V.str a0.Other, .sl false false (a0.Kids.map encI)]] [] (.tup [V.int r.1, V.int r.2]) [] := by
 rw [m_spec_l7Many] at h
 refine AC.enter Tryz.func99 rfl ?_
 refine cu D_ok mix 3 100 (tl 75 [(1, .loc 100 0)]) [(100, .cells 48 [V.int a0.Kind, V.int a0.Op, V.str a0.Text, V.str a0.Other, .sl false false (a0.Kids.map encI)])] (by kernel_rfl) ?_
 refine CodeOk.seq' ?_
 refine cu D_ok mix 2 101 (tl 75 [(1, .loc 100 0), (6, V.int a0.Kind)]) [(100, .cells 48 [V.int a0.Kind, V.int a0.Op, V.str a0.Text, V.str a0.Other, .sl false false (a0.Kids.map encI)])] (by kernel_rfl) ?_
 refine CodeOk.block' ?_
 refine CodeOk.join (fun (⟨a0, y7⟩ : (SNode × Bool)) => ⟨tl 75 [(1, .loc 100 0), (6, V.int a0.Kind), (7, V.bool y7)], [(100, .cells 48 [V.int a0.Kind, V.int a0.Op, V.str a0.Text, V.str a0.Other, .sl false false (a0.Kids.map encI)])]⟩) (fun i => m_spec_l7Many_k1 i = some r) ?_ ?_
 · rintro ⟨a0, y7⟩ h59
   rw [m_spec_l7Many_k1] at h59
   (revert h59; refine cond_rev (fun hc60 h59 => ?_) (fun hc60 h59 => ?_))
   ·refine CodeOk.ifT hc60 (by kernel_rfl) ?_
    refine cu D_ok mix 2 101 (tl 75 [(2, V.int 1), (3, V.int 6)]) [] (by kernel_rfl) ?_
    refine CodeOk.ret ?_
    have h59 := Option.some.inj h59
    subst h59
    exact Ends.gen [] (.inr rfl) (RetV.two rfl (OneR.tmp (t := 2) (r := V.int 1) (by kernel_rfl)) (OneR.tmp (t := 3) (r := V.int 6) (by kernel_rfl))) (by kernel_rfl) (by kernel_rfl) (by kernel_rfl)
   refine CodeOk.ifF hc60 (by kernel_rfl) ?_
   refine CodeOk.join (fun (⟨a0, y8⟩ : (SNode × Bool)) => ⟨tl 75 [(1, .loc 100 0), (6, V.int a0.Kind), (10, V.bool y8)], [(100, .cells 48 [V.int a0.Kind, V.int a0.Op, V.str a0.Text, V.str a0.Other, .sl false false (a0.Kids.map encI)])]⟩) (fun i => m_spec_l7Many_k2 i = some r) ?_ ?_
   · rintro ⟨a0, y8⟩ h63
     rw [m_spec_l7Many_k2] at h63
     (revert h63; refine cond_rev (fun hc64 h63 => ?_) (fun hc64 h63 => ?_))
     ·refine CodeOk.ifT hc64 (by kernel_rfl) ?_
      refine cu D_ok mix 2 101 (tl 75 [(2, V.int 0), (3, V.int 6)]) [] (by kernel_rfl) ?_
      refine CodeOk.ret ?_
      have h63 := Option.some.inj h63
      subst h63
      exact Ends.gen [] (.inr rfl) (RetV.two rfl (OneR.tmp (t := 2) (r := V.int 0) (by kernel_rfl)) (OneR.tmp (t := 3) (r := V.int 6) (by kernel_rfl))) (by kernel_rfl) (by kernel_rfl) (by kernel_rfl)
     refine CodeOk.ifF hc64 (by kernel_rfl) ?_
     refine CodeOk.join (fun (⟨a0, y9⟩ : (SNode × Bool)) => ⟨tl 75 [(1, .loc 100 0), (6, V.int a0.Kind), (14, V.bool y9)], [(100, .cells 48 [V.int a0.Kind, V.int a0.Op, V.str a0.Text, V.str a0.Other, .sl false false (a0.Kids.map encI)])]⟩) (fun i => m_spec_l7Many_k3 i = some r) ?_ ?_
     · rintro ⟨a0, y9⟩ h72
       rw [m_spec_l7Many_k3] at h72
       (revert h72; refine cond_rev (fun hc73 h72 => ?_) (fun hc73 h72 => ?_))
       ·refine CodeOk.ifT hc73 (by kernel_rfl) ?_
        refine cu D_ok mix 2 101 (tl 75 [(2, V.int 1), (3, V.int 1)]) [] (by kernel_rfl) ?_
        refine CodeOk.ret ?_
        have h72 := Option.some.inj h72
        subst h72
        exact Ends.gen [] (.inr rfl) (RetV.two rfl (OneR.tmp (t := 2) (r := V.int 1) (by kernel_rfl)) (OneR.tmp (t := 3) (r := V.int 1) (by kernel_rfl))) (by kernel_rfl) (by kernel_rfl) (by kernel_rfl)
       refine CodeOk.ifF hc73 (by kernel_rfl) ?_
       refine CodeOk.join (fun (⟨a0, y10⟩ : (SNode × Bool)) => ⟨tl 75 [(1, .loc 100 0), (6, V.int a0.Kind), (23, V.bool y10)], [(100, .cells 48 [V.int a0.Kind, V.int a0.Op, V.str a0.Text, V.str a0.Other, .sl false false (a0.Kids.map encI)])]⟩) (fun i => m_spec_l7Many_k4 i = some r) ?_ ?_
       · rintro ⟨a0, y10⟩ h77
         rw [m_spec_l7Many_k4] at h77
         (revert h77; refine cond_rev (fun hc78 h77 => ?_) (fun hc78 h77 => ?_))
         ·refine CodeOk.ifT hc78 (by kernel_rfl) ?_
          refine cu D_ok mix 2 101 (tl 75 [(2, V.int 2), (3, V.int 2)]) [] (by kernel_rfl) ?_
          refine CodeOk.ret ?_
          have h77 := Option.some.inj h77
          subst h77
          exact Ends.gen [] (.inr rfl) (RetV.two rfl (OneR.tmp (t := 2) (r := V.int 2) (by kernel_rfl)) (OneR.tmp (t := 3) (r := V.int 2) (by kernel_rfl))) (by kernel_rfl) (by kernel_rfl) (by kernel_rfl)
         refine CodeOk.ifF hc78 (by kernel_rfl) ?_
         refine cu D_ok mix 2 101 (tl 75 [(1, .loc 100 0), (6, V.int a0.Kind), (28, V.bool (a0.Kind == 14))]) [(100, .cells 48 [V.int a0.Kind, V.int a0.Op, V.str a0.Text, V.str a0.Other, .sl false false (a0.Kids.map encI)])] (by kernel_rfl) ?_
         (revert h77; refine cond_rev (fun hc79 h77 => ?_) (fun hc79 h77 => ?_))
         ·refine CodeOk.ifT hc79 (by kernel_rfl) ?_
          refine cu D_ok mix 2 101 (tl 75 [(2, V.int 3), (3, V.int 3)]) [] (by kernel_rfl) ?_
          refine CodeOk.ret ?_
          have h77 := Option.some.inj h77
          subst h77
          exact Ends.gen [] (.inr rfl) (RetV.two rfl (OneR.tmp (t := 2) (r := V.int 3) (by kernel_rfl)) (OneR.tmp (t := 3) (r := V.int 3) (by kernel_rfl))) (by kernel_rfl) (by kernel_rfl) (by kernel_rfl)
         refine CodeOk.ifF hc79 (by kernel_rfl) ?_
         refine cu D_ok mix 2 101 (tl 75 [(1, .loc 100 0), (6, V.int a0.Kind), (30, V.bool (a0.Kind == 21))]) [(100, .cells 48 [V.int a0.Kind, V.int a0.Op, V.str a0.Text, V.str a0.Other, .sl false false (a0.Kids.map encI)])] (by kernel_rfl) ?_
         (revert h77; refine cond_rev (fun hc80 h77 => ?_) (fun hc80 h77 => ?_))
         ·refine CodeOk.ifT hc80 (by kernel_rfl) ?_
          refine cu D_ok mix 3 101 (tl 75 [(1, .loc 100 0), (4, V.int a0.Op)]) [(100, .cells 48 [V.int a0.Kind, V.int a0.Op, V.str a0.Text, V.str a0.Other, .sl false false (a0.Kids.map encI)])] (by kernel_rfl) ?_
          refine CodeOk.seq' ?_
          refine cu D_ok mix 3 101 (tl 75 [(4, V.int a0.Op), (36, V.bool (!(a0.Other == [])))]) [] (by kernel_rfl) ?_
          (revert h77; refine cond_rev (fun hc82 h77 => ?_) (fun hc82 h77 => ?_))
          ·refine CodeOk.ifT hc82 (by kernel_rfl) ?_
           refine cu D_ok mix 4 101 (tl 75 [(2, V.int (IntKind.wrap .i64 (a0.Op + 1))), (3, V.int 7)]) [] (by kernel_rfl) ?_
           refine CodeOk.ret ?_
           have h77 := Option.some.inj h77
           subst h77
           exact Ends.gen [] (.inr rfl) (RetV.two rfl (OneR.tmp (t := 2) (r := V.int (IntKind.wrap .i64 (a0.Op + 1))) (by kernel_rfl)) (OneR.tmp (t := 3) (r := V.int 7) (by kernel_rfl))) (by kernel_rfl) (by kernel_rfl) (by kernel_rfl)
          refine CodeOk.ifF hc82 (by kernel_rfl) ?_
          refine CodeOk.skip ?_
          refine cu D_ok mix 3 101 (tl 75 [(2, V.int a0.Op), (3, V.int 6)]) [] (by kernel_rfl) ?_
          refine CodeOk.ret ?_
          have h77 := Option.some.inj h77
          subst h77
          exact Ends.gen [] (.inr rfl) (RetV.two rfl (OneR.tmp (t := 2) (r := V.int a0.Op) (by kernel_rfl)) (OneR.tmp (t := 3) (r := V.int 6) (by kernel_rfl))) (by kernel_rfl) (by kernel_rfl) (by kernel_rfl)
         refine CodeOk.ifF hc80 (by kernel_rfl) ?_
         refine CodeOk.join (fun (⟨a0, y11⟩ : (SNode × Bool)) => ⟨tl 75 [(1, .loc 100 0), (6, V.int a0.Kind), (40, V.bool y11)], [(100, .cells 48 [V.int a0.Kind, V.int a0.Op, V.str a0.Text, V.str a0.Other, .sl false false (a0.Kids.map encI)])]⟩) (fun i => m_spec_l7Many_k5 i = some r) ?_ ?_
         · rintro ⟨a0, y11⟩ h84
           rw [m_spec_l7Many_k5] at h84
           (revert h84; refine cond_rev (fun hc85 h84 => ?_) (fun hc85 h84 => ?_))
           ·refine CodeOk.ifT hc85 (by kernel_rfl) ?_
            refine cu D_ok mix 2 101 (tl 75 [(2, V.int 0), (3, V.int 1)]) [] (by kernel_rfl) ?_
            refine CodeOk.ret ?_
            have h84 := Option.some.inj h84
            subst h84
            exact Ends.gen [] (.inr rfl) (RetV.two rfl (OneR.tmp (t := 2) (r := V.int 0) (by kernel_rfl)) (OneR.tmp (t := 3) (r := V.int 1) (by kernel_rfl))) (by kernel_rfl) (by kernel_rfl) (by kernel_rfl)
           refine CodeOk.ifF hc85 (by kernel_rfl) ?_
           refine cu D_ok mix 2 101 (tl 75 [(1, .loc 100 0), (6, V.int a0.Kind), (43, V.bool (a0.Kind == 28))]) [(100, .cells 48 [V.int a0.Kind, V.int a0.Op, V.str a0.Text, V.str a0.Other, .sl false false (a0.Kids.map encI)])] (by kernel_rfl) ?_
           (revert h84; refine cond_rev (fun hc86 h84 => ?_) (fun hc86 h84 => ?_))
           ·refine CodeOk.ifT hc86 (by kernel_rfl) ?_
            refine cu D_ok mix 2 101 (tl 75 [(2, V.int 2), (3, V.int 3)]) [] (by kernel_rfl) ?_
            refine CodeOk.ret ?_
            have h84 := Option.some.inj h84
            subst h84
            exact Ends.gen [] (.inr rfl) (RetV.two rfl (OneR.tmp (t := 2) (r := V.int 2) (by kernel_rfl)) (OneR.tmp (t := 3) (r := V.int 3) (by kernel_rfl))) (by kernel_rfl) (by kernel_rfl) (by kernel_rfl)
           refine CodeOk.ifF hc86 (by kernel_rfl) ?_
           refine cu D_ok mix 2 101 (tl 75 [(1, .loc 100 0), (6, V.int a0.Kind), (45, V.bool (a0.Kind == 31))]) [(100, .cells 48 [V.int a0.Kind, V.int a0.Op, V.str a0.Text, V.str a0.Other, .sl false false (a0.Kids.map encI)])] (by kernel_rfl) ?_
           (revert h84; refine cond_rev (fun hc87 h84 => ?_) (fun hc87 h84 => ?_))
           ·refine CodeOk.ifT hc87 (by kernel_rfl) ?_
            refine cu D_ok mix 2 101 (tl 75 [(2, V.int 4), (3, V.int 4)]) [] (by kernel_rfl) ?_
            refine CodeOk.ret ?_
            have h84 := Option.some.inj h84
            subst h84
            exact Ends.gen [] (.inr rfl) (RetV.two rfl (OneR.tmp (t := 2) (r := V.int 4) (by kernel_rfl)) (OneR.tmp (t := 3) (r := V.int 4) (by kernel_rfl))) (by kernel_rfl) (by kernel_rfl) (by kernel_rfl)
           refine CodeOk.ifF hc87 (by kernel_rfl) ?_
           refine CodeOk.join (fun (⟨a0, y12⟩ : (SNode × Bool)) => ⟨tl 75 [(1, .loc 100 0), (6, V.int a0.Kind), (47, V.bool y12)], [(100, .cells 48 [V.int a0.Kind, V.int a0.Op, V.str a0.Text, V.str a0.Other, .sl false false (a0.Kids.map encI)])]⟩) (fun i => m_spec_l7Many_k6 i = some r) ?_ ?_
           · rintro ⟨a0, y12⟩ h89
             rw [m_spec_l7Many_k6] at h89
             (revert h89; refine cond_rev (fun hc90 h89 => ?_) (fun hc90 h89 => ?_))
             ·refine CodeOk.ifT hc90 (by kernel_rfl) ?_
              refine CodeOk.cutR (tl 75 [(2, V.int 0), (3, V.int (a0.Kids.length : Int))]) [] mix (by
               refine W.run D_ok 2 101 (by kernel_rfl) ?_
               refine W.len D_ok encI a0.Kids [] (by kernel_rfl) (by kernel_rfl) ?_
               refine W.run D_ok 2 101 (by kernel_rfl) ?_
               exact W.fi (by kernel_rfl)
               ) ?_
              refine CodeOk.ret ?_
              have h89 := Option.some.inj h89
              subst h89
              exact Ends.gen [] (.inr rfl) (RetV.two rfl (OneR.tmp (t := 2) (r := V.int 0) (by kernel_rfl)) (OneR.tmp (t := 3) (r := V.int (a0.Kids.length : Int)) (by kernel_rfl))) (by kernel_rfl) (by kernel_rfl) (by kernel_rfl)
             refine CodeOk.ifF hc90 (by kernel_rfl) ?_
             refine cu D_ok mix 2 101 (tl 75 [(1, .loc 100 0), (6, V.int a0.Kind), (53, V.bool (a0.Kind == 42))]) [(100, .cells 48 [V.int a0.Kind, V.int a0.Op, V.str a0.Text, V.str a0.Other, .sl false false (a0.Kids.map encI)])] (by kernel_rfl) ?_
             (revert h89; refine cond_rev (fun hc91 h89 => ?_) (fun hc91 h89 => ?_))
             ·refine CodeOk.ifT hc91 (by kernel_rfl) ?_
              refine cu D_ok mix 10 101 (tl 75 [(2, V.int (IntKind.wrap .i64 (1 + (IntKind.wrap .i64 (Int.tdiv a0.Op 3))))), (3, V.int (IntKind.wrap .i64 (1 + (IntKind.wrap .i64 (Int.tdiv a0.Op 3)))))]) [] (by kernel_rfl) ?_
              refine CodeOk.ret ?_
              have h89 := Option.some.inj h89
              subst h89
              exact Ends.gen [] (.inr rfl) (RetV.two rfl (OneR.tmp (t := 2) (r := V.int (IntKind.wrap .i64 (1 + (IntKind.wrap .i64 (Int.tdiv a0.Op 3))))) (by kernel_rfl)) (OneR.tmp (t := 3) (r := V.int (IntKind.wrap .i64 (1 + (IntKind.wrap .i64 (Int.tdiv a0.Op 3))))) (by kernel_rfl))) (by kernel_rfl) (by kernel_rfl) (by kernel_rfl)
             refine CodeOk.ifF hc91 (by kernel_rfl) ?_
             refine cu D_ok mix 2 101 (tl 75 [(1, .loc 100 0), (6, V.int a0.Kind), (63, V.bool (a0.Kind == 43))]) [(100, .cells 48 [V.int a0.Kind, V.int a0.Op, V.str a0.Text, V.str a0.Other, .sl false false (a0.Kids.map encI)])] (by kernel_rfl) ?_
             (revert h89; refine cond_rev (fun hc92 h89 => ?_) (fun hc92 h89 => ?_))
             ·refine CodeOk.ifT hc92 (by kernel_rfl) ?_
              refine cu D_ok mix 10 101 (tl 75 [(2, V.int (IntKind.wrap .i64 (2 + (IntKind.wrap .i64 (Int.tdiv a0.Op 3))))), (3, V.int (IntKind.wrap .i64 (2 + (IntKind.wrap .i64 (Int.tdiv a0.Op 3)))))]) [] (by kernel_rfl) ?_
              refine CodeOk.ret ?_
              have h89 := Option.some.inj h89
              subst h89
              exact Ends.gen [] (.inr rfl) (RetV.two rfl (OneR.tmp (t := 2) (r := V.int (IntKind.wrap .i64 (2 + (IntKind.wrap .i64 (Int.tdiv a0.Op 3))))) (by kernel_rfl)) (OneR.tmp (t := 3) (r := V.int (IntKind.wrap .i64 (2 + (IntKind.wrap .i64 (Int.tdiv a0.Op 3))))) (by kernel_rfl))) (by kernel_rfl) (by kernel_rfl) (by kernel_rfl)
             refine CodeOk.ifF hc92 (by kernel_rfl) ?_
             refine cu D_ok mix 2 101 (tl 75 [(73, V.bool (a0.Kind == 44))]) [] (by kernel_rfl) ?_
             (revert h89; refine cond_rev (fun hc93 h89 => ?_) (fun hc93 h89 => ?_))
             ·refine CodeOk.ifT hc93 (by kernel_rfl) ?_
              refine cu D_ok mix 2 101 (tl 75 [(2, V.int 1), (3, V.int 7)]) [] (by kernel_rfl) ?_
              refine CodeOk.ret ?_
              have h89 := Option.some.inj h89
              subst h89
              exact Ends.gen [] (.inr rfl) (RetV.two rfl (OneR.tmp (t := 2) (r := V.int 1) (by kernel_rfl)) (OneR.tmp (t := 3) (r := V.int 7) (by kernel_rfl))) (by kernel_rfl) (by kernel_rfl) (by kernel_rfl)
             refine CodeOk.ifF hc93 (by kernel_rfl) ?_
             refine CodeOk.skip ?_
             refine cu D_ok mix 2 101 (tl 75 [(2, V.int 0), (3, V.int 0)]) [] (by kernel_rfl) ?_
             refine CodeOk.ret ?_
             have h89 := Option.some.inj h89
             subst h89
             exact Ends.gen [] (.inr rfl) (RetV.two rfl (OneR.tmp (t := 2) (r := V.int 0) (by kernel_rfl)) (OneR.tmp (t := 3) (r := V.int 0) (by kernel_rfl))) (by kernel_rfl) (by kernel_rfl) (by kernel_rfl)
           intro hk94
           refine cu D_ok mix 2 101 (tl 75 [(1, .loc 100 0), (6, V.int a0.Kind), (47, V.bool (a0.Kind == 33))]) [(100, .cells 48 [V.int a0.Kind, V.int a0.Op, V.str a0.Text, V.str a0.Other, .sl false false (a0.Kids.map encI)])] (by kernel_rfl) ?_
           (revert h84; refine cond_rev (fun hc95 h84 => ?_) (fun hc95 h84 => ?_))
           ·refine CodeOk.ifT hc95 (by kernel_rfl) ?_
            refine CodeOk.skip ?_
            exact hk94 (a0, (a0.Kind == 33)) h84 _ (Weak.sel [(100, 100)] [1, 6, 47] (by kernel_rfl) (by kernel_rfl) (by kernel_rfl))
           refine CodeOk.ifF hc95 (by kernel_rfl) ?_
           refine ce D_ok mix 2 101 (tl 75 [(1, .loc 100 0), (6, V.int a0.Kind), (47, V.bool (a0.Kind == 45))]) [(100, .cells 48 [V.int a0.Kind, V.int a0.Op, V.str a0.Text, V.str a0.Other, .sl false false (a0.Kids.map encI)])] (by kernel_rfl) (fun st hw => ?_)
           exact hk94 (a0, (a0.Kind == 45)) h84 _ (hw.trans (Weak.sel [(100, 100)] [1, 6, 47] (by kernel_rfl) (by kernel_rfl) (by kernel_rfl)))
         intro hk96
         refine cu D_ok mix 2 101 (tl 75 [(1, .loc 100 0), (6, V.int a0.Kind), (40, V.bool (a0.Kind == 23))]) [(100, .cells 48 [V.int a0.Kind, V.int a0.Op, V.str a0.Text, V.str a0.Other, .sl false false (a0.Kids.map encI)])] (by kernel_rfl) ?_
         (revert h77; refine cond_rev (fun hc97 h77 => ?_) (fun hc97 h77 => ?_))
         ·refine CodeOk.ifT hc97 (by kernel_rfl) ?_
          refine CodeOk.skip ?_
          exact hk96 (a0, (a0.Kind == 23)) h77 _ (Weak.sel [(100, 100)] [1, 6, 40] (by kernel_rfl) (by kernel_rfl) (by kernel_rfl))
         refine CodeOk.ifF hc97 (by kernel_rfl) ?_
         refine ce D_ok mix 2 101 (tl 75 [(1, .loc 100 0), (6, V.int a0.Kind), (40, V.bool (a0.Kind == 24))]) [(100, .cells 48 [V.int a0.Kind, V.int a0.Op, V.str a0.Text, V.str a0.Other, .sl false false (a0.Kids.map encI)])] (by kernel_rfl) (fun st hw => ?_)
         exact hk96 (a0, (a0.Kind == 24)) h77 _ (hw.trans (Weak.sel [(100, 100)] [1, 6, 40] (by kernel_rfl) (by kernel_rfl) (by kernel_rfl)))
       intro hk98
       refine cu D_ok mix 2 101 (tl 75 [(1, .loc 100 0), (6, V.int a0.Kind), (23, V.bool (a0.Kind == 12))]) [(100, .cells 48 [V.int a0.Kind, V.int a0.Op, V.str a0.Text, V.str a0.Other, .sl false false (a0.Kids.map encI)])] (by kernel_rfl) ?_
       (revert h72; refine cond_rev (fun hc99 h72 => ?_) (fun hc99 h72 => ?_))
       ·refine CodeOk.ifT hc99 (by kernel_rfl) ?_
        refine CodeOk.skip ?_
        exact hk98 (a0, (a0.Kind == 12)) h72 _ (Weak.sel [(100, 100)] [1, 6, 23] (by kernel_rfl) (by kernel_rfl) (by kernel_rfl))
       refine CodeOk.ifF hc99 (by kernel_rfl) ?_
       refine cu D_ok mix 2 101 (tl 75 [(1, .loc 100 0), (6, V.int a0.Kind), (23, V.bool (a0.Kind == 15))]) [(100, .cells 48 [V.int a0.Kind, V.int a0.Op, V.str a0.Text, V.str a0.Other, .sl false false (a0.Kids.map encI)])] (by kernel_rfl) ?_
       (revert h72; refine cond_rev (fun hc100 h72 => ?_) (fun hc100 h72 => ?_))
       ·refine CodeOk.ifT hc100 (by kernel_rfl) ?_
        refine CodeOk.skip ?_
        exact hk98 (a0, (a0.Kind == 15)) h72 _ (Weak.sel [(100, 100)] [1, 6, 23] (by kernel_rfl) (by kernel_rfl) (by kernel_rfl))
       refine CodeOk.ifF hc100 (by kernel_rfl) ?_
       refine cu D_ok mix 2 101 (tl 75 [(1, .loc 100 0), (6, V.int a0.Kind), (23, V.bool (a0.Kind == 29))]) [(100, .cells 48 [V.int a0.Kind, V.int a0.Op, V.str a0.Text, V.str a0.Other, .sl false false (a0.Kids.map encI)])] (by kernel_rfl) ?_
       (revert h72; refine cond_rev (fun hc101 h72 => ?_) (fun hc101 h72 => ?_))
       ·refine CodeOk.ifT hc101 (by kernel_rfl) ?_
        refine CodeOk.skip ?_
        exact hk98 (a0, (a0.Kind == 29)) h72 _ (Weak.sel [(100, 100)] [1, 6, 23] (by kernel_rfl) (by kernel_rfl) (by kernel_rfl))
       refine CodeOk.ifF hc101 (by kernel_rfl) ?_
       refine ce D_ok mix 2 101 (tl 75 [(1, .loc 100 0), (6, V.int a0.Kind), (23, V.bool (a0.Kind == 30))]) [(100, .cells 48 [V.int a0.Kind, V.int a0.Op, V.str a0.Text, V.str a0.Other, .sl false false (a0.Kids.map encI)])] (by kernel_rfl) (fun st hw => ?_)
       exact hk98 (a0, (a0.Kind == 30)) h72 _ (hw.trans (Weak.sel [(100, 100)] [1, 6, 23] (by kernel_rfl) (by kernel_rfl) (by kernel_rfl)))
     intro hk102
     refine cu D_ok mix 2 101 (tl 75 [(1, .loc 100 0), (6, V.int a0.Kind), (14, V.bool (a0.Kind == 6))]) [(100, .cells 48 [V.int a0.Kind, V.int a0.Op, V.str a0.Text, V.str a0.Other, .sl false false (a0.Kids.map encI)])] (by kernel_rfl) ?_
     (revert h63; refine cond_rev (fun hc103 h63 => ?_) (fun hc103 h63 => ?_))
     ·refine CodeOk.ifT hc103 (by kernel_rfl) ?_
      refine CodeOk.skip ?_
      exact hk102 (a0, (a0.Kind == 6)) h63 _ (Weak.sel [(100, 100)] [1, 6, 14] (by kernel_rfl) (by kernel_rfl) (by kernel_rfl))
     refine CodeOk.ifF hc103 (by kernel_rfl) ?_
     refine cu D_ok mix 2 101 (tl 75 [(1, .loc 100 0), (6, V.int a0.Kind), (14, V.bool (a0.Kind == 9))]) [(100, .cells 48 [V.int a0.Kind, V.int a0.Op, V.str a0.Text, V.str a0.Other, .sl false false (a0.Kids.map encI)])] (by kernel_rfl) ?_
     (revert h63; refine cond_rev (fun hc104 h63 => ?_) (fun hc104 h63 => ?_))
     ·refine CodeOk.ifT hc104 (by kernel_rfl) ?_
      refine CodeOk.skip ?_
      exact hk102 (a0, (a0.Kind == 9)) h63 _ (Weak.sel [(100, 100)] [1, 6, 14] (by kernel_rfl) (by kernel_rfl) (by kernel_rfl))
     refine CodeOk.ifF hc104 (by kernel_rfl) ?_
     refine cu D_ok mix 2 101 (tl 75 [(1, .loc 100 0), (6, V.int a0.Kind), (14, V.bool (a0.Kind == 10))]) [(100, .cells 48 [V.int a0.Kind, V.int a0.Op, V.str a0.Text, V.str a0.Other, .sl false false (a0.Kids.map encI)])] (by kernel_rfl) ?_
     (revert h63; refine cond_rev (fun hc105 h63 => ?_) (fun hc105 h63 => ?_))
     ·refine CodeOk.ifT hc105 (by kernel_rfl) ?_
      refine CodeOk.skip ?_
      exact hk102 (a0, (a0.Kind == 10)) h63 _ (Weak.sel [(100, 100)] [1, 6, 14] (by kernel_rfl) (by kernel_rfl) (by kernel_rfl))
     refine CodeOk.ifF hc105 (by kernel_rfl) ?_
     refine cu D_ok mix 2 101 (tl 75 [(1, .loc 100 0), (6, V.int a0.Kind), (14, V.bool (a0.Kind == 11))]) [(100, .cells 48 [V.int a0.Kind, V.int a0.Op, V.str a0.Text, V.str a0.Other, .sl false false (a0.Kids.map encI)])] (by kernel_rfl) ?_
     (revert h63; refine cond_rev (fun hc106 h63 => ?_) (fun hc106 h63 => ?_))
     ·refine CodeOk.ifT hc106 (by kernel_rfl) ?_
      refine CodeOk.skip ?_
      exact hk102 (a0, (a0.Kind == 11)) h63 _ (Weak.sel [(100, 100)] [1, 6, 14] (by kernel_rfl) (by kernel_rfl) (by kernel_rfl))
     refine CodeOk.ifF hc106 (by kernel_rfl) ?_
     refine cu D_ok mix 2 101 (tl 75 [(1, .loc 100 0), (6, V.int a0.Kind), (14, V.bool (a0.Kind == 20))]) [(100, .cells 48 [V.int a0.Kind, V.int a0.Op, V.str a0.Text, V.str a0.Other, .sl false false (a0.Kids.map encI)])] (by kernel_rfl) ?_
     (revert h63; refine cond_rev (fun hc107 h63 => ?_) (fun hc107 h63 => ?_))
     ·refine CodeOk.ifT hc107 (by kernel_rfl) ?_
      refine CodeOk.skip ?_
      exact hk102 (a0, (a0.Kind == 20)) h63 _ (Weak.sel [(100, 100)] [1, 6, 14] (by kernel_rfl) (by kernel_rfl) (by kernel_rfl))
     refine CodeOk.ifF hc107 (by kernel_rfl) ?_
     refine cu D_ok mix 2 101 (tl 75 [(1, .loc 100 0), (6, V.int a0.Kind), (14, V.bool (a0.Kind == 32))]) [(100, .cells 48 [V.int a0.Kind, V.int a0.Op, V.str a0.Text, V.str a0.Other, .sl false false (a0.Kids.map encI)])] (by kernel_rfl) ?_
     (revert h63; refine cond_rev (fun hc108 h63 => ?_) (fun hc108 h63 => ?_))
     ·refine CodeOk.ifT hc108 (by kernel_rfl) ?_
      refine CodeOk.skip ?_
      exact hk102 (a0, (a0.Kind == 32)) h63 _ (Weak.sel [(100, 100)] [1, 6, 14] (by kernel_rfl) (by kernel_rfl) (by kernel_rfl))
     refine CodeOk.ifF hc108 (by kernel_rfl) ?_
     refine cu D_ok mix 2 101 (tl 75 [(1, .loc 100 0), (6, V.int a0.Kind), (14, V.bool (a0.Kind == 40))]) [(100, .cells 48 [V.int a0.Kind, V.int a0.Op, V.str a0.Text, V.str a0.Other, .sl false false (a0.Kids.map encI)])] (by kernel_rfl) ?_
     (revert h63; refine cond_rev (fun hc109 h63 => ?_) (fun hc109 h63 => ?_))
     ·refine CodeOk.ifT hc109 (by kernel_rfl) ?_
      refine CodeOk.skip ?_
      exact hk102 (a0, (a0.Kind == 40)) h63 _ (Weak.sel [(100, 100)] [1, 6, 14] (by kernel_rfl) (by kernel_rfl) (by kernel_rfl))
     refine CodeOk.ifF hc109 (by kernel_rfl) ?_
     refine ce D_ok mix 2 101 (tl 75 [(1, .loc 100 0), (6, V.int a0.Kind), (14, V.bool (a0.Kind == 41))]) [(100, .cells 48 [V.int a0.Kind, V.int a0.Op, V.str a0.Text, V.str a0.Other, .sl false false (a0.Kids.map encI)])] (by kernel_rfl) (fun st hw => ?_)
     exact hk102 (a0, (a0.Kind == 41)) h63 _ (hw.trans (Weak.sel [(100, 100)] [1, 6, 14] (by kernel_rfl) (by kernel_rfl) (by kernel_rfl)))
   intro hk110
   refine cu D_ok mix 2 101 (tl 75 [(1, .loc 100 0), (6, V.int a0.Kind), (10, V.bool (a0.Kind == 7))]) [(100, .cells 48 [V.int a0.Kind, V.int a0.Op, V.str a0.Text, V.str a0.Other, .sl false false (a0.Kids.map encI)])] (by kernel_rfl) ?_
   (revert h59; refine cond_rev (fun hc111 h59 => ?_) (fun hc111 h59 => ?_))
   ·refine CodeOk.ifT hc111 (by kernel_rfl) ?_
    refine CodeOk.skip ?_
    exact hk110 (a0, (a0.Kind == 7)) h59 _ (Weak.sel [(100, 100)] [1, 6, 10] (by kernel_rfl) (by kernel_rfl) (by kernel_rfl))
   refine CodeOk.ifF hc111 (by kernel_rfl) ?_
   refine cu D_ok mix 2 101 (tl 75 [(1, .loc 100 0), (6, V.int a0.Kind), (10, V.bool (a0.Kind == 8))]) [(100, .cells 48 [V.int a0.Kind, V.int a0.Op, V.str a0.Text, V.str a0.Other, .sl false false (a0.Kids.map encI)])] (by kernel_rfl) ?_
   (revert h59; refine cond_rev (fun hc112 h59 => ?_) (fun hc112 h59 => ?_))
   ·refine CodeOk.ifT hc112 (by kernel_rfl) ?_
    refine CodeOk.skip ?_
    exact hk110 (a0, (a0.Kind == 8)) h59 _ (Weak.sel [(100, 100)] [1, 6, 10] (by kernel_rfl) (by kernel_rfl) (by kernel_rfl))
   refine CodeOk.ifF hc112 (by kernel_rfl) ?_
   refine ce D_ok mix 2 101 (tl 75 [(1, .loc 100 0), (6, V.int a0.Kind), (10, V.bool (a0.Kind == 27))]) [(100, .cells 48 [V.int a0.Kind, V.int a0.Op, V.str a0.Text, V.str a0.Other, .sl false false (a0.Kids.map encI)])] (by kernel_rfl) (fun st hw => ?_)
   exact hk110 (a0, (a0.Kind == 27)) h59 _ (hw.trans (Weak.sel [(100, 100)] [1, 6, 10] (by kernel_rfl) (by kernel_rfl) (by kernel_rfl)))
 intro hk113
 refine cu D_ok mix 2 101 (tl 75 [(1, .loc 100 0), (6, V.int a0.Kind), (7, V.bool (a0.Kind == 5))]) [(100, .cells 48 [V.int a0.Kind, V.int a0.Op, V.str a0.Text, V.str a0.Other, .sl false false (a0.Kids.map encI)])] (by kernel_rfl) ?_
 (revert h; refine cond_rev (fun hc114 h => ?_) (fun hc114 h => ?_))
 ·refine CodeOk.ifT hc114 (by kernel_rfl) ?_
  refine CodeOk.skip ?_
  exact hk113 (a0, (a0.Kind == 5)) h _ (Weak.sel [(100, 100)] [1, 6, 7] (by kernel_rfl) (by kernel_rfl) (by kernel_rfl))
 refine CodeOk.ifF hc114 (by kernel_rfl) ?_
 refine ce D_ok mix 2 101 (tl 75 [(1, .loc 100 0), (6, V.int a0.Kind), (7, V.bool (a0.Kind == 13))]) [(100, .cells 48 [V.int a0.Kind, V.int a0.Op, V.str a0.Text, V.str a0.Other, .sl false false (a0.Kids.map encI)])] (by kernel_rfl) (fun st hw => ?_)
 exact hk113 (a0, (a0.Kind == 13)) h _ (hw.trans (Weak.sel [(100, 100)] [1, 6, 7] (by kernel_rfl) (by kernel_rfl) (by kernel_rfl)))

theorem m_spec_l7IsBin_ok (a0 : Int) {r : Bool} (h : m_spec_l7IsBin a0 = some r) :
    AC Tryz.prog (GS []) 114 [V.int a0] [] (V.bool r) [] := by
 rw [m_spec_l7IsBin] at h
 refine AC.enter Tryz.func114 rfl ?_
 refine cu D_ok mix 1 100 (tl 22 [(0, V.int a0)]) [] (by kernel_rfl) ?_
 refine CodeOk.seq' ?_
 refine cu D_ok mix 1 100 (tl 22 [(3, V.int a0)]) [] (by kernel_rfl) ?_
 refine CodeOk.block' ?_
 refine CodeOk.join (fun (y2 : Bool) => ⟨tl 22 [(4, V.bool y2)], []⟩) (fun i => m_spec_l7IsBin_k1 i = some r) ?_ ?_
 · rintro y2 h52
   rw [m_spec_l7IsBin_k1] at h52
   (revert h52; refine cond_rev (fun hc53 h52 => ?_) (fun hc53 h52 => ?_))
   ·refine CodeOk.ifT hc53 (by kernel_rfl) ?_
    refine cu D_ok mix 1 100 (tl 22 [(2, V.bool true)]) [] (by kernel_rfl) ?_
    refine CodeOk.ret ?_
    have h52 := Option.some.inj h52
    subst h52
    exact Ends.gen [] (.inr rfl) (RetV.one rfl (OneR.tmp (t := 2) (r := V.bool true) (by kernel_rfl))) (by kernel_rfl) (by kernel_rfl) (by kernel_rfl)
   refine CodeOk.ifF hc53 (by kernel_rfl) ?_
   refine CodeOk.skip ?_
   refine cu D_ok mix 1 100 (tl 22 [(2, V.bool false)]) [] (by kernel_rfl) ?_
   refine CodeOk.ret ?_
   have h52 := Option.some.inj h52
   subst h52
   exact Ends.gen [] (.inr rfl) (RetV.one rfl (OneR.tmp (t := 2) (r := V.bool false) (by kernel_rfl))) (by kernel_rfl) (by kernel_rfl) (by kernel_rfl)
 intro hk54
 refine cu D_ok mix 2 100 (tl 22 [(3, V.int a0), (4, V.bool (a0 == 60))]) [] (by kernel_rfl) ?_
 (revert h; refine cond_rev (fun hc55 h => ?_) (fun hc55 h => ?_))
 ·refine CodeOk.ifT hc55 (by kernel_rfl) ?_
  refine CodeOk.skip ?_
  exact hk54 (a0 == 60) h _ (Weak.sel [] [4] (by kernel_rfl) (by kernel_rfl) (by kernel_rfl))
 refine CodeOk.ifF hc55 (by kernel_rfl) ?_
 refine cu D_ok mix 2 100 (tl 22 [(3, V.int a0), (4, V.bool (a0 == 57))]) [] (by kernel_rfl) ?_
 (revert h; refine cond_rev (fun hc56 h => ?_) (fun hc56 h => ?_))
 ·refine CodeOk.ifT hc56 (by kernel_rfl) ?_
  refine CodeOk.skip ?_
  exact hk54 (a0 == 57) h _ (Weak.sel [] [4] (by kernel_rfl) (by kernel_rfl) (by kernel_rfl))
 refine CodeOk.ifF hc56 (by kernel_rfl) ?_
 refine cu D_ok mix 2 100 (tl 22 [(3, V.int a0), (4, V.bool (a0 == 58))]) [] (by kernel_rfl) ?_
 (revert h; refine cond_rev (fun hc57 h => ?_) (fun hc57 h => ?_))
 ·refine CodeOk.ifT hc57 (by kernel_rfl) ?_
  refine CodeOk.skip ?_
  exact hk54 (a0 == 58) h _ (Weak.sel [] [4] (by kernel_rfl) (by kernel_rfl) (by kernel_rfl))
 refine CodeOk.ifF hc57 (by kernel_rfl) ?_
 refine cu D_ok mix 2 100 (tl 22 [(3, V.int a0), (4, V.bool (a0 == 59))]) [] (by kernel_rfl) ?_
 (revert h; refine cond_rev (fun hc58 h => ?_) (fun hc58 h => ?_))
 ·refine CodeOk.ifT hc58 (by kernel_rfl) ?_
  refine CodeOk.skip ?_
  exact hk54 (a0 == 59) h _ (Weak.sel [] [4] (by kernel_rfl) (by kernel_rfl) (by kernel_rfl))
 refine CodeOk.ifF hc58 (by kernel_rfl) ?_
 refine cu D_ok mix 2 100 (tl 22 [(3, V.int a0), (4, V.bool (a0 == 55))]) [] (by kernel_rfl) ?_
 (revert h; refine cond_rev (fun hc59 h => ?_) (fun hc59 h => ?_))
 ·refine CodeOk.ifT hc59 (by kernel_rfl) ?_
  refine CodeOk.skip ?_
  exact hk54 (a0 == 55) h _ (Weak.sel [] [4] (by kernel_rfl) (by kernel_rfl) (by kernel_rfl))
 refine CodeOk.ifF hc59 (by kernel_rfl) ?_
 refine cu D_ok mix 2 100 (tl 22 [(3, V.int a0), (4, V.bool (a0 == 56))]) [] (by kernel_rfl) ?_
 (revert h; refine cond_rev (fun hc60 h => ?_) (fun hc60 h => ?_))
 ·refine CodeOk.ifT hc60 (by kernel_rfl) ?_
  refine CodeOk.skip ?_
  exact hk54 (a0 == 56) h _ (Weak.sel [] [4] (by kernel_rfl) (by kernel_rfl) (by kernel_rfl))
 refine CodeOk.ifF hc60 (by kernel_rfl) ?_
 refine cu D_ok mix 2 100 (tl 22 [(3, V.int a0), (4, V.bool (a0 == 99))]) [] (by kernel_rfl) ?_
 (revert h; refine cond_rev (fun hc61 h => ?_) (fun hc61 h => ?_))
 ·refine CodeOk.ifT hc61 (by kernel_rfl) ?_
  refine CodeOk.skip ?_
  exact hk54 (a0 == 99) h _ (Weak.sel [] [4] (by kernel_rfl) (by kernel_rfl) (by kernel_rfl))
 refine CodeOk.ifF hc61 (by kernel_rfl) ?_
 refine cu D_ok mix 2 100 (tl 22 [(3, V.int a0), (4, V.bool (a0 == 63))]) [] (by kernel_rfl) ?_
 (revert h; refine cond_rev (fun hc62 h => ?_) (fun hc62 h => ?_))
 ·refine CodeOk.ifT hc62 (by kernel_rfl) ?_
  refine CodeOk.skip ?_
  exact hk54 (a0 == 63) h _ (Weak.sel [] [4] (by kernel_rfl) (by kernel_rfl) (by kernel_rfl))
 refine CodeOk.ifF hc62 (by kernel_rfl) ?_
 refine cu D_ok mix 2 100 (tl 22 [(3, V.int a0), (4, V.bool (a0 == 48))]) [] (by kernel_rfl) ?_
 (revert h; refine cond_rev (fun hc63 h => ?_) (fun hc63 h => ?_))
 ·refine CodeOk.ifT hc63 (by kernel_rfl) ?_
  refine CodeOk.skip ?_
  exact hk54 (a0 == 48) h _ (Weak.sel [] [4] (by kernel_rfl) (by kernel_rfl) (by kernel_rfl))
 refine CodeOk.ifF hc63 (by kernel_rfl) ?_
 refine cu D_ok mix 2 100 (tl 22 [(3, V.int a0), (4, V.bool (a0 == 47))]) [] (by kernel_rfl) ?_
 (revert h; refine cond_rev (fun hc64 h => ?_) (fun hc64 h => ?_))
 ·refine CodeOk.ifT hc64 (by kernel_rfl) ?_
  refine CodeOk.skip ?_
  exact hk54 (a0 == 47) h _ (Weak.sel [] [4] (by kernel_rfl) (by kernel_rfl) (by kernel_rfl))
 refine CodeOk.ifF hc64 (by kernel_rfl) ?_
 refine cu D_ok mix 2 100 (tl 22 [(3, V.int a0), (4, V.bool (a0 == 50))]) [] (by kernel_rfl) ?_
 (revert h; refine cond_rev (fun hc65 h => ?_) (fun hc65 h => ?_))
 ·refine CodeOk.ifT hc65 (by kernel_rfl) ?_
  refine CodeOk.skip ?_
  exact hk54 (a0 == 50) h _ (Weak.sel [] [4] (by kernel_rfl) (by kernel_rfl) (by kernel_rfl))
 refine CodeOk.ifF hc65 (by kernel_rfl) ?_
 refine cu D_ok mix 2 100 (tl 22 [(3, V.int a0), (4, V.bool (a0 == 62))]) [] (by kernel_rfl) ?_
 (revert h; refine cond_rev (fun hc66 h => ?_) (fun hc66 h => ?_))
 ·refine CodeOk.ifT hc66 (by kernel_rfl) ?_
  refine CodeOk.skip ?_
  exact hk54 (a0 == 62) h _ (Weak.sel [] [4] (by kernel_rfl) (by kernel_rfl) (by kernel_rfl))
 refine CodeOk.ifF hc66 (by kernel_rfl) ?_
 refine cu D_ok mix 2 100 (tl 22 [(3, V.int a0), (4, V.bool (a0 == 49))]) [] (by kernel_rfl) ?_
 (revert h; refine cond_rev (fun hc67 h => ?_) (fun hc67 h => ?_))
 ·refine CodeOk.ifT hc67 (by kernel_rfl) ?_
  refine CodeOk.skip ?_
  exact hk54 (a0 == 49) h _ (Weak.sel [] [4] (by kernel_rfl) (by kernel_rfl) (by kernel_rfl))
 refine CodeOk.ifF hc67 (by kernel_rfl) ?_
 refine cu D_ok mix 2 100 (tl 22 [(3, V.int a0), (4, V.bool (a0 == 67))]) [] (by kernel_rfl) ?_
 (revert h; refine cond_rev (fun hc68 h => ?_) (fun hc68 h => ?_))
 ·refine CodeOk.ifT hc68 (by kernel_rfl) ?_
  refine CodeOk.skip ?_
  exact hk54 (a0 == 67) h _ (Weak.sel [] [4] (by kernel_rfl) (by kernel_rfl) (by kernel_rfl))
 refine CodeOk.ifF hc68 (by kernel_rfl) ?_
 refine cu D_ok mix 2 100 (tl 22 [(3, V.int a0), (4, V.bool (a0 == 46))]) [] (by kernel_rfl) ?_
 (revert h; refine cond_rev (fun hc69 h => ?_) (fun hc69 h => ?_))
 ·refine CodeOk.ifT hc69 (by kernel_rfl) ?_
  refine CodeOk.skip ?_
  exact hk54 (a0 == 46) h _ (Weak.sel [] [4] (by kernel_rfl) (by kernel_rfl) (by kernel_rfl))
 refine CodeOk.ifF hc69 (by kernel_rfl) ?_
 refine cu D_ok mix 2 100 (tl 22 [(3, V.int a0), (4, V.bool (a0 == 45))]) [] (by kernel_rfl) ?_
 (revert h; refine cond_rev (fun hc70 h => ?_) (fun hc70 h => ?_))
 ·refine CodeOk.ifT hc70 (by kernel_rfl) ?_
  refine CodeOk.skip ?_
  exact hk54 (a0 == 45) h _ (Weak.sel [] [4] (by kernel_rfl) (by kernel_rfl) (by kernel_rfl))
 refine CodeOk.ifF hc70 (by kernel_rfl) ?_
 refine ce D_ok mix 2 100 (tl 22 [(4, V.bool (a0 == 44))]) [] (by kernel_rfl) (fun st hw => ?_)
 exact hk54 (a0 == 44) h _ (hw.trans (Weak.sel [] [4] (by kernel_rfl) (by kernel_rfl) (by kernel_rfl)))

theorem m_spec_l7IsAssign_ok (a0 : Int) {r : Bool} (h : m_spec_l7IsAssign a0 = some r) :
    AC Tryz.prog (GS []) 115 [V.int a0] [] (V.bool r) [] := by
 rw [m_spec_l7IsAssign] at h
 refine AC.enter Tryz.func115 rfl ?_
 refine cu D_ok mix 1 100 (tl 9 [(0, V.int a0)]) [] (by kernel_rfl) ?_
 (revert h; refine bind_rev fun y2 hv3 h => ?_)
 refine CodeOk.cutR (tl 9 [(2, V.bool y2)]) [] mix (by
  refine W.run D_ok 3 100 (by kernel_rfl) ?_
  (revert hv3; refine cond_rev (fun hc4 hv3 => ?_) (fun hc4 hv3 => ?_))
  ·refine W.is 5 hc4 (by kernel_rfl) ?_
   refine W.run D_ok 4 100 (by kernel_rfl) ?_
   have hv3 := Option.some.inj hv3
   subst hv3
   exact W.fs [] [2] (by kernel_rfl)
  refine W.is 5 hc4 (by kernel_rfl) ?_
  refine W.run D_ok 1 100 (by kernel_rfl) ?_
  (revert hv3; refine bind_rev fun r3 hx5 hv3 => ?_)
  refine W.call0 (m_spec_l1In_ok a0 38 43 hx5) cok51 rfl (by kernel_rfl) ?_
  refine W.run D_ok 2 100 (by kernel_rfl) ?_
  have hv3 := Option.some.inj hv3
  subst hv3
  exact W.fs [] [2] (by kernel_rfl)
  ) ?_
 refine CodeOk.ret ?_
 have h := Option.some.inj h
 subst h
 exact Ends.gen [] (.inr rfl) (RetV.one rfl (OneR.tmp (t := 2) (r := V.bool y2) (by kernel_rfl))) (by kernel_rfl) (by kernel_rfl) (by kernel_rfl)

theorem m_spec_l7Op_ok (a0 : SNode) {r : Bool} (h : m_spec_l7Op a0 = some r) :
    AC Tryz.prog (GS []) 100 [.agg [V.int a0.Kind, V.int a0.Op, V.str a0.Text, V.str a0.Other, .sl false false (a0.Kids.map encI)]] [] (V.bool r) [] := by
 rw [m_spec_l7Op] at h
 refine AC.enter Tryz.func100 rfl ?_
 refine cu D_ok mix 2 100 (tl 64 [(1, .loc 100 0)]) [(100, .cells 48 [V.int a0.Kind, V.int a0.Op, V.str a0.Text, V.str a0.Other, .sl false false (a0.Kids.map encI)])] (by kernel_rfl) ?_
 refine CodeOk.seq' ?_
 refine cu D_ok mix 2 101 (tl 64 [(1, .loc 100 0), (4, V.int a0.Kind)]) [(100, .cells 48 [V.int a0.Kind, V.int a0.Op, V.str a0.Text, V.str a0.Other, .sl false false (a0.Kids.map encI)])] (by kernel_rfl) ?_
 refine CodeOk.block' ?_
 refine CodeOk.join (fun (⟨a0, y13⟩ : (SNode × Bool)) => ⟨tl 64 [(1, .loc 100 0), (4, V.int a0.Kind), (5, V.bool y13)], [(100, .cells 48 [V.int a0.Kind, V.int a0.Op, V.str a0.Text, V.str a0.Other, .sl false false (a0.Kids.map encI)])]⟩) (fun i => m_spec_l7Op_k1 i = some r) ?_ ?_
 · rintro ⟨a0, y13⟩ h32
   rw [m_spec_l7Op_k1] at h32
   (revert h32; refine cond_rev (fun hc33 h32 => ?_) (fun hc33 h32 => ?_))
   ·refine CodeOk.ifT hc33 (by kernel_rfl) ?_
    (revert h32; refine bind_rev fun y14 hv35 h32 => ?_)
    refine CodeOk.cutR (tl 64 [(2, V.bool y14)]) [] mix (by
     refine W.run D_ok 4 101 (by kernel_rfl) ?_
     (revert hv35; refine cond_rev (fun hc36 hv35 => ?_) (fun hc36 hv35 => ?_))
     ·refine W.is 11 hc36 (by kernel_rfl) ?_
      refine W.run D_ok 5 101 (by kernel_rfl) ?_
      have hv35 := Option.some.inj hv35
      subst hv35
      exact W.fs [] [2] (by kernel_rfl)
     refine W.is 11 hc36 (by kernel_rfl) ?_
     refine W.run D_ok 5 101 (by kernel_rfl) ?_
     have hv35 := Option.some.inj hv35
     subst hv35
     exact W.fs [] [2] (by kernel_rfl)
     ) ?_
    refine CodeOk.ret ?_
    have h32 := Option.some.inj h32
    subst h32
    exact Ends.gen [] (.inr rfl) (RetV.one rfl (OneR.tmp (t := 2) (r := V.bool y14) (by kernel_rfl))) (by kernel_rfl) (by kernel_rfl) (by kernel_rfl)
   refine CodeOk.ifF hc33 (by kernel_rfl) ?_
   refine cu D_ok mix 2 101 (tl 64 [(1, .loc 100 0), (4, V.int a0.Kind), (16, V.bool (a0.Kind == 11))]) [(100, .cells 48 [V.int a0.Kind, V.int a0.Op, V.str a0.Text, V.str a0.Other, .sl false false (a0.Kids.map encI)])] (by kernel_rfl) ?_
   (revert h32; refine cond_rev (fun hc37 h32 => ?_) (fun hc37 h32 => ?_))
   ·refine CodeOk.ifT hc37 (by kernel_rfl) ?_
    (revert h32; refine bind_rev fun y15 hv40 h32 => ?_)
    refine CodeOk.cutR (tl 64 [(2, V.bool y15)]) [] mix (by
     refine W.run D_ok 4 101 (by kernel_rfl) ?_
     (revert hv40; refine cond_rev (fun hc41 hv40 => ?_) (fun hc41 hv40 => ?_))
     ·refine W.is 21 hc41 (by kernel_rfl) ?_
      refine W.run D_ok 10 101 (by kernel_rfl) ?_
      have hv40 := Option.some.inj hv40
      subst hv40
      exact W.fs [] [2] (by kernel_rfl)
     refine W.is 21 hc41 (by kernel_rfl) ?_
     refine W.run D_ok 5 101 (by kernel_rfl) ?_
     (revert hv40; refine cond_rev (fun hc42 hv40 => ?_) (fun hc42 hv40 => ?_))
     ·refine W.is 26 hc42 (by kernel_rfl) ?_
      refine W.run D_ok 5 101 (by kernel_rfl) ?_
      have hv40 := Option.some.inj hv40
      subst hv40
      exact W.fs [] [2] (by kernel_rfl)
     refine W.is 26 hc42 (by kernel_rfl) ?_
     refine W.run D_ok 5 101 (by kernel_rfl) ?_
     have hv40 := Option.some.inj hv40
     subst hv40
     exact W.fs [] [2] (by kernel_rfl)
     ) ?_
    refine CodeOk.ret ?_
    have h32 := Option.some.inj h32
    subst h32
    exact Ends.gen [] (.inr rfl) (RetV.one rfl (OneR.tmp (t := 2) (r := V.bool y15) (by kernel_rfl))) (by kernel_rfl) (by kernel_rfl) (by kernel_rfl)
   refine CodeOk.ifF hc37 (by kernel_rfl) ?_
   refine cu D_ok mix 2 101 (tl 64 [(1, .loc 100 0), (4, V.int a0.Kind), (31, V.bool (a0.Kind == 12))]) [(100, .cells 48 [V.int a0.Kind, V.int a0.Op, V.str a0.Text, V.str a0.Other, .sl false false (a0.Kids.map encI)])] (by kernel_rfl) ?_
   (revert h32; refine cond_rev (fun hc43 h32 => ?_) (fun hc43 h32 => ?_))
   ·refine CodeOk.ifT hc43 (by kernel_rfl) ?_
    (revert h32; refine bind_rev fun r17 hx45 h32 => ?_)
    refine CodeOk.cutR (tl 64 [(2, V.bool r17)]) [] mix (by
     refine W.run D_ok 2 101 (by kernel_rfl) ?_
     refine W.call0 (m_spec_l7IsBin_ok a0.Op hx45) cok114 rfl (by kernel_rfl) ?_
     refine W.run D_ok 1 101 (by kernel_rfl) ?_
     exact W.fi (by kernel_rfl)
     ) ?_
    refine CodeOk.ret ?_
    have h32 := Option.some.inj h32
    subst h32
    exact Ends.gen [] (.inr rfl) (RetV.one rfl (OneR.tmp (t := 2) (r := V.bool r17) (by kernel_rfl))) (by kernel_rfl) (by kernel_rfl) (by kernel_rfl)
   refine CodeOk.ifF hc43 (by kernel_rfl) ?_
   refine cu D_ok mix 2 101 (tl 64 [(1, .loc 100 0), (4, V.int a0.Kind), (36, V.bool (a0.Kind == 15))]) [(100, .cells 48 [V.int a0.Kind, V.int a0.Op, V.str a0.Text, V.str a0.Other, .sl false false (a0.Kids.map encI)])] (by kernel_rfl) ?_
   (revert h32; refine cond_rev (fun hc46 h32 => ?_) (fun hc46 h32 => ?_))
   ·refine CodeOk.ifT hc46 (by kernel_rfl) ?_
    (revert h32; refine bind_rev fun r19 hx48 h32 => ?_)
    refine CodeOk.cutR (tl 64 [(2, V.bool r19)]) [] mix (by
     refine W.run D_ok 2 101 (by kernel_rfl) ?_
     refine W.call0 (m_spec_l7IsAssign_ok a0.Op hx48) cok115 rfl (by kernel_rfl) ?_
     refine W.run D_ok 1 101 (by kernel_rfl) ?_
     exact W.fi (by kernel_rfl)
     ) ?_
    refine CodeOk.ret ?_
    have h32 := Option.some.inj h32
    subst h32
    exact Ends.gen [] (.inr rfl) (RetV.one rfl (OneR.tmp (t := 2) (r := V.bool r19) (by kernel_rfl))) (by kernel_rfl) (by kernel_rfl) (by kernel_rfl)
   refine CodeOk.ifF hc46 (by kernel_rfl) ?_
   refine cu D_ok mix 2 101 (tl 64 [(1, .loc 100 0), (4, V.int a0.Kind), (41, V.bool (a0.Kind == 21))]) [(100, .cells 48 [V.int a0.Kind, V.int a0.Op, V.str a0.Text, V.str a0.Other, .sl false false (a0.Kids.map encI)])] (by kernel_rfl) ?_
   (revert h32; refine cond_rev (fun hc49 h32 => ?_) (fun hc49 h32 => ?_))
   ·refine CodeOk.ifT hc49 (by kernel_rfl) ?_
    (revert h32; refine bind_rev fun r21 hx51 h32 => ?_)
    refine CodeOk.cutR (tl 64 [(2, V.bool r21)]) [] mix (by
     refine W.run D_ok 2 101 (by kernel_rfl) ?_
     refine W.call0 (m_spec_l1In_ok a0.Op 0 1 hx51) cok51 rfl (by kernel_rfl) ?_
     refine W.run D_ok 1 101 (by kernel_rfl) ?_
     exact W.fi (by kernel_rfl)
     ) ?_
    refine CodeOk.ret ?_
    have h32 := Option.some.inj h32
    subst h32
    exact Ends.gen [] (.inr rfl) (RetV.one rfl (OneR.tmp (t := 2) (r := V.bool r21) (by kernel_rfl))) (by kernel_rfl) (by kernel_rfl) (by kernel_rfl)
   refine CodeOk.ifF hc49 (by kernel_rfl) ?_
   refine cu D_ok mix 2 101 (tl 64 [(1, .loc 100 0), (4, V.int a0.Kind), (46, V.bool (a0.Kind == 42))]) [(100, .cells 48 [V.int a0.Kind, V.int a0.Op, V.str a0.Text, V.str a0.Other, .sl false false (a0.Kids.map encI)])] (by kernel_rfl) ?_
   (revert h32; refine cond_rev (fun hc52 h32 => ?_) (fun hc52 h32 => ?_))
   ·refine CodeOk.ifT hc52 (by kernel_rfl) ?_
    (revert h32; refine bind_rev fun r23 hx54 h32 => ?_)
    refine CodeOk.cutR (tl 64 [(2, V.bool r23)]) [] mix (by
     refine W.run D_ok 2 101 (by kernel_rfl) ?_
     refine W.call0 (m_spec_l1In_ok a0.Op 1 3 hx54) cok51 rfl (by kernel_rfl) ?_
     refine W.run D_ok 1 101 (by kernel_rfl) ?_
     exact W.fi (by kernel_rfl)
     ) ?_
    refine CodeOk.ret ?_
    have h32 := Option.some.inj h32
    subst h32
    exact Ends.gen [] (.inr rfl) (RetV.one rfl (OneR.tmp (t := 2) (r := V.bool r23) (by kernel_rfl))) (by kernel_rfl) (by kernel_rfl) (by kernel_rfl)
   refine CodeOk.ifF hc52 (by kernel_rfl) ?_
   refine cu D_ok mix 2 101 (tl 64 [(1, .loc 100 0), (51, V.bool (a0.Kind == 43))]) [(100, .cells 48 [V.int a0.Kind, V.int a0.Op, V.str a0.Text, V.str a0.Other, .sl false false (a0.Kids.map encI)])] (by kernel_rfl) ?_
   (revert h32; refine cond_rev (fun hc55 h32 => ?_) (fun hc55 h32 => ?_))
   ·refine CodeOk.ifT hc55 (by kernel_rfl) ?_
    (revert h32; refine bind_rev fun y24 hv57 h32 => ?_)
    refine CodeOk.cutR (tl 64 [(2, V.bool y24)]) [] mix (by
     refine W.run D_ok 4 101 (by kernel_rfl) ?_
     (revert hv57; refine cond_rev (fun hc58 hv57 => ?_) (fun hc58 hv57 => ?_))
     ·refine W.is 56 hc58 (by kernel_rfl) ?_
      refine W.run D_ok 5 101 (by kernel_rfl) ?_
      have hv57 := Option.some.inj hv57
      subst hv57
      exact W.fs [] [2] (by kernel_rfl)
     refine W.is 56 hc58 (by kernel_rfl) ?_
     refine W.run D_ok 5 101 (by kernel_rfl) ?_
     have hv57 := Option.some.inj hv57
     subst hv57
     exact W.fs [] [2] (by kernel_rfl)
     ) ?_
    refine CodeOk.ret ?_
    have h32 := Option.some.inj h32
    subst h32
    exact Ends.gen [] (.inr rfl) (RetV.one rfl (OneR.tmp (t := 2) (r := V.bool y24) (by kernel_rfl))) (by kernel_rfl) (by kernel_rfl) (by kernel_rfl)
   refine CodeOk.ifF hc55 (by kernel_rfl) ?_
   refine CodeOk.skip ?_
   refine cu D_ok mix 4 101 (tl 64 [(2, V.bool (a0.Op == 0))]) [] (by kernel_rfl) ?_
   refine CodeOk.ret ?_
   have h32 := Option.some.inj h32
   subst h32
   exact Ends.gen [] (.inr rfl) (RetV.one rfl (OneR.tmp (t := 2) (r := V.bool (a0.Op == 0)) (by kernel_rfl))) (by kernel_rfl) (by kernel_rfl) (by kernel_rfl)
 intro hk59
 refine cu D_ok mix 2 101 (tl 64 [(1, .loc 100 0), (4, V.int a0.Kind), (5, V.bool (a0.Kind == 9))]) [(100, .cells 48 [V.int a0.Kind, V.int a0.Op, V.str a0.Text, V.str a0.Other, .sl false false (a0.Kids.map encI)])] (by kernel_rfl) ?_
 (revert h; refine cond_rev (fun hc60 h => ?_) (fun hc60 h => ?_))
 ·refine CodeOk.ifT hc60 (by kernel_rfl) ?_
  refine CodeOk.skip ?_
  exact hk59 (a0, (a0.Kind == 9)) h _ (Weak.sel [(100, 100)] [1, 4, 5] (by kernel_rfl) (by kernel_rfl) (by kernel_rfl))
 refine CodeOk.ifF hc60 (by kernel_rfl) ?_
 refine ce D_ok mix 2 101 (tl 64 [(1, .loc 100 0), (4, V.int a0.Kind), (5, V.bool (a0.Kind == 10))]) [(100, .cells 48 [V.int a0.Kind, V.int a0.Op, V.str a0.Text, V.str a0.Other, .sl false false (a0.Kids.map encI)])] (by kernel_rfl) (fun st hw => ?_)
 exact hk59 (a0, (a0.Kind == 10)) h _ (hw.trans (Weak.sel [(100, 100)] [1, 4, 5] (by kernel_rfl) (by kernel_rfl) (by kernel_rfl)))

theorem m_spec_IsLetter_ok (a0 : Int) {r : Bool} (h : m_spec_IsLetter a0 = some r) :
    AC Tryz.prog (GS []) 147 [V.int a0] [] (V.bool r) [] := by
 rw [m_spec_IsLetter] at h
 refine AC.enter Tryz.func147 rfl ?_
 refine cu D_ok mix 1 100 (tl 13 [(0, V.int a0)]) [] (by kernel_rfl) ?_
 (revert h; refine bind_rev fun y3 hv5 h => ?_)
 refine CodeOk.cutR (tl 13 [(2, V.bool y3)]) [] mix (by
  refine W.run D_ok 1 100 (by kernel_rfl) ?_
  (revert hv5; refine bind_rev fun r4 hx6 hv5 => ?_)
  refine W.call0 (m_spec_l1In_ok a0 97 122 hx6) cok51 rfl (by kernel_rfl) ?_
  refine W.run D_ok 1 100 (by kernel_rfl) ?_
  (revert hv5; refine cond_rev (fun hc7 hv5 => ?_) (fun hc7 hv5 => ?_))
  ·refine W.is 5 hc7 (by kernel_rfl) ?_
   refine W.run D_ok 8 100 (by kernel_rfl) ?_
   have hv5 := Option.some.inj hv5
   subst hv5
   exact W.fs [] [2] (by kernel_rfl)
  refine W.is 5 hc7 (by kernel_rfl) ?_
  refine W.run D_ok 1 100 (by kernel_rfl) ?_
  (revert hv5; refine bind_rev fun r5 hx8 hv5 => ?_)
  refine W.call0 (m_spec_l1In_ok a0 65 90 hx8) cok51 rfl (by kernel_rfl) ?_
  refine W.run D_ok 2 100 (by kernel_rfl) ?_
  (revert hv5; refine cond_rev (fun hc9 hv5 => ?_) (fun hc9 hv5 => ?_))
  ·refine W.is 9 hc9 (by kernel_rfl) ?_
   refine W.run D_ok 4 100 (by kernel_rfl) ?_
   have hv5 := Option.some.inj hv5
   subst hv5
   exact W.fs [] [2] (by kernel_rfl)
  refine W.is 9 hc9 (by kernel_rfl) ?_
  refine W.run D_ok 4 100 (by kernel_rfl) ?_
  have hv5 := Option.some.inj hv5
  subst hv5
  exact W.fs [] [2] (by kernel_rfl)
  ) ?_
 refine CodeOk.ret ?_
 have h := Option.some.inj h
 subst h
 exact Ends.gen [] (.inr rfl) (RetV.one rfl (OneR.tmp (t := 2) (r := V.bool y3) (by kernel_rfl))) (by kernel_rfl) (by kernel_rfl) (by kernel_rfl)

theorem m_spec_IsDigit_ok (a0 : Int) {r : Bool} (h : m_spec_IsDigit a0 = some r) :
    AC Tryz.prog (GS []) 161 [V.int a0] [] (V.bool r) [] := by
 rw [m_spec_IsDigit] at h
 refine AC.enter Tryz.func161 rfl ?_
 refine cu D_ok mix 1 100 (tl 5 [(0, V.int a0)]) [] (by kernel_rfl) ?_
 (revert h; refine bind_rev fun r2 hx2 h => ?_)
 refine CodeOk.cutR (tl 5 [(2, V.bool r2)]) [] mix (by
  refine W.run D_ok 1 100 (by kernel_rfl) ?_
  refine W.call0 (m_spec_l1In_ok a0 48 57 hx2) cok51 rfl (by kernel_rfl) ?_
  refine W.run D_ok 1 100 (by kernel_rfl) ?_
  exact W.fi (by kernel_rfl)
  ) ?_
 refine CodeOk.ret ?_
 have h := Option.some.inj h
 subst h
 exact Ends.gen [] (.inr rfl) (RetV.one rfl (OneR.tmp (t := 2) (r := V.bool r2) (by kernel_rfl))) (by kernel_rfl) (by kernel_rfl) (by kernel_rfl)

theorem m_spec_IsWordByte_ok (a0 : Int) {r : Bool} (h : m_spec_IsWordByte a0 = some r) :
    AC Tryz.prog (GS []) 146 [V.int a0] [] (V.bool r) [] := by
 rw [m_spec_IsWordByte] at h
 refine AC.enter Tryz.func146 rfl ?_
 refine cu D_ok mix 1 100 (tl 9 [(0, V.int a0)]) [] (by kernel_rfl) ?_
 (revert h; refine bind_rev fun y3 hv4 h => ?_)
 refine CodeOk.cutR (tl 9 [(2, V.bool y3)]) [] mix (by
  refine W.run D_ok 1 100 (by kernel_rfl) ?_
  (revert hv4; refine bind_rev fun r4 hx5 hv4 => ?_)
  refine W.call0 (m_spec_IsLetter_ok a0 hx5) cok147 rfl (by kernel_rfl) ?_
  refine W.run D_ok 1 100 (by kernel_rfl) ?_
  (revert hv4; refine cond_rev (fun hc6 hv4 => ?_) (fun hc6 hv4 => ?_))
  ·refine W.is 5 hc6 (by kernel_rfl) ?_
   refine W.run D_ok 4 100 (by kernel_rfl) ?_
   have hv4 := Option.some.inj hv4
   subst hv4
   exact W.fs [] [2] (by kernel_rfl)
  refine W.is 5 hc6 (by kernel_rfl) ?_
  refine W.run D_ok 1 100 (by kernel_rfl) ?_
  (revert hv4; refine bind_rev fun r5 hx7 hv4 => ?_)
  refine W.call0 (m_spec_IsDigit_ok a0 hx7) cok161 rfl (by kernel_rfl) ?_
  refine W.run D_ok 2 100 (by kernel_rfl) ?_
  have hv4 := Option.some.inj hv4
  subst hv4
  exact W.fs [] [2] (by kernel_rfl)
  ) ?_
 refine CodeOk.ret ?_
 have h := Option.some.inj h
 subst h
 exact Ends.gen [] (.inr rfl) (RetV.one rfl (OneR.tmp (t := 2) (r := V.bool y3) (by kernel_rfl))) (by kernel_rfl) (by kernel_rfl) (by kernel_rfl)

theorem m_spec_NameShape_ok (N : Nat) (a0 : List UInt8) {r : Bool} (h : m_spec_NameShape N a0 = some r) :
    AC Tryz.prog (GS []) 128 [V.str a0] [] (V.bool r) [] := by
 rw [m_spec_NameShape] at h
 refine AC.enter Tryz.func128 rfl ?_
 refine cu D_ok mix 1 100 (tl 25 [(0, V.str a0)]) [] (by kernel_rfl) ?_
 refine CodeOk.seq' ?_
 refine cu D_ok mix 1 100 (tl 25 [(0, V.str a0), (3, V.int 0)]) [] (by kernel_rfl) ?_
 refine CodeOk.block' ?_
 refine CodeOk.loopJ (fun (⟨a0, y35⟩ : ((List UInt8) × Int)) => ⟨tl 25 [(0, V.str a0), (3, V.int y35)], []⟩) (fun n i => m_spec_NameShape_l1 N n i = some r) (n0 := N) (i0 := (a0, 0)) (Weak.sel [] [0, 3] (by kernel_rfl) (by kernel_rfl) (by kernel_rfl)) h (fun i h => by simp [m_spec_NameShape_l1] at h) ?_
 rintro n1 ⟨a0, y35⟩ h63 ih64
 rw [m_spec_NameShape_l1] at h63
 refine CodeOk.seq' ?_
 refine cu D_ok mix 4 160 (tl 25 [(0, V.str a0), (3, V.int y35), (7, V.bool (decide (y35 < (a0.length : Int))))]) [] (by kernel_rfl) ?_
 (revert h63; refine cond_rev (fun hc66 h63 => ?_) (fun hc66 h63 => ?_))
 ·refine CodeOk.ifT hc66 (by kernel_rfl) ?_
  refine CodeOk.skip ?_
  refine CodeOk.seq' ?_
  refine CodeOk.block' ?_
  (revert h63; refine bind_rev fun b51 hx74 h63 => ?_)
  (revert h63; refine bind_rev fun r52 hx75 h63 => ?_)
  refine CodeOk.cutR (tl 25 [(0, V.str a0), (3, V.int y35), (15, V.bool (!r52))]) [] mix (by
   refine W.run D_ok 2 160 (by kernel_rfl) ?_
   refine W.ixS D_ok hx74 (by kernel_rfl) ?_
   refine W.run D_ok 1 160 (by kernel_rfl) ?_
   refine W.call0 (m_spec_IsWordByte_ok (IntKind.wrap .i64 ((b51).toNat : Int)) hx75) cok146 rfl (by kernel_rfl) ?_
   refine W.run D_ok 1 160 (by kernel_rfl) ?_
   exact W.fi (by kernel_rfl)
   ) ?_
  (revert h63; refine cond_rev (fun hc76 h63 => ?_) (fun hc76 h63 => ?_))
  ·refine CodeOk.ifT hc76 (by kernel_rfl) ?_
   refine cu D_ok mix 1 160 (tl 25 [(2, V.bool false)]) [] (by kernel_rfl) ?_
   refine CodeOk.ret ?_
   have h63 := Option.some.inj h63
   subst h63
   exact Ends.gen [] (.inr rfl) (RetV.one rfl (OneR.tmp (t := 2) (r := V.bool false) (by kernel_rfl))) (by kernel_rfl) (by kernel_rfl) (by kernel_rfl)
  refine CodeOk.ifF hc76 (by kernel_rfl) ?_
  refine CodeOk.skip ?_
  refine ce D_ok mix 3 160 (tl 25 [(0, V.str a0), (3, V.int (IntKind.wrap .i64 (y35 + 1)))]) [] (by kernel_rfl) (fun st hw => ?_)
  exact ih64 (a0, (IntKind.wrap .i64 (y35 + 1))) h63 _ (hw.trans (Weak.sel [] [0, 3] (by kernel_rfl) (by kernel_rfl) (by kernel_rfl)))
 refine CodeOk.ifF hc66 (by kernel_rfl) ?_
 refine CodeOk.exit ?_
 (revert h63; refine bind_rev fun y56 hv81 h63 => ?_)
 refine CodeOk.cutR (tl 25 [(2, V.bool y56)]) [] mix (by
  refine W.run D_ok 2 160 (by kernel_rfl) ?_
  (revert hv81; refine bind_rev fun r57 hx82 hv81 => ?_)
  refine W.call0 (m_spec_l1In_ok (a0.length : Int) 1 12 hx82) cok51 rfl (by kernel_rfl) ?_
  refine W.run D_ok 1 160 (by kernel_rfl) ?_
  (revert hv81; refine cond_rev (fun hc83 hv81 => ?_) (fun hc83 hv81 => ?_))
  ·refine W.is 19 hc83 (by kernel_rfl) ?_
   refine W.run D_ok 1 160 (by kernel_rfl) ?_
   (revert hv81; refine bind_rev fun b58 hx84 hv81 => ?_)
   refine W.ixS D_ok hx84 (by kernel_rfl) ?_
   refine W.run D_ok 1 160 (by kernel_rfl) ?_
   (revert hv81; refine bind_rev fun r59 hx85 hv81 => ?_)
   refine W.call0 (m_spec_IsLetter_ok (IntKind.wrap .i64 ((b58).toNat : Int)) hx85) cok147 rfl (by kernel_rfl) ?_
   refine W.run D_ok 2 160 (by kernel_rfl) ?_
   have hv81 := Option.some.inj hv81
   subst hv81
   exact W.fs [] [2] (by kernel_rfl)
  refine W.is 19 hc83 (by kernel_rfl) ?_
  refine W.run D_ok 6 160 (by kernel_rfl) ?_
  have hv81 := Option.some.inj hv81
  subst hv81
  exact W.fs [] [2] (by kernel_rfl)
  ) ?_
 refine CodeOk.ret ?_
 have h63 := Option.some.inj h63
 subst h63
 exact Ends.gen [] (.inr rfl) (RetV.one rfl (OneR.tmp (t := 2) (r := V.bool y56) (by kernel_rfl))) (by kernel_rfl) (by kernel_rfl) (by kernel_rfl)

theorem m_spec_l3Words_ok {r : (List (List UInt8))} (h : m_spec_l3Words = some r) :
    AC Tryz.prog (GS []) 148 [] [] (.own 100) [(100, .vec false 9 1 (r.map encS))] := by
 rw [m_spec_l3Words] at h
 refine AC.enter Tryz.func148 rfl ?_
 refine cu D_ok mix 1 100 (tl 2 []) [] (by kernel_rfl) ?_
 refine cu D_ok mix 2 100 (tl 2 [(0, .own 100)]) [(100, .vec false 9 1 ([[66, 69, 71, 73, 78], [69, 78, 68], [102, 117, 110, 99, 116, 105, 111, 110], [105, 102], [101, 108, 115, 101], [119, 104, 105, 108, 101], [102, 111, 114], [100, 111], [98, 114, 101, 97, 107], [99, 111, 110, 116, 105, 110, 117, 101], [110, 101, 120, 116], [101, 120, 105, 116], [114, 101, 116, 117, 114, 110], [100, 101, 108, 101, 116, 101], [105, 110], [112, 114, 105, 110, 116], [112, 114, 105, 110, 116, 102]].map encS))] (by kernel_rfl) ?_
 refine CodeOk.ret ?_
 have h := Option.some.inj h
 subst h
 exact Ends.gen [(100, 100)] (.inr rfl) (RetV.one rfl (OneR.tmp (t := 0) (r := .own 100) (by kernel_rfl))) (by kernel_rfl) (by kernel_rfl) (by kernel_rfl)

theorem m_spec_l3Find_ok (N : Nat) (a0 : List (List UInt8)) (a1 : List UInt8) {r : Int} (h : m_spec_l3Find N a0 a1 = some r) :
    AC Tryz.prog (GS []) 135 [.sl false false (a0.map encS), V.str a1] [] (V.int r) [] := by
 rw [m_spec_l3Find] at h
 refine AC.enter Tryz.func135 rfl ?_
 refine cu D_ok mix 1 100 (tl 19 [(0, .sl false false (a0.map encS)), (1, V.str a1)]) [] (by kernel_rfl) ?_
 refine CodeOk.seq' ?_
 refine cu D_ok mix 1 100 (tl 19 [(0, .sl false false (a0.map encS)), (1, V.str a1), (5, V.int 0)]) [] (by kernel_rfl) ?_
 refine CodeOk.block' ?_
 refine CodeOk.loopJ (fun (⟨a0, a1, y19⟩ : ((List (List UInt8)) × (List UInt8) × Int)) => ⟨tl 19 [(0, .sl false false (a0.map encS)), (1, V.str a1), (5, V.int y19)], []⟩) (fun n i => m_spec_l3Find_l1 N n i = some r) (n0 := N) (i0 := (a0, a1, 0)) (Weak.sel [] [0, 1, 5] (by kernel_rfl) (by kernel_rfl) (by kernel_rfl)) h (fun i h => by simp [m_spec_l3Find_l1] at h) ?_
 rintro n1 ⟨a0, a1, y19⟩ h43 ih44
 rw [m_spec_l3Find_l1] at h43
 refine CodeOk.seq' ?_
 refine CodeOk.cutR (tl 19 [(0, .sl false false (a0.map encS)), (1, V.str a1), (5, V.int y19), (9, V.bool (decide (y19 < (a0.length : Int))))]) [] mix (by
  refine W.run D_ok 2 160 (by kernel_rfl) ?_
  refine W.len D_ok encS a0 [] (by kernel_rfl) (by kernel_rfl) ?_
  refine W.run D_ok 1 160 (by kernel_rfl) ?_
  exact W.fi (by kernel_rfl)
  ) ?_
 (revert h43; refine cond_rev (fun hc46 h43 => ?_) (fun hc46 h43 => ?_))
 ·refine CodeOk.ifT hc46 (by kernel_rfl) ?_
  refine CodeOk.skip ?_
  refine CodeOk.seq' ?_
  refine CodeOk.block' ?_
  (revert h43; refine bind_rev fun e28 hx51 h43 => ?_)
  refine CodeOk.cutR (tl 19 [(0, .sl false false (a0.map encS)), (1, V.str a1), (5, V.int y19), (17, V.bool (e28 == a1))]) [] mix (by
   refine W.run D_ok 2 160 (by kernel_rfl) ?_
   refine W.ixD D_ok encS hx51 1 (by kernel_rfl) (by kernel_rfl) ?_
   refine W.run D_ok 3 160 (by kernel_rfl) ?_
   exact W.fi (by kernel_rfl)
   ) ?_
  (revert h43; refine cond_rev (fun hc52 h43 => ?_) (fun hc52 h43 => ?_))
  ·refine CodeOk.ifT hc52 (by kernel_rfl) ?_
   refine cu D_ok mix 2 160 (tl 19 [(4, V.int y19)]) [] (by kernel_rfl) ?_
   refine CodeOk.ret ?_
   have h43 := Option.some.inj h43
   subst h43
   exact Ends.gen [] (.inr rfl) (RetV.one rfl (OneR.tmp (t := 4) (r := V.int y19) (by kernel_rfl))) (by kernel_rfl) (by kernel_rfl) (by kernel_rfl)
  refine CodeOk.ifF hc52 (by kernel_rfl) ?_
  refine CodeOk.skip ?_
  refine ce D_ok mix 3 160 (tl 19 [(0, .sl false false (a0.map encS)), (1, V.str a1), (5, V.int (IntKind.wrap .i64 (y19 + 1)))]) [] (by kernel_rfl) (fun st hw => ?_)
  exact ih44 (a0, a1, (IntKind.wrap .i64 (y19 + 1))) h43 _ (hw.trans (Weak.sel [] [0, 1, 5] (by kernel_rfl) (by kernel_rfl) (by kernel_rfl)))
 refine CodeOk.ifF hc46 (by kernel_rfl) ?_
 refine CodeOk.exit ?_
 refine cu D_ok mix 1 160 (tl 19 [(4, V.int (-1))]) [] (by kernel_rfl) ?_
 refine CodeOk.ret ?_
 have h43 := Option.some.inj h43
 subst h43
 exact Ends.gen [] (.inr rfl) (RetV.one rfl (OneR.tmp (t := 4) (r := V.int (-1)) (by kernel_rfl))) (by kernel_rfl) (by kernel_rfl) (by kernel_rfl)

theorem m_spec_KeywordOf_ok (N : Nat) (a0 : List UInt8) {r : Int} (h : m_spec_KeywordOf N a0 = some r) :
    AC Tryz.prog (GS []) 129 [V.str a0] [] (V.int r) [] := by
 rw [m_spec_KeywordOf] at h
 refine AC.enter Tryz.func129 rfl ?_
 refine cu D_ok mix 1 100 (tl 11 [(0, V.str a0)]) [] (by kernel_rfl) ?_
 (revert h; refine bind_rev fun r3 hx3 h => ?_)
 (revert h; refine bind_rev fun r4 hx4 h => ?_)
 refine CodeOk.cutR (tl 11 [(3, V.int r4)]) [] mix (by
  refine W.call (m_spec_l3Words_ok  hx3) cok148 [] [(100, 100)] [100] (show LayOk _ [] from trivial) (by kernel_rfl) (by kernel_rfl) ?_
  refine W.run D_ok 1 101 (by kernel_rfl) ?_
  refine W.lend (m_spec_l3Find_ok N r3 a0 hx4) cok135 [] [] (LayOk.cons (j := 100) encS encS r3 (by kernel_rfl) (fun _ => rfl) (show LayOk _ [] from trivial)) (.c _) .nil (by kernel_rfl) (by kernel_rfl) ?_
  refine W.run D_ok 1 101 (by kernel_rfl) ?_
  exact W.fi (by kernel_rfl)
  ) ?_
 refine CodeOk.seq' ?_
 refine cu D_ok mix 2 101 (tl 11 [(3, V.int r4), (8, V.bool (decide (r4 < 0)))]) [] (by kernel_rfl) ?_
 (revert h; refine cond_rev (fun hc6 h => ?_) (fun hc6 h => ?_))
 ·refine CodeOk.ifT hc6 (by kernel_rfl) ?_
  refine cu D_ok mix 1 101 (tl 11 [(2, V.int 0)]) [] (by kernel_rfl) ?_
  refine CodeOk.ret ?_
  have h := Option.some.inj h
  subst h
  exact Ends.gen [] (.inr rfl) (RetV.one rfl (OneR.tmp (t := 2) (r := V.int 0) (by kernel_rfl))) (by kernel_rfl) (by kernel_rfl) (by kernel_rfl)
 refine CodeOk.ifF hc6 (by kernel_rfl) ?_
 refine CodeOk.skip ?_
 refine cu D_ok mix 3 101 (tl 11 [(2, V.int (IntKind.wrap .i64 (10 + r4)))]) [] (by kernel_rfl) ?_
 refine CodeOk.ret ?_
 have h := Option.some.inj h
 subst h
 exact Ends.gen [] (.inr rfl) (RetV.one rfl (OneR.tmp (t := 2) (r := V.int (IntKind.wrap .i64 (10 + r4))) (by kernel_rfl))) (by kernel_rfl) (by kernel_rfl) (by kernel_rfl)

theorem m_spec_l3Builtins_ok {r : (List (List UInt8))} (h : m_spec_l3Builtins = some r) :
    AC Tryz.prog (GS []) 136 [] [] (.own 100) [(100, .vec false 9 1 (r.map encS))] := by
 rw [m_spec_l3Builtins] at h
 refine AC.enter Tryz.func136 rfl ?_
 refine cu D_ok mix 1 100 (tl 2 []) [] (by kernel_rfl) ?_
 refine cu D_ok mix 2 100 (tl 2 [(0, .own 100)]) [(100, .vec false 9 1 ([[97, 116, 97, 110, 50], [99, 108, 111, 115, 101], [99, 111, 115], [101, 120, 112], [103, 115, 117, 98], [105, 110, 100, 101, 120], [105, 110, 116], [108, 101, 110, 103, 116, 104], [108, 111, 103], [109, 97, 116, 99, 104], [114, 97, 110, 100], [115, 105, 110], [115, 112, 108, 105, 116], [115, 112, 114, 105, 110, 116, 102], [115, 113, 114, 116], [115, 114, 97, 110, 100], [115, 117, 98], [115, 117, 98, 115, 116, 114], [115, 121, 115, 116, 101, 109], [116, 111, 108, 111, 119, 101, 114], [116, 111, 117, 112, 112, 101, 114]].map encS))] (by kernel_rfl) ?_
 refine CodeOk.ret ?_
 have h := Option.some.inj h
 subst h
 exact Ends.gen [(100, 100)] (.inr rfl) (RetV.one rfl (OneR.tmp (t := 0) (r := .own 100) (by kernel_rfl))) (by kernel_rfl) (by kernel_rfl) (by kernel_rfl)

theorem m_spec_IsBuiltin_ok (N : Nat) (a0 : List UInt8) {r : Bool} (h : m_spec_IsBuiltin N a0 = some r) :
    AC Tryz.prog (GS []) 118 [V.str a0] [] (V.bool r) [] := by
 rw [m_spec_IsBuiltin] at h
 refine AC.enter Tryz.func118 rfl ?_
 refine cu D_ok mix 1 100 (tl 7 [(0, V.str a0)]) [] (by kernel_rfl) ?_
 (revert h; refine bind_rev fun r3 hx3 h => ?_)
 (revert h; refine bind_rev fun r4 hx4 h => ?_)
 refine CodeOk.cutR (tl 7 [(2, V.bool (decide (r4 ≥ 0)))]) [] mix (by
  refine W.call (m_spec_l3Builtins_ok  hx3) cok136 [] [(100, 100)] [100] (show LayOk _ [] from trivial) (by kernel_rfl) (by kernel_rfl) ?_
  refine W.run D_ok 1 101 (by kernel_rfl) ?_
  refine W.lend (m_spec_l3Find_ok N r3 a0 hx4) cok135 [] [] (LayOk.cons (j := 100) encS encS r3 (by kernel_rfl) (fun _ => rfl) (show LayOk _ [] from trivial)) (.c _) .nil (by kernel_rfl) (by kernel_rfl) ?_
  refine W.run D_ok 2 101 (by kernel_rfl) ?_
  exact W.fi (by kernel_rfl)
  ) ?_
 refine CodeOk.ret ?_
 have h := Option.some.inj h
 subst h
 exact Ends.gen [] (.inr rfl) (RetV.one rfl (OneR.tmp (t := 2) (r := V.bool (decide (r4 ≥ 0))) (by kernel_rfl))) (by kernel_rfl) (by kernel_rfl) (by kernel_rfl)

theorem m_spec_NameOk_ok (N : Nat) (a0 : List UInt8) {r : Bool} (h : m_spec_NameOk N a0 = some r) :
    AC Tryz.prog (GS []) 116 [V.str a0] [] (V.bool r) [] := by
 rw [m_spec_NameOk] at h
 refine AC.enter Tryz.func116 rfl ?_
 refine cu D_ok mix 1 100 (tl 15 [(0, V.str a0)]) [] (by kernel_rfl) ?_
 (revert h; refine bind_rev fun y4 hv6 h => ?_)
 refine CodeOk.cutR (tl 15 [(2, V.bool y4)]) [] mix (by
  refine W.run D_ok 1 100 (by kernel_rfl) ?_
  (revert hv6; refine bind_rev fun r5 hx7 hv6 => ?_)
  refine W.call0 (m_spec_NameShape_ok N a0 hx7) cok128 rfl (by kernel_rfl) ?_
  refine W.run D_ok 1 100 (by kernel_rfl) ?_
  (revert hv6; refine cond_rev (fun hc8 hv6 => ?_) (fun hc8 hv6 => ?_))
  ·refine W.is 5 hc8 (by kernel_rfl) ?_
   refine W.run D_ok 1 100 (by kernel_rfl) ?_
   (revert hv6; refine bind_rev fun r6 hx9 hv6 => ?_)
   refine W.call0 (m_spec_KeywordOf_ok N a0 hx9) cok129 rfl (by kernel_rfl) ?_
   refine W.run D_ok 3 100 (by kernel_rfl) ?_
   (revert hv6; refine cond_rev (fun hc10 hv6 => ?_) (fun hc10 hv6 => ?_))
   ·refine W.is 10 hc10 (by kernel_rfl) ?_
    refine W.run D_ok 1 100 (by kernel_rfl) ?_
    (revert hv6; refine bind_rev fun r7 hx11 hv6 => ?_)
    refine W.call0 (m_spec_IsBuiltin_ok N a0 hx11) cok118 rfl (by kernel_rfl) ?_
    refine W.run D_ok 3 100 (by kernel_rfl) ?_
    have hv6 := Option.some.inj hv6
    subst hv6
    exact W.fs [] [2] (by kernel_rfl)
   refine W.is 10 hc10 (by kernel_rfl) ?_
   refine W.run D_ok 5 100 (by kernel_rfl) ?_
   have hv6 := Option.some.inj hv6
   subst hv6
   exact W.fs [] [2] (by kernel_rfl)
  refine W.is 5 hc8 (by kernel_rfl) ?_
  refine W.run D_ok 10 100 (by kernel_rfl) ?_
  have hv6 := Option.some.inj hv6
  subst hv6
  exact W.fs [] [2] (by kernel_rfl)
  ) ?_
 refine CodeOk.ret ?_
 have h := Option.some.inj h
 subst h
 exact Ends.gen [] (.inr rfl) (RetV.one rfl (OneR.tmp (t := 2) (r := V.bool y4) (by kernel_rfl))) (by kernel_rfl) (by kernel_rfl) (by kernel_rfl)

theorem m_spec_l4Plain_ok (N : Nat) (a0 : List UInt8) {r : Bool} (h : m_spec_l4Plain N a0 = some r) :
    AC Tryz.prog (GS []) 130 [V.str a0] [] (V.bool r) [] := by
 rw [m_spec_l4Plain] at h
 refine AC.enter Tryz.func130 rfl ?_
 refine cu D_ok mix 1 100 (tl 14 [(0, V.str a0)]) [] (by kernel_rfl) ?_
 refine CodeOk.seq' ?_
 refine cu D_ok mix 1 100 (tl 14 [(0, V.str a0), (3, V.int 0)]) [] (by kernel_rfl) ?_
 refine CodeOk.block' ?_
 refine CodeOk.loopJ (fun (⟨a0, y19⟩ : ((List UInt8) × Int)) => ⟨tl 14 [(0, V.str a0), (3, V.int y19)], []⟩) (fun n i => m_spec_l4Plain_l1 N n i = some r) (n0 := N) (i0 := (a0, 0)) (Weak.sel [] [0, 3] (by kernel_rfl) (by kernel_rfl) (by kernel_rfl)) h (fun i h => by simp [m_spec_l4Plain_l1] at h) ?_
 rintro n1 ⟨a0, y19⟩ h43 ih44
 rw [m_spec_l4Plain_l1] at h43
 refine CodeOk.seq' ?_
 refine cu D_ok mix 4 160 (tl 14 [(0, V.str a0), (3, V.int y19), (7, V.bool (decide (y19 < (a0.length : Int))))]) [] (by kernel_rfl) ?_
 (revert h43; refine cond_rev (fun hc46 h43 => ?_) (fun hc46 h43 => ?_))
 ·refine CodeOk.ifT hc46 (by kernel_rfl) ?_
  refine CodeOk.skip ?_
  refine CodeOk.seq' ?_
  refine CodeOk.block' ?_
  (revert h43; refine bind_rev fun b28 hx51 h43 => ?_)
  refine CodeOk.cutR (tl 14 [(0, V.str a0), (3, V.int y19), (13, V.bool (((b28).toNat : Int) == 10))]) [] mix (by
   refine W.run D_ok 2 160 (by kernel_rfl) ?_
   refine W.ixS D_ok hx51 (by kernel_rfl) ?_
   refine W.run D_ok 1 160 (by kernel_rfl) ?_
   exact W.fi (by kernel_rfl)
   ) ?_
  (revert h43; refine cond_rev (fun hc52 h43 => ?_) (fun hc52 h43 => ?_))
  ·refine CodeOk.ifT hc52 (by kernel_rfl) ?_
   refine cu D_ok mix 1 160 (tl 14 [(2, V.bool false)]) [] (by kernel_rfl) ?_
   refine CodeOk.ret ?_
   have h43 := Option.some.inj h43
   subst h43
   exact Ends.gen [] (.inr rfl) (RetV.one rfl (OneR.tmp (t := 2) (r := V.bool false) (by kernel_rfl))) (by kernel_rfl) (by kernel_rfl) (by kernel_rfl)
  refine CodeOk.ifF hc52 (by kernel_rfl) ?_
  refine CodeOk.skip ?_
  refine ce D_ok mix 3 160 (tl 14 [(0, V.str a0), (3, V.int (IntKind.wrap .i64 (y19 + 1)))]) [] (by kernel_rfl) (fun st hw => ?_)
  exact ih44 (a0, (IntKind.wrap .i64 (y19 + 1))) h43 _ (hw.trans (Weak.sel [] [0, 3] (by kernel_rfl) (by kernel_rfl) (by kernel_rfl)))
 refine CodeOk.ifF hc46 (by kernel_rfl) ?_
 refine CodeOk.exit ?_
 refine cu D_ok mix 1 160 (tl 14 [(2, V.bool true)]) [] (by kernel_rfl) ?_
 refine CodeOk.ret ?_
 have h43 := Option.some.inj h43
 subst h43
 exact Ends.gen [] (.inr rfl) (RetV.one rfl (OneR.tmp (t := 2) (r := V.bool true) (by kernel_rfl))) (by kernel_rfl) (by kernel_rfl) (by kernel_rfl)

theorem m_spec_l4Byte_ok (a0 : List UInt8) (a1 : Int) {r : Int} (h : m_spec_l4Byte a0 a1 = some r) :
    AC Tryz.prog (GS []) 150 [V.str a0, V.int a1] [] (V.int r) [] := by
 rw [m_spec_l4Byte] at h
 refine AC.enter Tryz.func150 rfl ?_
 refine cu D_ok mix 1 100 (tl 17 [(0, V.str a0), (1, V.int a1)]) [] (by kernel_rfl) ?_
 refine CodeOk.seq' ?_
 (revert h; refine bind_rev fun y2 hv6 h => ?_)
 refine CodeOk.cutR (tl 17 [(0, V.str a0), (1, V.int a1), (12, V.bool y2)]) [] mix (by
  refine W.run D_ok 3 100 (by kernel_rfl) ?_
  (revert hv6; refine cond_rev (fun hc7 hv6 => ?_) (fun hc7 hv6 => ?_))
  ·refine W.is 7 hc7 (by kernel_rfl) ?_
   refine W.run D_ok 5 100 (by kernel_rfl) ?_
   have hv6 := Option.some.inj hv6
   subst hv6
   exact W.fs [] [0, 1, 12] (by kernel_rfl)
  refine W.is 7 hc7 (by kernel_rfl) ?_
  refine W.run D_ok 5 100 (by kernel_rfl) ?_
  have hv6 := Option.some.inj hv6
  subst hv6
  exact W.fs [] [0, 1, 12] (by kernel_rfl)
  ) ?_
 (revert h; refine cond_rev (fun hc8 h => ?_) (fun hc8 h => ?_))
 ·refine CodeOk.ifT hc8 (by kernel_rfl) ?_
  refine cu D_ok mix 1 100 (tl 17 [(4, V.int (-1))]) [] (by kernel_rfl) ?_
  refine CodeOk.ret ?_
  have h := Option.some.inj h
  subst h
  exact Ends.gen [] (.inr rfl) (RetV.one rfl (OneR.tmp (t := 4) (r := V.int (-1)) (by kernel_rfl))) (by kernel_rfl) (by kernel_rfl) (by kernel_rfl)
 refine CodeOk.ifF hc8 (by kernel_rfl) ?_
 refine CodeOk.skip ?_
 (revert h; refine bind_rev fun b4 hx10 h => ?_)
 refine CodeOk.cutR (tl 17 [(4, V.int (IntKind.wrap .i64 ((b4).toNat : Int)))]) [] mix (by
  refine W.run D_ok 2 100 (by kernel_rfl) ?_
  refine W.ixS D_ok hx10 (by kernel_rfl) ?_
  refine W.run D_ok 2 100 (by kernel_rfl) ?_
  exact W.fi (by kernel_rfl)
  ) ?_
 refine CodeOk.ret ?_
 have h := Option.some.inj h
 subst h
 exact Ends.gen [] (.inr rfl) (RetV.one rfl (OneR.tmp (t := 4) (r := V.int (IntKind.wrap .i64 ((b4).toNat : Int))) (by kernel_rfl))) (by kernel_rfl) (by kernel_rfl) (by kernel_rfl)

theorem m_spec_l4Digits_ok (N : Nat) (a0 : List UInt8) (a1 : Int) {r : Int} (h : m_spec_l4Digits N a0 a1 = some r) :
    AC Tryz.prog (GS []) 149 [V.str a0, V.int a1] [] (V.int r) [] := by
 rw [m_spec_l4Digits] at h
 refine AC.enter Tryz.func149 rfl ?_
 refine cu D_ok mix 1 100 (tl 12 [(0, V.str a0), (1, V.int a1)]) [] (by kernel_rfl) ?_
 refine CodeOk.seq' ?_
 refine CodeOk.block' ?_
 refine CodeOk.loopJ (fun (⟨a0, a1⟩ : ((List UInt8) × Int)) => ⟨tl 12 [(0, V.str a0), (1, V.int a1)], []⟩) (fun n i => m_spec_l4Digits_l1 N n i = some r) (n0 := N) (i0 := (a0, a1)) (Weak.sel [] [0, 1] (by kernel_rfl) (by kernel_rfl) (by kernel_rfl)) h (fun i h => by simp [m_spec_l4Digits_l1] at h) ?_
 rintro n1 ⟨a0, a1⟩ h33 ih34
 rw [m_spec_l4Digits_l1] at h33
 refine CodeOk.seq' ?_
 (revert h33; refine bind_rev fun r33 hx42 h33 => ?_)
 (revert h33; refine bind_rev fun r34 hx43 h33 => ?_)
 refine CodeOk.cutR (tl 12 [(0, V.str a0), (1, V.int a1), (8, V.bool r34)]) [] mix (by
  refine W.run D_ok 2 140 (by kernel_rfl) ?_
  refine W.call0 (m_spec_l4Byte_ok a0 a1 hx42) cok150 rfl (by kernel_rfl) ?_
  refine W.call0 (m_spec_IsDigit_ok r33 hx43) cok161 rfl (by kernel_rfl) ?_
  exact W.fi (by kernel_rfl)
  ) ?_
 (revert h33; refine cond_rev (fun hc44 h33 => ?_) (fun hc44 h33 => ?_))
 ·refine CodeOk.ifT hc44 (by kernel_rfl) ?_
  refine CodeOk.skip ?_
  refine CodeOk.block' ?_
  refine ce D_ok mix 3 140 (tl 12 [(0, V.str a0), (1, V.int (IntKind.wrap .i64 (a1 + 1)))]) [] (by kernel_rfl) (fun st hw => ?_)
  exact ih34 (a0, (IntKind.wrap .i64 (a1 + 1))) h33 _ (hw.trans (Weak.sel [] [0, 1] (by kernel_rfl) (by kernel_rfl) (by kernel_rfl)))
 refine CodeOk.ifF hc44 (by kernel_rfl) ?_
 refine CodeOk.exit ?_
 refine cu D_ok mix 2 140 (tl 12 [(4, V.int a1)]) [] (by kernel_rfl) ?_
 refine CodeOk.ret ?_
 have h33 := Option.some.inj h33
 subst h33
 exact Ends.gen [] (.inr rfl) (RetV.one rfl (OneR.tmp (t := 4) (r := V.int a1) (by kernel_rfl))) (by kernel_rfl) (by kernel_rfl) (by kernel_rfl)

theorem m_spec_NumEnd_ok (N : Nat) (a0 : List UInt8) (a1 : Int) {r : Int} (h : m_spec_NumEnd N a0 a1 = some r) :
    AC Tryz.prog (GS []) 131 [V.str a0, V.int a1] [] (V.int r) [] := by
 rw [m_spec_NumEnd] at h
 refine AC.enter Tryz.func131 rfl ?_
 refine cu D_ok mix 1 100 (tl 67 [(0, V.str a0), (1, V.int a1)]) [] (by kernel_rfl) ?_
 refine CodeOk.seq' ?_
 refine cu D_ok mix 2 100 (tl 67 [(0, V.str a0), (1, V.int a1), (9, V.bool (decide (a1 < 0)))]) [] (by kernel_rfl) ?_
 (revert h; refine cond_rev (fun hc2 h => ?_) (fun hc2 h => ?_))
 ·refine CodeOk.ifT hc2 (by kernel_rfl) ?_
  refine cu D_ok mix 1 100 (tl 67 [(4, V.int (-1))]) [] (by kernel_rfl) ?_
  refine CodeOk.ret ?_
  have h := Option.some.inj h
  subst h
  exact Ends.gen [] (.inr rfl) (RetV.one rfl (OneR.tmp (t := 4) (r := V.int (-1)) (by kernel_rfl))) (by kernel_rfl) (by kernel_rfl) (by kernel_rfl)
 refine CodeOk.ifF hc2 (by kernel_rfl) ?_
 refine CodeOk.skip ?_
 (revert h; refine bind_rev fun r2 hx4 h => ?_)
 refine CodeOk.cutR (tl 67 [(0, V.str a0), (1, V.int a1), (5, V.int r2)]) [] mix (by
  refine W.run D_ok 2 100 (by kernel_rfl) ?_
  refine W.call0 (m_spec_l4Digits_ok N a0 a1 hx4) cok149 rfl (by kernel_rfl) ?_
  refine W.run D_ok 1 100 (by kernel_rfl) ?_
  exact W.fi (by kernel_rfl)
  ) ?_
 refine CodeOk.join (fun (⟨a0, a1, y9⟩ : ((List UInt8) × Int × Int)) => ⟨tl 67 [(0, V.str a0), (1, V.int a1), (5, V.int y9)], []⟩) (fun i => m_spec_NumEnd_k1 N i = some r) ?_ ?_
 · rintro ⟨a0, a1, y9⟩ h18
   rw [m_spec_NumEnd_k1] at h18
   refine CodeOk.seq' ?_
   refine cu D_ok mix 3 100 (tl 67 [(0, V.str a0), (5, V.int y9), (33, V.bool (y9 == a1))]) [] (by kernel_rfl) ?_
   (revert h18; refine cond_rev (fun hc20 h18 => ?_) (fun hc20 h18 => ?_))
   ·refine CodeOk.ifT hc20 (by kernel_rfl) ?_
    refine cu D_ok mix 1 100 (tl 67 [(4, V.int (-1))]) [] (by kernel_rfl) ?_
    refine CodeOk.ret ?_
    have h18 := Option.some.inj h18
    subst h18
    exact Ends.gen [] (.inr rfl) (RetV.one rfl (OneR.tmp (t := 4) (r := V.int (-1)) (by kernel_rfl))) (by kernel_rfl) (by kernel_rfl) (by kernel_rfl)
   refine CodeOk.ifF hc20 (by kernel_rfl) ?_
   refine CodeOk.skip ?_
   refine CodeOk.join (fun (y9 : Int) => ⟨tl 67 [(5, V.int y9)], []⟩) (fun i => m_spec_NumEnd_k2 N i = some r) ?_ ?_
   · rintro y9 h52
     rw [m_spec_NumEnd_k2] at h52
     refine cu D_ok mix 2 100 (tl 67 [(4, V.int y9)]) [] (by kernel_rfl) ?_
     refine CodeOk.ret ?_
     have h52 := Option.some.inj h52
     subst h52
     exact Ends.gen [] (.inr rfl) (RetV.one rfl (OneR.tmp (t := 4) (r := V.int y9) (by kernel_rfl))) (by kernel_rfl) (by kernel_rfl) (by kernel_rfl)
   intro hk53
   (revert h18; refine bind_rev fun y32 hv57 h18 => ?_)
   refine CodeOk.cutR (tl 67 [(0, V.str a0), (5, V.int y9), (43, V.bool y32)]) [] mix (by
    refine W.run D_ok 2 100 (by kernel_rfl) ?_
    (revert hv57; refine bind_rev fun r33 hx58 hv57 => ?_)
    refine W.call0 (m_spec_l4Byte_ok a0 y9 hx58) cok150 rfl (by kernel_rfl) ?_
    refine W.run D_ok 2 100 (by kernel_rfl) ?_
    (revert hv57; refine cond_rev (fun hc59 hv57 => ?_) (fun hc59 hv57 => ?_))
    ·refine W.is 38 hc59 (by kernel_rfl) ?_
     refine W.run D_ok 5 100 (by kernel_rfl) ?_
     have hv57 := Option.some.inj hv57
     subst hv57
     exact W.fs [] [0, 5, 43] (by kernel_rfl)
    refine W.is 38 hc59 (by kernel_rfl) ?_
    refine W.run D_ok 2 100 (by kernel_rfl) ?_
    (revert hv57; refine bind_rev fun r34 hx60 hv57 => ?_)
    refine W.call0 (m_spec_l4Byte_ok a0 y9 hx60) cok150 rfl (by kernel_rfl) ?_
    refine W.run D_ok 2 100 (by kernel_rfl) ?_
    have hv57 := Option.some.inj hv57
    subst hv57
    exact W.fs [] [0, 5, 43] (by kernel_rfl)
    ) ?_
   (revert h18; refine cond_rev (fun hc61 h18 => ?_) (fun hc61 h18 => ?_))
   ·refine CodeOk.ifT hc61 (by kernel_rfl) ?_
    refine cu D_ok mix 3 100 (tl 67 [(0, V.str a0), (5, V.int y9), (7, V.int (IntKind.wrap .i64 (y9 + 1)))]) [] (by kernel_rfl) ?_
    refine CodeOk.join (fun (⟨a0, y9, y40⟩ : ((List UInt8) × Int × Int)) => ⟨tl 67 [(0, V.str a0), (5, V.int y9), (7, V.int y40)], []⟩) (fun i => m_spec_NumEnd_k3 N i = some r) ?_ ?_
    · rintro ⟨a0, y9, y40⟩ h70
      rw [m_spec_NumEnd_k3] at h70
      (revert h70; refine bind_rev fun r42 hx72 h70 => ?_)
      refine CodeOk.cutR (tl 67 [(0, V.str a0), (5, V.int y9), (7, V.int y40), (62, V.bool (decide (r42 > y40)))]) [] mix (by
       refine W.run D_ok 2 100 (by kernel_rfl) ?_
       refine W.call0 (m_spec_l4Digits_ok N a0 y40 hx72) cok149 rfl (by kernel_rfl) ?_
       refine W.run D_ok 2 100 (by kernel_rfl) ?_
       exact W.fi (by kernel_rfl)
       ) ?_
      (revert h70; refine cond_rev (fun hc73 h70 => ?_) (fun hc73 h70 => ?_))
      ·refine CodeOk.ifT hc73 (by kernel_rfl) ?_
       (revert h70; refine bind_rev fun r44 hx75 h70 => ?_)
       refine CodeOk.cutR (tl 67 [(4, V.int r44)]) [] mix (by
        refine W.run D_ok 2 100 (by kernel_rfl) ?_
        refine W.call0 (m_spec_l4Digits_ok N a0 y40 hx75) cok149 rfl (by kernel_rfl) ?_
        refine W.run D_ok 1 100 (by kernel_rfl) ?_
        exact W.fi (by kernel_rfl)
        ) ?_
       refine CodeOk.ret ?_
       have h70 := Option.some.inj h70
       subst h70
       exact Ends.gen [] (.inr rfl) (RetV.one rfl (OneR.tmp (t := 4) (r := V.int r44) (by kernel_rfl))) (by kernel_rfl) (by kernel_rfl) (by kernel_rfl)
      refine CodeOk.ifF hc73 (by kernel_rfl) ?_
      refine CodeOk.skip ?_
      exact hk53 y9 h70 _ (Weak.sel [] [5] (by kernel_rfl) (by kernel_rfl) (by kernel_rfl))
    intro hk76
    (revert h18; refine bind_rev fun y47 hv80 h18 => ?_)
    refine CodeOk.cutR (tl 67 [(0, V.str a0), (5, V.int y9), (7, V.int (IntKind.wrap .i64 (y9 + 1))), (55, V.bool y47)]) [] mix (by
     refine W.run D_ok 2 100 (by kernel_rfl) ?_
     (revert hv80; refine bind_rev fun r48 hx81 hv80 => ?_)
     refine W.call0 (m_spec_l4Byte_ok a0 (IntKind.wrap .i64 (y9 + 1)) hx81) cok150 rfl (by kernel_rfl) ?_
     refine W.run D_ok 2 100 (by kernel_rfl) ?_
     (revert hv80; refine cond_rev (fun hc82 hv80 => ?_) (fun hc82 hv80 => ?_))
     ·refine W.is 50 hc82 (by kernel_rfl) ?_
      refine W.run D_ok 5 100 (by kernel_rfl) ?_
      have hv80 := Option.some.inj hv80
      subst hv80
      exact W.fs [] [0, 5, 7, 55] (by kernel_rfl)
     refine W.is 50 hc82 (by kernel_rfl) ?_
     refine W.run D_ok 2 100 (by kernel_rfl) ?_
     (revert hv80; refine bind_rev fun r49 hx83 hv80 => ?_)
     refine W.call0 (m_spec_l4Byte_ok a0 (IntKind.wrap .i64 (y9 + 1)) hx83) cok150 rfl (by kernel_rfl) ?_
     refine W.run D_ok 2 100 (by kernel_rfl) ?_
     have hv80 := Option.some.inj hv80
     subst hv80
     exact W.fs [] [0, 5, 7, 55] (by kernel_rfl)
     ) ?_
    (revert h18; refine cond_rev (fun hc84 h18 => ?_) (fun hc84 h18 => ?_))
    ·refine CodeOk.ifT hc84 (by kernel_rfl) ?_
     refine ce D_ok mix 3 100 (tl 67 [(0, V.str a0), (5, V.int y9), (7, V.int (IntKind.wrap .i64 ((IntKind.wrap .i64 (y9 + 1)) + 1)))]) [] (by kernel_rfl) (fun st hw => ?_)
     exact hk76 (a0, y9, (IntKind.wrap .i64 ((IntKind.wrap .i64 (y9 + 1)) + 1))) h18 _ (hw.trans (Weak.sel [] [0, 5, 7] (by kernel_rfl) (by kernel_rfl) (by kernel_rfl)))
    refine CodeOk.ifF hc84 (by kernel_rfl) ?_
    refine CodeOk.skip ?_
    exact hk76 (a0, y9, (IntKind.wrap .i64 (y9 + 1))) h18 _ (Weak.sel [] [0, 5, 7] (by kernel_rfl) (by kernel_rfl) (by kernel_rfl))
   refine CodeOk.ifF hc61 (by kernel_rfl) ?_
   refine CodeOk.skip ?_
   exact hk53 y9 h18 _ (Weak.sel [] [5] (by kernel_rfl) (by kernel_rfl) (by kernel_rfl))
 intro hk85
 (revert h; refine bind_rev fun r51 hx87 h => ?_)
 refine CodeOk.cutR (tl 67 [(0, V.str a0), (1, V.int a1), (5, V.int r2), (16, V.bool (r51 == 46))]) [] mix (by
  refine W.run D_ok 2 100 (by kernel_rfl) ?_
  refine W.call0 (m_spec_l4Byte_ok a0 r2 hx87) cok150 rfl (by kernel_rfl) ?_
  refine W.run D_ok 1 100 (by kernel_rfl) ?_
  exact W.fi (by kernel_rfl)
  ) ?_
 (revert h; refine cond_rev (fun hc88 h => ?_) (fun hc88 h => ?_))
 ·refine CodeOk.ifT hc88 (by kernel_rfl) ?_
  (revert h; refine bind_rev fun r53 hx90 h => ?_)
  refine CodeOk.cutR (tl 67 [(0, V.str a0), (1, V.int a1), (5, V.int r2), (6, V.int r53)]) [] mix (by
   refine W.run D_ok 3 100 (by kernel_rfl) ?_
   refine W.call0 (m_spec_l4Digits_ok N a0 (IntKind.wrap .i64 (r2 + 1)) hx90) cok149 rfl (by kernel_rfl) ?_
   refine W.run D_ok 1 100 (by kernel_rfl) ?_
   exact W.fi (by kernel_rfl)
   ) ?_
  refine CodeOk.seq' ?_
  (revert h; refine bind_rev fun y55 hv96 h => ?_)
  refine CodeOk.cutR (tl 67 [(0, V.str a0), (1, V.int a1), (6, V.int r53), (29, V.bool y55)]) [] mix (by
   refine W.run D_ok 4 100 (by kernel_rfl) ?_
   (revert hv96; refine cond_rev (fun hc97 hv96 => ?_) (fun hc97 hv96 => ?_))
   ·refine W.is 24 hc97 (by kernel_rfl) ?_
    refine W.run D_ok 5 100 (by kernel_rfl) ?_
    have hv96 := Option.some.inj hv96
    subst hv96
    exact W.fs [] [0, 1, 6, 29] (by kernel_rfl)
   refine W.is 24 hc97 (by kernel_rfl) ?_
   refine W.run D_ok 5 100 (by kernel_rfl) ?_
   have hv96 := Option.some.inj hv96
   subst hv96
   exact W.fs [] [0, 1, 6, 29] (by kernel_rfl)
   ) ?_
  (revert h; refine cond_rev (fun hc98 h => ?_) (fun hc98 h => ?_))
  ·refine CodeOk.ifT hc98 (by kernel_rfl) ?_
   refine cu D_ok mix 1 100 (tl 67 [(4, V.int (-1))]) [] (by kernel_rfl) ?_
   refine CodeOk.ret ?_
   have h := Option.some.inj h
   subst h
   exact Ends.gen [] (.inr rfl) (RetV.one rfl (OneR.tmp (t := 4) (r := V.int (-1)) (by kernel_rfl))) (by kernel_rfl) (by kernel_rfl) (by kernel_rfl)
  refine CodeOk.ifF hc98 (by kernel_rfl) ?_
  refine CodeOk.skip ?_
  refine ce D_ok mix 2 100 (tl 67 [(0, V.str a0), (1, V.int a1), (5, V.int r53)]) [] (by kernel_rfl) (fun st hw => ?_)
  exact hk85 (a0, a1, r53) h _ (hw.trans (Weak.sel [] [0, 1, 5] (by kernel_rfl) (by kernel_rfl) (by kernel_rfl)))
 refine CodeOk.ifF hc88 (by kernel_rfl) ?_
 refine CodeOk.skip ?_
 exact hk85 (a0, a1, r2) h _ (Weak.sel [] [0, 1, 5] (by kernel_rfl) (by kernel_rfl) (by kernel_rfl))

theorem m_spec_l4Quoted_ok (N : Nat) (a0 : List UInt8) (a1 : Int) (a2 : Int) {r : Int} (h : m_spec_l4Quoted N a0 a1 a2 = some r) :
    AC Tryz.prog (GS []) 151 [V.str a0, V.int a1, V.int a2] [] (V.int r) [] := by
 rw [m_spec_l4Quoted] at h
 refine AC.enter Tryz.func151 rfl ?_
 refine cu D_ok mix 1 100 (tl 40 [(0, V.str a0), (1, V.int a1), (2, V.int a2)]) [] (by kernel_rfl) ?_
 refine CodeOk.seq' ?_
 (revert h; refine bind_rev fun r4 hx5 h => ?_)
 refine CodeOk.cutR (tl 40 [(0, V.str a0), (1, V.int a1), (2, V.int a2), (12, V.bool (r4 != a2))]) [] mix (by
  refine W.run D_ok 2 100 (by kernel_rfl) ?_
  refine W.call0 (m_spec_l4Byte_ok a0 a1 hx5) cok150 rfl (by kernel_rfl) ?_
  refine W.run D_ok 2 100 (by kernel_rfl) ?_
  exact W.fi (by kernel_rfl)
  ) ?_
 (revert h; refine cond_rev (fun hc6 h => ?_) (fun hc6 h => ?_))
 ·refine CodeOk.ifT hc6 (by kernel_rfl) ?_
  refine cu D_ok mix 1 100 (tl 40 [(6, V.int (-1))]) [] (by kernel_rfl) ?_
  refine CodeOk.ret ?_
  have h := Option.some.inj h
  subst h
  exact Ends.gen [] (.inr rfl) (RetV.one rfl (OneR.tmp (t := 6) (r := V.int (-1)) (by kernel_rfl))) (by kernel_rfl) (by kernel_rfl) (by kernel_rfl)
 refine CodeOk.ifF hc6 (by kernel_rfl) ?_
 refine CodeOk.skip ?_
 refine CodeOk.seq' ?_
 refine cu D_ok mix 3 100 (tl 40 [(0, V.str a0), (2, V.int a2), (7, V.int (IntKind.wrap .i64 (a1 + 1)))]) [] (by kernel_rfl) ?_
 refine CodeOk.block' ?_
 refine CodeOk.loopJ (fun (⟨a0, a2, y43⟩ : ((List UInt8) × Int × Int)) => ⟨tl 40 [(0, V.str a0), (2, V.int a2), (7, V.int y43)], []⟩) (fun n i => m_spec_l4Quoted_l1 N n i = some r) (n0 := N) (i0 := (a0, a2, (IntKind.wrap .i64 (a1 + 1)))) (Weak.sel [] [0, 2, 7] (by kernel_rfl) (by kernel_rfl) (by kernel_rfl)) h (fun i h => by simp [m_spec_l4Quoted_l1] at h) ?_
 rintro n1 ⟨a0, a2, y43⟩ h109 ih110
 rw [m_spec_l4Quoted_l1] at h109
 refine CodeOk.seq' ?_
 refine cu D_ok mix 4 160 (tl 40 [(0, V.str a0), (2, V.int a2), (7, V.int y43), (18, V.bool (decide (y43 < (a0.length : Int))))]) [] (by kernel_rfl) ?_
 (revert h109; refine cond_rev (fun hc112 h109 => ?_) (fun hc112 h109 => ?_))
 ·refine CodeOk.ifT hc112 (by kernel_rfl) ?_
  refine CodeOk.skip ?_
  refine CodeOk.join (fun (⟨a0, a2, y58⟩ : ((List UInt8) × Int × Int)) => ⟨tl 40 [(0, V.str a0), (2, V.int a2), (7, V.int y58)], []⟩) (fun i => m_spec_l4Quoted_k2 N (m_spec_l4Quoted_l1 N n1) i = some r) ?_ ?_
  · rintro ⟨a0, a2, y58⟩ h121
    rw [m_spec_l4Quoted_k2] at h121
    refine ce D_ok mix 3 160 (tl 40 [(0, V.str a0), (2, V.int a2), (7, V.int (IntKind.wrap .i64 (y58 + 1)))]) [] (by kernel_rfl) (fun st hw => ?_)
    exact ih110 (a0, a2, (IntKind.wrap .i64 (y58 + 1))) h121 _ (hw.trans (Weak.sel [] [0, 2, 7] (by kernel_rfl) (by kernel_rfl) (by kernel_rfl)))
  intro hk122
  refine CodeOk.block' ?_
  (revert h109; refine bind_rev fun b60 hx124 h109 => ?_)
  refine CodeOk.cutR (tl 40 [(0, V.str a0), (2, V.int a2), (7, V.int y43), (24, V.int (IntKind.wrap .i64 ((b60).toNat : Int)))]) [] mix (by
   refine W.run D_ok 2 160 (by kernel_rfl) ?_
   refine W.ixS D_ok hx124 (by kernel_rfl) ?_
   refine W.run D_ok 1 160 (by kernel_rfl) ?_
   exact W.fi (by kernel_rfl)
   ) ?_
  refine CodeOk.block' ?_
  refine cu D_ok mix 3 160 (tl 40 [(0, V.str a0), (2, V.int a2), (7, V.int y43), (24, V.int (IntKind.wrap .i64 ((b60).toNat : Int))), (25, V.bool ((IntKind.wrap .i64 ((b60).toNat : Int)) == a2))]) [] (by kernel_rfl) ?_
  (revert h109; refine cond_rev (fun hc125 h109 => ?_) (fun hc125 h109 => ?_))
  ·refine CodeOk.ifT hc125 (by kernel_rfl) ?_
   refine cu D_ok mix 3 160 (tl 40 [(6, V.int (IntKind.wrap .i64 (y43 + 1)))]) [] (by kernel_rfl) ?_
   refine CodeOk.ret ?_
   have h109 := Option.some.inj h109
   subst h109
   exact Ends.gen [] (.inr rfl) (RetV.one rfl (OneR.tmp (t := 6) (r := V.int (IntKind.wrap .i64 (y43 + 1))) (by kernel_rfl))) (by kernel_rfl) (by kernel_rfl) (by kernel_rfl)
  refine CodeOk.ifF hc125 (by kernel_rfl) ?_
  refine cu D_ok mix 2 160 (tl 40 [(0, V.str a0), (2, V.int a2), (7, V.int y43), (24, V.int (IntKind.wrap .i64 ((b60).toNat : Int))), (30, V.bool ((IntKind.wrap .i64 ((b60).toNat : Int)) == 10))]) [] (by kernel_rfl) ?_
  (revert h109; refine cond_rev (fun hc126 h109 => ?_) (fun hc126 h109 => ?_))
  ·refine CodeOk.ifT hc126 (by kernel_rfl) ?_
   refine cu D_ok mix 1 160 (tl 40 [(6, V.int (-1))]) [] (by kernel_rfl) ?_
   refine CodeOk.ret ?_
   have h109 := Option.some.inj h109
   subst h109
   exact Ends.gen [] (.inr rfl) (RetV.one rfl (OneR.tmp (t := 6) (r := V.int (-1)) (by kernel_rfl))) (by kernel_rfl) (by kernel_rfl) (by kernel_rfl)
  refine CodeOk.ifF hc126 (by kernel_rfl) ?_
  refine cu D_ok mix 2 160 (tl 40 [(0, V.str a0), (2, V.int a2), (7, V.int y43), (32, V.bool ((IntKind.wrap .i64 ((b60).toNat : Int)) == 92))]) [] (by kernel_rfl) ?_
  (revert h109; refine cond_rev (fun hc127 h109 => ?_) (fun hc127 h109 => ?_))
  ·refine CodeOk.ifT hc127 (by kernel_rfl) ?_
   refine cu D_ok mix 3 160 (tl 40 [(0, V.str a0), (2, V.int a2), (7, V.int (IntKind.wrap .i64 (y43 + 1)))]) [] (by kernel_rfl) ?_
   (revert h109; refine bind_rev fun r62 hx129 h109 => ?_)
   refine CodeOk.cutR (tl 40 [(0, V.str a0), (2, V.int a2), (7, V.int (IntKind.wrap .i64 (y43 + 1))), (39, V.bool (r62 == 10))]) [] mix (by
    refine W.run D_ok 2 160 (by kernel_rfl) ?_
    refine W.call0 (m_spec_l4Byte_ok a0 (IntKind.wrap .i64 (y43 + 1)) hx129) cok150 rfl (by kernel_rfl) ?_
    refine W.run D_ok 1 160 (by kernel_rfl) ?_
    exact W.fi (by kernel_rfl)
    ) ?_
   (revert h109; refine cond_rev (fun hc130 h109 => ?_) (fun hc130 h109 => ?_))
   ·refine CodeOk.ifT hc130 (by kernel_rfl) ?_
    refine cu D_ok mix 1 160 (tl 40 [(6, V.int (-1))]) [] (by kernel_rfl) ?_
    refine CodeOk.ret ?_
    have h109 := Option.some.inj h109
    subst h109
    exact Ends.gen [] (.inr rfl) (RetV.one rfl (OneR.tmp (t := 6) (r := V.int (-1)) (by kernel_rfl))) (by kernel_rfl) (by kernel_rfl) (by kernel_rfl)
   refine CodeOk.ifF hc130 (by kernel_rfl) ?_
   refine CodeOk.skip ?_
   exact hk122 (a0, a2, (IntKind.wrap .i64 (y43 + 1))) h109 _ (Weak.sel [] [0, 2, 7] (by kernel_rfl) (by kernel_rfl) (by kernel_rfl))
  refine CodeOk.ifF hc127 (by kernel_rfl) ?_
  refine CodeOk.skip ?_
  exact hk122 (a0, a2, y43) h109 _ (Weak.sel [] [0, 2, 7] (by kernel_rfl) (by kernel_rfl) (by kernel_rfl))
 refine CodeOk.ifF hc112 (by kernel_rfl) ?_
 refine CodeOk.exit ?_
 refine cu D_ok mix 1 160 (tl 40 [(6, V.int (-1))]) [] (by kernel_rfl) ?_
 refine CodeOk.ret ?_
 have h109 := Option.some.inj h109
 subst h109
 exact Ends.gen [] (.inr rfl) (RetV.one rfl (OneR.tmp (t := 6) (r := V.int (-1)) (by kernel_rfl))) (by kernel_rfl) (by kernel_rfl) (by kernel_rfl)

theorem m_spec_StrEnd_ok (N : Nat) (a0 : List UInt8) (a1 : Int) {r : Int} (h : m_spec_StrEnd N a0 a1 = some r) :
    AC Tryz.prog (GS []) 132 [V.str a0, V.int a1] [] (V.int r) [] := by
 rw [m_spec_StrEnd] at h
 refine AC.enter Tryz.func132 rfl ?_
 refine cu D_ok mix 1 100 (tl 8 [(0, V.str a0), (1, V.int a1)]) [] (by kernel_rfl) ?_
 (revert h; refine bind_rev fun r2 hx2 h => ?_)
 refine CodeOk.cutR (tl 8 [(4, V.int r2)]) [] mix (by
  refine W.run D_ok 2 100 (by kernel_rfl) ?_
  refine W.call0 (m_spec_l4Quoted_ok N a0 a1 34 hx2) cok151 rfl (by kernel_rfl) ?_
  refine W.run D_ok 1 100 (by kernel_rfl) ?_
  exact W.fi (by kernel_rfl)
  ) ?_
 refine CodeOk.ret ?_
 have h := Option.some.inj h
 subst h
 exact Ends.gen [] (.inr rfl) (RetV.one rfl (OneR.tmp (t := 4) (r := V.int r2) (by kernel_rfl))) (by kernel_rfl) (by kernel_rfl) (by kernel_rfl)

theorem m_spec_EreEnd_ok (N : Nat) (a0 : List UInt8) (a1 : Int) {r : Int} (h : m_spec_EreEnd N a0 a1 = some r) :
    AC Tryz.prog (GS []) 133 [V.str a0, V.int a1] [] (V.int r) [] := by
 rw [m_spec_EreEnd] at h
 refine AC.enter Tryz.func133 rfl ?_
 refine cu D_ok mix 1 100 (tl 14 [(0, V.str a0), (1, V.int a1)]) [] (by kernel_rfl) ?_
 (revert h; refine bind_rev fun r2 hx2 h => ?_)
 refine CodeOk.cutR (tl 14 [(1, V.int a1), (5, V.int r2)]) [] mix (by
  refine W.run D_ok 2 100 (by kernel_rfl) ?_
  refine W.call0 (m_spec_l4Quoted_ok N a0 a1 47 hx2) cok151 rfl (by kernel_rfl) ?_
  refine W.run D_ok 1 100 (by kernel_rfl) ?_
  exact W.fi (by kernel_rfl)
  ) ?_
 refine CodeOk.seq' ?_
 refine cu D_ok mix 4 100 (tl 14 [(5, V.int r2), (12, V.bool (r2 == (IntKind.wrap .i64 (a1 + 2))))]) [] (by kernel_rfl) ?_
 (revert h; refine cond_rev (fun hc4 h => ?_) (fun hc4 h => ?_))
 ·refine CodeOk.ifT hc4 (by kernel_rfl) ?_
  refine cu D_ok mix 1 100 (tl 14 [(4, V.int (-1))]) [] (by kernel_rfl) ?_
  refine CodeOk.ret ?_
  have h := Option.some.inj h
  subst h
  exact Ends.gen [] (.inr rfl) (RetV.one rfl (OneR.tmp (t := 4) (r := V.int (-1)) (by kernel_rfl))) (by kernel_rfl) (by kernel_rfl) (by kernel_rfl)
 refine CodeOk.ifF hc4 (by kernel_rfl) ?_
 refine CodeOk.skip ?_
 refine cu D_ok mix 2 100 (tl 14 [(4, V.int r2)]) [] (by kernel_rfl) ?_
 refine CodeOk.ret ?_
 have h := Option.some.inj h
 subst h
 exact Ends.gen [] (.inr rfl) (RetV.one rfl (OneR.tmp (t := 4) (r := V.int r2) (by kernel_rfl))) (by kernel_rfl) (by kernel_rfl) (by kernel_rfl)

theorem m_spec_l3Signs_ok {r : (List (List UInt8))} (h : m_spec_l3Signs = some r) :
    AC Tryz.prog (GS []) 152 [] [] (.own 100) [(100, .vec false 9 1 (r.map encS))] := by
 rw [m_spec_l3Signs] at h
 refine AC.enter Tryz.func152 rfl ?_
 refine cu D_ok mix 1 100 (tl 2 []) [] (by kernel_rfl) ?_
 refine cu D_ok mix 2 100 (tl 2 [(0, .own 100)]) [(100, .vec false 9 1 ([[123], [125], [40], [41], [91], [93], [44], [59], [43, 61], [45, 61], [42, 61], [47, 61], [37, 61], [94, 61], [124, 124], [38, 38], [33, 126], [61, 61], [60, 61], [62, 61], [33, 61], [43, 43], [45, 45], [62, 62], [61], [43], [45], [42], [47], [37], [94], [33], [62], [60], [124], [63], [58], [126], [36]].map encS))] (by kernel_rfl) ?_
 refine CodeOk.ret ?_
 have h := Option.some.inj h
 subst h
 exact Ends.gen [(100, 100)] (.inr rfl) (RetV.one rfl (OneR.tmp (t := 0) (r := .own 100) (by kernel_rfl))) (by kernel_rfl) (by kernel_rfl) (by kernel_rfl)

theorem m_spec_SpellOf_ok (a0 : Int) {r : (List UInt8)} (h : m_spec_SpellOf a0 = some r) :
    AC Tryz.prog (GS []) 134 [V.int a0] [] (V.str r) [] := by
 rw [m_spec_SpellOf] at h
 refine AC.enter Tryz.func134 rfl ?_
 refine cu D_ok mix 1 100 (tl 22 [(0, V.int a0)]) [] (by kernel_rfl) ?_
 refine CodeOk.seq' ?_
 refine CodeOk.block' ?_
 refine cu D_ok mix 3 100 (tl 22 [(0, V.int a0), (3, V.bool (a0 == 1))]) [] (by kernel_rfl) ?_
 (revert h; refine cond_rev (fun hc16 h => ?_) (fun hc16 h => ?_))
 ·refine CodeOk.ifT hc16 (by kernel_rfl) ?_
  refine cu D_ok mix 1 100 (tl 22 [(2, V.str [10])]) [] (by kernel_rfl) ?_
  refine CodeOk.ret ?_
  have h := Option.some.inj h
  subst h
  exact Ends.gen [] (.inr rfl) (RetV.one rfl (OneR.tmp (t := 2) (r := V.str [10]) (by kernel_rfl))) (by kernel_rfl) (by kernel_rfl) (by kernel_rfl)
 refine CodeOk.ifF hc16 (by kernel_rfl) ?_
 (revert h; refine bind_rev fun r14 hx18 h => ?_)
 refine CodeOk.cutR (tl 22 [(0, V.int a0), (6, V.bool r14)]) [] mix (by
  refine W.run D_ok 1 100 (by kernel_rfl) ?_
  refine W.call0 (m_spec_l1In_ok a0 10 26 hx18) cok51 rfl (by kernel_rfl) ?_
  refine W.run D_ok 1 100 (by kernel_rfl) ?_
  exact W.fi (by kernel_rfl)
  ) ?_
 (revert h; refine cond_rev (fun hc19 h => ?_) (fun hc19 h => ?_))
 ·refine CodeOk.ifT hc19 (by kernel_rfl) ?_
  (revert h; refine bind_rev fun r17 hx22 h => ?_)
  (revert h; refine bind_rev fun e18 hx23 h => ?_)
  refine CodeOk.cutR (tl 22 [(2, V.str e18)]) [] mix (by
   refine W.call (m_spec_l3Words_ok  hx22) cok148 [] [(100, 100)] [100] (show LayOk _ [] from trivial) (by kernel_rfl) (by kernel_rfl) ?_
   refine W.run D_ok 2 101 (by kernel_rfl) ?_
   refine W.ixO D_ok encS hx23 100 1 (by kernel_rfl) ?_
   refine W.ldO D_ok encS hx23 9 100 0 (V.str e18) (by kernel_rfl) (by kernel_rfl) ?_
   refine W.run D_ok 1 101 (by kernel_rfl) ?_
   exact W.fi (by kernel_rfl)
   ) ?_
  refine CodeOk.ret ?_
  have h := Option.some.inj h
  subst h
  exact Ends.gen [] (.inr rfl) (RetV.one rfl (OneR.tmp (t := 2) (r := V.str e18) (by kernel_rfl))) (by kernel_rfl) (by kernel_rfl) (by kernel_rfl)
 refine CodeOk.ifF hc19 (by kernel_rfl) ?_
 (revert h; refine bind_rev fun r20 hx25 h => ?_)
 refine CodeOk.cutR (tl 22 [(0, V.int a0), (14, V.bool r20)]) [] mix (by
  refine W.run D_ok 1 100 (by kernel_rfl) ?_
  refine W.call0 (m_spec_l1In_ok a0 30 68 hx25) cok51 rfl (by kernel_rfl) ?_
  refine W.run D_ok 1 100 (by kernel_rfl) ?_
  exact W.fi (by kernel_rfl)
  ) ?_
 (revert h; refine cond_rev (fun hc26 h => ?_) (fun hc26 h => ?_))
 ·refine CodeOk.ifT hc26 (by kernel_rfl) ?_
  (revert h; refine bind_rev fun r23 hx29 h => ?_)
  (revert h; refine bind_rev fun e24 hx30 h => ?_)
  refine CodeOk.cutR (tl 22 [(2, V.str e24)]) [] mix (by
   refine W.call (m_spec_l3Signs_ok  hx29) cok152 [] [(100, 100)] [100] (show LayOk _ [] from trivial) (by kernel_rfl) (by kernel_rfl) ?_
   refine W.run D_ok 2 101 (by kernel_rfl) ?_
   refine W.ixO D_ok encS hx30 100 1 (by kernel_rfl) ?_
   refine W.ldO D_ok encS hx30 9 100 0 (V.str e24) (by kernel_rfl) (by kernel_rfl) ?_
   refine W.run D_ok 1 101 (by kernel_rfl) ?_
   exact W.fi (by kernel_rfl)
   ) ?_
  refine CodeOk.ret ?_
  have h := Option.some.inj h
  subst h
  exact Ends.gen [] (.inr rfl) (RetV.one rfl (OneR.tmp (t := 2) (r := V.str e24) (by kernel_rfl))) (by kernel_rfl) (by kernel_rfl) (by kernel_rfl)
 refine CodeOk.ifF hc26 (by kernel_rfl) ?_
 refine CodeOk.skip ?_
 refine cu D_ok mix 1 100 (tl 22 [(2, V.str [])]) [] (by kernel_rfl) ?_
 refine CodeOk.ret ?_
 have h := Option.some.inj h
 subst h
 exact Ends.gen [] (.inr rfl) (RetV.one rfl (OneR.tmp (t := 2) (r := V.str []) (by kernel_rfl))) (by kernel_rfl) (by kernel_rfl) (by kernel_rfl)

theorem m_spec_TokenOk_ok (N : Nat) (a0 : SToken) {r : Bool} (h : m_spec_TokenOk N a0 = some r) :
    AC Tryz.prog (GS []) 117 [.agg [V.int a0.Kind, V.str a0.Text, V.int a0.At]] [] (V.bool r) [] := by
 rw [m_spec_TokenOk] at h
 refine AC.enter Tryz.func117 rfl ?_
 refine cu D_ok mix 2 100 (tl 71 [(1, .loc 100 0)]) [(100, .cells 120 [V.int a0.Kind, V.str a0.Text, V.int a0.At])] (by kernel_rfl) ?_
 refine cu D_ok mix 4 101 (tl 71 [(1, .loc 100 0), (3, V.int (a0.Text.length : Int))]) [(100, .cells 120 [V.int a0.Kind, V.str a0.Text, V.int a0.At])] (by kernel_rfl) ?_
 refine CodeOk.seq' ?_
 refine cu D_ok mix 2 101 (tl 71 [(1, .loc 100 0), (3, V.int (a0.Text.length : Int)), (8, V.int a0.Kind)]) [(100, .cells 120 [V.int a0.Kind, V.str a0.Text, V.int a0.At])] (by kernel_rfl) ?_
 refine CodeOk.block' ?_
 refine cu D_ok mix 2 101 (tl 71 [(1, .loc 100 0), (3, V.int (a0.Text.length : Int)), (8, V.int a0.Kind), (9, V.bool (a0.Kind == 2))]) [(100, .cells 120 [V.int a0.Kind, V.str a0.Text, V.int a0.At])] (by kernel_rfl) ?_
 (revert h; refine cond_rev (fun hc33 h => ?_) (fun hc33 h => ?_))
 ·refine CodeOk.ifT hc33 (by kernel_rfl) ?_
  (revert h; refine bind_rev fun y20 hv38 h => ?_)
  refine CodeOk.cutR (tl 71 [(2, V.bool y20)]) [] mix (by
   refine W.run D_ok 3 101 (by kernel_rfl) ?_
   (revert hv38; refine cond_rev (fun hc39 hv38 => ?_) (fun hc39 hv38 => ?_))
   ·refine W.is 13 hc39 (by kernel_rfl) ?_
    refine W.run D_ok 2 101 (by kernel_rfl) ?_
    (revert hv38; refine bind_rev fun b21 hx40 hv38 => ?_)
    refine W.ixS D_ok hx40 (by kernel_rfl) ?_
    refine W.run D_ok 3 101 (by kernel_rfl) ?_
    (revert hv38; refine cond_rev (fun hc41 hv38 => ?_) (fun hc41 hv38 => ?_))
    ·refine W.is 19 hc41 (by kernel_rfl) ?_
     refine W.run D_ok 2 101 (by kernel_rfl) ?_
     (revert hv38; refine bind_rev fun r22 hx42 hv38 => ?_)
     refine W.call0 (m_spec_l4Plain_ok N a0.Text hx42) cok130 rfl (by kernel_rfl) ?_
     refine W.run D_ok 2 101 (by kernel_rfl) ?_
     have hv38 := Option.some.inj hv38
     subst hv38
     exact W.fs [] [2] (by kernel_rfl)
    refine W.is 19 hc41 (by kernel_rfl) ?_
    refine W.run D_ok 5 101 (by kernel_rfl) ?_
    have hv38 := Option.some.inj hv38
    subst hv38
    exact W.fs [] [2] (by kernel_rfl)
   refine W.is 13 hc39 (by kernel_rfl) ?_
   refine W.run D_ok 11 101 (by kernel_rfl) ?_
   have hv38 := Option.some.inj hv38
   subst hv38
   exact W.fs [] [2] (by kernel_rfl)
   ) ?_
  refine CodeOk.ret ?_
  have h := Option.some.inj h
  subst h
  exact Ends.gen [] (.inr rfl) (RetV.one rfl (OneR.tmp (t := 2) (r := V.bool y20) (by kernel_rfl))) (by kernel_rfl) (by kernel_rfl) (by kernel_rfl)
 refine CodeOk.ifF hc33 (by kernel_rfl) ?_
 refine cu D_ok mix 2 101 (tl 71 [(1, .loc 100 0), (3, V.int (a0.Text.length : Int)), (8, V.int a0.Kind), (24, V.bool (a0.Kind == 3))]) [(100, .cells 120 [V.int a0.Kind, V.str a0.Text, V.int a0.At])] (by kernel_rfl) ?_
 (revert h; refine cond_rev (fun hc43 h => ?_) (fun hc43 h => ?_))
 ·refine CodeOk.ifT hc43 (by kernel_rfl) ?_
  (revert h; refine bind_rev fun y24 hv46 h => ?_)
  refine CodeOk.cutR (tl 71 [(2, V.bool y24)]) [] mix (by
   refine W.run D_ok 3 101 (by kernel_rfl) ?_
   (revert hv46; refine cond_rev (fun hc47 hv46 => ?_) (fun hc47 hv46 => ?_))
   ·refine W.is 28 hc47 (by kernel_rfl) ?_
    refine W.run D_ok 2 101 (by kernel_rfl) ?_
    (revert hv46; refine bind_rev fun r25 hx48 hv46 => ?_)
    refine W.call0 (m_spec_NumEnd_ok N a0.Text 0 hx48) cok131 rfl (by kernel_rfl) ?_
    refine W.run D_ok 4 101 (by kernel_rfl) ?_
    have hv46 := Option.some.inj hv46
    subst hv46
    exact W.fs [] [2] (by kernel_rfl)
   refine W.is 28 hc47 (by kernel_rfl) ?_
   refine W.run D_ok 7 101 (by kernel_rfl) ?_
   have hv46 := Option.some.inj hv46
   subst hv46
   exact W.fs [] [2] (by kernel_rfl)
   ) ?_
  refine CodeOk.ret ?_
  have h := Option.some.inj h
  subst h
  exact Ends.gen [] (.inr rfl) (RetV.one rfl (OneR.tmp (t := 2) (r := V.bool y24) (by kernel_rfl))) (by kernel_rfl) (by kernel_rfl) (by kernel_rfl)
 refine CodeOk.ifF hc43 (by kernel_rfl) ?_
 refine cu D_ok mix 2 101 (tl 71 [(1, .loc 100 0), (3, V.int (a0.Text.length : Int)), (8, V.int a0.Kind), (35, V.bool (a0.Kind == 4))]) [(100, .cells 120 [V.int a0.Kind, V.str a0.Text, V.int a0.At])] (by kernel_rfl) ?_
 (revert h; refine cond_rev (fun hc49 h => ?_) (fun hc49 h => ?_))
 ·refine CodeOk.ifT hc49 (by kernel_rfl) ?_
  (revert h; refine bind_rev fun r27 hx51 h => ?_)
  refine CodeOk.cutR (tl 71 [(2, V.bool (r27 == (a0.Text.length : Int)))]) [] mix (by
   refine W.run D_ok 2 101 (by kernel_rfl) ?_
   refine W.call0 (m_spec_StrEnd_ok N a0.Text 0 hx51) cok132 rfl (by kernel_rfl) ?_
   refine W.run D_ok 3 101 (by kernel_rfl) ?_
   exact W.fi (by kernel_rfl)
   ) ?_
  refine CodeOk.ret ?_
  have h := Option.some.inj h
  subst h
  exact Ends.gen [] (.inr rfl) (RetV.one rfl (OneR.tmp (t := 2) (r := V.bool (r27 == (a0.Text.length : Int))) (by kernel_rfl))) (by kernel_rfl) (by kernel_rfl) (by kernel_rfl)
 refine CodeOk.ifF hc49 (by kernel_rfl) ?_
 refine cu D_ok mix 2 101 (tl 71 [(1, .loc 100 0), (3, V.int (a0.Text.length : Int)), (8, V.int a0.Kind), (42, V.bool (a0.Kind == 5))]) [(100, .cells 120 [V.int a0.Kind, V.str a0.Text, V.int a0.At])] (by kernel_rfl) ?_
 (revert h; refine cond_rev (fun hc52 h => ?_) (fun hc52 h => ?_))
 ·refine CodeOk.ifT hc52 (by kernel_rfl) ?_
  (revert h; refine bind_rev fun r29 hx54 h => ?_)
  refine CodeOk.cutR (tl 71 [(2, V.bool (r29 == (a0.Text.length : Int)))]) [] mix (by
   refine W.run D_ok 2 101 (by kernel_rfl) ?_
   refine W.call0 (m_spec_EreEnd_ok N a0.Text 0 hx54) cok133 rfl (by kernel_rfl) ?_
   refine W.run D_ok 3 101 (by kernel_rfl) ?_
   exact W.fi (by kernel_rfl)
   ) ?_
  refine CodeOk.ret ?_
  have h := Option.some.inj h
  subst h
  exact Ends.gen [] (.inr rfl) (RetV.one rfl (OneR.tmp (t := 2) (r := V.bool (r29 == (a0.Text.length : Int))) (by kernel_rfl))) (by kernel_rfl) (by kernel_rfl) (by kernel_rfl)
 refine CodeOk.ifF hc52 (by kernel_rfl) ?_
 refine CodeOk.join (fun (⟨a0, y30⟩ : (SToken × Bool)) => ⟨tl 71 [(1, .loc 100 0), (8, V.int a0.Kind), (49, V.bool y30)], [(100, .cells 120 [V.int a0.Kind, V.str a0.Text, V.int a0.At])]⟩) (fun i => m_spec_TokenOk_k1 N i = some r) ?_ ?_
 · rintro ⟨a0, y30⟩ h56
   rw [m_spec_TokenOk_k1] at h56
   (revert h56; refine cond_rev (fun hc57 h56 => ?_) (fun hc57 h56 => ?_))
   ·refine CodeOk.ifT hc57 (by kernel_rfl) ?_
    (revert h56; refine bind_rev fun r32 hx59 h56 => ?_)
    refine CodeOk.cutR (tl 71 [(2, V.bool r32)]) [] mix (by
     refine W.run D_ok 2 101 (by kernel_rfl) ?_
     refine W.call0 (m_spec_NameOk_ok N a0.Text hx59) cok116 rfl (by kernel_rfl) ?_
     refine W.run D_ok 1 101 (by kernel_rfl) ?_
     exact W.fi (by kernel_rfl)
     ) ?_
    refine CodeOk.ret ?_
    have h56 := Option.some.inj h56
    subst h56
    exact Ends.gen [] (.inr rfl) (RetV.one rfl (OneR.tmp (t := 2) (r := V.bool r32) (by kernel_rfl))) (by kernel_rfl) (by kernel_rfl) (by kernel_rfl)
   refine CodeOk.ifF hc57 (by kernel_rfl) ?_
   refine cu D_ok mix 2 101 (tl 71 [(1, .loc 100 0), (55, V.bool (a0.Kind == 8))]) [(100, .cells 120 [V.int a0.Kind, V.str a0.Text, V.int a0.At])] (by kernel_rfl) ?_
   (revert h56; refine cond_rev (fun hc60 h56 => ?_) (fun hc60 h56 => ?_))
   ·refine CodeOk.ifT hc60 (by kernel_rfl) ?_
    (revert h56; refine bind_rev fun r34 hx62 h56 => ?_)
    refine CodeOk.cutR (tl 71 [(2, V.bool r34)]) [] mix (by
     refine W.run D_ok 2 101 (by kernel_rfl) ?_
     refine W.call0 (m_spec_IsBuiltin_ok N a0.Text hx62) cok118 rfl (by kernel_rfl) ?_
     refine W.run D_ok 1 101 (by kernel_rfl) ?_
     exact W.fi (by kernel_rfl)
     ) ?_
    refine CodeOk.ret ?_
    have h56 := Option.some.inj h56
    subst h56
    exact Ends.gen [] (.inr rfl) (RetV.one rfl (OneR.tmp (t := 2) (r := V.bool r34) (by kernel_rfl))) (by kernel_rfl) (by kernel_rfl) (by kernel_rfl)
   refine CodeOk.ifF hc60 (by kernel_rfl) ?_
   refine CodeOk.skip ?_
   (revert h56; refine bind_rev fun y36 hv65 h56 => ?_)
   refine CodeOk.cutR (tl 71 [(2, V.bool y36)]) [] mix (by
    refine W.run D_ok 4 101 (by kernel_rfl) ?_
    (revert hv65; refine cond_rev (fun hc66 hv65 => ?_) (fun hc66 hv65 => ?_))
    ·refine W.is 63 hc66 (by kernel_rfl) ?_
     refine W.run D_ok 2 101 (by kernel_rfl) ?_
     (revert hv65; refine bind_rev fun r37 hx67 hv65 => ?_)
     refine W.call0 (m_spec_SpellOf_ok a0.Kind hx67) cok134 rfl (by kernel_rfl) ?_
     refine W.run D_ok 5 101 (by kernel_rfl) ?_
     have hv65 := Option.some.inj hv65
     subst hv65
     exact W.fs [] [2] (by kernel_rfl)
    refine W.is 63 hc66 (by kernel_rfl) ?_
    refine W.run D_ok 8 101 (by kernel_rfl) ?_
    have hv65 := Option.some.inj hv65
    subst hv65
    exact W.fs [] [2] (by kernel_rfl)
    ) ?_
   refine CodeOk.ret ?_
   have h56 := Option.some.inj h56
   subst h56
   exact Ends.gen [] (.inr rfl) (RetV.one rfl (OneR.tmp (t := 2) (r := V.bool y36) (by kernel_rfl))) (by kernel_rfl) (by kernel_rfl) (by kernel_rfl)
 intro hk68
 refine cu D_ok mix 2 101 (tl 71 [(1, .loc 100 0), (8, V.int a0.Kind), (49, V.bool (a0.Kind == 6))]) [(100, .cells 120 [V.int a0.Kind, V.str a0.Text, V.int a0.At])] (by kernel_rfl) ?_
 (revert h; refine cond_rev (fun hc69 h => ?_) (fun hc69 h => ?_))
 ·refine CodeOk.ifT hc69 (by kernel_rfl) ?_
  refine CodeOk.skip ?_
  exact hk68 (a0, (a0.Kind == 6)) h _ (Weak.sel [(100, 100)] [1, 8, 49] (by kernel_rfl) (by kernel_rfl) (by kernel_rfl))
 refine CodeOk.ifF hc69 (by kernel_rfl) ?_
 refine ce D_ok mix 2 101 (tl 71 [(1, .loc 100 0), (8, V.int a0.Kind), (49, V.bool (a0.Kind == 7))]) [(100, .cells 120 [V.int a0.Kind, V.str a0.Text, V.int a0.At])] (by kernel_rfl) (fun st hw => ?_)
 exact hk68 (a0, (a0.Kind == 7)) h _ (hw.trans (Weak.sel [(100, 100)] [1, 8, 49] (by kernel_rfl) (by kernel_rfl) (by kernel_rfl)))

theorem m_spec_l7Text_ok (N : Nat) (a0 : SNode) {r : Bool} (h : m_spec_l7Text N a0 = some r) :
    AC Tryz.prog (GS []) 101 [.agg [V.int a0.Kind, V.int a0.Op, V.str a0.Text, V.str a0.Other, .sl false false (a0.Kids.map encI)]] [] (V.bool r) [] := by
 rw [m_spec_l7Text] at h
 refine AC.enter Tryz.func101 rfl ?_
 refine cu D_ok mix 2 100 (tl 117 [(1, .loc 100 0)]) [(100, .cells 48 [V.int a0.Kind, V.int a0.Op, V.str a0.Text, V.str a0.Other, .sl false false (a0.Kids.map encI)])] (by kernel_rfl) ?_
 refine CodeOk.seq' ?_
 refine cu D_ok mix 2 101 (tl 117 [(1, .loc 100 0), (4, V.int a0.Kind)]) [(100, .cells 48 [V.int a0.Kind, V.int a0.Op, V.str a0.Text, V.str a0.Other, .sl false false (a0.Kids.map encI)])] (by kernel_rfl) ?_
 refine CodeOk.block' ?_
 refine CodeOk.join (fun (⟨a0, y26⟩ : (SNode × Bool)) => ⟨tl 117 [(1, .loc 100 0), (4, V.int a0.Kind), (5, V.bool y26)], [(100, .cells 48 [V.int a0.Kind, V.int a0.Op, V.str a0.Text, V.str a0.Other, .sl false false (a0.Kids.map encI)])]⟩) (fun i => m_spec_l7Text_k1 N i = some r) ?_ ?_
 · rintro ⟨a0, y26⟩ h72
   rw [m_spec_l7Text_k1] at h72
   (revert h72; refine cond_rev (fun hc73 h72 => ?_) (fun hc73 h72 => ?_))
   ·refine CodeOk.ifT hc73 (by kernel_rfl) ?_
    (revert h72; refine bind_rev fun y28 hv76 h72 => ?_)
    refine CodeOk.cutR (tl 117 [(2, V.bool y28)]) [] mix (by
     refine W.run D_ok 2 101 (by kernel_rfl) ?_
     (revert hv76; refine bind_rev fun r29 hx77 hv76 => ?_)
     refine W.call0 (m_spec_NameOk_ok N a0.Text hx77) cok116 rfl (by kernel_rfl) ?_
     refine W.run D_ok 1 101 (by kernel_rfl) ?_
     (revert hv76; refine cond_rev (fun hc78 hv76 => ?_) (fun hc78 hv76 => ?_))
     ·refine W.is 15 hc78 (by kernel_rfl) ?_
      refine W.run D_ok 5 101 (by kernel_rfl) ?_
      have hv76 := Option.some.inj hv76
      subst hv76
      exact W.fs [] [2] (by kernel_rfl)
     refine W.is 15 hc78 (by kernel_rfl) ?_
     refine W.run D_ok 5 101 (by kernel_rfl) ?_
     have hv76 := Option.some.inj hv76
     subst hv76
     exact W.fs [] [2] (by kernel_rfl)
     ) ?_
    refine CodeOk.ret ?_
    have h72 := Option.some.inj h72
    subst h72
    exact Ends.gen [] (.inr rfl) (RetV.one rfl (OneR.tmp (t := 2) (r := V.bool y28) (by kernel_rfl))) (by kernel_rfl) (by kernel_rfl) (by kernel_rfl)
   refine CodeOk.ifF hc73 (by kernel_rfl) ?_
   refine cu D_ok mix 2 101 (tl 117 [(1, .loc 100 0), (4, V.int a0.Kind), (20, V.bool (a0.Kind == 2))]) [(100, .cells 48 [V.int a0.Kind, V.int a0.Op, V.str a0.Text, V.str a0.Other, .sl false false (a0.Kids.map encI)])] (by kernel_rfl) ?_
   (revert h72; refine cond_rev (fun hc79 h72 => ?_) (fun hc79 h72 => ?_))
   ·refine CodeOk.ifT hc79 (by kernel_rfl) ?_
    (revert h72; refine bind_rev fun y31 hv82 h72 => ?_)
    refine CodeOk.cutR (tl 117 [(2, V.bool y31)]) [] mix (by
     refine W.run D_ok 3 101 (by kernel_rfl) ?_
     (revert hv82; refine bind_rev fun r32 hx83 hv82 => ?_)
     refine W.call0 (m_spec_TokenOk_ok N (⟨3, a0.Text, 0⟩ : SToken) hx83) cok117 rfl (by kernel_rfl) ?_
     refine W.run D_ok 1 101 (by kernel_rfl) ?_
     (revert hv82; refine cond_rev (fun hc84 hv82 => ?_) (fun hc84 hv82 => ?_))
     ·refine W.is 26 hc84 (by kernel_rfl) ?_
      refine W.run D_ok 5 101 (by kernel_rfl) ?_
      have hv82 := Option.some.inj hv82
      subst hv82
      exact W.fs [] [2] (by kernel_rfl)
     refine W.is 26 hc84 (by kernel_rfl) ?_
     refine W.run D_ok 5 101 (by kernel_rfl) ?_
     have hv82 := Option.some.inj hv82
     subst hv82
     exact W.fs [] [2] (by kernel_rfl)
     ) ?_
    refine CodeOk.ret ?_
    have h72 := Option.some.inj h72
    subst h72
    exact Ends.gen [] (.inr rfl) (RetV.one rfl (OneR.tmp (t := 2) (r := V.bool y31) (by kernel_rfl))) (by kernel_rfl) (by kernel_rfl) (by kernel_rfl)
   refine CodeOk.ifF hc79 (by kernel_rfl) ?_
   refine cu D_ok mix 2 101 (tl 117 [(1, .loc 100 0), (4, V.int a0.Kind), (31, V.bool (a0.Kind == 3))]) [(100, .cells 48 [V.int a0.Kind, V.int a0.Op, V.str a0.Text, V.str a0.Other, .sl false false (a0.Kids.map encI)])] (by kernel_rfl) ?_
   (revert h72; refine cond_rev (fun hc85 h72 => ?_) (fun hc85 h72 => ?_))
   ·refine CodeOk.ifT hc85 (by kernel_rfl) ?_
    (revert h72; refine bind_rev fun y34 hv88 h72 => ?_)
    refine CodeOk.cutR (tl 117 [(2, V.bool y34)]) [] mix (by
     refine W.run D_ok 3 101 (by kernel_rfl) ?_
     (revert hv88; refine bind_rev fun r35 hx89 hv88 => ?_)
     refine W.call0 (m_spec_TokenOk_ok N (⟨4, a0.Text, 0⟩ : SToken) hx89) cok117 rfl (by kernel_rfl) ?_
     refine W.run D_ok 1 101 (by kernel_rfl) ?_
     (revert hv88; refine cond_rev (fun hc90 hv88 => ?_) (fun hc90 hv88 => ?_))
     ·refine W.is 37 hc90 (by kernel_rfl) ?_
      refine W.run D_ok 5 101 (by kernel_rfl) ?_
      have hv88 := Option.some.inj hv88
      subst hv88
      exact W.fs [] [2] (by kernel_rfl)
     refine W.is 37 hc90 (by kernel_rfl) ?_
     refine W.run D_ok 5 101 (by kernel_rfl) ?_
     have hv88 := Option.some.inj hv88
     subst hv88
     exact W.fs [] [2] (by kernel_rfl)
     ) ?_
    refine CodeOk.ret ?_
    have h72 := Option.some.inj h72
    subst h72
    exact Ends.gen [] (.inr rfl) (RetV.one rfl (OneR.tmp (t := 2) (r := V.bool y34) (by kernel_rfl))) (by kernel_rfl) (by kernel_rfl) (by kernel_rfl)
   refine CodeOk.ifF hc85 (by kernel_rfl) ?_
   refine cu D_ok mix 2 101 (tl 117 [(1, .loc 100 0), (4, V.int a0.Kind), (42, V.bool (a0.Kind == 4))]) [(100, .cells 48 [V.int a0.Kind, V.int a0.Op, V.str a0.Text, V.str a0.Other, .sl false false (a0.Kids.map encI)])] (by kernel_rfl) ?_
   (revert h72; refine cond_rev (fun hc91 h72 => ?_) (fun hc91 h72 => ?_))
   ·refine CodeOk.ifT hc91 (by kernel_rfl) ?_
    (revert h72; refine bind_rev fun y37 hv94 h72 => ?_)
    refine CodeOk.cutR (tl 117 [(2, V.bool y37)]) [] mix (by
     refine W.run D_ok 3 101 (by kernel_rfl) ?_
     (revert hv94; refine bind_rev fun r38 hx95 hv94 => ?_)
     refine W.call0 (m_spec_TokenOk_ok N (⟨5, a0.Text, 0⟩ : SToken) hx95) cok117 rfl (by kernel_rfl) ?_
     refine W.run D_ok 1 101 (by kernel_rfl) ?_
     (revert hv94; refine cond_rev (fun hc96 hv94 => ?_) (fun hc96 hv94 => ?_))
     ·refine W.is 48 hc96 (by kernel_rfl) ?_
      refine W.run D_ok 5 101 (by kernel_rfl) ?_
      have hv94 := Option.some.inj hv94
      subst hv94
      exact W.fs [] [2] (by kernel_rfl)
     refine W.is 48 hc96 (by kernel_rfl) ?_
     refine W.run D_ok 5 101 (by kernel_rfl) ?_
     have hv94 := Option.some.inj hv94
     subst hv94
     exact W.fs [] [2] (by kernel_rfl)
     ) ?_
    refine CodeOk.ret ?_
    have h72 := Option.some.inj h72
    subst h72
    exact Ends.gen [] (.inr rfl) (RetV.one rfl (OneR.tmp (t := 2) (r := V.bool y37) (by kernel_rfl))) (by kernel_rfl) (by kernel_rfl) (by kernel_rfl)
   refine CodeOk.ifF hc91 (by kernel_rfl) ?_
   refine cu D_ok mix 2 101 (tl 117 [(1, .loc 100 0), (4, V.int a0.Kind), (53, V.bool (a0.Kind == 34))]) [(100, .cells 48 [V.int a0.Kind, V.int a0.Op, V.str a0.Text, V.str a0.Other, .sl false false (a0.Kids.map encI)])] (by kernel_rfl) ?_
   (revert h72; refine cond_rev (fun hc97 h72 => ?_) (fun hc97 h72 => ?_))
   ·refine CodeOk.ifT hc97 (by kernel_rfl) ?_
    (revert h72; refine bind_rev fun y40 hv100 h72 => ?_)
    refine CodeOk.cutR (tl 117 [(2, V.bool y40)]) [] mix (by
     refine W.run D_ok 3 101 (by kernel_rfl) ?_
     (revert hv100; refine bind_rev fun r41 hx101 hv100 => ?_)
     refine W.call0 (m_spec_TokenOk_ok N (⟨2, a0.Text, 0⟩ : SToken) hx101) cok117 rfl (by kernel_rfl) ?_
     refine W.run D_ok 1 101 (by kernel_rfl) ?_
     (revert hv100; refine cond_rev (fun hc102 hv100 => ?_) (fun hc102 hv100 => ?_))
     ·refine W.is 59 hc102 (by kernel_rfl) ?_
      refine W.run D_ok 5 101 (by kernel_rfl) ?_
      have hv100 := Option.some.inj hv100
      subst hv100
      exact W.fs [] [2] (by kernel_rfl)
     refine W.is 59 hc102 (by kernel_rfl) ?_
     refine W.run D_ok 5 101 (by kernel_rfl) ?_
     have hv100 := Option.some.inj hv100
     subst hv100
     exact W.fs [] [2] (by kernel_rfl)
     ) ?_
    refine CodeOk.ret ?_
    have h72 := Option.some.inj h72
    subst h72
    exact Ends.gen [] (.inr rfl) (RetV.one rfl (OneR.tmp (t := 2) (r := V.bool y40) (by kernel_rfl))) (by kernel_rfl) (by kernel_rfl) (by kernel_rfl)
   refine CodeOk.ifF hc97 (by kernel_rfl) ?_
   refine cu D_ok mix 2 101 (tl 117 [(1, .loc 100 0), (4, V.int a0.Kind), (64, V.bool (a0.Kind == 8))]) [(100, .cells 48 [V.int a0.Kind, V.int a0.Op, V.str a0.Text, V.str a0.Other, .sl false false (a0.Kids.map encI)])] (by kernel_rfl) ?_
   (revert h72; refine cond_rev (fun hc103 h72 => ?_) (fun hc103 h72 => ?_))
   ·refine CodeOk.ifT hc103 (by kernel_rfl) ?_
    (revert h72; refine bind_rev fun y43 hv106 h72 => ?_)
    refine CodeOk.cutR (tl 117 [(2, V.bool y43)]) [] mix (by
     refine W.run D_ok 2 101 (by kernel_rfl) ?_
     (revert hv106; refine bind_rev fun r44 hx107 hv106 => ?_)
     refine W.call0 (m_spec_IsBuiltin_ok N a0.Text hx107) cok118 rfl (by kernel_rfl) ?_
     refine W.run D_ok 1 101 (by kernel_rfl) ?_
     (revert hv106; refine cond_rev (fun hc108 hv106 => ?_) (fun hc108 hv106 => ?_))
     ·refine W.is 69 hc108 (by kernel_rfl) ?_
      refine W.run D_ok 5 101 (by kernel_rfl) ?_
      have hv106 := Option.some.inj hv106
      subst hv106
      exact W.fs [] [2] (by kernel_rfl)
     refine W.is 69 hc108 (by kernel_rfl) ?_
     refine W.run D_ok 5 101 (by kernel_rfl) ?_
     have hv106 := Option.some.inj hv106
     subst hv106
     exact W.fs [] [2] (by kernel_rfl)
     ) ?_
    refine CodeOk.ret ?_
    have h72 := Option.some.inj h72
    subst h72
    exact Ends.gen [] (.inr rfl) (RetV.one rfl (OneR.tmp (t := 2) (r := V.bool y43) (by kernel_rfl))) (by kernel_rfl) (by kernel_rfl) (by kernel_rfl)
   refine CodeOk.ifF hc103 (by kernel_rfl) ?_
   refine cu D_ok mix 2 101 (tl 117 [(1, .loc 100 0), (4, V.int a0.Kind), (74, V.bool (a0.Kind == 32))]) [(100, .cells 48 [V.int a0.Kind, V.int a0.Op, V.str a0.Text, V.str a0.Other, .sl false false (a0.Kids.map encI)])] (by kernel_rfl) ?_
   (revert h72; refine cond_rev (fun hc109 h72 => ?_) (fun hc109 h72 => ?_))
   ·refine CodeOk.ifT hc109 (by kernel_rfl) ?_
    (revert h72; refine bind_rev fun y47 hv113 h72 => ?_)
    refine CodeOk.cutR (tl 117 [(2, V.bool y47)]) [] mix (by
     refine W.run D_ok 2 101 (by kernel_rfl) ?_
     (revert hv113; refine bind_rev fun r48 hx114 hv113 => ?_)
     refine W.call0 (m_spec_NameOk_ok N a0.Text hx114) cok116 rfl (by kernel_rfl) ?_
     refine W.run D_ok 1 101 (by kernel_rfl) ?_
     (revert hv113; refine cond_rev (fun hc115 hv113 => ?_) (fun hc115 hv113 => ?_))
     ·refine W.is 79 hc115 (by kernel_rfl) ?_
      refine W.run D_ok 2 101 (by kernel_rfl) ?_
      (revert hv113; refine bind_rev fun r49 hx116 hv113 => ?_)
      refine W.call0 (m_spec_NameOk_ok N a0.Other hx116) cok116 rfl (by kernel_rfl) ?_
      refine W.run D_ok 2 101 (by kernel_rfl) ?_
      have hv113 := Option.some.inj hv113
      subst hv113
      exact W.fs [] [2] (by kernel_rfl)
     refine W.is 79 hc115 (by kernel_rfl) ?_
     refine W.run D_ok 5 101 (by kernel_rfl) ?_
     have hv113 := Option.some.inj hv113
     subst hv113
     exact W.fs [] [2] (by kernel_rfl)
     ) ?_
    refine CodeOk.ret ?_
    have h72 := Option.some.inj h72
    subst h72
    exact Ends.gen [] (.inr rfl) (RetV.one rfl (OneR.tmp (t := 2) (r := V.bool y47) (by kernel_rfl))) (by kernel_rfl) (by kernel_rfl) (by kernel_rfl)
   refine CodeOk.ifF hc109 (by kernel_rfl) ?_
   refine cu D_ok mix 2 101 (tl 117 [(1, .loc 100 0), (84, V.bool (a0.Kind == 21))]) [(100, .cells 48 [V.int a0.Kind, V.int a0.Op, V.str a0.Text, V.str a0.Other, .sl false false (a0.Kids.map encI)])] (by kernel_rfl) ?_
   (revert h72; refine cond_rev (fun hc117 h72 => ?_) (fun hc117 h72 => ?_))
   ·refine CodeOk.ifT hc117 (by kernel_rfl) ?_
    (revert h72; refine bind_rev fun y50 hv122 h72 => ?_)
    refine CodeOk.cutR (tl 117 [(2, V.bool y50)]) [] mix (by
     refine W.run D_ok 4 101 (by kernel_rfl) ?_
     (revert hv122; refine cond_rev (fun hc123 hv122 => ?_) (fun hc123 hv122 => ?_))
     ·refine W.is 89 hc123 (by kernel_rfl) ?_
      refine W.run D_ok 4 101 (by kernel_rfl) ?_
      (revert hv122; refine cond_rev (fun hc124 hv122 => ?_) (fun hc124 hv122 => ?_))
      ·refine W.is 93 hc124 (by kernel_rfl) ?_
       refine W.run D_ok 16 101 (by kernel_rfl) ?_
       have hv122 := Option.some.inj hv122
       subst hv122
       exact W.fs [] [2] (by kernel_rfl)
      refine W.is 93 hc124 (by kernel_rfl) ?_
      refine W.run D_ok 5 101 (by kernel_rfl) ?_
      (revert hv122; refine cond_rev (fun hc125 hv122 => ?_) (fun hc125 hv122 => ?_))
      ·refine W.is 98 hc125 (by kernel_rfl) ?_
       refine W.run D_ok 11 101 (by kernel_rfl) ?_
       have hv122 := Option.some.inj hv122
       subst hv122
       exact W.fs [] [2] (by kernel_rfl)
      refine W.is 98 hc125 (by kernel_rfl) ?_
      refine W.run D_ok 5 101 (by kernel_rfl) ?_
      (revert hv122; refine cond_rev (fun hc126 hv122 => ?_) (fun hc126 hv122 => ?_))
      ·refine W.is 103 hc126 (by kernel_rfl) ?_
       refine W.run D_ok 6 101 (by kernel_rfl) ?_
       have hv122 := Option.some.inj hv122
       subst hv122
       exact W.fs [] [2] (by kernel_rfl)
      refine W.is 103 hc126 (by kernel_rfl) ?_
      refine W.run D_ok 6 101 (by kernel_rfl) ?_
      have hv122 := Option.some.inj hv122
      subst hv122
      exact W.fs [] [2] (by kernel_rfl)
     refine W.is 89 hc123 (by kernel_rfl) ?_
     refine W.run D_ok 20 101 (by kernel_rfl) ?_
     have hv122 := Option.some.inj hv122
     subst hv122
     exact W.fs [] [2] (by kernel_rfl)
     ) ?_
    refine CodeOk.ret ?_
    have h72 := Option.some.inj h72
    subst h72
    exact Ends.gen [] (.inr rfl) (RetV.one rfl (OneR.tmp (t := 2) (r := V.bool y50) (by kernel_rfl))) (by kernel_rfl) (by kernel_rfl) (by kernel_rfl)
   refine CodeOk.ifF hc117 (by kernel_rfl) ?_
   refine CodeOk.skip ?_
   (revert h72; refine bind_rev fun y51 hv128 h72 => ?_)
   refine CodeOk.cutR (tl 117 [(2, V.bool y51)]) [] mix (by
    refine W.run D_ok 4 101 (by kernel_rfl) ?_
    (revert hv128; refine cond_rev (fun hc129 hv128 => ?_) (fun hc129 hv128 => ?_))
    ·refine W.is 112 hc129 (by kernel_rfl) ?_
     refine W.run D_ok 5 101 (by kernel_rfl) ?_
     have hv128 := Option.some.inj hv128
     subst hv128
     exact W.fs [] [2] (by kernel_rfl)
    refine W.is 112 hc129 (by kernel_rfl) ?_
    refine W.run D_ok 5 101 (by kernel_rfl) ?_
    have hv128 := Option.some.inj hv128
    subst hv128
    exact W.fs [] [2] (by kernel_rfl)
    ) ?_
   refine CodeOk.ret ?_
   have h72 := Option.some.inj h72
   subst h72
   exact Ends.gen [] (.inr rfl) (RetV.one rfl (OneR.tmp (t := 2) (r := V.bool y51) (by kernel_rfl))) (by kernel_rfl) (by kernel_rfl) (by kernel_rfl)
 intro hk130
 refine cu D_ok mix 2 101 (tl 117 [(1, .loc 100 0), (4, V.int a0.Kind), (5, V.bool (a0.Kind == 1))]) [(100, .cells 48 [V.int a0.Kind, V.int a0.Op, V.str a0.Text, V.str a0.Other, .sl false false (a0.Kids.map encI)])] (by kernel_rfl) ?_
 (revert h; refine cond_rev (fun hc131 h => ?_) (fun hc131 h => ?_))
 ·refine CodeOk.ifT hc131 (by kernel_rfl) ?_
  refine CodeOk.skip ?_
  exact hk130 (a0, (a0.Kind == 1)) h _ (Weak.sel [(100, 100)] [1, 4, 5] (by kernel_rfl) (by kernel_rfl) (by kernel_rfl))
 refine CodeOk.ifF hc131 (by kernel_rfl) ?_
 refine cu D_ok mix 2 101 (tl 117 [(1, .loc 100 0), (4, V.int a0.Kind), (5, V.bool (a0.Kind == 5))]) [(100, .cells 48 [V.int a0.Kind, V.int a0.Op, V.str a0.Text, V.str a0.Other, .sl false false (a0.Kids.map encI)])] (by kernel_rfl) ?_
 (revert h; refine cond_rev (fun hc132 h => ?_) (fun hc132 h => ?_))
 ·refine CodeOk.ifT hc132 (by kernel_rfl) ?_
  refine CodeOk.skip ?_
  exact hk130 (a0, (a0.Kind == 5)) h _ (Weak.sel [(100, 100)] [1, 4, 5] (by kernel_rfl) (by kernel_rfl) (by kernel_rfl))
 refine CodeOk.ifF hc132 (by kernel_rfl) ?_
 refine cu D_ok mix 2 101 (tl 117 [(1, .loc 100 0), (4, V.int a0.Kind), (5, V.bool (a0.Kind == 7))]) [(100, .cells 48 [V.int a0.Kind, V.int a0.Op, V.str a0.Text, V.str a0.Other, .sl false false (a0.Kids.map encI)])] (by kernel_rfl) ?_
 (revert h; refine cond_rev (fun hc133 h => ?_) (fun hc133 h => ?_))
 ·refine CodeOk.ifT hc133 (by kernel_rfl) ?_
  refine CodeOk.skip ?_
  exact hk130 (a0, (a0.Kind == 7)) h _ (Weak.sel [(100, 100)] [1, 4, 5] (by kernel_rfl) (by kernel_rfl) (by kernel_rfl))
 refine CodeOk.ifF hc133 (by kernel_rfl) ?_
 refine cu D_ok mix 2 101 (tl 117 [(1, .loc 100 0), (4, V.int a0.Kind), (5, V.bool (a0.Kind == 13))]) [(100, .cells 48 [V.int a0.Kind, V.int a0.Op, V.str a0.Text, V.str a0.Other, .sl false false (a0.Kids.map encI)])] (by kernel_rfl) ?_
 (revert h; refine cond_rev (fun hc134 h => ?_) (fun hc134 h => ?_))
 ·refine CodeOk.ifT hc134 (by kernel_rfl) ?_
  refine CodeOk.skip ?_
  exact hk130 (a0, (a0.Kind == 13)) h _ (Weak.sel [(100, 100)] [1, 4, 5] (by kernel_rfl) (by kernel_rfl) (by kernel_rfl))
 refine CodeOk.ifF hc134 (by kernel_rfl) ?_
 refine cu D_ok mix 2 101 (tl 117 [(1, .loc 100 0), (4, V.int a0.Kind), (5, V.bool (a0.Kind == 27))]) [(100, .cells 48 [V.int a0.Kind, V.int a0.Op, V.str a0.Text, V.str a0.Other, .sl false false (a0.Kids.map encI)])] (by kernel_rfl) ?_
 (revert h; refine cond_rev (fun hc135 h => ?_) (fun hc135 h => ?_))
 ·refine CodeOk.ifT hc135 (by kernel_rfl) ?_
  refine CodeOk.skip ?_
  exact hk130 (a0, (a0.Kind == 27)) h _ (Weak.sel [(100, 100)] [1, 4, 5] (by kernel_rfl) (by kernel_rfl) (by kernel_rfl))
 refine CodeOk.ifF hc135 (by kernel_rfl) ?_
 refine ce D_ok mix 2 101 (tl 117 [(1, .loc 100 0), (4, V.int a0.Kind), (5, V.bool (a0.Kind == 44))]) [(100, .cells 48 [V.int a0.Kind, V.int a0.Op, V.str a0.Text, V.str a0.Other, .sl false false (a0.Kids.map encI)])] (by kernel_rfl) (fun st hw => ?_)
 exact hk130 (a0, (a0.Kind == 44)) h _ (hw.trans (Weak.sel [(100, 100)] [1, 4, 5] (by kernel_rfl) (by kernel_rfl) (by kernel_rfl)))

theorem m_spec_FieldsOk_ok (N : Nat) (a0 : SNode) {r : Bool} (h : m_spec_FieldsOk N a0 = some r) :
    AC Tryz.prog (GS []) 70 [.agg [V.int a0.Kind, V.int a0.Op, V.str a0.Text, V.str a0.Other, .sl false false (a0.Kids.map encI)]] [] (V.bool r) [] := by
 rw [m_spec_FieldsOk] at h
 refine AC.enter Tryz.func70 rfl ?_
 refine cu D_ok mix 2 100 (tl 41 [(1, .loc 100 0)]) [(100, .cells 48 [V.int a0.Kind, V.int a0.Op, V.str a0.Text, V.str a0.Other, .sl false false (a0.Kids.map encI)])] (by kernel_rfl) ?_
 (revert h; refine bind_rev fun r2 hx2 h => ?_)
 refine CodeOk.cutR (tl 41 [(1, .loc 100 0), (3, V.int r2.1), (4, V.int r2.2)]) [(100, .cells 48 [V.int a0.Kind, V.int a0.Op, V.str a0.Text, V.str a0.Other, .sl false false (a0.Kids.map encI)])] mix (by
  refine W.run D_ok 1 101 (by kernel_rfl) ?_
  refine W.call0 (m_spec_l7Many_ok a0 hx2) cok99 rfl (by kernel_rfl) ?_
  refine W.run D_ok 5 101 (by kernel_rfl) ?_
  exact W.fi (by kernel_rfl)
  ) ?_
 (revert h; refine bind_rev fun y6 hv8 h => ?_)
 refine CodeOk.cutR (tl 41 [(1, .loc 100 0), (3, V.int r2.1), (4, V.int r2.2), (5, V.bool y6)]) [(100, .cells 48 [V.int a0.Kind, V.int a0.Op, V.str a0.Text, V.str a0.Other, .sl false false (a0.Kids.map encI)])] mix (by
  refine W.run D_ok 2 101 (by kernel_rfl) ?_
  (revert hv8; refine bind_rev fun r7 hx9 hv8 => ?_)
  refine W.call0 (m_spec_l1In_ok a0.Kind 1 16 hx9) cok51 rfl (by kernel_rfl) ?_
  refine W.run D_ok 1 101 (by kernel_rfl) ?_
  (revert hv8; refine cond_rev (fun hc10 hv8 => ?_) (fun hc10 hv8 => ?_))
  ·refine W.is 14 hc10 (by kernel_rfl) ?_
   refine W.run D_ok 10 101 (by kernel_rfl) ?_
   have hv8 := Option.some.inj hv8
   subst hv8
   exact W.fs [(100, 100)] [1, 3, 4, 5] (by kernel_rfl)
  refine W.is 14 hc10 (by kernel_rfl) ?_
  refine W.run D_ok 2 101 (by kernel_rfl) ?_
  (revert hv8; refine bind_rev fun r8 hx11 hv8 => ?_)
  refine W.call0 (m_spec_l1In_ok a0.Kind 20 34 hx11) cok51 rfl (by kernel_rfl) ?_
  refine W.run D_ok 2 101 (by kernel_rfl) ?_
  (revert hv8; refine cond_rev (fun hc12 hv8 => ?_) (fun hc12 hv8 => ?_))
  ·refine W.is 19 hc12 (by kernel_rfl) ?_
   refine W.run D_ok 5 101 (by kernel_rfl) ?_
   have hv8 := Option.some.inj hv8
   subst hv8
   exact W.fs [(100, 100)] [1, 3, 4, 5] (by kernel_rfl)
  refine W.is 19 hc12 (by kernel_rfl) ?_
  refine W.run D_ok 2 101 (by kernel_rfl) ?_
  (revert hv8; refine bind_rev fun r9 hx13 hv8 => ?_)
  refine W.call0 (m_spec_l1In_ok a0.Kind 40 45 hx13) cok51 rfl (by kernel_rfl) ?_
  refine W.run D_ok 2 101 (by kernel_rfl) ?_
  have hv8 := Option.some.inj hv8
  subst hv8
  exact W.fs [(100, 100)] [1, 3, 4, 5] (by kernel_rfl)
  ) ?_
 (revert h; refine bind_rev fun y13 hv20 h => ?_)
 refine CodeOk.cutR (tl 41 [(2, V.bool y13)]) [] mix (by
  refine W.run D_ok 2 101 (by kernel_rfl) ?_
  (revert hv20; refine cond_rev (fun hc21 hv20 => ?_) (fun hc21 hv20 => ?_))
  ·refine W.is 25 hc21 (by kernel_rfl) ?_
   refine W.run D_ok 1 101 (by kernel_rfl) ?_
   (revert hv20; refine bind_rev fun r14 hx22 hv20 => ?_)
   refine W.call0 (m_spec_l7Op_ok a0 hx22) cok100 rfl (by kernel_rfl) ?_
   refine W.run D_ok 2 101 (by kernel_rfl) ?_
   (revert hv20; refine cond_rev (fun hc23 hv20 => ?_) (fun hc23 hv20 => ?_))
   ·refine W.is 29 hc23 (by kernel_rfl) ?_
    refine W.run D_ok 1 101 (by kernel_rfl) ?_
    (revert hv20; refine bind_rev fun r15 hx24 hv20 => ?_)
    refine W.call0 (m_spec_l7Text_ok N a0 hx24) cok101 rfl (by kernel_rfl) ?_
    refine W.run D_ok 2 101 (by kernel_rfl) ?_
    (revert hv20; refine cond_rev (fun hc25 hv20 => ?_) (fun hc25 hv20 => ?_))
    ·refine W.is 33 hc25 (by kernel_rfl) ?_
     refine W.run D_ok 2 101 (by kernel_rfl) ?_
     refine W.len D_ok encI a0.Kids [] (by kernel_rfl) (by kernel_rfl) ?_
     refine W.run D_ok 2 101 (by kernel_rfl) ?_
     (revert hv20; refine bind_rev fun r16 hx26 hv20 => ?_)
     refine W.call0 (m_spec_l1In_ok (a0.Kids.length : Int) r2.1 r2.2 hx26) cok51 rfl (by kernel_rfl) ?_
     refine W.run D_ok 2 101 (by kernel_rfl) ?_
     have hv20 := Option.some.inj hv20
     subst hv20
     exact W.fs [] [2] (by kernel_rfl)
    refine W.is 33 hc25 (by kernel_rfl) ?_
    refine W.run D_ok 8 101 (by kernel_rfl) ?_
    have hv20 := Option.some.inj hv20
    subst hv20
    exact W.fs [] [2] (by kernel_rfl)
   refine W.is 29 hc23 (by kernel_rfl) ?_
   refine W.run D_ok 12 101 (by kernel_rfl) ?_
   have hv20 := Option.some.inj hv20
   subst hv20
   exact W.fs [] [2] (by kernel_rfl)
  refine W.is 25 hc21 (by kernel_rfl) ?_
  refine W.run D_ok 16 101 (by kernel_rfl) ?_
  have hv20 := Option.some.inj hv20
  subst hv20
  exact W.fs [] [2] (by kernel_rfl)
  ) ?_
 refine CodeOk.ret ?_
 have h := Option.some.inj h
 subst h
 exact Ends.gen [] (.inr rfl) (RetV.one rfl (OneR.tmp (t := 2) (r := V.bool y13) (by kernel_rfl))) (by kernel_rfl) (by kernel_rfl) (by kernel_rfl)

theorem m_spec_IsLvalue_ok (a0 : Int) {r : Bool} (h : m_spec_IsLvalue a0 = some r) :
    AC Tryz.prog (GS []) 102 [V.int a0] [] (V.bool r) [] := by
 rw [m_spec_IsLvalue] at h
 refine AC.enter Tryz.func102 rfl ?_
 refine cu D_ok mix 1 100 (tl 13 [(0, V.int a0)]) [] (by kernel_rfl) ?_
 (revert h; refine bind_rev fun y1 hv3 h => ?_)
 refine CodeOk.cutR (tl 13 [(2, V.bool y1)]) [] mix (by
  refine W.run D_ok 3 100 (by kernel_rfl) ?_
  (revert hv3; refine cond_rev (fun hc4 hv3 => ?_) (fun hc4 hv3 => ?_))
  ·refine W.is 5 hc4 (by kernel_rfl) ?_
   refine W.run D_ok 8 100 (by kernel_rfl) ?_
   have hv3 := Option.some.inj hv3
   subst hv3
   exact W.fs [] [2] (by kernel_rfl)
  refine W.is 5 hc4 (by kernel_rfl) ?_
  refine W.run D_ok 4 100 (by kernel_rfl) ?_
  (revert hv3; refine cond_rev (fun hc5 hv3 => ?_) (fun hc5 hv3 => ?_))
  ·refine W.is 9 hc5 (by kernel_rfl) ?_
   refine W.run D_ok 4 100 (by kernel_rfl) ?_
   have hv3 := Option.some.inj hv3
   subst hv3
   exact W.fs [] [2] (by kernel_rfl)
  refine W.is 9 hc5 (by kernel_rfl) ?_
  refine W.run D_ok 4 100 (by kernel_rfl) ?_
  have hv3 := Option.some.inj hv3
  subst hv3
  exact W.fs [] [2] (by kernel_rfl)
  ) ?_
 refine CodeOk.ret ?_
 have h := Option.some.inj h
 subst h
 exact Ends.gen [] (.inr rfl) (RetV.one rfl (OneR.tmp (t := 2) (r := V.bool y1) (by kernel_rfl))) (by kernel_rfl) (by kernel_rfl) (by kernel_rfl)

theorem m_spec_IsExpr_ok (a0 : Int) {r : Bool} (h : m_spec_IsExpr a0 = some r) :
    AC Tryz.prog (GS []) 81 [V.int a0] [] (V.bool r) [] := by
 rw [m_spec_IsExpr] at h
 refine AC.enter Tryz.func81 rfl ?_
 refine cu D_ok mix 1 100 (tl 5 [(0, V.int a0)]) [] (by kernel_rfl) ?_
 (revert h; refine bind_rev fun r2 hx2 h => ?_)
 refine CodeOk.cutR (tl 5 [(2, V.bool r2)]) [] mix (by
  refine W.run D_ok 1 100 (by kernel_rfl) ?_
  refine W.call0 (m_spec_l1In_ok a0 1 15 hx2) cok51 rfl (by kernel_rfl) ?_
  refine W.run D_ok 1 100 (by kernel_rfl) ?_
  exact W.fi (by kernel_rfl)
  ) ?_
 refine CodeOk.ret ?_
 have h := Option.some.inj h
 subst h
 exact Ends.gen [] (.inr rfl) (RetV.one rfl (OneR.tmp (t := 2) (r := V.bool r2) (by kernel_rfl))) (by kernel_rfl) (by kernel_rfl) (by kernel_rfl)

theorem m_spec_IsStmt_ok (a0 : Int) {r : Bool} (h : m_spec_IsStmt a0 = some r) :
    AC Tryz.prog (GS []) 103 [V.int a0] [] (V.bool r) [] := by
 rw [m_spec_IsStmt] at h
 refine AC.enter Tryz.func103 rfl ?_
 refine cu D_ok mix 1 100 (tl 5 [(0, V.int a0)]) [] (by kernel_rfl) ?_
 (revert h; refine bind_rev fun r2 hx2 h => ?_)
 refine CodeOk.cutR (tl 5 [(2, V.bool r2)]) [] mix (by
  refine W.run D_ok 1 100 (by kernel_rfl) ?_
  refine W.call0 (m_spec_l1In_ok a0 20 34 hx2) cok51 rfl (by kernel_rfl) ?_
  refine W.run D_ok 1 100 (by kernel_rfl) ?_
  exact W.fi (by kernel_rfl)
  ) ?_
 refine CodeOk.ret ?_
 have h := Option.some.inj h
 subst h
 exact Ends.gen [] (.inr rfl) (RetV.one rfl (OneR.tmp (t := 2) (r := V.bool r2) (by kernel_rfl))) (by kernel_rfl) (by kernel_rfl) (by kernel_rfl)

end Go.Proofs.Tryz
