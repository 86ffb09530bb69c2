/-
  Vars: for all arguments the law returns true: the program's function returns what the reference's returns.
  No condition.
-/
import Derived.Test.YtllanibkffnogaaRows
import Derived.WalkKit
import Derived.ProofKit
import Derived.OpenShut
import Derived.Test.YtllanibkffnogaaW1
import Derived.Test.YtllanibkffnogaaP1
import Derived.Test.YtllanibkffnogaaCore6
namespace Go.Proofs.Ytllanibkffnogaa.fnVars
open Go.ChangeShapes Go.WideShapes Go.ChangeAt Go.RowKit Go.Av Go.Proofs.Try
set_option linter.unusedVariables false
set_option linter.unusedSimpArgs false
set_option maxRecDepth 100000

theorem own : ownKnob Try.prog.godebug = none := by kernel_rfl

theorem and255 (a : Int) : 0 ≤ bits .and .i64 a 255 ∧ bits .and .i64 a 255 ≤ 255 := by
  have e : (BitVec.ofInt 64 a &&& BitVec.ofInt 64 255).toNat ≤ 255 := by
    rw [BitVec.toNat_and]
    exact Nat.and_le_right
  have h : bits .and .i64 a 255 = (((BitVec.ofInt 64 a &&& BitVec.ofInt 64 255).toNat : Nat) : Int) := by
    show IntKind.wrap .i64 (((BitVec.ofInt 64 a &&& BitVec.ofInt 64 255).toNat : Nat) : Int) = _
    rw [wrap64 (by omega) (by omega)]
  rw [h]; omega

/-! ### the cursor -/
theorem new_l (N : Nat) (a : List UInt8) (ha : a.length ≤ maxLen) : ∀ (n i : Nat) (y : Int), a.length - i < n → i ≤ a.length → ∃ h, m_spec_l1New_l1 N n (a, y, (i : Int)) = some (a, 0, h) := by
  intro n
  induction n with
  | zero => intro i y h; omega
  | succ n ih =>
    intro i y hn hi
    rw [m_spec_l1New_l1]
    by_cases h : i < a.length
    · simp only [lt_true h, cond_true, Option.bind_some]
      by_cases h2 : (i : Int) < 4000
      · have e : decide ((i : Int) < 4000) = true := by simpa using h2
        simp only [e, cond_true, ix_nat h, Option.bind_some, step64 h ha]
        exact ih (i + 1) _ (by omega) (by omega)
      · have e : decide ((i : Int) < 4000) = false := by simpa using h2
        simp only [e, cond_false]
        exact ⟨y, rfl⟩
    · simp only [lt_false h, cond_false, Option.bind_some]
      exact ⟨y, rfl⟩

theorem byte_ex (b : List UInt8) (hb : b.length ≤ maxLen) (i h : Int) (hi : 0 ≤ i) : ∃ x i' h', m_spec_l1Byte b i h = some (x, i', h') ∧ 0 ≤ x ∧ x ≤ 255 ∧ 0 ≤ i' := by
  obtain ⟨j, rfl⟩ := Int.eq_ofNat_of_zero_le hi
  unfold m_spec_l1Byte
  by_cases hj : j < b.length
  · simp only [lt_true hj, cond_true, ix_nat hj, Option.bind_some, m_spec_l1Byte_k1, step64 hj hb]
    exact ⟨_, _, _, rfl, (and255 _).1, (and255 _).2, by omega⟩
  · simp only [lt_false hj, cond_false, m_spec_l1Byte_k1]
    exact ⟨_, _, _, rfl, (and255 _).1, (and255 _).2, by omega⟩

theorem below_ex (b : List UInt8) (hb : b.length ≤ maxLen) (n i h : Int) (hi : 0 ≤ i) (h0 : 0 < n) (h1 : n ≤ 256) : ∃ x i' h', m_spec_l1Below n b i h = some (x, i', h') ∧ 0 ≤ x ∧ x < n ∧ 0 ≤ i' := by
  obtain ⟨x, i', h', e, h2, h3, h4⟩ := byte_ex b hb i h hi
  have e1 : decide (n ≤ 0) = false := by simp; omega
  have e2 : decide (n ≤ 256) = true := by simpa using h1
  have e3 : (n == 0) = false := by simp; omega
  unfold m_spec_l1Below remO
  rw [e1, e2, cond_false, cond_true, e, Option.bind_some, e3, cond_false, Option.bind_some]
  refine ⟨_, _, _, rfl, Int.tmod_nonneg _ h2, ?_, h4⟩
  exact Int.tmod_lt_of_pos _ h0

theorem pick_ex (l : List (List UInt8)) (b : List UInt8) (hb : b.length ≤ maxLen) (i h : Int) (hi : 0 ≤ i) (h0 : 0 < l.length) (h1 : l.length ≤ 256) : ∃ x i' h', m_spec_l1Pick l b i h = some (x, i', h') ∧ x ∈ l ∧ 0 ≤ i' := by
  obtain ⟨x, i', h', e, h2, h3, h4⟩ := below_ex b hb (l.length : Int) i h hi (by omega) (by omega)
  obtain ⟨j, rfl⟩ := Int.eq_ofNat_of_zero_le h2
  unfold m_spec_l1Pick
  rw [e, Option.bind_some, ix_nat (by omega : j < l.length)]
  exact ⟨_, _, _, rfl, List.getElem_mem _, h4⟩

theorem pickInt_ex (l : List Int) (b : List UInt8) (hb : b.length ≤ maxLen) (i h : Int) (hi : 0 ≤ i) (h0 : 0 < l.length) (h1 : l.length ≤ 256) : ∃ x i' h', m_spec_l1PickInt l b i h = some (x, i', h') ∧ 0 ≤ i' := by
  obtain ⟨x, i', h', e, h2, h3, h4⟩ := below_ex b hb (l.length : Int) i h hi (by omega) (by omega)
  obtain ⟨j, rfl⟩ := Int.eq_ofNat_of_zero_le h2
  unfold m_spec_l1PickInt
  rw [e, Option.bind_some, ix_nat (by omega : j < l.length)]
  exact ⟨_, _, _, rfl, h4⟩

theorem env_l (N : Nat) (b : List UInt8) (hb : b.length ≤ maxLen) : ∀ (n k : Nat) (i h : Int) (l : List SBind), k < n → 0 ≤ i → k + l.length ≤ 1000 → ∃ l' i' h', m_spec_l27Env_l1 N b n ((k : Int), i, h, l) = some (l', i', h') ∧ l'.length ≤ k + l.length ∧ 0 ≤ i' := by
  intro n
  induction n with
  | zero => intro k i h l hk; omega
  | succ n ih =>
    intro k i h l hk hi hl
    rw [m_spec_l27Env_l1]
    by_cases h0 : k = 0
    · subst h0
      have e : decide (((0 : Nat) : Int) > 0) = false := by decide
      rw [e, cond_false]
      exact ⟨_, _, _, rfl, by omega, hi⟩
    · have e : decide ((k : Int) > 0) = true := by simp; omega
      obtain ⟨x1, i1, h1, p1, _, q1⟩ := pick_ex [[120], [121], [110]] b hb i h hi (by decide) (by decide)
      obtain ⟨x2, i2, h2, p2, _, _, q2⟩ := below_ex b hb 100 i1 h1 q1 (by decide) (by decide)
      obtain ⟨x3, i3, h3, p3, q3⟩ := pickInt_ex [0, 1, (-1), 5, 1000000000, 1000000001, x2] b hb i2 h2 q2 (by simp) (by simp)
      rw [e, cond_true, p1, Option.bind_some]
      simp only [p2, Option.bind_some, p3]
      rw [app_some (by simp; omega), Option.bind_some, wrap64 (by omega) (by omega), show (k : Int) - 1 = ((k - 1 : Nat) : Int) by omega]
      obtain ⟨l', i', h', r1, r2, r3⟩ := ih (k - 1) i3 h3 (l ++ [⟨x1, x3⟩]) (by omega) q3 (by simp; omega)
      exact ⟨l', i', h', r1, by simp at r2; omega, r3⟩

theorem draw_l (N : Nat) (b : List UInt8) (z : Int × Int) (hN : 2000 < N) (hb : b.length ≤ maxLen) : ∀ (n k : Nat) (i h : Int) (l : List SBind), k < n → 0 ≤ i → k + l.length ≤ 1000 →
    ∃ l' nm v, m_spec_DrawSetVar_l1 N n ((b, z), (k : Int), i, h, l) = some (l', nm, v) ∧ l'.length ≤ 2000 := by
  intro n
  induction n with
  | zero => intro k i h l hk; omega
  | succ n ih =>
    intro k i h l hk hi hl
    rw [m_spec_DrawSetVar_l1]
    by_cases h0 : k = 0
    · subst h0
      have e : decide (((0 : Nat) : Int) > 0) = false := by decide
      have fin : ∀ (i h : Int) (l : List SBind), 0 ≤ i → l.length ≤ 2000 → ∃ l' nm v, m_spec_DrawSetVar_k2 N (m_spec_DrawSetVar_l1 N n) ((b, z), i, h, l) = some (l', nm, v) ∧ l'.length ≤ 2000 := fun i h l hi hl => by
        obtain ⟨x1, i1, h1, p1, _, q1⟩ := pick_ex [[97], [107], [120], [122]] b hb i h hi (by decide) (by decide)
        obtain ⟨x2, i2, h2, p2, _, _, q2⟩ := below_ex b hb 99 i1 h1 q1 (by decide) (by decide)
        unfold m_spec_DrawSetVar_k2
        simp only [p1, p2, Option.bind_some]
        exact ⟨_, _, _, rfl, hl⟩
      obtain ⟨x1, i1, h1, p1, _, _, q1⟩ := below_ex b hb 6 i h hi (by decide) (by decide)
      rw [e, cond_false]
      unfold m_spec_l1Once
      simp only [p1, Option.bind_some]
      cases hx : (x1 == 0) with
      | true =>
        obtain ⟨x2, i2, h2, p2, u0, u1, q2⟩ := below_ex b hb 4 i1 h1 q1 (by decide) (by decide)
        obtain ⟨k2, rfl⟩ := Int.eq_ofNat_of_zero_le u0
        obtain ⟨l', i', h', r1, r2, r3⟩ := env_l N b hb N k2 i2 h2 [] (by omega) q2 (by simp; omega)
        simp only [cond_true]
        unfold m_spec_l27Env
        simp only [p2, Option.bind_some]
        simp only [r1, Option.bind_some]
        exact fin _ _ _ r3 (by simp at r2; omega)
      | false =>
        simp only [cond_false]
        exact fin _ _ _ q1 (by omega)
    · have e : decide ((k : Int) > 0) = true := by simp; omega
      obtain ⟨x1, i1, h1, p1, _, q1⟩ := pick_ex [[97], [109], [120]] b hb i h hi (by decide) (by decide)
      obtain ⟨x2, i2, h2, p2, _, _, q2⟩ := below_ex b hb 9 i1 h1 q1 (by decide) (by decide)
      have hd := del_len x1 l
      rw [e, cond_true]
      simp only [p1, p2, Option.bind_some, spec_is N l x1 x2 (by omega) (by omega)]
      rw [wrap64 (by omega) (by omega), show (k : Int) - 1 = ((k - 1 : Nat) : Int) by omega]
      exact ih (k - 1) i2 h2 (putV x1 ⟨x1, x2⟩ (del x1 l)) (by omega) q2 (by rw [putV_len]; omega)

theorem draw_ex (N : Nat) (a : List UInt8) (hN : 2000 < N) (hN2 : a.length < N) (ha : a.length ≤ maxLen) : ∃ l nm v, m_spec_DrawSetVar N a = some (l, nm, v) ∧ l.length ≤ 2000 := by
  obtain ⟨h, h1⟩ := new_l N a ha N 0 (IntKind.wrap .i64 (10101 + (a.length : Int))) (by omega) (by omega)
  have h1' : m_spec_l1New N a = some (a, 0, h) := h1
  obtain ⟨x, i', h', p, u0, u1, q⟩ := below_ex a ha 4 0 h (by decide) (by decide) (by decide)
  obtain ⟨k, rfl⟩ := Int.eq_ofNat_of_zero_le u0
  unfold m_spec_DrawSetVar
  simp only [h1', Option.bind_some, p]
  exact draw_l N a (0, h) hN ha N k i' h' [] (by omega) q (by simp; omega)

/-! ### what is had -/
def val (nm : List UInt8) : List SBind → Int
  | [] => 0
  | b :: l => if isV nm b then b.Val else val nm l

theorem val_skip {nm : List UInt8} {x : SBind} (hx : isV nm x = false) : ∀ A B : List SBind, val nm (A ++ [x] ++ B) = val nm (A ++ B)
  | [], B => by
    show (if isV nm x then x.Val else val nm B) = val nm B
    rw [hx]; rfl
  | a :: A, B => by
    have := val_skip hx A B
    show (if isV nm a then a.Val else val nm (A ++ [x] ++ B)) = (if isV nm a then a.Val else val nm (A ++ B))
    rw [this]

theorem val_hit {nm : List UInt8} {x : SBind} (hx : isV nm x = true) : ∀ A B : List SBind, (∀ b, b ∈ A → isV nm b = false) → val nm (A ++ [x] ++ B) = x.Val
  | [], B, _ => by
    show (if isV nm x then x.Val else val nm B) = x.Val
    rw [hx]; rfl
  | a :: A, B, h => by
    have := val_hit hx A B fun b hb => h b (by simp [hb])
    show (if isV nm a then a.Val else val nm (A ++ [x] ++ B)) = x.Val
    rw [h a (by simp), this]; rfl

theorem val_del {nm nm' : List UInt8} (hne : nm' ≠ nm) : ∀ l : List SBind, val nm' (del nm l) = val nm' l
  | [] => rfl
  | b :: l => by
    have ih := val_del hne l
    unfold del at ih ⊢
    rw [List.filter_cons]
    cases hb : isV nm b with
    | true =>
      have h1 : b.Name = nm := by simpa [isV] using hb
      have h2 : isV nm' b = false := by
        unfold isV; rw [h1]; simpa using fun h => hne h.symm
      have h3 : val nm' (b :: l) = val nm' l := by
        show (if isV nm' b then b.Val else val nm' l) = _
        rw [h2]; rfl
      rw [h3]; exact ih
    | false =>
      show (if isV nm' b then b.Val else val nm' (l.filter fun b => !isV nm b)) = (if isV nm' b then b.Val else val nm' l)
      rw [ih]

theorem del_no {nm : List UInt8} {l : List SBind} {b : SBind} (h : b ∈ del nm l) : isV nm b = false := by
  have := (List.mem_filter.1 h).2
  simpa using this

theorem val_put_ne {nm nm' : List UInt8} (v : Int) (hne : nm' ≠ nm) (l : List SBind) : val nm' (putV nm ⟨nm, v⟩ (del nm l)) = val nm' l := by
  have hx : isV nm' ⟨nm, v⟩ = false := by
    unfold isV; simpa using fun h => hne h.symm
  unfold putV
  rw [val_skip hx, List.take_append_drop, val_del hne]

theorem val_put (nm : List UInt8) (v : Int) (l : List SBind) : val nm (putV nm ⟨nm, v⟩ (del nm l)) = v := by
  have hx : isV nm ⟨nm, v⟩ = true := by unfold isV; simp
  unfold putV
  exact val_hit hx _ _ fun b hb => del_no (List.mem_of_mem_take hb)

theorem del_put (nm : List UInt8) (v : Int) (l : List SBind) : del nm (putV nm ⟨nm, v⟩ (del nm l)) = del nm l := by
  have hx : isV nm ⟨nm, v⟩ = true := by unfold isV; simp
  have hall : ∀ m : List SBind, (∀ b, b ∈ m → isV nm b = false) → del nm m = m := fun m hm => by
    unfold del
    exact List.filter_eq_self.2 fun b hb => by rw [hm b hb]; rfl
  have h1 : del nm (putV nm ⟨nm, v⟩ (del nm l)) = del nm ((del nm l).take (fidx (gtV nm) (del nm l))) ++ del nm ((del nm l).drop (fidx (gtV nm) (del nm l))) := by
    unfold putV
    unfold del
    rw [List.filter_append, List.filter_append]
    simp [hx]
  rw [h1, hall _ fun b hb => del_no (List.mem_of_mem_take hb), hall _ fun b hb => del_no (List.mem_of_mem_drop hb), List.take_append_drop]

theorem varOf_l (N : Nat) (l : List SBind) (nm : List UInt8) (hl : l.length ≤ maxLen) : ∀ (n i : Nat), l.length - i < n → i ≤ l.length → m_impl_VarOf_l1 N n (nm, l, (i : Int)) = some (val nm (l.drop i)) := by
  intro n
  induction n with
  | zero => intro i h; omega
  | succ n ih =>
    intro i hn hi
    rw [m_impl_VarOf_l1]
    by_cases h : i < l.length
    · rw [drop_cons h, val]
      simp only [lt_true h, cond_true, ix_nat h, Option.bind_some, step64 h hl]
      cases hb : isV nm l[i] with
      | true =>
        have hb' : (l[i].Name == nm) = true := hb
        rw [hb', cond_true, if_pos rfl]
      | false =>
        have hb' : (l[i].Name == nm) = false := hb
        rw [hb', cond_false, if_neg (by decide)]
        exact ih (i + 1) (by omega) (by omega)
    · simp only [lt_false h, cond_false]
      rw [drop_nil h]; rfl

theorem varOf_is (N : Nat) (l : List SBind) (nm : List UInt8) (hN : l.length < N) (hl : l.length ≤ maxLen) : m_impl_VarOf N l nm = some (val nm l) :=
  varOf_l N l nm hl N 0 (by omega) (by omega)

theorem varOfS_l (N : Nat) (l : List SBind) (nm : List UInt8) (hl : l.length ≤ maxLen) : ∀ (n i : Nat), l.length - i < n → i ≤ l.length → m_spec_VarOf_l1 N n (l, nm, (i : Int)) = some (val nm (l.drop i)) := by
  intro n
  induction n with
  | zero => intro i h; omega
  | succ n ih =>
    intro i hn hi
    rw [m_spec_VarOf_l1]
    by_cases h : i < l.length
    · rw [drop_cons h, val]
      simp only [lt_true h, cond_true, ix_nat h, Option.bind_some, step64 h hl]
      cases hb : isV nm l[i] with
      | true =>
        have hb' : (l[i].Name == nm) = true := hb
        rw [hb', cond_true, if_pos rfl]
      | false =>
        have hb' : (l[i].Name == nm) = false := hb
        rw [hb', cond_false, if_neg (by decide)]
        exact ih (i + 1) (by omega) (by omega)
    · simp only [lt_false h, cond_false]
      rw [drop_nil h]; rfl

theorem varOfS_is (N : Nat) (l : List SBind) (nm : List UInt8) (hN : l.length < N) (hl : l.length ≤ maxLen) : m_spec_VarOf N l nm = some (val nm l) :=
  varOfS_l N l nm hl N 0 (by omega) (by omega)

def sevenN : List (List UInt8) := [[97], [107], [109], [110], [120], [121], [122]]

theorem vars_l (N : Nat) (l : List SBind) (nm : List UInt8) (v : Int) (hN : 4000 < N) (hl : l.length ≤ 2000) : ∀ (n i : Nat), 7 - i < n → i ≤ 7 →
    m_laws_FnVars_l1 N n ((l, nm, v), putV nm ⟨nm, v⟩ (del nm l), (i : Int)) = some true := by
  have hd := del_len nm l
  have hp := putV_len nm ⟨nm, v⟩ (del nm l)
  have hm : (2002 : Nat) ≤ maxLen := by decide
  intro n
  induction n with
  | zero => intro i h; omega
  | succ n ih =>
    intro i hn hi
    rw [m_laws_FnVars_l1]
    by_cases h : i < 7
    · have e : decide ((i : Int) < 7) = true := by simp; omega
      have hx : ∃ nm', ix sevenN (i : Int) = some nm' := ⟨_, ix_nat (l := sevenN) (by show i < 7; exact h)⟩
      obtain ⟨nm', hx⟩ := hx
      have hx' : ix ([[97], [107], [109], [110], [120], [121], [122]] : List (List UInt8)) (i : Int) = some nm' := hx
      have hst : IntKind.wrap .i64 ((i : Int) + 1) = ((i + 1 : Nat) : Int) := by rw [wrap64 (by omega) (by omega)]; omega
      simp only [e, cond_true, hx', Option.bind_some, hst]
      cases hq : (nm' == nm) with
      | true =>
        simp only [Bool.not_true, cond_false, Option.bind_some]
        exact ih (i + 1) (by omega) (by omega)
      | false =>
        have hne : nm' ≠ nm := by simpa using hq
        simp only [Bool.not_false, cond_true, varOf_is N (putV nm ⟨nm, v⟩ (del nm l)) nm' (by omega) (by omega), varOfS_is N l nm' (by omega) (by omega), Option.bind_some, val_put_ne v hne, bne_self_eq_false, cond_false]
        exact ih (i + 1) (by omega) (by omega)
    · have e : decide ((i : Int) < 7) = false := by simp; omega
      have e1 := impl_is N (putV nm ⟨nm, v⟩ (del nm l)) nm v (by omega) (by omega)
      have e2 : decide (((putV nm ⟨nm, v⟩ (del nm l)).length : Int) ≤ (l.length : Int) + 1) = true := by simp; omega
      rw [del_put] at e1
      simp only [e, cond_false, e1, Option.bind_some, varOf_is N (putV nm ⟨nm, v⟩ (del nm l)) nm (by omega) (by omega), val_put, beq_self_eq_true, cond_true]
      rw [wrap64 (by omega) (by omega), e2]
      rfl

theorem plain (x : List UInt8) (k : (∀ z, z ∈ x → True) ∧ x.length ≤ maxLen) : ∃ N, m_laws_FnVars N x = some true := by
  obtain ⟨N, hN⟩ : ∃ N, N = x.length + 5000 := ⟨_, rfl⟩
  refine ⟨N, ?_⟩
  obtain ⟨l, nm, v, h1, h2⟩ := draw_ex N x (by omega) (by omega) k.2
  have e1 := impl_is N l nm v (by omega) (by omega)
  unfold m_laws_FnVars m_laws_big
  rw [Option.bind_some]
  cases hb : decide ((x.length : Int) > 1048576) with
  | true => rfl
  | false =>
    simp only [cond_false, h1, Option.bind_some, e1]
    exact vars_l N l nm v (by omega) h2 N 0 (by omega) (by omega)



theorem kids : Kids Try.prog (· < Try.prog.types.size) := kids_rows (by kernel_rfl) (by kernel_rfl)
theorem full : ∀ t e, t < Try.prog.types.size → Try.prog.underlying t = some (.slice e) → 0 < Try.prog.cellsOf e := slices_full_of Try.prog (by kernel_rfl)

theorem lifted (os : Os) (started : os.Started) (H : Type) (enc : TypeId × Value → H) :
    ReturnsInHanded {} Try.checked os 3 .any (Rows.fnVarsSpec.pre6 enc Try.prog Try.f3 Rows.fnVarsRow.domain false) (Rows.fnVarsSpec.post enc Try.prog Try.f3 false true false false) := by
  refine returnsInHanded_of_change (C := Try.checked) own started (by kernel_rfl) Try.func3
    (ChangeSpec.witness6 (enc := enc) (C := Try.checked) false ⟨#[], #[.slice none 0 0], []⟩ 8 (by kernel_rfl) (by kernel_rfl) (by kernel_rfl) (by kernel_rfl)) ?_
  intro W base args ds gs before hval0 hW hcnd _
  have hval : ∀ (j : Nat) t v, Try.f3.params[j]? = some t → args[j]? = some v → Value.okWide Try.prog W .any base t v := hval0
  have hW' := hW
  obtain ⟨p, q, hA0, hV, rfl, hfz, hnd⟩ := hW
  have hA : DataW.TrodAll enc Try.prog W 0 (fun _ => true) true Try.f3.params.toList args.toList ds p := hA0
  rw [Try.params3] at hA hval
  have hA1 := hA
  obtain ⟨v0, vs0, d0, ds0, p0, q0, hargs, rfl, rfl, h0, r0⟩ := trodAll_cons hA
  obtain ⟨rfl, rfl, rfl⟩ := trodAll_nil r0
  obtain rfl : args = #[v0] := by cases args; simp_all
  have hA2 : DataW.TrodAll enc Try.prog W 0 (fun _ => true) true [22] [v0] [d0] (p0 ++ []) := hA1
  obtain ⟨rfl, rfl⟩ := trodVars_none hV
  obtain ⟨fu0, hf0⟩ := h0
  obtain ⟨a0, k0, c0⟩ := (Reader.slice Try.underlying22 (Reader.u8 Try.underlying5) 1 (by kernel_rfl) (by decide) (fun _ => rfl)) enc W fu0 _ _ hf0
  obtain ⟨s0, l0, m0, rfl⟩ := okWide_slice Try.underlying22 (hval 0 22 v0 rfl rfl)
  have hlt : ∀ b, blocksOf (p0 ++ []) b → b < W.heap.size := by
    rintro b ⟨m, hm, rfl⟩
    exact DataW.TrodAll.lt hA1 m (by simpa using hm)
  obtain ⟨N, hN⟩ := plain a0 k0
  refine (AC.below (m_laws_FnVars_ok N a0 hN) (blocksOf (p0 ++ [])) hlt rfl fun i x hx => ?_).mono ?_
  · match i with
    | 0 =>
      simp only [List.getElem?_cons_succ, List.getElem?_cons_zero, Option.some.injEq] at hx
      subst hx
      exact argOne rfl (c0 _ fun p hp => ⟨p, by simp [hp], rfl⟩)
    | i + 1 => simp at hx
  · rintro e W' ⟨x, S', rfl, hx, hb⟩
    have hxt := hx.c_inv
    subst hxt
    exact ⟨_, rfl, Av.post_of_below (pa := (p0 ++ [])) (pv := []) hW' (fun _ _ _ => (trodAll_cons_mk (shut_bool Try.underlying4 _) trodAll_mk0))
      (fun sp hsp => args_kept kids full hb (by decide +kernel) hA2 (fun m hm => hsp m (by simpa using hm))) (fun _ _ => rfl) (by simp) hb (ok_one (by kernel_rfl) rfl (okWide_bool_mk Try.underlying4 _))⟩

theorem over : Rows.fnVarsRow.holds Try.pinned (OpenSpec.ofChange Rows.fnVarsSpec) :=
  OpenClaim.holds_of_wide 3 Try.f3 rfl rfl rfl rfl rfl rfl rfl ⟨rfl, rfl, rfl, rfl, rfl⟩ rfl rfl rfl rfl rfl (by kernel_rfl) Try.func3 (by kernel_rfl)
    (of_decide_eq_true (by kernel_rfl)) (by unfold Func.isWrapper; first | (rw [if_pos (by decide +kernel)]; kernel_rfl) | (rw [if_neg (by decide +kernel)]; exact ⟨rfl, rfl⟩))
    (fun os started H enc _ => lifted os started H enc)

/-- the statement -/
theorem proved : Rows.FnVarsSaid :=
  over
#print axioms proved
end Go.Proofs.Ytllanibkffnogaa.fnVars
