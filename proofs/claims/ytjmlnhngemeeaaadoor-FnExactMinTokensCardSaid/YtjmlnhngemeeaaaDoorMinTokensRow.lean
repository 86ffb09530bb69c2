/-
  ExactMinTokens: for all arguments the law returns true: the program's function returns what the reference's returns.
  The tables that the row lists are tied to the program's text.
-/
import Derived.Test.YtjmlnhngemeeaaaDoorRows
import Derived.Test.YtjmlnhngemeeaaaDoorCards
import Derived.Test.YtjmlnhngemeeaaaDoorTie
import Derived.WalkKit
import Derived.ProofKit
import Derived.OpenShut
import Derived.Lay
import Derived.MakeChecks
import Derived.SevenTiedAt
import Derived.Test.YtjmlnhngemeeaaaDoorW3
import Derived.Test.YtjmlnhngemeeaaaDoorP1
import Derived.Test.YtjmlnhngemeeaaaDoorCore39
namespace Go.Proofs.YtjmlnhngemeeaaaDoor.fnExactMinTokens
open Go.ChangeShapes Go.WideShapes Go.ChangeAt Go.RowKit Go.Av Go.Proofs.Tryd
set_option linter.unusedVariables false
set_option maxRecDepth 100000

theorem own : ownKnob Tryd.prog.godebug = none := by kernel_rfl
theorem laidOut : laidOutB Tryd.prog = true := by kernel_rfl

/-- what is known of it -/
def ok44 (x : SToken) : Prop := ((Lit.int .i64 x.Kind).wf = true) ∧ (x.Text.length ≤ maxLen) ∧ ((Lit.int .i64 x.At).wf = true)

theorem read44 : Reader Tryd.prog 44 (encSToken) ok44 := by
  intro H e w fuel cs x h
  obtain ⟨xs, n, rfl, rfl, hl, hxl, hf⟩ := DataW.trod_struct Tryd.underlying44 h
  have hl : cs.length = 3 := hl.trans (by kernel_rfl)
  have hxl : xs.length = 3 := hxl
  obtain ⟨y0, e0⟩ : ∃ y, xs[0]? = some y := ⟨_, List.getElem?_eq_getElem (by omega)⟩
  have h0 : DataW.trod e Tryd.prog w 0 (fun _ => true) true n 3 ((cs.drop 0).take (Tryd.prog.cellsOf 3)) = some y0 := (hf 0 _ rfl).trans e0
  have c0 : Tryd.prog.cellsOf 3 = 1 := by kernel_rfl
  rw [c0] at h0
  obtain ⟨a0, k0, r0⟩ := (Reader.i64 Tryd.underlying3) e w n _ _ h0
  obtain ⟨y1, e1⟩ : ∃ y, xs[1]? = some y := ⟨_, List.getElem?_eq_getElem (by omega)⟩
  have h1 : DataW.trod e Tryd.prog w 0 (fun _ => true) true n 9 ((cs.drop 1).take (Tryd.prog.cellsOf 9)) = some y1 := (hf 1 _ rfl).trans e1
  have c1 : Tryd.prog.cellsOf 9 = 1 := by kernel_rfl
  rw [c1] at h1
  obtain ⟨a1, k1, r1⟩ := (Reader.str Tryd.underlying9) e w n _ _ h1
  obtain ⟨y2, e2⟩ : ∃ y, xs[2]? = some y := ⟨_, List.getElem?_eq_getElem (by omega)⟩
  have h2 : DataW.trod e Tryd.prog w 0 (fun _ => true) true n 3 ((cs.drop 2).take (Tryd.prog.cellsOf 3)) = some y2 := (hf 2 _ rfl).trans e2
  have c2 : Tryd.prog.cellsOf 3 = 1 := by kernel_rfl
  rw [c2] at h2
  obtain ⟨a2, k2, r2⟩ := (Reader.i64 Tryd.underlying3) e w n _ _ h2
  refine ⟨⟨a0, a1, a2⟩, ⟨k0, k1, k2⟩, fun S hS => ?_⟩
  have hcs : cs = (cs.drop 0).take 1 ++ ((cs.drop 1).take 1 ++ ((cs.drop 2).take 1 ++ [])) := by
    match cs, hl with
    | [x0, x1, x2], _ => rfl
  rw [hcs]
  exact CellsR.append (r0 S fun p hp => hS p (List.mem_flatMap.2 ⟨y0, List.mem_of_getElem? e0, hp⟩)) (CellsR.append (r1 S fun p hp => hS p (List.mem_flatMap.2 ⟨y1, List.mem_of_getElem? e1, hp⟩)) (CellsR.append (r2 S fun p hp => hS p (List.mem_flatMap.2 ⟨y2, List.mem_of_getElem? e2, hp⟩)) (CellsR.nil)))

theorem beq0_f {n : Nat} (h : 0 < n) : ((n : Int) == 0) = false := by
  cases hb : ((n : Int) == 0) with
  | false => rfl
  | true => have := eq_of_beq hb; omega
theorem beq0_t {n : Nat} (h : ¬ 0 < n) : ((n : Int) == 0) = true := by
  have : n = 0 := by omega
  subst this; rfl
theorem nbeq0_f {n : Nat} (h : 0 < n) : (n == 0) = false := by
  cases hb : (n == 0) with
  | false => rfl
  | true => have := eq_of_beq hb; omega
theorem nbeq0_t {n : Nat} (h : ¬ 0 < n) : (n == 0) = true := by
  have : n = 0 := by omega
  subst this; rfl
theorem gt0_t {n : Nat} (h : 0 < n) : decide ((n : Int) > 0) = true := decide_eq_true (by omega)
theorem gt0_f {n : Nat} (h : ¬ 0 < n) : decide ((n : Int) > 0) = false := decide_eq_false (by omega)

def lastK (l : List SToken) : Int := match l.reverse with | [] => 0 | x :: _ => x.Kind
def quietB (k : Int) : Bool := k == 37 || k == 30 || k == 31 || k == 36 || k == 45 || k == 44
def semi : SToken := ⟨37, [59], 0⟩
def dropS (l : List SToken) : List SToken := bif lastK l == 37 then l.take (l.length - 1) else l
/-- what one token adds -/
def minStep (l : List SToken) (x : SToken) : List SToken :=
  bif x.Kind == 2 then l
  else bif x.Kind == 1 then (bif l.length == 0 then l else bif quietB (lastK l) then l else l ++ [semi])
  else bif x.Kind == 31 then dropS l ++ [x] else l ++ [x]

theorem last_is (l : List SToken) (hl : l.length ≤ 1048576) (h : 0 < l.length) : ∃ e, ix l (IntKind.wrap .i64 ((l.length : Int) - 1)) = some e ∧ lastK l = e.Kind := by
  rw [wrap64 (by omega) (by omega), show (l.length : Int) - 1 = ((l.length - 1 : Nat) : Int) by omega, ix_nat (by omega)]
  refine ⟨_, rfl, ?_⟩
  unfold lastK
  rcases List.eq_nil_or_concat l with rfl | ⟨l', x, rfl⟩
  · simp at h
  · simp

theorem last0 {l : List SToken} (h : ¬ 0 < l.length) : lastK l = 0 := by
  have : l = [] := List.length_eq_zero_iff.1 (by omega)
  subst this
  rfl

theorem lastS_is (l : List SToken) (hl : l.length ≤ 1048576) : m_impl_MinTokens_1 l = some (lastK l) := by
  unfold m_impl_MinTokens_1
  by_cases h : 0 < l.length
  · obtain ⟨e, h1, h2⟩ := last_is l hl h
    have := beq0_f h
    rw [this, cond_false, h1, Option.bind_some, h2]
  · have := beq0_t h
    rw [this, cond_true, last0 h]

theorem cutLast (l : List SToken) (hl : l.length ≤ 1048576) (h : 0 < l.length) : cut l 0 (IntKind.wrap .i64 ((l.length : Int) - 1)) = some (l.take (l.length - 1)) := by
  rw [wrap64 (by omega) (by omega), show (l.length : Int) - 1 = ((l.length - 1 : Nat) : Int) by omega]
  have := cut_nat (l := l) (Nat.zero_le (l.length - 1)) (by omega)
  simpa using this

theorem quiet_is (k : Int) : m_impl_quiet k = some (quietB k) := by
  unfold m_impl_quiet quietB
  simp only [m_impl_quiet_k1]
  cases k == 37 <;> cases k == 30 <;> cases k == 31 <;> cases k == 36 <;> cases k == 45 <;> cases k == 44 <;> rfl

theorem drop_le (l : List SToken) : (dropS l).length ≤ l.length := by
  unfold dropS
  cases (lastK l == 37)
  · simp
  · simp

theorem step_len (l : List SToken) (x : SToken) : (minStep l x).length ≤ l.length + 1 := by
  have := drop_le l
  unfold minStep
  cases (x.Kind == 2) <;> cases (x.Kind == 1) <;> cases (x.Kind == 31) <;> cases (l.length == 0) <;> cases (quietB (lastK l)) <;> simp <;> omega

theorem semi_impl : m_impl_sign 37 = some semi := by decide +kernel
theorem semi_spec : m_spec_l10Tok 37 = some semi := by decide +kernel

theorem impl_l (N : Nat) (a : List SToken) (ha : a.length ≤ 1048576) : ∀ (n i : Nat) (out : List SToken), a.length - i < n → i ≤ a.length → out.length ≤ i →
    m_impl_MinTokens_l1 N n (a, (i : Int), out) = some (dropS ((a.drop i).foldl minStep out)) := by
  intro n
  induction n with
  | zero => intro i out h; omega
  | succ n ih =>
    intro i out hn hi ho
    rw [m_impl_MinTokens_l1]
    by_cases h : i < a.length
    · have hrec := ih (i + 1) (minStep out a[i]) (by omega) (by omega) (by have := step_len out a[i]; omega)
      have hst : IntKind.wrap .i64 ((i : Int) + 1) = ((i + 1 : Nat) : Int) := step64 h (by simp only [maxLen]; omega)
      have hlen : ∀ l : List SToken, l.length ≤ out.length → app 32 l [a[i]] = some (l ++ [a[i]]) := fun l hl => app_some (by simp; omega)
      simp only [lt_true h, cond_true, ix_nat h, Option.bind_some, m_impl_MinTokens_k2, m_impl_MinTokens_k3, m_impl_MinTokens_k4, hst, lastS_is out (by omega), quiet_is, semi_impl]
      rw [drop_cons h, List.foldl_cons, ← hrec]
      clear hrec
      unfold minStep
      cases h2 : (a[i].Kind == 2) with
      | true => rfl
      | false =>
        cases h1 : (a[i].Kind == 1) with
        | true =>
          simp only [cond_true, cond_false]
          by_cases h0 : 0 < out.length
          · have e1 := gt0_t h0
            have e2 := nbeq0_f h0
            rw [e1, e2, cond_true, cond_false]
            cases (quietB (lastK out)) with
            | true => rfl
            | false =>
              simp only [Bool.not_false, Option.bind_some, cond_true, cond_false]
              rw [app_some (by simp; omega)]
              rfl
          · have e1 := gt0_f h0
            have e2 := nbeq0_t h0
            rw [e1, e2]
            rfl
        | false =>
          simp only [cond_false]
          cases h3 : (a[i].Kind == 31) with
          | false =>
            simp only [cond_false]
            rw [hlen out (Nat.le_refl _)]
            rfl
          | true =>
            simp only [cond_true]
            unfold dropS
            cases h4 : (lastK out == 37) with
            | false =>
              simp only [cond_false]
              rw [hlen out (Nat.le_refl _)]
              rfl
            | true =>
              have hp : 0 < out.length := by
                cases Nat.eq_zero_or_pos out.length with
                | inl h => rw [last0 (by omega)] at h4; cases h4
                | inr h => exact h
              simp only [cond_true]
              rw [cutLast out (by omega) hp, Option.bind_some, hlen _ (by simp)]
              rfl
    · simp only [lt_false h, cond_false, lastS_is out (by omega), Option.bind_some, m_impl_MinTokens_k5]
      rw [drop_nil h, List.foldl_nil]
      unfold dropS
      cases h4 : (lastK out == 37) with
      | false => rfl
      | true =>
        have hp : 0 < out.length := by
          cases Nat.eq_zero_or_pos out.length with
          | inl h => rw [last0 (by omega)] at h4; cases h4
          | inr h => exact h
        rw [cond_true, cutLast out (by omega) hp]
        rfl

theorem spec_l (N : Nat) (a : List SToken) (ha : a.length ≤ 1048576) : ∀ (n i : Nat) (out : List SToken), a.length - i < n → i ≤ a.length → out.length ≤ i →
    m_spec_MinTokens_l1 N n (a, (i : Int), out) = some (dropS ((a.drop i).foldl minStep out)) := by
  intro n
  induction n with
  | zero => intro i out h; omega
  | succ n ih =>
    intro i out hn hi ho
    rw [m_spec_MinTokens_l1]
    by_cases h : i < a.length
    · have hrec := ih (i + 1) (minStep out a[i]) (by omega) (by omega) (by have := step_len out a[i]; omega)
      have hst : IntKind.wrap .i64 ((i : Int) + 1) = ((i + 1 : Nat) : Int) := step64 h (by simp only [maxLen]; omega)
      have hlen : ∀ l : List SToken, l.length ≤ out.length → app 32 l [a[i]] = some (l ++ [a[i]]) := fun l hl => app_some (by simp; omega)
      -- the last one's kind, either way
      have hk : ∀ (F : Int → Option (List SToken)), (bif decide ((out.length : Int) > 0) then Option.bind (ix out (IntKind.wrap .i64 ((out.length : Int) - 1))) fun e => F e.Kind else F 0) = F (lastK out) := by
        intro F
        by_cases h0 : 0 < out.length
        · obtain ⟨e, g1, g2⟩ := last_is out (by omega) h0
          have e1 := gt0_t h0
          rw [e1, cond_true, g1, Option.bind_some, g2]
        · have e1 := gt0_f h0
          rw [e1, cond_false, last0 h0]
      have hk5 : ∀ (q l : List SToken) (k : Int), (bif (k == 37) then m_spec_MinTokens_k5 N (m_spec_MinTokens_l1 N n) (a, (i : Int), l, (k == 37)) else (bif (k == 30) then m_spec_MinTokens_k5 N (m_spec_MinTokens_l1 N n) (a, (i : Int), l, (k == 30)) else (bif (k == 31) then m_spec_MinTokens_k5 N (m_spec_MinTokens_l1 N n) (a, (i : Int), l, (k == 31)) else (bif (k == 36) then m_spec_MinTokens_k5 N (m_spec_MinTokens_l1 N n) (a, (i : Int), l, (k == 36)) else (bif (k == 45) then m_spec_MinTokens_k5 N (m_spec_MinTokens_l1 N n) (a, (i : Int), l, (k == 45)) else (m_spec_MinTokens_k5 N (m_spec_MinTokens_l1 N n) (a, (i : Int), l, (k == 44))))))))
          = m_spec_MinTokens_k5 N (m_spec_MinTokens_l1 N n) (a, (i : Int), l, quietB k) := by
        intro q l k
        unfold quietB
        cases k == 37 <;> cases k == 30 <;> cases k == 31 <;> cases k == 36 <;> cases k == 45 <;> cases k == 44 <;> rfl
      simp only [lt_true h, cond_true, ix_nat h, Option.bind_some]
      rw [hk fun k => m_spec_MinTokens_k3 N (m_spec_MinTokens_l1 N n) (a, (i : Int), out, k)]
      simp only [m_spec_MinTokens_k3, m_spec_MinTokens_k4, ix_nat h, Option.bind_some, hk5 []]
      simp only [m_spec_MinTokens_k5, m_spec_MinTokens_k2, hst, semi_spec, Option.bind_some]
      rw [drop_cons h, List.foldl_cons, ← hrec]
      clear hrec
      unfold minStep
      cases h2 : (a[i].Kind == 2) with
      | true => rfl
      | false =>
        cases h1 : (a[i].Kind == 1) with
        | true =>
          have h31 : (a[i].Kind == 31) = false := by
            have := eq_of_beq h1
            rw [this]; rfl
          have hne : (a[i].Kind != 1) = false := by rw [bne, h1]; rfl
          simp only [h31, hne, cond_true, cond_false, Option.bind_some]
          by_cases h0 : 0 < out.length
          · have e1 := beq0_f h0
            have e2 := nbeq0_f h0
            rw [e1, e2, cond_false, cond_false]
            cases (quietB (lastK out)) with
            | true => rfl
            | false =>
              simp only [cond_false]
              rw [app_some (by simp; omega)]
              rfl
          · have e1 := beq0_t h0
            have e2 := nbeq0_t h0
            rw [e1, e2]
            rfl
        | false =>
          have hne : (a[i].Kind != 1) = true := by rw [bne, h1]; rfl
          simp only [hne, cond_true, cond_false]
          cases h3 : (a[i].Kind == 31) with
          | false =>
            simp only [cond_false, Option.bind_some]
            rw [hlen out (Nat.le_refl _)]
            rfl
          | true =>
            simp only [cond_true, Option.bind_some]
            unfold dropS
            cases h4 : (lastK out == 37) with
            | false =>
              simp only [cond_false]
              rw [hlen out (Nat.le_refl _)]
              rfl
            | true =>
              have hp : 0 < out.length := by
                cases Nat.eq_zero_or_pos out.length with
                | inl h => rw [last0 (by omega)] at h4; cases h4
                | inr h => exact h
              simp only [cond_true]
              rw [cutLast out (by omega) hp, Option.bind_some, hlen _ (by simp)]
              rfl
    · simp only [lt_false h, cond_false]
      rw [drop_nil h, List.foldl_nil]
      simp only [m_spec_MinTokens_k6]
      have hd : (bif decide ((out.length : Int) > 0) then Option.bind (ix out (IntKind.wrap .i64 ((out.length : Int) - 1))) fun e => some (e.Kind == 37) else some false) = some (lastK out == 37) := by
        by_cases h0 : 0 < out.length
        · obtain ⟨e, g1, g2⟩ := last_is out (by omega) h0
          have e1 := gt0_t h0
          rw [e1, cond_true, g1, Option.bind_some, g2]
        · have e1 := gt0_f h0
          rw [e1, cond_false, last0 h0]
          rfl
      rw [hd, Option.bind_some]
      unfold dropS
      cases h4 : (lastK out == 37) with
      | false =>
        rw [cond_false, cond_false, app_some (by simp; omega)]
        rfl
      | true =>
        have hp : 0 < out.length := by
          cases Nat.eq_zero_or_pos out.length with
          | inl h => rw [last0 (by omega)] at h4; cases h4
          | inr h => exact h
        rw [cond_true, cond_true, cutLast out (by omega) hp, Option.bind_some, app_some (by simp; omega)]
        rfl

theorem min_small : ∀ (l : List SToken) (out : List SToken), (∀ x, x ∈ l → smToken x) → (∀ x, x ∈ out → smToken x) → (∀ x, x ∈ l.foldl minStep out → smToken x) ∧ (l.foldl minStep out).length ≤ out.length + l.length
  | [], out, _, h => ⟨h, by simp⟩
  | y :: l, out, hl, h => by
    rw [List.foldl_cons]
    have hy := hl y (by simp)
    have hs : ∀ x, x ∈ minStep out y → smToken x := by
      intro x hx
      unfold minStep at hx
      have hd : ∀ x, x ∈ dropS out → x ∈ out := by
        intro x hx
        unfold dropS at hx
        cases h4 : (lastK out == 37) <;> rw [h4] at hx
        · exact hx
        · exact List.mem_of_mem_take hx
      cases h2 : (y.Kind == 2) <;> cases h1 : (y.Kind == 1) <;> cases h3 : (y.Kind == 31) <;> cases h0 : (out.length == 0) <;> cases hq : (quietB (lastK out)) <;> simp only [h2, h1, h3, h0, hq, cond_true, cond_false, List.mem_append, List.mem_singleton] at hx <;>
        first
          | exact h x hx
          | (rcases hx with hx | rfl
             · first
                 | exact h x hx
                 | exact h x (hd x hx)
             · first
                 | exact hy
                 | (unfold smToken semi; simp))
    have := min_small l (minStep out y) (fun x hx => hl x (by simp [hx])) hs
    have h2 := step_len out y
    exact ⟨this.1, by simp only [List.length_cons]; omega⟩

theorem both (N : Nat) (a : List SToken) (hN : 1048577 < N) (ha : a.length ≤ 1048576) (hs : ∀ x, x ∈ a → smToken x) : ∃ b, m_spec_MinTokens N a = some b ∧ m_impl_MinTokens N a = some b ∧ b.length ≤ 1048576 ∧ ∀ x, x ∈ b → smToken x := by
  have h1 := spec_l N a ha N 0 [] (by omega) (by omega) (by simp)
  have h2 := impl_l N a ha N 0 [] (by omega) (by omega) (by simp)
  rw [List.drop_zero] at h1 h2
  obtain ⟨h3, h4⟩ := min_small a [] hs (fun x hx => by cases hx)
  refine ⟨_, h1, h2, ?_, fun x hx => ?_⟩
  · have := drop_le (a.foldl minStep [])
    simp only [List.length_nil] at h4
    omega
  · unfold dropS at hx
    cases h5 : (lastK (a.foldl minStep []) == 37) <;> rw [h5] at hx
    · exact h3 x hx
    · exact h3 x (List.mem_of_mem_take hx)

theorem plain (x : List SToken) (kx : (∀ z, z ∈ x → ok44 z) ∧ x.length ≤ maxLen) : ∃ N, m_laws_FnExactMinTokens N x = some true := by
  obtain ⟨kz, kl⟩ := kx
  refine ⟨x.length + 1048578, ?_⟩
  exact lawT1_is (x.length + 1048578) (m_spec_MinTokens _) (m_impl_MinTokens _) x (by omega) (by omega) kl (fun z hz => by obtain ⟨_, ht, _⟩ := kz z hz; exact ht) fun ha hs => both _ x (by omega) ha hs


theorem kids : Go.Kids Tryd.prog (· < Tryd.prog.types.size) := kids_rows (by kernel_rfl) (by kernel_rfl)
theorem full : ∀ t e, t < Tryd.prog.types.size → Tryd.prog.underlying t = some (.slice e) → 0 < Tryd.prog.cellsOf e := slices_full_of Tryd.prog (by kernel_rfl)

/-- what the row lists -/
def lay : List (String × DataW Unit) := [("loop.example/g01543/impl.keywords", Rows.laid_loop_example_g01543_impl_keywords), ("loop.example/g01543/impl.signs", Rows.laid_loop_example_g01543_impl_signs)]

theorem tables {W : World} (h : laidMetH Tryd.prog lay W) : W.var? Tryd.prog "loop.example/g01543/impl.keywords" = some (strCells tab_keywords) ∧ W.var? Tryd.prog "loop.example/g01543/impl.signs" = some (strCells tab_signs) := by
  rw [MakeChecks.laidMetH_plain _ _ _ (by kernel_rfl)] at h
  obtain ⟨ps, ⟨g0, t0, cs0, fuel0, p0, q0, hg0, ht0, hv0, hd0, r0, _⟩, _, _⟩ := h
  obtain ⟨g1, t1, cs1, fuel1, p1, q1, hg1, ht1, hv1, hd1, r1, _⟩ := r0
  obtain rfl := Option.some.inj ((show Tryd.prog.globalNamed "loop.example/g01543/impl.keywords" = some 0 by kernel_rfl).symm.trans hg0)
  obtain rfl := Option.some.inj ((show (Tryd.prog.globals[0]?).map (·.type) = some 68 by kernel_rfl).symm.trans ht0)
  have e0 : cs0 = strCells tab_keywords := strs_of_trod (l := tab_keywords) (p := p0) (by rw [show (DataW.agg (tab_keywords.map fun s => .lit (.string s)) : DataW Unit) = Rows.laid_loop_example_g01543_impl_keywords by kernel_rfl]; exact hd0) Tryd.underlying68 Tryd.underlying9 (by kernel_rfl) (by kernel_rfl)
  rw [e0] at hv0
  obtain rfl := Option.some.inj ((show Tryd.prog.globalNamed "loop.example/g01543/impl.signs" = some 1 by kernel_rfl).symm.trans hg1)
  obtain rfl := Option.some.inj ((show (Tryd.prog.globals[1]?).map (·.type) = some 69 by kernel_rfl).symm.trans ht1)
  have e1 : cs1 = strCells tab_signs := strs_of_trod (l := tab_signs) (p := p1) (by rw [show (DataW.agg (tab_signs.map fun s => .lit (.string s)) : DataW Unit) = Rows.laid_loop_example_g01543_impl_signs by kernel_rfl]; exact hd1) Tryd.underlying69 Tryd.underlying9 (by kernel_rfl) (by kernel_rfl)
  rw [e1] at hv1
  exact ⟨hv0, hv1⟩

theorem grel {W : World} {S : Nat → Prop} (h0 : W.var? Tryd.prog "loop.example/g01543/impl.keywords" = some (strCells tab_keywords)) (h1 : W.var? Tryd.prog "loop.example/g01543/impl.signs" = some (strCells tab_signs)) (s0 : S 0) (s1 : S 1) : GRel (GS [0, 1]) S W := by
  intro g cs hg
  have hc : ([0, 1] : List Nat).contains g = true := by
    cases h : ([0, 1] : List Nat).contains g with
    | true => rfl
    | false => unfold GS at hg; rw [h] at hg; cases hg
  have hm := List.contains_iff_mem.1 hc
  simp only [List.mem_cons, List.mem_nil_iff, or_false] at hm
  rcases hm with rfl | rfl
  · obtain rfl := Option.some.inj ((show GS [0, 1] 0 = some (tab_keywords.map V.str) by kernel_rfl).symm.trans hg)
    exact el_of_var (show Tryd.prog.globalNamed "loop.example/g01543/impl.keywords" = some 0 by kernel_rfl) h0 s0
  · obtain rfl := Option.some.inj ((show GS [0, 1] 1 = some (tab_signs.map V.str) by kernel_rfl).symm.trans hg)
    exact el_of_var (show Tryd.prog.globalNamed "loop.example/g01543/impl.signs" = some 1 by kernel_rfl) h1 s1

theorem lifted (os : Os) (started : os.Started) (H : Type) (enc : TypeId × Value → H) :
    ReturnsInHanded {} Tryd.checked os 3 .any (fun w args => (Rows.fnExactMinTokensSpec.pre enc Tryd.prog Tryd.f3 Rows.fnExactMinTokensRow.domain false w args ∧ laidMetH Tryd.prog lay w) ∧ sizedMet enc Tryd.prog Tryd.f3 (OpenSpec.ofChange Rows.fnExactMinTokensSpec) false w args) (Rows.fnExactMinTokensSpec.post enc Tryd.prog Tryd.f3 false true false false) := by
  refine returnsInHanded_of_change_and (C := Tryd.checked) (X := fun w _ => laidMetH Tryd.prog lay w) (fun _ _ _ hh h => h.of_heap hh) own started (by kernel_rfl) Tryd.func3
    (ChangeSpec.witness_at (enc := enc) (C := Tryd.checked) (os := os) (X := fun w _ => laidMetH Tryd.prog lay w) false (World.laidAll Tryd.prog os lay) #[.slice none 0 0] 12 (World.laidAll_os _ _ _) (by kernel_rfl) (by kernel_rfl) (by kernel_rfl) (by kernel_rfl) (by kernel_rfl)
      (by rw [MakeChecks.laidMetH_plain _ _ _ (by kernel_rfl)]; exact laidMet_laidAll _ (by kernel_rfl) (by kernel_rfl))) ?_
  intro W base args ds gs before hval0 hW hcnd _ hL _
  have hval : ∀ (j : Nat) t v, Tryd.f3.params[j]? = some t → args[j]? = some v → Value.okWide Tryd.prog W .any base t v := hval0
  have hW' := hW
  obtain ⟨p, q, hA0, hV0, rfl, hfz, hnd⟩ := hW
  have hA : DataW.TrodAll enc Tryd.prog W 0 (fun _ => true) true Tryd.f3.params.toList args.toList ds p := hA0
  have hV : DataW.TrodVars enc Tryd.prog W (fun _ => true) ["loop.example/g01543/impl.keywords", "loop.example/g01543/impl.signs"] gs q := hV0
  rw [Tryd.params3] at hA hval
  have hA1 := hA
  obtain ⟨v0, vs0, d0, ds0, p0, q0, hargs, rfl, rfl, h0, r0⟩ := trodAll_cons hA
  obtain ⟨rfl, rfl, rfl⟩ := trodAll_nil r0
  obtain rfl : args = #[v0] := by cases args; simp_all
  have hA2 : DataW.TrodAll enc Tryd.prog W 0 (fun _ => true) true [22] [v0] [d0] (p0 ++ []) := hA1
  have hgl := vars_len hV
  obtain ⟨y0, y1, rfl⟩ : ∃ y0 y1, gs = [y0, y1] := by
    match gs, hgl with
    | [y0, y1], _ => exact ⟨y0, y1, rfl⟩
  obtain ⟨fu0, hf0⟩ := h0
  obtain ⟨a0, k0, c0⟩ := (Reader.slice Tryd.underlying22 read44 3 (by kernel_rfl) (by decide) (fun _ => rfl)) enc W fu0 _ _ hf0
  obtain ⟨s0, l0, m0, rfl⟩ := okWide_slice Tryd.underlying22 (hval 0 22 v0 rfl rfl)
  have htab := tables hL
  have tv0 := htab.1
  have tv1 := htab.2
  have hlt : ∀ b, (fun b => blocksOf (p0 ++ []) b ∨ b = 0 ∨ b = 1) b → b < W.heap.size := by
    intro b hb
    rcases hb with ⟨m, hm, rfl⟩ | rfl | rfl
    · exact DataW.TrodAll.lt hA1 m (by simpa using hm)
    · exact var_lt (show Tryd.prog.globalNamed "loop.example/g01543/impl.keywords" = some 0 by kernel_rfl) tv0
    · exact var_lt (show Tryd.prog.globalNamed "loop.example/g01543/impl.signs" = some 1 by kernel_rfl) tv1
  obtain ⟨N, hN⟩ := plain a0 k0
  refine (AC.belowG (m_laws_FnExactMinTokens_ok N a0 hN) (fun b => blocksOf (p0 ++ []) b ∨ b = 0 ∨ b = 1) hlt (grel tv0 tv1 (.inr (.inl rfl)) (.inr (.inr rfl))) rfl fun i x hx => ?_).mono ?_
  · match i with
    | 0 =>
      simp only [List.getElem?_cons_succ, List.getElem?_cons_zero, Option.some.injEq] at hx
      subst hx
      exact argOne rfl (c0 _ fun p hp => (.inl ⟨p, by simp [hp], rfl⟩))
    | i + 1 => simp at hx
  · rintro e W' ⟨x, S', rfl, hx, hb⟩
    have hxt := hx.c_inv
    subst hxt
    exact ⟨_, rfl, Av.post_of_below (pa := (p0 ++ [])) (pv := q) hW' (fun _ _ _ => (trodAll_cons_mk (shut_bool Tryd.underlying4 _) trodAll_mk0))
      (fun sp hsp => args_kept kids full hb (by decide +kernel) hA2 (fun m hm => hsp m (by simp only [List.mem_append]; exact .inl (by simpa using hm)))) (fun sp hsp => vars_kept laidOut hb (by kernel_rfl) hV (fun m hm => hsp m (by simp [hm]))) (by simp) hb (ok_one (by kernel_rfl) rfl (okWide_bool_mk Tryd.underlying4 _))⟩

theorem over : Rows.fnExactMinTokensRow.holds Tryd.pinned (OpenSpec.ofChange Rows.fnExactMinTokensSpec) :=
  OpenClaim.holds_of_wide 3 Tryd.f3 rfl rfl rfl rfl rfl rfl rfl ⟨rfl, rfl, rfl, rfl, rfl⟩ rfl rfl rfl rfl rfl (by kernel_rfl) Tryd.func3 (by kernel_rfl)
    (of_decide_eq_true (by kernel_rfl)) (by unfold Func.isWrapper; first | (rw [if_pos (by decide +kernel)]; kernel_rfl) | (rw [if_neg (by decide +kernel)]; exact ⟨rfl, rfl⟩))
    (fun os started H enc _ => lifted os started H enc)

/-- the statement -/
theorem proved : Rows.FnExactMinTokensCardSaid :=
  Claim7.holds_tied_plain_at .later [] [.widerDeep, .data] true (true, "07eaec5f2b6f543fb5cdbfe2ffb1fd1099b65945ea79c247d38cdfda68164ca3") false
    over (fun _ h => by cases h) (by kernel_rfl) (fun _ h => by cases h) fnExactMinTokens_row_tie rfl ⟨rfl, rfl⟩ (by kernel_rfl) rfl
    (fun f fn hf hfn => by
      obtain rfl : f = 3 := Option.some.inj ((show Tryd.prog.funcNamed "loop.example/g01543/laws.FnExactMinTokens" = some 3 by kernel_rfl).symm.trans hf) |>.symm
      obtain rfl : fn = Tryd.f3 := (Option.some.inj (Tryd.func3.symm.trans hfn)).symm
      exact ⟨by kernel_rfl, fun j t ht => by
        rw [Tryd.params3] at ht
        have hm : t ∈ [22] := by simpa using Array.mem_of_getElem? ht
        have hall : ([22].all fun u => !Tryd.prog.wantsStandIn u) = true := by kernel_rfl
        exact (show Tryd.prog.wantsStandIn t = false by simpa using List.all_eq_true.1 hall t hm)⟩)
    (by kernel_rfl)
#print axioms proved
end Go.Proofs.YtjmlnhngemeeaaaDoor.fnExactMinTokens
