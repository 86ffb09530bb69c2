/-
 Plain lemmas on the models, part 7.
-/
import Derived.Test.YthgednmgmjmmpaaGreatDoorRcSP6
namespace Go.Proofs.Tryz
open Go.Av
set_option maxRecDepth 100000
set_option linter.unusedSimpArgs false
set_option linter.unusedVariables false

theorem whole_ex (N : Nat) (l : List SToken) (p : SPos) (hN : 2000000 < N) (hs : ∀ t, t ∈ l → t.Text.length ≤ 1048576) :
  ∃ (L : List SNode) (j : Int) (f : SFault) (b : Bool), ms_ParseExpr N l p = some (L, j, f) ∧ mi_whole N l p = some (L, b) ∧ b = ((f.Kind == 0) && (j == (l.length : Int))) ∧ L.length ≤ 400 ∧ ∀ x, x ∈ L → smNode x := by
 obtain ⟨L, j, f, p1, p2, p3, p4, p5, p6⟩ := parse_ex N l p hN hs
 unfold mi_whole
 rw [p2, Option.bind_some]
 simp only []
 rcases p5 with rfl | ⟨hg, _⟩
 ·exact ⟨L, (j : Int), ⟨0, 0⟩, _, p1, rfl, rfl, p3, p4⟩
 ·have e : (f.Kind == 0) = false := by simpa using hg
  refine ⟨L, (j : Int), f, false, p1, ?_, by rw [e]; rfl, p3, p4⟩
  rw [e]; rfl

theorem red_ex (N : Nat) (l : List SToken) (p : SPos) (s : SSpan) (hN : 2000000 < N) (hl : l.length ≤ 1048576) (hs : ∀ t, t ∈ l → t.Text.length ≤ 1048576) :
  ∃ (l' : List SToken) (b : Bool), ms_Without N l s = some l' ∧ mi_Without N l s = some l' ∧ ms_l22Same N l l' p = some b ∧ mi_redundant N l p s = some b ∧ l'.length ≤ l.length ∧ ∀ t, t ∈ l' → t ∈ l := by
 obtain ⟨l', w1, w2, w3, w4⟩ := without_ex N N l hl (by omega) (by omega) s
 obtain ⟨L1, j1, f1, b1, p1, q1, e1, k1, m1⟩ := whole_ex N l p hN hs
 obtain ⟨L2, j2, f2, b2, p2, q2, e2, k2, m2⟩ := whole_ex N l' p hN (fun t ht => hs t (w4 t ht))
 obtain ⟨r, r1, r2⟩ := same_ex N N L1 L2 (by omega) m1 (by omega) (by omega)
 refine ⟨l', b1 && (b2 && r), w1, w2, ?_, ?_, w3, w4⟩
 ·unfold ms_l22Same
  rw [p1, p2, Option.bind_some, Option.bind_some, e1, e2]
  simp only [r1, Option.bind_some]
  cases (f1.Kind == 0) <;> cases (f2.Kind == 0) <;> cases (j1 == (l.length : Int)) <;> cases (j2 == (l'.length : Int)) <;> rfl
 ·unfold mi_redundant
  rw [q1, w2, Option.bind_some, Option.bind_some, q2, Option.bind_some]
  simp only [r2, Option.bind_some]
  cases b1 <;> cases b2 <;> rfl

theorem reduce_l2 (N : Nat) (l : List SToken) (p : SPos) (hN : 2000000 < N) (hl : l.length ≤ 1048576) (hs : ∀ t, t ∈ l → t.Text.length ≤ 1048576) (P : List SSpan) (hP : P.length ≤ 1048576) (i : Nat) (hi : i ≤ 60) (kb : (SPos × Int × List SToken) → Option (List SToken)) : ∀ (n n' j : Nat), P.length - j + 1 < n → P.length - j < n' → j ≤ P.length →
  (ms_Reduce_l2 N kb n ((i : Int), p, P, false, (j : Int), l) = some l ∧ m_slices_IndexFunc_Span_l1 N p.Level p.Dollar p.NoIn p.NoGt p.NoSign l n' (P, (j : Int)) = some (-1)) ∨
  ∃ (k : Nat) (hk : k < P.length) (l' : List SToken), ms_Reduce_l2 N kb n ((i : Int), p, P, false, (j : Int), l) = kb (p, ((i + 1 : Nat) : Int), l') ∧ m_slices_IndexFunc_Span_l1 N p.Level p.Dollar p.NoIn p.NoGt p.NoSign l n' (P, (j : Int)) = some (k : Int) ∧ mi_Without N l P[k] = some l' ∧ l'.length ≤ l.length ∧ ∀ t, t ∈ l' → t ∈ l := by
 intro n
 induction n with
 | zero => intro n' j h; omega
 | succ n ih =>
  intro n' j hn hn' hj
  obtain ⟨n', rfl⟩ : ∃ k, n' = k + 1 := ⟨n' - 1, by omega⟩
  rw [ms_Reduce_l2, m_slices_IndexFunc_Span_l1]
  by_cases h : j < P.length
  ·obtain ⟨l', b, w1, w2, w3, w4, w5, w6⟩ := red_ex N l p P[j] hN hl hs
   have w4' : mi_redundant N l ⟨p.Level, p.Dollar, p.NoIn, p.NoGt, p.NoSign⟩ P[j] = some b := w4
   unfold mi_Reduce_1
   simp only [lt_true h, cond_true, Bool.not_false, Option.bind_some, ix_nat h, w1, w3, w4']
   have x1 : IntKind.wrap .i64 ((j : Int) + 1) = ((j + 1 : Nat) : Int) := by rw [wrap64 (by omega) (by omega)]; omega
   unfold ms_Reduce_k3
   cases b with
   | true =>
    refine Or.inr ⟨j, h, l', ?_, rfl, w2, w5, w6⟩
    simp only [cond_true]
    obtain ⟨n, rfl⟩ : ∃ k, n = k + 1 := ⟨n - 1, by omega⟩
    rw [ms_Reduce_l2]
    have e : (bif decide (IntKind.wrap .i64 ((j : Int) + 1) < (P.length : Int)) then some (!true) else some false) = some false := by cases decide (IntKind.wrap .i64 ((j : Int) + 1) < (P.length : Int)) <;> rfl
    rw [e, Option.bind_some, cond_false, Bool.not_true, cond_false, wrap64 (by omega) (by omega)]
    rfl
   | false =>
    simp only [cond_false, x1]
    exact ih n' (j + 1) (by omega) (by omega) (by omega)
  ·refine Or.inl ⟨?_, ?_⟩
   ·simp only [lt_false h, cond_false, Option.bind_some, Bool.not_false, cond_true]
   ·simp only [lt_false h, cond_false]

theorem reduce_l (N : Nat) (p : SPos) (hN : 2000000 < N) (M : Nat) (hM : M ≤ 1048576) : ∀ (n n' i : Nat) (l : List SToken), 60 - i < n → 60 - i < n' → i ≤ 60 → l.length ≤ M → (∀ t, t ∈ l → t.Text.length ≤ 1048576) →
  ∃ r, ms_Reduce_l1 N n (p, (i : Int), l) = some r ∧ mi_Reduce_l2 N n' (p, (i : Int), l) = some r ∧ r.length ≤ M ∧ ∀ t, t ∈ r → t.Text.length ≤ 1048576 := by
 intro n
 induction n with
 | zero => intro n' i l h; omega
 | succ n ih =>
  intro n' i l hn hn' hi hl hs
  obtain ⟨n', rfl⟩ : ∃ k, n' = k + 1 := ⟨n' - 1, by omega⟩
  rw [ms_Reduce_l1, mi_Reduce_l2]
  unfold mi_Reduce_k1
  by_cases h : i < 60
  ·have d : decide ((i : Int) < 60) = true := decide_eq_true (by omega)
   obtain ⟨P, p1, p2, p3⟩ := pairs_ex N N l (by omega) (by omega) (by omega)
   simp only [d, cond_true, p1, p2, Option.bind_some]
   rcases reduce_l2 N l p hN (by omega) hs P (by omega) i hi (ms_Reduce_l1 N n) N N 0 (by omega) (by omega) (by omega) with ⟨a1, a2⟩ | ⟨k, hk, l', a1, a2, a3, a4, a5⟩
   ·have a1' : ms_Reduce_l2 N (ms_Reduce_l1 N n) N ((i : Int), p, P, false, 0, l) = some l := a1
    have a2' : m_slices_IndexFunc_Span N P p.Level p.Dollar p.NoIn p.NoGt p.NoSign l = some (-1) := a2
    have dn : decide ((-1 : Int) < 0) = true := by decide
    simp only [a1', a2', Option.bind_some, dn, cond_true]
    exact ⟨l, rfl, rfl, hl, hs⟩
   ·have a1' : ms_Reduce_l2 N (ms_Reduce_l1 N n) N ((i : Int), p, P, false, 0, l) = ms_Reduce_l1 N n (p, ((i + 1 : Nat) : Int), l') := a1
    have a2' : m_slices_IndexFunc_Span N P p.Level p.Dollar p.NoIn p.NoGt p.NoSign l = some (k : Int) := a2
    have dn : decide ((k : Int) < 0) = false := decide_eq_false (by omega)
    simp only [a1', a2', Option.bind_some, dn, cond_false, ix_nat hk, a3]
    rw [wrap64 (by omega) (by omega), show ((i : Int) + 1) = ((i + 1 : Nat) : Int) by omega]
    exact ih n' (i + 1) l' (by omega) (by omega) (by omega) (by omega) (fun t ht => hs t (a5 t ht))
  ·have d : decide ((i : Int) < 60) = false := decide_eq_false (by omega)
   simp only [d, cond_false]
   exact ⟨l, rfl, rfl, hl, hs⟩

theorem reduce_ex (N : Nat) (l : List SToken) (p : SPos) (hN : 2000000 < N) (hl : l.length ≤ 1048576) (hs : ∀ t, t ∈ l → t.Text.length ≤ 1048576) :
  ∃ r, ms_Reduce N l p = some r ∧ mi_Reduce N l p = some r ∧ r.length ≤ 1048576 ∧ ∀ t, t ∈ r → t.Text.length ≤ 1048576 := by
 unfold ms_Reduce mi_Reduce m_slices_Clone_Token
 have ha : app 32 [] l = some ([] ++ l) := app_some (by simp; omega)
 rw [ha, Option.bind_some, Option.bind_some, Option.bind_some, List.nil_append]
 exact reduce_l N p hN 1048576 (by omega) N N 0 l (by omega) (by omega) (by omega) hl hs

end Go.Proofs.Tryz
