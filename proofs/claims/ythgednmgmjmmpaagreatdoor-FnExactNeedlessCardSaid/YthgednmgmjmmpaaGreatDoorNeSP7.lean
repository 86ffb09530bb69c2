/-
 Plain lemmas on the models, part 7.
-/
import Derived.Test.YthgednmgmjmmpaaGreatDoorNeSP6
namespace Go.Proofs.Tryz
open Go.Av
set_option maxRecDepth 100000
set_option linter.unusedSimpArgs false
set_option linter.unusedVariables false

theorem whole_ex (N : Nat) (l : List SToken) (p : SPos) (hN : 2000000 < N) (hs : ∀ t, t ∈ l → t.Text.length ≤ 1048576) :
  ∃ (L : List SNode) (j : Int) (f : SFault) (b : Bool), ms_ParseExpr N l p = some (L, j, f) ∧ mi_whole N l p = some (L, b) ∧ b = ((f.Kind == 0) && (j == (l.length : Int))) ∧ L.length ≤ 400 ∧ ∀ x, x ∈ L → smNode x := by
 obtain ⟨L, j, f, p1, p2, p3, p4, p5, p6⟩ := parse_ex N l p hN hs
 unfold mi_whole
 rw [p2, Option.bind_some]
 simp only []
 rcases p5 with rfl | ⟨hg, _⟩
 ·exact ⟨L, (j : Int), ⟨0, 0⟩, _, p1, rfl, rfl, p3, p4⟩
 ·have e : (f.Kind == 0) = false := by simpa using hg
  refine ⟨L, (j : Int), f, false, p1, ?_, by rw [e]; rfl, p3, p4⟩
  rw [e]; rfl

theorem red_ex (N : Nat) (l : List SToken) (p : SPos) (s : SSpan) (hN : 2000000 < N) (hl : l.length ≤ 1048576) (hs : ∀ t, t ∈ l → t.Text.length ≤ 1048576) :
  ∃ (l' : List SToken) (b : Bool), ms_Without N l s = some l' ∧ mi_Without N l s = some l' ∧ ms_l22Same N l l' p = some b ∧ mi_redundant N l p s = some b ∧ l'.length ≤ l.length ∧ ∀ t, t ∈ l' → t ∈ l := by
 obtain ⟨l', w1, w2, w3, w4⟩ := without_ex N N l hl (by omega) (by omega) s
 obtain ⟨L1, j1, f1, b1, p1, q1, e1, k1, m1⟩ := whole_ex N l p hN hs
 obtain ⟨L2, j2, f2, b2, p2, q2, e2, k2, m2⟩ := whole_ex N l' p hN (fun t ht => hs t (w4 t ht))
 obtain ⟨r, r1, r2⟩ := same_ex N N L1 L2 (by omega) m1 (by omega) (by omega)
 refine ⟨l', b1 && (b2 && r), w1, w2, ?_, ?_, w3, w4⟩
 ·unfold ms_l22Same
  rw [p1, p2, Option.bind_some, Option.bind_some, e1, e2]
  simp only [r1, Option.bind_some]
  cases (f1.Kind == 0) <;> cases (f2.Kind == 0) <;> cases (j1 == (l.length : Int)) <;> cases (j2 == (l'.length : Int)) <;> rfl
 ·unfold mi_redundant
  rw [q1, w2, Option.bind_some, Option.bind_some, q2, Option.bind_some]
  simp only [r2, Option.bind_some]
  cases b1 <;> cases b2 <;> rfl

theorem needless_l (N : Nat) (l : List SToken) (p : SPos) (hN : 2000000 < N) (hl : l.length ≤ 1048576) (hs : ∀ t, t ∈ l → t.Text.length ≤ 1048576) (P : List SSpan) : ∀ (n n' i : Nat) (o : List SSpan), 60 - i < n → 60 - i < n' → i ≤ 60 → o.length ≤ i →
  ∃ r, ms_Needless_l1 N n (l, p, P, (i : Int), o) = some r ∧ mi_Needless_l1 N n' (l, P.take 60, p, (i : Int), o) = some r ∧ r.length ≤ 60 := by
 intro n
 induction n with
 | zero => intro n' i o h; omega
 | succ n ih =>
  intro n' i o hn hn' hi ho
  obtain ⟨n', rfl⟩ : ∃ k, n' = k + 1 := ⟨n' - 1, by omega⟩
  rw [ms_Needless_l1, mi_Needless_l1]
  by_cases h : i < P.length ∧ i < 60
  ·obtain ⟨h1, h2⟩ := h
   have h3 : i < (P.take 60).length := by rw [List.length_take]; omega
   have d2 : decide ((i : Int) < 60) = true := decide_eq_true (by omega)
   have he : (P.take 60)[i] = P[i] := by rw [List.getElem_take]
   obtain ⟨l', b, w1, w2, w3, w4, _, _⟩ := red_ex N l p P[i] hN hl hs
   simp only [lt_true h1, lt_true h3, d2, cond_true, Option.bind_some, ix_nat h1, ix_nat h3, he, w1, w3, w4]
   have x1 : IntKind.wrap .i64 ((i : Int) + 1) = ((i + 1 : Nat) : Int) := by rw [wrap64 (by omega) (by omega)]; omega
   unfold ms_Needless_k2 mi_Needless_k2
   cases b with
   | true =>
    simp only [cond_true]
    rw [app_some (by simp; omega), Option.bind_some, Option.bind_some]
    simp only [x1]
    exact ih n' (i + 1) _ (by omega) (by omega) (by omega) (by simp; omega)
   | false =>
    simp only [cond_false, x1]
    exact ih n' (i + 1) o (by omega) (by omega) (by omega) (by omega)
  ·have h3 : ¬ i < (P.take 60).length := by rw [List.length_take]; omega
   have e : (bif decide ((i : Int) < (P.length : Int)) then some (decide ((i : Int) < 60)) else some false) = some false := by
    by_cases h1 : i < P.length
    ·rw [lt_true h1, cond_true, decide_eq_false (by omega)]
    ·rw [lt_false h1]; rfl
   simp only [e, lt_false h3, cond_false, Option.bind_some]
   exact ⟨o, rfl, rfl, by omega⟩

theorem needless_ex (N : Nat) (l : List SToken) (p : SPos) (hN : 2000000 < N) (hl : l.length ≤ 1048576) (hs : ∀ t, t ∈ l → t.Text.length ≤ 1048576) :
  ∃ r, ms_Needless N l p = some r ∧ mi_Needless N l p = some r ∧ r.length ≤ 60 := by
 obtain ⟨P, p1, p2, p3⟩ := pairs_ex N N l hl (by omega) (by omega)
 unfold ms_Needless mi_Needless
 rw [p1, p2, Option.bind_some, Option.bind_some]
 have hc : cut P 0 (if 60 < (P.length : Int) then 60 else (P.length : Int)) = some (P.take 60) := by
  by_cases h : 60 < P.length
  ·rw [if_pos (by omega)]
   have := cut_nat (l := P) (Nat.zero_le 60) (by omega)
   simpa using this
  ·rw [if_neg (by omega)]
   have := cut_nat (l := P) (Nat.zero_le P.length) (by omega)
   rw [List.take_of_length_le (by omega : P.length ≤ 60)]
   simpa using this
 rw [hc, Option.bind_some]
 exact needless_l N l p hN hl hs P N N 0 [] (by omega) (by omega) (by omega) (by simp)

end Go.Proofs.Tryz
