/-
 The laws own helpers: copying, comparing, measuring, marking.
-/
import Derived.Test.YthgednmgmjmmpaaGreatDoorRcSM1
namespace Go.Proofs.Tryz
open Go.Av
set_option maxRecDepth 100000
set_option linter.unusedVariables false
set_option linter.unusedSimpArgs false

theorem mkInts_snd (a : List Int) (k : Int) : (mkAll mkInt a k).2 = k + a.length := by
 induction a generalizing k with
 | nil => simp [mkAll]
 | cons x a ih => simp only [mkAll, ih, mkInt, List.length_cons]; omega


theorem markText_l (N : Nat) : ∀ (n : Nat) (k : Int) (s : List UInt8), 0 ≤ k → k < 10 ^ n → k ≤ 9223372036854775807 → s.length + n ≤ 100 → ∃ r, ml_markText_l1 N (n + 1) (k, s) = some r := by
 intro n
 induction n with
 | zero =>
  intro k s h0 h1 _ hs
  have : k = 0 := by omega
  subst this
  exact ⟨109 :: s, by simp [ml_markText_l1, cat, maxLen]; omega⟩
 | succ n ih =>
  intro k s h0 h1 h2 hs
  rw [ml_markText_l1]
  by_cases hk : k > 0
  ·have hd : decide (k > 0) = true := by simp [hk]
   have hq : Int.tdiv k 10 = k / 10 := Int.tdiv_eq_ediv_of_nonneg h0
   have hb : k / 10 < 10 ^ n := by rw [Int.pow_succ] at h1; omega
   rw [hd, cond_true, cat_some (by simp [maxLen]; omega), Option.bind_some, hq, wrap64 (n := k / 10) (by omega) (by omega)]
   exact ih _ _ (by omega) hb (by omega) (by simp; omega)
  ·have hd : decide (k > 0) = false := by simp; omega
   rw [hd, cond_false, cat_some (by simp [maxLen]; omega)]
   exact ⟨_, rfl⟩

def mT (N : Nat) (k : Int) : List UInt8 := (ml_markText N k).getD []

theorem mT_is (N : Nat) (k : Int) (hN : 30 ≤ N) (h0 : 0 ≤ k) (h1 : k ≤ 9223372036854775807) : ml_markText N k = some (mT N k) := by
 have : ∃ r, ml_markText N k = some r := by
  unfold ml_markText
  by_cases hk : k ≤ 0
  ·exact ⟨[109, 48], by simp [hk]⟩
  ·have hd : decide (k ≤ 0) = false := by simp; omega
   rw [hd, cond_false]
   obtain ⟨m, rfl⟩ : ∃ m, N = (m + 20) + 1 := ⟨N - 21, by omega⟩
   obtain ⟨r, hr⟩ := markText_l (m + 20 + 1) 19 k [] h0 (by omega) h1 (by simp)
   have mono : ∀ (n d : Nat) (s : Int × List UInt8) r, ml_markText_l1 (m + 20 + 1) n s = some r → ml_markText_l1 (m + 20 + 1) (n + d) s = some r := by
    intro n
    induction n with
    | zero => intro d s r h; cases h
    | succ n ih =>
     intro d s r h
     obtain ⟨a, b⟩ := s
     rw [show n + 1 + d = (n + d) + 1 by omega]
     rw [ml_markText_l1] at h ⊢
     cases hc : decide (a > 0) with
     | true =>
      rw [hc] at h
      simp only [cond_true] at h ⊢
      cases hcat : cat [bytI (IntKind.wrap .i64 (48 + a.tmod 10))] b with
      | none => rw [hcat] at h; cases h
      | some s2 => rw [hcat] at h; exact ih d _ r h
     | false =>
      rw [hc] at h
      exact h
   exact ⟨r, by have := mono 20 (m + 1) _ r hr; rw [show 20 + (m + 1) = m + 20 + 1 by omega] at this; exact this⟩
 obtain ⟨r, hr⟩ := this
 unfold mT
 rw [hr]
 rfl

def szToken (x : SToken) : Nat := x.Text.length

def okToken (x : SToken) : Prop := x.Text.length ≤ maxLen

theorem szToken_is (x : SToken) (hx : okToken x) : Sz (ml_szToken x) (szToken x) := by
 intro b h0 h1
 have hText := hx
 unfold okToken at hText
 simp only [maxLen] at hText
 unfold ml_szToken szToken
 rw [wrap64 (n := b - (x.Text.length : Int)) (by omega) (by omega)]
 by_cases g0 : b - (x.Text.length : Int) < 0
 ·exact ⟨-1, by simp [g0], .inl ⟨by omega, by omega⟩⟩
 exact ⟨b - (x.Text.length : Int), by simp [g0], .inr ⟨by omega, by omega⟩⟩

theorem szTokenS_is (N : Nat) (a : List SToken) (hN : a.length < N) (hl : a.length ≤ maxLen) (ha : ∀ x, x ∈ a → okToken x) : Sz (ml_szTokenS N a) (a.length + sumN szToken a) := by
 have hloop : ∀ n s, ml_szTokenS_l1 N n s = szL ml_szToken n s := by
  intro n
  induction n with
  | zero => intro s; rfl
  | succ n ih => intro ⟨a, b, i⟩; rw [ml_szTokenS_l1, szL]; simp only [ih]
 intro b h0 h1
 have := Sz.list (f := ml_szToken) (sz := szToken) (fun x hx => szToken_is x (ha x hx)) hl (g := fun n b => bif decide (IntKind.wrap .i64 (b - (a.length : Int)) < 0) then some (-1) else szL ml_szToken n (a, IntKind.wrap .i64 (b - (a.length : Int)), 0)) hN (fun b => rfl) b h0 h1
 unfold ml_szTokenS
 simpa only [hloop] using this

def smToken (x : SToken) : Prop := x.Text.length ≤ 1048576

theorem smToken_of (a : List SToken) (h : a.length + sumN szToken a ≤ 1048576) : ∀ x, x ∈ a → smToken x := by
 intro x hx
 have := sumN_mem (sz := szToken) hx
 have e : szToken x = x.Text.length := rfl
 rw [e] at this
 unfold smToken
 omega

theorem toToken_is (x : SToken) (hx : smToken x) : ml_toToken x = some x := by
 unfold ml_toToken
 rfl

theorem toTokenS_is (N : Nat) (a : List SToken) (hN : 1048576 < N) (hl : a.length ≤ 1048576) (ha : ∀ x, x ∈ a → smToken x) : ml_toTokenS N a = some a := by
 have hloop : ∀ n s, ml_toTokenS_l1 N n s = toL ml_toToken n s := by
  intro n
  induction n with
  | zero => intro s; rfl
  | succ n ih => intro ⟨a, i, y⟩; rw [ml_toTokenS_l1, toL]; simp only [ih]
 unfold ml_toTokenS
 rw [mk_some (by omega) (by simp only [maxLen]; omega), Option.bind_some, hloop]
 exact toL_is _ a (fun x hx => toToken_is x (ha x hx)) (by simp only [maxLen]; omega) N 0 _ (by omega) (by omega) (by simp) (by simp)

theorem eqToken_self (x : SToken) (hx : smToken x) : ml_eqToken x x = some true := by
 unfold ml_eqToken
 simp

theorem eqTokenS_self (N : Nat) (a : List SToken) (hN : 1048576 < N) (hl : a.length ≤ 1048576) (ha : ∀ x, x ∈ a → smToken x) : ml_eqTokenS N a a = some true := by
 have hloop : ∀ n s, ml_eqTokenS_l1 N n s = eqL (ml_eqToken) n s := by
  intro n
  induction n with
  | zero => intro s; rfl
  | succ n ih => intro ⟨a, b, i⟩; rw [ml_eqTokenS_l1, eqL]; simp only [ih]
 unfold ml_eqTokenS
 simp only [bne_self_eq_false, cond_false, hloop]
 exact eqL_self _ a (fun x hx => eqToken_self x (ha x hx)) (by simp only [maxLen]; omega) N 0 (by omega) (by omega)

def mkToken (N : Nat) (x : SToken) (k : Int) : SToken × Int := (⟨k, mT N (k + 1), (k + 2)⟩, k + 3)

def costToken (x : SToken) : Nat := 3

theorem mkToken_le (N : Nat) (x : SToken) (k : Int) (_ : 0 ≤ k) : k ≤ (mkToken N x k).2 ∧ (mkToken N x k).2 ≤ k + costToken x := by
 simp only [mkToken, costToken]
 omega

theorem markTokenS_is (N : Nat) (k : Int) (a : List SToken) (hN : 1048576 < N) (hl : a.length ≤ 1048576) (ha : ∀ x, x ∈ a → smToken x) (h0 : 0 ≤ k) (h1 : k + sumN costToken a ≤ 4611686018427387904) :
  ml_markTokenS N k a = some ((mkAll (mkToken N) a k).2, (mkAll (mkToken N) a k).1) := by
 have := markLoop (M := ml_markTokenS_l1 N) (mk := mkToken N) (cost := costToken) (ok := smToken) (mkToken_le N) (fun n k i y e hs h0 h1 hl hy => by
   have hi : i < y.length := (List.getElem?_eq_some_iff.1 hy).1
   have he : y[i] = e := (List.getElem?_eq_some_iff.1 hy).2
   unfold costToken at h1
   unfold smToken at hs
   rw [ml_markTokenS_l1]
   have w1 : IntKind.wrap .i64 (k + 1) = k + 1 := wrap64 (by omega) (by omega)
   have w2 : IntKind.wrap .i64 (k + 1 + 1) = k + 2 := by rw [wrap64 (by omega) (by omega)]; omega
   have w3 : IntKind.wrap .i64 (k + 2 + 1) = k + 3 := by rw [wrap64 (by omega) (by omega)]; omega
   have t1 := mT_is N (k + 1) (by omega) (by omega) (by omega)
   simp only [lt_true hi, cond_true, ix_nat, upd_nat, List.length_set, hi, List.getElem_set_self, List.set_set, he, Option.bind_some, step64 hi hl, w1, w2, w3, t1]
   rfl) (fun n k i y hi => by
   rw [ml_markTokenS_l1]
   simp only [lt_false hi, cond_false]) a [] k N ha h0 h1 (by omega) (by simp [maxLen]; omega)
 unfold ml_markTokenS
 simpa using this

theorem heldTokenS_is (N : Nat) (k : Int) (a : List SToken) (hN : 1048576 < N) (hl : a.length ≤ 1048576) (ha : ∀ x, x ∈ a → smToken x) (h0 : 0 ≤ k) (h1 : k + sumN costToken a ≤ 4611686018427387904) :
  ml_heldTokenS N (mkAll (mkToken N) a k).1 k = some (mkAll (mkToken N) a k).2 := by
 have := heldLoop (L := ml_heldTokenS_l1 N) (mk := mkToken N) (cost := costToken) (ok := smToken) (mkToken_le N) (fun n k i y e hs h0 h1 hl hy => by
   have hi : i < y.length := (List.getElem?_eq_some_iff.1 hy).1
   unfold costToken at h1
   unfold smToken at hs
   rw [ml_heldTokenS_l1]
   have w1 : IntKind.wrap .i64 (k + 1) = k + 1 := wrap64 (by omega) (by omega)
   have w2 : IntKind.wrap .i64 (k + 1 + 1) = k + 2 := by rw [wrap64 (by omega) (by omega)]; omega
   have w3 : IntKind.wrap .i64 (k + 2 + 1) = k + 3 := by rw [wrap64 (by omega) (by omega)]; omega
   have t1 := mT_is N (k + 1) (by omega) (by omega) (by omega)
   simp only [lt_true hi, cond_true, ix_get hy, Option.bind_some, step64 hi hl, mkToken, bne_self_eq_false, cond_false, w1, w2, w3, t1, beq_self_eq_true, Bool.not_true]) (fun n k i y hi => by
   rw [ml_heldTokenS_l1]
   simp only [lt_false hi, cond_false]) a [] k N ha h0 h1 (by omega) (by simp [maxLen]; omega)
 unfold ml_heldTokenS
 simpa using this

theorem costToken_le (a : List SToken) (ha : ∀ x, x ∈ a → smToken x) (hl : a.length ≤ 1048576) : sumN costToken a ≤ 1099512676352 * 4 := by
 have : ∀ l : List SToken, (∀ x, x ∈ l → smToken x) → sumN costToken l ≤ 1048582 * l.length := by
  intro l
  induction l with
  | nil => intro _; simp [sumN]
  | cons x l ih =>
   intro h
   have h1 := ih fun y hy => h y (by simp [hy])
   have h2 := h x (by simp)
   unfold smToken at h2
   simp only [sumN, List.map_cons, List.sum_cons, List.length_cons, costToken] at h1 ⊢
   omega
 have := this a ha
 omega

def szNode (x : SNode) : Nat := x.Text.length + x.Other.length + x.Kids.length

def okNode (x : SNode) : Prop := x.Text.length ≤ maxLen ∧ x.Other.length ≤ maxLen ∧ x.Kids.length ≤ maxLen

def smNode (x : SNode) : Prop := x.Text.length ≤ 1048576 ∧ x.Other.length ≤ 1048576 ∧ x.Kids.length ≤ 1048576

theorem smNode_of (a : List SNode) (h : a.length + sumN szNode a ≤ 1048576) : ∀ x, x ∈ a → smNode x := by
 intro x hx
 have := sumN_mem (sz := szNode) hx
 have e : szNode x = x.Text.length + x.Other.length + x.Kids.length := rfl
 rw [e] at this
 unfold smNode
 omega

end Go.Proofs.Tryz
