/-
 The laws own helpers: copying, comparing, measuring, marking.
-/
import Derived.Test.YtpognfncgfaogaaGreatDoorShAM1
namespace Go.Proofs.Tryz
open Go.Av
set_option maxRecDepth 100000
set_option linter.unusedVariables false
set_option linter.unusedSimpArgs false

theorem eqIntS_self (N : Nat) (a : List Int) (hN : a.length < N) (hl : a.length ≤ maxLen) : ml_eqIntS N a a = some true := by
 have hloop : ∀ n s, ml_eqIntS_l1 N n s = eqL (fun x y => some (x == y)) n s := by
  intro n
  induction n with
  | zero => intro s; rfl
  | succ n ih => intro ⟨a, b, i⟩; rw [ml_eqIntS_l1, eqL]; simp only [ih, Option.bind_some, bne]
 unfold ml_eqIntS
 simp only [bne_self_eq_false, cond_false, hloop]
 exact eqL_self _ a (fun x _ => by simp) hl N 0 (by omega) (by omega)

theorem markIntS_is (N : Nat) (k : Int) (a : List Int) (hN : a.length < N) (hl : a.length ≤ maxLen) (h0 : 0 ≤ k) (h1 : k + a.length ≤ 4611686018427387904) :
  ml_markIntS N k a = some ((mkAll mkInt a k).2, (mkAll mkInt a k).1) := by
 have := markLoop (M := ml_markIntS_l1 N) (mk := mkInt) (cost := fun _ => 1) (ok := fun _ => True) mkInt_le (fun n k i y e _ h0 h1 hl hy => by
   have hi : i < y.length := (List.getElem?_eq_some_iff.1 hy).1
   rw [ml_markIntS_l1]
   simp only [lt_true hi, cond_true, ix_get hy, Option.bind_some, upd_nat hi, step64 hi hl]
   rw [wrap64 (by omega) (by omega)]
   rfl) (fun n k i y hi => by
   rw [ml_markIntS_l1]
   simp only [lt_false hi, cond_false]) a [] k N (fun _ _ => trivial) h0 (by rw [sumN_const]; omega) hN (by simpa using hl)
 unfold ml_markIntS
 simpa using this

theorem heldIntS_is (N : Nat) (k : Int) (a : List Int) (hN : a.length < N) (hl : a.length ≤ maxLen) (h0 : 0 ≤ k) (h1 : k + a.length ≤ 4611686018427387904) :
  ml_heldIntS N (mkAll mkInt a k).1 k = some (mkAll mkInt a k).2 := by
 have := heldLoop (L := ml_heldIntS_l1 N) (mk := mkInt) (cost := fun _ => 1) (ok := fun _ => True) mkInt_le (fun n k i y e _ h0 h1 hl hy => by
   have hi : i < y.length := (List.getElem?_eq_some_iff.1 hy).1
   rw [ml_heldIntS_l1]
   simp only [lt_true hi, cond_true, ix_get hy, Option.bind_some, step64 hi hl, mkInt, bne_self_eq_false, cond_false]
   rw [wrap64 (by omega) (by omega)]) (fun n k i y hi => by
   rw [ml_heldIntS_l1]
   simp only [lt_false hi, cond_false]) a [] k N (fun _ _ => trivial) h0 (by rw [sumN_const]; omega) hN (by simpa using hl)
 unfold ml_heldIntS
 simpa using this

theorem mkInts_snd (a : List Int) (k : Int) : (mkAll mkInt a k).2 = k + a.length := by
 induction a generalizing k with
 | nil => simp [mkAll]
 | cons x a ih => simp only [mkAll, ih, mkInt, List.length_cons]; omega


theorem markText_l (N : Nat) : ∀ (n : Nat) (k : Int) (s : List UInt8), 0 ≤ k → k < 10 ^ n → k ≤ 9223372036854775807 → s.length + n ≤ 100 → ∃ r, ml_markText_l1 N (n + 1) (k, s) = some r := by
 intro n
 induction n with
 | zero =>
  intro k s h0 h1 _ hs
  have : k = 0 := by omega
  subst this
  exact ⟨109 :: s, by simp [ml_markText_l1, cat, maxLen]; omega⟩
 | succ n ih =>
  intro k s h0 h1 h2 hs
  rw [ml_markText_l1]
  by_cases hk : k > 0
  ·have hd : decide (k > 0) = true := by simp [hk]
   have hq : Int.tdiv k 10 = k / 10 := Int.tdiv_eq_ediv_of_nonneg h0
   have hb : k / 10 < 10 ^ n := by rw [Int.pow_succ] at h1; omega
   rw [hd, cond_true, cat_some (by simp [maxLen]; omega), Option.bind_some, hq, wrap64 (n := k / 10) (by omega) (by omega)]
   exact ih _ _ (by omega) hb (by omega) (by simp; omega)
  ·have hd : decide (k > 0) = false := by simp; omega
   rw [hd, cond_false, cat_some (by simp [maxLen]; omega)]
   exact ⟨_, rfl⟩

def mT (N : Nat) (k : Int) : List UInt8 := (ml_markText N k).getD []

theorem mT_is (N : Nat) (k : Int) (hN : 30 ≤ N) (h0 : 0 ≤ k) (h1 : k ≤ 9223372036854775807) : ml_markText N k = some (mT N k) := by
 have : ∃ r, ml_markText N k = some r := by
  unfold ml_markText
  by_cases hk : k ≤ 0
  ·exact ⟨[109, 48], by simp [hk]⟩
  ·have hd : decide (k ≤ 0) = false := by simp; omega
   rw [hd, cond_false]
   obtain ⟨m, rfl⟩ : ∃ m, N = (m + 20) + 1 := ⟨N - 21, by omega⟩
   obtain ⟨r, hr⟩ := markText_l (m + 20 + 1) 19 k [] h0 (by omega) h1 (by simp)
   have mono : ∀ (n d : Nat) (s : Int × List UInt8) r, ml_markText_l1 (m + 20 + 1) n s = some r → ml_markText_l1 (m + 20 + 1) (n + d) s = some r := by
    intro n
    induction n with
    | zero => intro d s r h; cases h
    | succ n ih =>
     intro d s r h
     obtain ⟨a, b⟩ := s
     rw [show n + 1 + d = (n + d) + 1 by omega]
     rw [ml_markText_l1] at h ⊢
     cases hc : decide (a > 0) with
     | true =>
      rw [hc] at h
      simp only [cond_true] at h ⊢
      cases hcat : cat [bytI (IntKind.wrap .i64 (48 + a.tmod 10))] b with
      | none => rw [hcat] at h; cases h
      | some s2 => rw [hcat] at h; exact ih d _ r h
     | false =>
      rw [hc] at h
      exact h
   exact ⟨r, by have := mono 20 (m + 1) _ r hr; rw [show 20 + (m + 1) = m + 20 + 1 by omega] at this; exact this⟩
 obtain ⟨r, hr⟩ := this
 unfold mT
 rw [hr]
 rfl

def szToken (x : SToken) : Nat := x.Text.length

def okToken (x : SToken) : Prop := x.Text.length ≤ maxLen

theorem szToken_is (x : SToken) (hx : okToken x) : Sz (ml_szToken x) (szToken x) := by
 intro b h0 h1
 have hText := hx
 unfold okToken at hText
 simp only [maxLen] at hText
 unfold ml_szToken szToken
 rw [wrap64 (n := b - (x.Text.length : Int)) (by omega) (by omega)]
 by_cases g0 : b - (x.Text.length : Int) < 0
 ·exact ⟨-1, by simp [g0], .inl ⟨by omega, by omega⟩⟩
 exact ⟨b - (x.Text.length : Int), by simp [g0], .inr ⟨by omega, by omega⟩⟩

theorem szTokenS_is (N : Nat) (a : List SToken) (hN : a.length < N) (hl : a.length ≤ maxLen) (ha : ∀ x, x ∈ a → okToken x) : Sz (ml_szTokenS N a) (a.length + sumN szToken a) := by
 have hloop : ∀ n s, ml_szTokenS_l1 N n s = szL ml_szToken n s := by
  intro n
  induction n with
  | zero => intro s; rfl
  | succ n ih => intro ⟨a, b, i⟩; rw [ml_szTokenS_l1, szL]; simp only [ih]
 intro b h0 h1
 have := Sz.list (f := ml_szToken) (sz := szToken) (fun x hx => szToken_is x (ha x hx)) hl (g := fun n b => bif decide (IntKind.wrap .i64 (b - (a.length : Int)) < 0) then some (-1) else szL ml_szToken n (a, IntKind.wrap .i64 (b - (a.length : Int)), 0)) hN (fun b => rfl) b h0 h1
 unfold ml_szTokenS
 simpa only [hloop] using this

def smToken (x : SToken) : Prop := x.Text.length ≤ 1048576

theorem smToken_of (a : List SToken) (h : a.length + sumN szToken a ≤ 1048576) : ∀ x, x ∈ a → smToken x := by
 intro x hx
 have := sumN_mem (sz := szToken) hx
 have e : szToken x = x.Text.length := rfl
 rw [e] at this
 unfold smToken
 omega

theorem toToken_is (x : SToken) (hx : smToken x) : ml_toToken x = some x := by
 unfold ml_toToken
 rfl

theorem toTokenS_is (N : Nat) (a : List SToken) (hN : 1048576 < N) (hl : a.length ≤ 1048576) (ha : ∀ x, x ∈ a → smToken x) : ml_toTokenS N a = some a := by
 have hloop : ∀ n s, ml_toTokenS_l1 N n s = toL ml_toToken n s := by
  intro n
  induction n with
  | zero => intro s; rfl
  | succ n ih => intro ⟨a, i, y⟩; rw [ml_toTokenS_l1, toL]; simp only [ih]
 unfold ml_toTokenS
 rw [mk_some (by omega) (by simp only [maxLen]; omega), Option.bind_some, hloop]
 exact toL_is _ a (fun x hx => toToken_is x (ha x hx)) (by simp only [maxLen]; omega) N 0 _ (by omega) (by omega) (by simp) (by simp)

theorem eqToken_self (x : SToken) (hx : smToken x) : ml_eqToken x x = some true := by
 unfold ml_eqToken
 simp

theorem eqTokenS_self (N : Nat) (a : List SToken) (hN : 1048576 < N) (hl : a.length ≤ 1048576) (ha : ∀ x, x ∈ a → smToken x) : ml_eqTokenS N a a = some true := by
 have hloop : ∀ n s, ml_eqTokenS_l1 N n s = eqL (ml_eqToken) n s := by
  intro n
  induction n with
  | zero => intro s; rfl
  | succ n ih => intro ⟨a, b, i⟩; rw [ml_eqTokenS_l1, eqL]; simp only [ih]
 unfold ml_eqTokenS
 simp only [bne_self_eq_false, cond_false, hloop]
 exact eqL_self _ a (fun x hx => eqToken_self x (ha x hx)) (by simp only [maxLen]; omega) N 0 (by omega) (by omega)

def mkToken (N : Nat) (x : SToken) (k : Int) : SToken × Int := (⟨k, mT N (k + 1), (k + 2)⟩, k + 3)

def costToken (x : SToken) : Nat := 3

theorem mkToken_le (N : Nat) (x : SToken) (k : Int) (_ : 0 ≤ k) : k ≤ (mkToken N x k).2 ∧ (mkToken N x k).2 ≤ k + costToken x := by
 simp only [mkToken, costToken]
 omega

theorem markTokenS_is (N : Nat) (k : Int) (a : List SToken) (hN : 1048576 < N) (hl : a.length ≤ 1048576) (ha : ∀ x, x ∈ a → smToken x) (h0 : 0 ≤ k) (h1 : k + sumN costToken a ≤ 4611686018427387904) :
  ml_markTokenS N k a = some ((mkAll (mkToken N) a k).2, (mkAll (mkToken N) a k).1) := by
 have := markLoop (M := ml_markTokenS_l1 N) (mk := mkToken N) (cost := costToken) (ok := smToken) (mkToken_le N) (fun n k i y e hs h0 h1 hl hy => by
   have hi : i < y.length := (List.getElem?_eq_some_iff.1 hy).1
   have he : y[i] = e := (List.getElem?_eq_some_iff.1 hy).2
   unfold costToken at h1
   unfold smToken at hs
   rw [ml_markTokenS_l1]
   have w1 : IntKind.wrap .i64 (k + 1) = k + 1 := wrap64 (by omega) (by omega)
   have w2 : IntKind.wrap .i64 (k + 1 + 1) = k + 2 := by rw [wrap64 (by omega) (by omega)]; omega
   have w3 : IntKind.wrap .i64 (k + 2 + 1) = k + 3 := by rw [wrap64 (by omega) (by omega)]; omega
   have t1 := mT_is N (k + 1) (by omega) (by omega) (by omega)
   simp only [lt_true hi, cond_true, ix_nat, upd_nat, List.length_set, hi, List.getElem_set_self, List.set_set, he, Option.bind_some, step64 hi hl, w1, w2, w3, t1]
   rfl) (fun n k i y hi => by
   rw [ml_markTokenS_l1]
   simp only [lt_false hi, cond_false]) a [] k N ha h0 h1 (by omega) (by simp [maxLen]; omega)
 unfold ml_markTokenS
 simpa using this

theorem costToken_le (a : List SToken) (ha : ∀ x, x ∈ a → smToken x) (hl : a.length ≤ 1048576) : sumN costToken a ≤ 1099512676352 * 4 := by
 have : ∀ l : List SToken, (∀ x, x ∈ l → smToken x) → sumN costToken l ≤ 1048582 * l.length := by
  intro l
  induction l with
  | nil => intro _; simp [sumN]
  | cons x l ih =>
   intro h
   have h1 := ih fun y hy => h y (by simp [hy])
   have h2 := h x (by simp)
   unfold smToken at h2
   simp only [sumN, List.map_cons, List.sum_cons, List.length_cons, costToken] at h1 ⊢
   omega
 have := this a ha
 omega

def smNode (x : SNode) : Prop := x.Text.length ≤ 1048576 ∧ x.Other.length ≤ 1048576 ∧ x.Kids.length ≤ 1048576

theorem eqNode_self (N : Nat) (x : SNode) (hN : 1048576 < N) (hx : smNode x) : ml_eqNode N x x = some true := by
 unfold ml_eqNode
 unfold smNode at hx
 rw [eqIntS_self N _ (by omega) (by simp only [maxLen]; omega)]
 simp

theorem eqNodeS_self (N : Nat) (a : List SNode) (hN : 1048576 < N) (hl : a.length ≤ 1048576) (ha : ∀ x, x ∈ a → smNode x) : ml_eqNodeS N a a = some true := by
 have hloop : ∀ n s, ml_eqNodeS_l1 N n s = eqL (ml_eqNode N) n s := by
  intro n
  induction n with
  | zero => intro s; rfl
  | succ n ih => intro ⟨a, b, i⟩; rw [ml_eqNodeS_l1, eqL]; simp only [ih]
 unfold ml_eqNodeS
 simp only [bne_self_eq_false, cond_false, hloop]
 exact eqL_self _ a (fun x hx => eqNode_self N x hN (ha x hx)) (by simp only [maxLen]; omega) N 0 (by omega) (by omega)

def mkNode (N : Nat) (x : SNode) (k : Int) : SNode × Int := (⟨k, (k + 1), mT N (k + 2), mT N (k + 3), (mkAll mkInt x.Kids (k + 4)).1⟩, k + 4 + x.Kids.length)

def costNode (x : SNode) : Nat := 4 + x.Kids.length

theorem mkNode_le (N : Nat) (x : SNode) (k : Int) (_ : 0 ≤ k) : k ≤ (mkNode N x k).2 ∧ (mkNode N x k).2 ≤ k + costNode x := by
 simp only [mkNode, costNode]
 omega

theorem markNodeS_is (N : Nat) (k : Int) (a : List SNode) (hN : 1048576 < N) (hl : a.length ≤ 1048576) (ha : ∀ x, x ∈ a → smNode x) (h0 : 0 ≤ k) (h1 : k + sumN costNode a ≤ 4611686018427387904) :
  ml_markNodeS N k a = some ((mkAll (mkNode N) a k).2, (mkAll (mkNode N) a k).1) := by
 have := markLoop (M := ml_markNodeS_l1 N) (mk := mkNode N) (cost := costNode) (ok := smNode) (mkNode_le N) (fun n k i y e hs h0 h1 hl hy => by
   have hi : i < y.length := (List.getElem?_eq_some_iff.1 hy).1
   have he : y[i] = e := (List.getElem?_eq_some_iff.1 hy).2
   unfold costNode at h1
   unfold smNode at hs
   rw [ml_markNodeS_l1]
   have w1 : IntKind.wrap .i64 (k + 1) = k + 1 := wrap64 (by omega) (by omega)
   have w2 : IntKind.wrap .i64 (k + 1 + 1) = k + 2 := by rw [wrap64 (by omega) (by omega)]; omega
   have w3 : IntKind.wrap .i64 (k + 2 + 1) = k + 3 := by rw [wrap64 (by omega) (by omega)]; omega
   have w4 : IntKind.wrap .i64 (k + 3 + 1) = k + 4 := by rw [wrap64 (by omega) (by omega)]; omega
   have t2 := mT_is N (k + 2) (by omega) (by omega) (by omega)
   have t3 := mT_is N (k + 3) (by omega) (by omega) (by omega)
   have t4 := markIntS_is N (k + 4) e.Kids (by omega) (by simp only [maxLen]; omega) (by omega) (by omega)
   simp only [lt_true hi, cond_true, ix_nat, upd_nat, List.length_set, hi, List.getElem_set_self, List.set_set, he, Option.bind_some, step64 hi hl, w1, w2, w3, w4, t2, t3, t4]
   simp only [mkNode, mkInts_snd]) (fun n k i y hi => by
   rw [ml_markNodeS_l1]
   simp only [lt_false hi, cond_false]) a [] k N ha h0 h1 (by omega) (by simp [maxLen]; omega)
 unfold ml_markNodeS
 simpa using this

theorem heldNodeS_is (N : Nat) (k : Int) (a : List SNode) (hN : 1048576 < N) (hl : a.length ≤ 1048576) (ha : ∀ x, x ∈ a → smNode x) (h0 : 0 ≤ k) (h1 : k + sumN costNode a ≤ 4611686018427387904) :
  ml_heldNodeS N (mkAll (mkNode N) a k).1 k = some (mkAll (mkNode N) a k).2 := by
 have := heldLoop (L := ml_heldNodeS_l1 N) (mk := mkNode N) (cost := costNode) (ok := smNode) (mkNode_le N) (fun n k i y e hs h0 h1 hl hy => by
   have hi : i < y.length := (List.getElem?_eq_some_iff.1 hy).1
   unfold costNode at h1
   unfold smNode at hs
   rw [ml_heldNodeS_l1]
   have w1 : IntKind.wrap .i64 (k + 1) = k + 1 := wrap64 (by omega) (by omega)
   have w2 : IntKind.wrap .i64 (k + 1 + 1) = k + 2 := by rw [wrap64 (by omega) (by omega)]; omega
   have w3 : IntKind.wrap .i64 (k + 2 + 1) = k + 3 := by rw [wrap64 (by omega) (by omega)]; omega
   have w4 : IntKind.wrap .i64 (k + 3 + 1) = k + 4 := by rw [wrap64 (by omega) (by omega)]; omega
   have t2 := mT_is N (k + 2) (by omega) (by omega) (by omega)
   have t3 := mT_is N (k + 3) (by omega) (by omega) (by omega)
   have t4 := heldIntS_is N (k + 4) e.Kids (by omega) (by simp only [maxLen]; omega) (by omega) (by omega)
   simp only [lt_true hi, cond_true, ix_get hy, Option.bind_some, step64 hi hl, mkNode, bne_self_eq_false, cond_false, w1, w2, w3, w4, t2, t3, t4, beq_self_eq_true, Bool.not_true]
   have hn : decide ((mkAll mkInt e.Kids (k + 4)).2 < 0) = false := by rw [mkInts_snd]; simp; omega
   rw [hn, cond_false, mkInts_snd]) (fun n k i y hi => by
   rw [ml_heldNodeS_l1]
   simp only [lt_false hi, cond_false]) a [] k N ha h0 h1 (by omega) (by simp [maxLen]; omega)
 unfold ml_heldNodeS
 simpa using this

theorem costNode_le (a : List SNode) (ha : ∀ x, x ∈ a → smNode x) (hl : a.length ≤ 1048576) : sumN costNode a ≤ 1099512676352 * 4 := by
 have : ∀ l : List SNode, (∀ x, x ∈ l → smNode x) → sumN costNode l ≤ 1048582 * l.length := by
  intro l
  induction l with
  | nil => intro _; simp [sumN]
  | cons x l ih =>
   intro h
   have h1 := ih fun y hy => h y (by simp [hy])
   have h2 := h x (by simp)
   unfold smNode at h2
   simp only [sumN, List.map_cons, List.sum_cons, List.length_cons, costNode] at h1 ⊢
   omega
 have := this a ha
 omega


end Go.Proofs.Tryz
