/-
 Plain lemmas on the models, part 3.
-/
import Derived.Test.YtkfcajnnbhahoaaGreatDoorLgFP2
namespace Go.Proofs.Tryz
open Go.Av
set_option maxRecDepth 100000
set_option linter.unusedSimpArgs false
set_option linter.unusedVariables false

def isE (k : Int) : Bool := decide (k ≥ 1) && decide (k ≤ 15)
def isS (k : Int) : Bool := decide (k ≥ 20) && decide (k ≤ 34)
def isL (k : Int) : Bool := k == 1 || (k == 5 || k == 6)

theorem isE_spec (k : Int) : ms_IsExpr k = some (isE k) := by unfold ms_IsExpr; rw [l1In_is]; rfl
theorem isE_impl (k : Int) : mi_IsExpr k = some (isE k) := by unfold mi_IsExpr; rw [within_is]; rfl
theorem isS_spec (k : Int) : ms_IsStmt k = some (isS k) := by unfold ms_IsStmt; rw [l1In_is]; rfl
theorem isS_impl (k : Int) : mi_IsStmt k = some (isS k) := by unfold mi_IsStmt; rw [within_is]; rfl
theorem isL_spec (k : Int) : ms_IsLvalue k = some (isL k) := by
 unfold ms_IsLvalue isL
 cases (k == 1) <;> cases (k == 5) <;> rfl
theorem isL_impl (k : Int) : mi_IsLvalue k = some (isL k) := by
 unfold mi_IsLvalue isL
 cases (k == 1) <;> cases (k == 5) <;> rfl
theorem isL_E {k : Int} (h : isL k = true) : isE k = true := by
 unfold isL at h
 simp only [Bool.or_eq_true, beq_iff_eq] at h
 rcases h with rfl | rfl | rfl <;> rfl

theorem kid_ex (n : SNode) (k : Nat) (kd : Int) (hf : FK n) (hk : k < n.Kids.length) (hl : n.Kids.length ≤ 400) : ∃ b : Bool, ms_l7Kid n (k : Int) kd = some b ∧ mi_kidOk n (k : Int) kd = some b := by
 have hw : IntKind.wrap .i64 ((n.Kids.length : Int) - 1) = (n.Kids.length : Int) - 1 := wrap64 (by omega) (by omega)
 obtain ⟨f28, f29, f30, f31, f42, f43, _, _⟩ := hf
 obtain ⟨kind, op, text, other, kids⟩ := n
 simp only at hk hl hw f28 f29 f30 f31 f42 f43
 have hEL := @isL_E kd
 rcases Decidable.em (kind = 9) with rfl | h9
 ·refine ⟨isL kd, ?_, ?_⟩ <;> simp only [ms_l7Kid, ms_l7Kid_k1, mi_kidOk, mi_kidOk_k2, Int.reduceBEq, cond_true, isL_spec, isL_impl, oBs]
 rcases Decidable.em (kind = 10) with rfl | h10
 ·refine ⟨isL kd, ?_, ?_⟩ <;> simp only [ms_l7Kid, ms_l7Kid_k1, mi_kidOk, mi_kidOk_k2, Int.reduceBEq, cond_true, cond_false, isL_spec, isL_impl, oBs]
 rcases Decidable.em (kind = 15) with rfl | h15
 ·simp only [ms_l7Kid, ms_l7Kid_k1, mi_kidOk, mi_kidOk_k2, Int.reduceBEq, cond_true, cond_false, isL_spec, isL_impl, isE_spec, isE_impl, oBs]
  generalize isE kd = e at *
  generalize isL kd = l at *
  by_cases h0 : k = 0
  ·subst h0
   have d1 : decide (((0 : Nat) : Int) > 0) = false := by simp
   have d2 : (((0 : Nat) : Int) == 0) = true := by simp
   rw [d1, d2]
   cases e <;> cases l <;> first | exact ⟨_, rfl, rfl⟩ | exact absurd (hEL rfl) (by simp)
  ·have d1 : decide ((k : Int) > 0) = true := by simp; omega
   have d2 : ((k : Int) == 0) = false := by simp; omega
   rw [d1, d2]
   cases e <;> exact ⟨_, rfl, rfl⟩
 rcases Decidable.em (kind = 28) with rfl | h28
 ·simp only [ms_l7Kid, ms_l7Kid_k1, mi_kidOk, mi_kidOk_k1, mi_kidOk_k2, mi_kidOk_k3, Int.reduceBEq, cond_true, cond_false, isE_spec, isE_impl, oBs]
  by_cases h0 : k = 0
  ·subst h0
   have d1 : decide (((0 : Nat) : Int) > 0) = false := by simp
   have d2 : (((0 : Nat) : Int) == 0) = true := by simp
   rw [d1, d2]
   cases isE kd <;> exact ⟨_, rfl, rfl⟩
  ·have d1 : decide ((k : Int) > 0) = true := by simp; omega
   have d2 : ((k : Int) == 0) = false := by simp; omega
   rw [d1, d2]
   exact ⟨_, rfl, rfl⟩
 rcases Decidable.em (kind = 29) with rfl | h29
 ·have hlen := f29 rfl
  simp only [ms_l7Kid, ms_l7Kid_k1, mi_kidOk, mi_kidOk_k1, mi_kidOk_k2, mi_kidOk_k3, Int.reduceBEq, cond_true, cond_false, isE_spec, isE_impl, oBs]
  rcases (show k = 0 ∨ k = 1 by omega) with rfl | rfl
  ·cases isE kd <;> exact ⟨_, rfl, rfl⟩
  ·exact ⟨_, rfl, rfl⟩
 rcases Decidable.em (kind = 30) with rfl | h30
 ·have hlen := f30 rfl
  simp only [ms_l7Kid, ms_l7Kid_k1, mi_kidOk, mi_kidOk_k1, mi_kidOk_k2, mi_kidOk_k3, Int.reduceBEq, cond_true, cond_false, isE_spec, isE_impl, oBs]
  rcases (show k = 0 ∨ k = 1 by omega) with rfl | rfl
  ·cases (kd == 33) <;> exact ⟨_, rfl, rfl⟩
  ·exact ⟨_, rfl, rfl⟩
 rcases Decidable.em (kind = 31) with rfl | h31
 ·have hlen := f31 rfl
  simp only [ms_l7Kid, ms_l7Kid_k1, mi_kidOk, mi_kidOk_k1, mi_kidOk_k2, mi_kidOk_k3, Int.reduceBEq, cond_true, cond_false, isE_spec, isE_impl, oBs, hw, hlen]
  rcases (show k = 0 ∨ k = 1 ∨ k = 2 ∨ k = 3 by omega) with rfl | rfl | rfl | rfl
  ·cases isE kd <;> cases (kd == 16) <;> exact ⟨_, rfl, rfl⟩
  ·cases isE kd <;> cases (kd == 16) <;> exact ⟨_, rfl, rfl⟩
  ·cases isE kd <;> cases (kd == 16) <;> exact ⟨_, rfl, rfl⟩
  ·exact ⟨_, rfl, rfl⟩
 rcases Decidable.em (kind = 32) with rfl | h32
 ·simp only [ms_l7Kid, ms_l7Kid_k1, ms_l7Kid_k2, mi_kidOk, mi_kidOk_k1, mi_kidOk_k2, mi_kidOk_k3, mi_kidOk_k4, Int.reduceBEq, cond_true, cond_false]
  exact ⟨_, rfl, rfl⟩
 rcases Decidable.em (kind = 40) with rfl | h40
 ·simp only [ms_l7Kid, ms_l7Kid_k1, ms_l7Kid_k2, mi_kidOk, mi_kidOk_k1, mi_kidOk_k2, mi_kidOk_k3, mi_kidOk_k4, Int.reduceBEq, cond_true, cond_false]
  exact ⟨_, rfl, rfl⟩
 rcases Decidable.em (kind = 41) with rfl | h41
 ·simp only [ms_l7Kid, ms_l7Kid_k1, ms_l7Kid_k2, mi_kidOk, mi_kidOk_k1, mi_kidOk_k2, mi_kidOk_k3, mi_kidOk_k4, Int.reduceBEq, cond_true, cond_false]
  exact ⟨_, rfl, rfl⟩
 rcases Decidable.em (kind = 33) with rfl | h33
 ·simp only [ms_l7Kid, ms_l7Kid_k1, ms_l7Kid_k2, mi_kidOk, mi_kidOk_k1, mi_kidOk_k2, mi_kidOk_k3, mi_kidOk_k4, Int.reduceBEq, cond_true, cond_false, isS_spec, isS_impl, oBs]
  exact ⟨_, rfl, rfl⟩
 rcases Decidable.em (kind = 42) with rfl | h42
 ·simp only [ms_l7Kid, ms_l7Kid_k1, ms_l7Kid_k2, mi_kidOk, mi_kidOk_k1, mi_kidOk_k2, mi_kidOk_k3, mi_kidOk_k4, Int.reduceBEq, cond_true, cond_false, isE_spec, isE_impl, oBs, hw]
  rcases f42 rfl with ⟨rfl, hlen⟩ | ⟨rfl, hlen⟩ | ⟨rfl, hlen⟩ <;> rw [hlen]
  ·obtain rfl : k = 0 := by omega
   cases isE kd <;> exact ⟨_, rfl, rfl⟩
  ·obtain rfl : k = 0 := by omega
   cases (kd == 33) <;> exact ⟨_, rfl, rfl⟩
  ·rcases (show k = 0 ∨ k = 1 by omega) with rfl | rfl
   ·cases isE kd <;> exact ⟨_, rfl, rfl⟩
   ·cases (kd == 33) <;> exact ⟨_, rfl, rfl⟩
 rcases Decidable.em (kind = 43) with rfl | h43
 ·simp only [ms_l7Kid, ms_l7Kid_k1, ms_l7Kid_k2, mi_kidOk, mi_kidOk_k1, mi_kidOk_k2, mi_kidOk_k3, mi_kidOk_k4, Int.reduceBEq, cond_true, cond_false, isE_spec, isE_impl, oBs, hw]
  rcases f43 rfl with ⟨rfl, hlen⟩ | ⟨rfl, hlen⟩ <;> rw [hlen]
  ·rcases (show k = 0 ∨ k = 1 by omega) with rfl | rfl
   ·cases isE kd <;> exact ⟨_, rfl, rfl⟩
   ·cases isE kd <;> exact ⟨_, rfl, rfl⟩
  ·rcases (show k = 0 ∨ k = 1 ∨ k = 2 by omega) with rfl | rfl | rfl
   ·cases isE kd <;> exact ⟨_, rfl, rfl⟩
   ·cases isE kd <;> exact ⟨_, rfl, rfl⟩
   ·cases (kd == 33) <;> exact ⟨_, rfl, rfl⟩
 rcases Decidable.em (kind = 44) with rfl | h44
 ·simp only [ms_l7Kid, ms_l7Kid_k1, ms_l7Kid_k2, mi_kidOk, mi_kidOk_k1, mi_kidOk_k2, mi_kidOk_k3, mi_kidOk_k4, Int.reduceBEq, cond_true, cond_false, oBs, hw]
  cases ((k : Int) == (kids.length : Int) - 1) <;> cases (kd == 33) <;> exact ⟨_, rfl, rfl⟩
 rcases Decidable.em (kind = 45) with rfl | h45
 ·simp only [ms_l7Kid, ms_l7Kid_k1, ms_l7Kid_k2, mi_kidOk, mi_kidOk_k1, mi_kidOk_k2, mi_kidOk_k3, mi_kidOk_k4, mi_isItem, l1In_is, within_is, Int.reduceBEq, cond_true, cond_false, oBs]
  cases (decide (kd ≥ 40) && decide (kd ≤ 44)) <;> exact ⟨_, rfl, rfl⟩
 have e : ∀ k, kind ≠ k → (kind == k) = false := fun k h => by simpa using h
 refine ⟨isE kd, ?_, ?_⟩
 ·simp only [ms_l7Kid, ms_l7Kid_k1, ms_l7Kid_k2, e 9 h9, e 10 h10, e 15 h15, e 28 h28, e 29 h29, e 30 h30, e 31 h31, e 32 h32, e 40 h40, e 41 h41, e 33 h33, e 42 h42, e 43 h43, e 44 h44, e 45 h45, cond_false, isE_spec, oBs]
 ·simp only [mi_kidOk, mi_kidOk_k1, mi_kidOk_k2, mi_kidOk_k3, mi_kidOk_k4, e 9 h9, e 10 h10, e 15 h15, e 28 h28, e 29 h29, e 30 h30, e 31 h31, e 32 h32, e 40 h40, e 41 h41, e 33 h33, e 42 h42, e 43 h43, e 44 h44, e 45 h45, cond_false, isE_impl, oBs]

mutual
def szT : STree → Nat
 | ⟨_, _, _, _, ks⟩ => szTs ks + 1
def szTs : List STree → Nat
 | [] => 0
 | t :: ts => szT t + szTs ts
end
mutual
def lst (b : Nat) : STree → List SNode
 | ⟨k, o, t, p, ks⟩ => lsts b ks ++ [⟨k, o, t, p, endsT b ks⟩]
def lsts (b : Nat) : List STree → List SNode
 | [] => []
 | t :: ts => lst b t ++ lsts (b + szT t) ts
def endsT (b : Nat) : List STree → List Int
 | [] => []
 | t :: ts => (((b + szT t : Nat) : Int) - 1) :: endsT (b + szT t) ts
end
mutual
theorem STree.ind {P : STree → Prop} (h : ∀ t : STree, (∀ k, k ∈ t.kids → P k) → P t) : ∀ t, P t
 | ⟨k, o, x, y, ks⟩ => h ⟨k, o, x, y, ks⟩ (STree.inds h ks)
theorem STree.inds {P : STree → Prop} (h : ∀ t : STree, (∀ k, k ∈ t.kids → P k) → P t) : ∀ (ks : List STree) k, k ∈ ks → P k
 | [], k, hk => by cases hk
 | t :: ts, k, hk => (List.mem_cons.1 hk).elim (fun e => e ▸ STree.ind h t) (STree.inds h ts k)
end
mutual
theorem lst_len : ∀ (t : STree) (b : Nat), (lst b t).length = szT t
 | ⟨k, o, x, y, ks⟩, b => by rw [lst, szT, List.length_append, lsts_len ks b]; rfl
theorem lsts_len : ∀ (ts : List STree) (b : Nat), (lsts b ts).length = szTs ts
 | [], b => by rw [lsts, szTs]; rfl
 | t :: ts, b => by rw [lsts, szTs, List.length_append, lst_len t b, lsts_len ts _]
end
theorem szT_pos (t : STree) : 1 ≤ szT t := by cases t; rw [szT]; omega
theorem szT_eq (t : STree) : szT t = szTs t.kids + 1 := by cases t; rw [szT]
theorem szTs_len : ∀ ts : List STree, ts.length ≤ szTs ts
 | [] => by simp [szTs]
 | t :: ts => by have := szT_pos t; have := szTs_len ts; rw [szTs]; simp only [List.length_cons]; omega
theorem szTs_mem : ∀ {ts : List STree} {t : STree}, t ∈ ts → szT t ≤ szTs ts
 | t' :: ts, t, h => by
  rw [szTs]
  rcases List.mem_cons.1 h with rfl | h
  ·omega
  ·have := szTs_mem h; omega
theorem szTs_app : ∀ (a b : List STree), szTs (a ++ b) = szTs a + szTs b
 | [], b => by simp [szTs]
 | t :: a, b => by rw [List.cons_append, szTs, szTs, szTs_app a b]; omega
theorem lsts_app : ∀ (a b : List STree) (s : Nat), lsts s (a ++ b) = lsts s a ++ lsts (s + szTs a) b
 | [], b, s => by simp [lsts, szTs]
 | t :: a, b, s => by rw [List.cons_append, lsts, lsts, szTs, lsts_app a b, List.append_assoc, Nat.add_assoc]
theorem endsT_app : ∀ (a b : List STree) (s : Nat), endsT s (a ++ b) = endsT s a ++ endsT (s + szTs a) b
 | [], b, s => by simp [endsT, szTs]
 | t :: a, b, s => by rw [List.cons_append, endsT, endsT, szTs, endsT_app a b, Nat.add_assoc]; rfl
theorem endsT_len : ∀ (ts : List STree) (b : Nat), (endsT b ts).length = ts.length
 | [], b => rfl
 | t :: ts, b => by rw [endsT, List.length_cons, List.length_cons, endsT_len ts _]

def shN (d : Int) (x : SNode) : SNode := ⟨x.Kind, x.Op, x.Text, x.Other, x.Kids.map (· + d)⟩
mutual
theorem lst_sh : ∀ (t : STree) (b d : Nat), lst (b + d) t = (lst b t).map (shN d)
 | ⟨k, o, x, y, ks⟩, b, d => by
  rw [lst, lst, List.map_append, lsts_sh ks b d, endsT_sh ks b d]
  rfl
theorem lsts_sh : ∀ (ts : List STree) (b d : Nat), lsts (b + d) ts = (lsts b ts).map (shN d)
 | [], b, d => rfl
 | t :: ts, b, d => by
  rw [lsts, lsts, List.map_append, lst_sh t b d, Nat.add_right_comm, lsts_sh ts _ d]
theorem endsT_sh : ∀ (ts : List STree) (b d : Nat), endsT (b + d) ts = (endsT b ts).map (· + (d : Int))
 | [], b, d => rfl
 | t :: ts, b, d => by
  rw [endsT, endsT, List.map_cons, Nat.add_right_comm, endsT_sh ts _ d]
  congr 1
  omega
end
theorem endsT_range : ∀ (ts : List STree) (b : Nat) (k : Int), k ∈ endsT b ts → 0 ≤ k ∧ k < b + szTs ts
 | [], b, k, h => by cases h
 | t :: ts, b, k, h => by
  rw [endsT] at h
  rw [szTs]
  have := szT_pos t
  rcases List.mem_cons.1 h with rfl | h
  ·omega
  ·have := endsT_range ts _ k h; omega
mutual
theorem lst_range : ∀ (t : STree) (b : Nat) (x : SNode), x ∈ lst b t → ∀ k, k ∈ x.Kids → 0 ≤ k ∧ k < b + szT t
 | ⟨kd, o, x, y, ks⟩, b, n, h, k, hk => by
  rw [lst] at h
  rw [szT]
  rcases List.mem_append.1 h with h | h
  ·have := lsts_range ks b n h k hk; omega
  ·rw [List.mem_singleton.1 h] at hk
   have := endsT_range ks b k hk; omega
theorem lsts_range : ∀ (ts : List STree) (b : Nat) (x : SNode), x ∈ lsts b ts → ∀ k, k ∈ x.Kids → 0 ≤ k ∧ k < b + szTs ts
 | [], b, n, h, k, hk => by rw [lsts] at h; cases h
 | t :: ts, b, n, h, k, hk => by
  rw [lsts] at h
  rw [szTs]
  rcases List.mem_append.1 h with h | h
  ·have := lst_range t b n h k hk; omega
  ·have := lsts_range ts _ n h k hk; omega
end

mutual
def TA (a : List SNode) : STree → Nat → Nat → Prop
 | ⟨kd, op, x, y, ts⟩, s, i => ∃ n, a[i]? = some n ∧ n.Kind = kd ∧ n.Op = op ∧ n.Text = x ∧ n.Other = y ∧ KA a ts n.Kids s i
def KA (a : List SNode) : List STree → List Int → Nat → Nat → Prop
 | [], ks, s, e => ks = [] ∧ s = e
 | t :: ts, ks, s, e => ∃ (k : Nat) (ks' : List Int), ks = (k : Int) :: ks' ∧ s ≤ k ∧ k < e ∧ TA a t s k ∧ KA a ts ks' (k + 1) e
end

def part (a : List SNode) (s e : Nat) : List SNode := (a.drop s).take (e - s)
theorem part_cat {a : List SNode} {s m e : Nat} (h1 : s ≤ m) (h2 : m ≤ e) : part a s m ++ part a m e = part a s e := by
 unfold part
 rw [show e - s = (m - s) + (e - m) by omega, List.take_add, List.drop_drop, show s + (m - s) = m by omega]
theorem part_one {a : List SNode} {i : Nat} {n : SNode} (h : a[i]? = some n) : part a i (i + 1) = [n] := by
 obtain ⟨hi, rfl⟩ := List.getElem?_eq_some_iff.1 h
 unfold part
 rw [show i + 1 - i = 1 by omega, List.drop_eq_getElem_cons hi]
 rfl
theorem part_nil (a : List SNode) (i : Nat) : part a i i = [] := by
 unfold part
 simp
theorem part_all (a : List SNode) : part a 0 a.length = a := by
 unfold part
 simp

theorem TA.lt {a : List SNode} {t : STree} {s i : Nat} (h : TA a t s i) : i < a.length := by
 cases t
 rw [TA] at h
 obtain ⟨n, hn, _⟩ := h
 exact (List.getElem?_eq_some_iff.1 hn).1

mutual
theorem TA.part {a : List SNode} : ∀ {t : STree} {s i : Nat}, TA a t s i → s ≤ i ∧ szT t = i + 1 - s ∧ part a s (i + 1) = lst s t
 | ⟨kd, op, x, y, ts⟩, s, i, h => by
  rw [TA] at h
  obtain ⟨n, hn, rfl, rfl, rfl, rfl, hk⟩ := h
  obtain ⟨h1, h2, h3, h4⟩ := KA.part hk
  refine ⟨h1, by rw [szT]; omega, ?_⟩
  rw [lst, ← h3, ← h4, ← part_cat h1 (Nat.le_succ i), part_one hn]
theorem KA.part {a : List SNode} : ∀ {ts : List STree} {ks : List Int} {s e : Nat}, KA a ts ks s e → s ≤ e ∧ szTs ts = e - s ∧ Go.Proofs.Tryz.part a s e = lsts s ts ∧ ks = endsT s ts
 | [], ks, s, e, h => by
  rw [KA] at h
  obtain ⟨rfl, rfl⟩ := h
  exact ⟨Nat.le_refl _, by rw [szTs]; omega, by rw [part_nil, lsts], by rw [endsT]⟩
 | t :: ts, ks, s, e, h => by
  rw [KA] at h
  obtain ⟨k, ks', rfl, h1, h2, ht, hk⟩ := h
  obtain ⟨g1, g2, g3⟩ := TA.part ht
  obtain ⟨k1, k2, k3, k4⟩ := KA.part hk
  have e1 : s + szT t = k + 1 := by omega
  refine ⟨by omega, by rw [szTs]; omega, ?_, ?_⟩
  ·rw [lsts, e1, ← g3, ← k3, part_cat (by omega) (by omega)]
  ·rw [endsT, e1, ← k4]
   congr 1
   omega
end

mutual
theorem TA.uniq {a : List SNode} : ∀ {t t' : STree} {s s' i : Nat}, TA a t s i → TA a t' s' i → t = t' ∧ s = s'
 | ⟨kd, op, x, y, ts⟩, ⟨kd', op', x', y', ts'⟩, s, s', i, h, h' => by
  rw [TA] at h h'
  obtain ⟨n, hn, rfl, rfl, rfl, rfl, hk⟩ := h
  obtain ⟨n', hn', rfl, rfl, rfl, rfl, hk'⟩ := h'
  rw [hn] at hn'
  cases hn'
  obtain ⟨rfl, rfl⟩ := KA.uniq hk hk'
  exact ⟨rfl, rfl⟩
theorem KA.uniq {a : List SNode} : ∀ {ts ts' : List STree} {ks : List Int} {s s' e : Nat}, KA a ts ks s e → KA a ts' ks s' e → ts = ts' ∧ s = s'
 | [], [], ks, s, s', e, h, h' => by
  rw [KA] at h h'
  exact ⟨rfl, h.2.trans h'.2.symm⟩
 | [], t' :: ts', ks, s, s', e, h, h' => by
  simp only [KA] at h h'
  obtain ⟨k, ks', e1, _⟩ := h'
  rw [h.1] at e1; cases e1
 | t :: ts, [], ks, s, s', e, h, h' => by
  simp only [KA] at h h'
  obtain ⟨k, ks', e1, _⟩ := h
  rw [h'.1] at e1; cases e1
 | t :: ts, t' :: ts', ks, s, s', e, h, h' => by
  rw [KA] at h h'
  obtain ⟨k, ks', rfl, _, _, ht, hk⟩ := h
  obtain ⟨k2, ks2, e1, _, _, ht', hk'⟩ := h'
  injection e1 with e1 e2
  have : k = k2 := by omega
  subst this
  subst e2
  obtain ⟨rfl, rfl⟩ := TA.uniq ht ht'
  obtain ⟨rfl, _⟩ := KA.uniq hk hk'
  exact ⟨rfl, rfl⟩
end

theorem KA.of {a : List SNode} {r : List Int} {e : Nat} (ih : ∀ k s : Nat, k < e → r[k]? = some (s : Int) → ∃ t, TA a t s k) : ∀ (ks : List Int) (s : Nat), Go.Av.Kids r (s : Int) (e : Int) ks → ∃ ts, KA a ts ks s e
  | [], s, h => by
    simp only [Go.Av.Kids] at h
    exact ⟨[], by rw [KA]; exact ⟨rfl, by omega⟩⟩
  | k :: ks, s, h => by
    obtain ⟨h0, h1, h2, h3, h4⟩ := h
    obtain ⟨kn, rfl⟩ := Int.eq_ofNat_of_zero_le (show 0 ≤ k by omega)
    rw [Int.toNat_natCast] at h3
    obtain ⟨t, ht⟩ := ih kn s (by omega) h3
    obtain ⟨ts, hts⟩ := KA.of ih ks (kn + 1) (by have : ((kn + 1 : Nat) : Int) = (kn : Int) + 1 := by omega
                                                 rw [this]; exact h4)
    exact ⟨t :: ts, by rw [KA]; exact ⟨kn, ks, rfl, by omega, by omega, ht, hts⟩⟩

theorem TA.of {a : List SNode} {r : List Int} (hl : Low r) (hk : ∀ (i : Nat) (hi : i < a.length), ∃ s, r[i]? = some s ∧ Go.Av.Kids r s (i : Int) a[i].Kids) : ∀ (i s : Nat), i < a.length → r[i]? = some (s : Int) → ∃ t, TA a t s i := by
 intro i
 induction i using Nat.strongRecOn with
 | ind i ih =>
  intro s hi hs
  obtain ⟨s', hs', hks⟩ := hk i hi
  rw [hs] at hs'
  cases hs'
  obtain ⟨ts, hts⟩ := KA.of (a := a) (r := r) (e := i) (fun k s hk' hr => ih k hk' s (by omega) hr) _ _ hks
  exact ⟨⟨a[i].Kind, a[i].Op, a[i].Text, a[i].Other, ts⟩, by rw [TA]; exact ⟨a[i], List.getElem?_eq_getElem hi, rfl, rfl, rfl, rfl, hts⟩⟩

theorem shape_of {a : List SNode} (h : shapeB a = true) : 1 ≤ a.length ∧ a.length ≤ 400 ∧ ∃ r, starts (kidsN a) [] = some r ∧ r.length = a.length ∧ Low r ∧
  (∀ i, i < a.length → ∃ (t : STree) (s : Nat), r[i]? = some (s : Int) ∧ TA a t s i) ∧ ∃ t, TA a t 0 (a.length - 1) := by
 unfold shapeB at h
 simp only [Bool.and_eq_true, decide_eq_true_eq] at h
 obtain ⟨⟨h1, h2⟩, h3⟩ := h
 cases hst : starts (kidsN a) [] with
 | none => rw [hst] at h3; cases h3
 | some r =>
  rw [hst] at h3
  obtain ⟨⟨m, hm, hml⟩, hl, hk⟩ := starts_spec _ (fun j s h => by simp at h) hst
  have hrl : r.length = a.length := by rw [hm]; simp [hml, kidsN]
  have hk' : ∀ (i : Nat) (hi : i < a.length), ∃ s, r[i]? = some s ∧ Go.Av.Kids r s (i : Int) a[i].Kids := fun i hi => by
   obtain ⟨s, e1, e2⟩ := hk i a[i].Kids (by simp [kidsN, List.getElem?_eq_getElem hi])
   simp only [List.length_nil, Nat.zero_add] at e1 e2
   exact ⟨s, e1, e2⟩
  refine ⟨h1, h2, r, rfl, hrl, hl, fun i hi => ?_, ?_⟩
  ·obtain ⟨s, hs, _⟩ := hk' i hi
   have := (hl i s hs).1
   obtain ⟨sn, rfl⟩ := Int.eq_ofNat_of_zero_le this
   obtain ⟨t, ht⟩ := TA.of hl hk' i sn hi hs
   exact ⟨t, sn, hs, ht⟩
  ·have : r[a.length - 1]? = some ((0 : Nat) : Int) := by simpa [rootAt] using h3
   exact TA.of hl hk' (a.length - 1) 0 (by omega) this

theorem shape_kids {a : List SNode} (h : shapeB a = true) : ∀ x, x ∈ a → x.Kids.length ≤ 400 ∧ ∀ k, k ∈ x.Kids → 0 ≤ k ∧ k < a.length := by
 obtain ⟨h1, h2, r, _, _, _, hT, t, ht⟩ := shape_of h
 obtain ⟨g1, g2, g3⟩ := ht.part
 rw [show a.length - 1 + 1 = a.length by omega, part_all] at g3
 intro x hx
 constructor
 ·obtain ⟨i, hi, rfl⟩ := List.getElem_of_mem hx
  obtain ⟨t', s, _, ht'⟩ := hT i hi
  cases t'
  rw [TA] at ht'
  obtain ⟨n, hn, _, _, _, _, hk⟩ := ht'
  rw [List.getElem?_eq_getElem hi] at hn
  cases hn
  obtain ⟨k1, k2, k3, k4⟩ := hk.part
  have := szTs_len ‹List STree›
  rw [k4, endsT_len]
  omega
 ·intro k hk
  rw [g3] at hx
  have := lst_range t 0 x hx k hk
  omega

theorem treeAt_l (a : List SNode) (e : SNode) (M i : Nat) : ∀ (ts : List STree) (j n s : Nat) (acc : List STree), (∀ t, t ∈ ts → ∀ s k : Nat, TA a t s k → k < i → (scc5 M).mi_treeAt a (k : Int) = some t) → KA a ts (e.Kids.drop j) s i → acc.length = j → j ≤ e.Kids.length → e.Kids.length ≤ 100000 → ts.length < n →
  mi_treeAt_l1 M (scc5 M) n (a, e, (j : Int), acc) = some ⟨e.Kind, e.Op, e.Text, e.Other, acc ++ ts⟩
 | [], j, n, s, acc, ih, h, ha, hj, he, hn => by
  simp only [KA] at h
  obtain ⟨n, rfl⟩ : ∃ m, n = m + 1 := ⟨n - 1, by simp at hn; omega⟩
  have hlt : ¬ j < e.Kids.length := by
   intro hlt
   rw [drop_cons hlt] at h
   cases h.1
  rw [mi_treeAt_l1]
  simp only [lt_false hlt, cond_false, List.append_nil]
 | t :: ts, j, n, s, acc, ih, h, ha, hj, he, hn => by
  simp only [KA] at h
  obtain ⟨k, ks', hd, h1, h2, hta, hka⟩ := h
  simp only [List.length_cons] at hn
  obtain ⟨n, rfl⟩ : ∃ m, n = m + 1 := ⟨n - 1, by omega⟩
  have hlt : j < e.Kids.length := by
   cases Nat.lt_or_ge j e.Kids.length with
   | inl h => exact h
   | inr h => rw [List.drop_of_length_le h] at hd; cases hd
  rw [drop_cons hlt] at hd
  injection hd with hd1 hd2
  rw [mi_treeAt_l1]
  simp only [lt_true hlt, cond_true, ix_nat hlt, hd1, oBs]
  rw [ih t (by simp) s k hta h2, oBs, app_some (by simp; omega), oBs, wrap64 (by omega) (by omega)]
  have := treeAt_l a e M i ts (j + 1) n (k + 1) (acc ++ [t]) (fun t' h' => ih t' (by simp [h'])) (hd2 ▸ hka) (by simp [ha]) (by omega) he (by omega)
  rw [List.append_assoc] at this
  exact this

theorem treeAt_is (a : List SNode) : ∀ (t : STree) (s i N : Nat), TA a t s i → i ≤ 100000 → 2 * szT t + 2 ≤ N → (scc5 N).mi_treeAt a (i : Int) = some t := by
 intro t
 induction t using STree.ind with
 | h t ih =>
  intro s i N h hi hN
  obtain ⟨M, rfl⟩ : ∃ M, N = M + 1 := ⟨N - 1, by omega⟩
  obtain ⟨kd, op, x, y, ts⟩ := t
  have hsz := (TA.part h).2.1
  rw [TA] at h
  obtain ⟨n, hn, rfl, rfl, rfl, rfl, hk⟩ := h
  obtain ⟨h1, h2, h3, h4⟩ := hk.part
  have hkl : n.Kids.length = ts.length := by rw [h4, endsT_len]
  have htl := szTs_len ts
  rw [szT] at hsz hN
  show mi_treeAt_F M (scc5 M) a (i : Int) = _
  unfold mi_treeAt_F
  rw [ix_get hn, oBs]
  have := treeAt_l a n M i ts 0 M s [] (fun t' ht' s' k hta hki => ih t' ht' s' k M hta (by omega) (by have := szTs_mem ht'; omega)) (by simpa using hk) rfl (by omega) (by omega) (by omega)
  simpa using this

theorem rootOf_is (N : Nat) (a : List SNode) (hN : 1000 < N) {t : STree} (h : TA a t 0 (a.length - 1)) (h1 : 1 ≤ a.length) (h2 : a.length ≤ 400) : mi_rootOf N a = some t := by
 obtain ⟨_, hs, _⟩ := h.part
 unfold mi_rootOf
 rw [wrap64 (by omega) (by omega), show (a.length : Int) - 1 = ((a.length - 1 : Nat) : Int) by omega]
 have := treeAt_is a t 0 (a.length - 1) N h (by omega) (by omega)
 show Option.bind ((scc5 N).mi_treeAt a _) _ = _
 rw [this]
 rfl


theorem add_l (t : STree) (G : Nat) : ∀ (ts : List STree) (j n : Nat) (acc : List SNode) (ids : List Int), (∀ k, k ∈ ts → ∀ acc : List SNode, acc.length + szT k ≤ 1000000 → (scc8 G).mi_tree__add k acc = some (acc ++ lst acc.length k)) → t.kids.drop j = ts → ts.length < n →
  acc.length + szTs ts ≤ 999999 → ids.length + ts.length ≤ 1000000 → t.kids.length ≤ 1000000 →
  mi_tree__add_l1 G (scc8 G) n (t, (j : Int), acc, ids) = some (acc ++ lsts acc.length ts ++ [⟨t.kind, t.op, t.text, t.other, ids ++ endsT acc.length ts⟩])
 | [], j, n, acc, ids, ih, hd, hn, hacc, hids, htl => by
  obtain ⟨n, rfl⟩ : ∃ m, n = m + 1 := ⟨n - 1, by simp at hn; omega⟩
  have hj : ¬ j < t.kids.length := by
   intro h
   rw [drop_cons h] at hd
   cases hd
  rw [mi_tree__add_l1]
  simp only [lt_false hj, cond_false]
  rw [app_some (by simp; omega), oBs]
  simp [lsts, endsT]
 | k :: ts, j, n, acc, ids, ih, hd, hn, hacc, hids, htl => by
  simp only [List.length_cons] at hn hids
  rw [szTs] at hacc
  obtain ⟨n, rfl⟩ : ∃ m, n = m + 1 := ⟨n - 1, by omega⟩
  have hj : j < t.kids.length := by
   cases Nat.lt_or_ge j t.kids.length with
   | inl h => exact h
   | inr h => rw [List.drop_of_length_le h] at hd; cases hd
  rw [drop_cons hj] at hd
  injection hd with hd1 hd2
  have hsz := szT_pos k
  have hlen : (acc ++ lst acc.length k).length = acc.length + szT k := by rw [List.length_append, lst_len]
  rw [mi_tree__add_l1]
  simp only [lt_true hj, cond_true, ix_nat hj, hd1, oBs]
  rw [ih k (by simp) acc (by omega), oBs, hlen, wrap64 (by omega) (by omega), app_some (by simp; omega), oBs, wrap64 (by omega) (by omega)]
  have := add_l t G ts (j + 1) n (acc ++ lst acc.length k) (ids ++ [((acc.length + szT k : Nat) : Int) - 1]) (fun k' h' => ih k' (by simp [h'])) hd2 (by omega) (by rw [hlen]; omega) (by simp; omega) htl
  rw [hlen] at this
  rw [show ((j : Int) + 1) = ((j + 1 : Nat) : Int) by omega, this, lsts, endsT]
  simp only [List.append_assoc, List.cons_append, List.nil_append]

theorem add_is : ∀ (t : STree) (N : Nat) (acc : List SNode), 2 * szT t + 2 ≤ N → acc.length + szT t ≤ 1000000 → (scc8 N).mi_tree__add t acc = some (acc ++ lst acc.length t) := by
 intro t
 induction t using STree.ind with
 | h t ih =>
  intro N acc hN ha
  obtain ⟨M, rfl⟩ : ∃ M, N = M + 1 := ⟨N - 1, by omega⟩
  have hsz := szT_eq t
  have htl := szTs_len t.kids
  show mi_tree__add_F M (scc8 M) t acc = _
  unfold mi_tree__add_F
  have := add_l t M t.kids 0 M acc [] (fun k hk acc' ha' => ih k hk M acc' (by have := szTs_mem hk; omega) ha') rfl (by omega) (by omega) (by simp; omega) (by omega)
  refine Eq.trans this ?_
  obtain ⟨kd, op, x, y, ts⟩ := t
  rw [lst]
  simp

theorem list_is (N : Nat) (t : STree) (hN : 2 * szT t + 2 ≤ N) (h : szT t ≤ 1000000) : mi_tree__list N t = some (lst 0 t) := by
 unfold mi_tree__list
 have := add_is t N [] hN (by simpa using h)
 show Option.bind ((scc8 N).mi_tree__add t []) _ = _
 rw [this]
 simp

theorem shift_l2 (N : Nat) (kb : (List SNode × Int × Int × List SNode) → Option (List SNode)) (a : List SNode) (d : Int) (i : Nat) (hi : i < a.length) (hi2 : i ≤ 1048576) (out : List SNode) (ho : out.length = i) (hk : a[i].Kids.length ≤ 1048576)
  (hr : ∀ k, k ∈ a[i].Kids → -9223372036854775808 ≤ k + d ∧ k + d ≤ 9223372036854775807) :
  ∀ (n j : Nat) (ks : List Int), a[i].Kids.length - j < n → j ≤ a[i].Kids.length → ks.length = j →
   ms_l6Shift_l2 N kb n (a, d, (i : Int), out, a[i], (j : Int), ks) = kb (a, d, ((i + 1 : Nat) : Int), out ++ [⟨a[i].Kind, a[i].Op, a[i].Text, a[i].Other, ks ++ (a[i].Kids.drop j).map (· + d)⟩]) := by
 intro n
 induction n with
 | zero => intro j ks h; omega
 | succ n ih =>
  intro j ks hn hj hks
  rw [ms_l6Shift_l2, ix_nat hi, oBs]
  by_cases h : j < a[i].Kids.length
  ·have hx := hr _ (List.getElem_mem h)
   simp only [lt_true h, cond_true, ix_nat hi, ix_nat h, oBs, step64 h (by simp only [maxLen]; omega)]
   rw [wrap64 hx.1 hx.2, app_some (by simp; omega), oBs, ih (j + 1) _ (by omega) (by omega) (by simp [hks]), drop_cons h]
   simp only [List.map_cons, List.append_assoc, List.cons_append, List.nil_append]
  ·simp only [lt_false h, cond_false]
   rw [app_some (by simp; omega), oBs, drop_nil h, wrap64 (by omega) (by omega)]
   simp

theorem shift_l1 (N : Nat) (a : List SNode) (d : Int) (hN : 1048577 < N) (ha : a.length ≤ 1048576) (hs : ∀ x, x ∈ a → x.Kids.length ≤ 1048576) (hr : ∀ x, x ∈ a → ∀ k, k ∈ x.Kids → -9223372036854775808 ≤ k + d ∧ k + d ≤ 9223372036854775807) :
  ∀ (n i : Nat) (out : List SNode), a.length - i < n → i ≤ a.length → out.length = i → ms_l6Shift_l1 N n (a, d, (i : Int), out) = some (out ++ (a.drop i).map (shN d)) := by
 intro n
 induction n with
 | zero => intro i out h; omega
 | succ n ih =>
  intro i out hn hi ho
  rw [ms_l6Shift_l1]
  by_cases h : i < a.length
  ·have hx := hs _ (List.getElem_mem h)
   simp only [lt_true h, cond_true, ix_nat h, oBs]
   have := shift_l2 N (ms_l6Shift_l1 N n) a d i h (by omega) out ho (by omega) (hr _ (List.getElem_mem h)) N 0 [] (by omega) (by omega) rfl
   simp only [List.drop_zero, List.nil_append] at this
   refine Eq.trans this ?_
   rw [ih (i + 1) _ (by omega) (by omega) (by simp [ho]), drop_cons h]
   simp only [List.map_cons, List.append_assoc, List.cons_append, List.nil_append, shN]
  ·simp only [lt_false h, cond_false]
   rw [drop_nil h]
   simp

theorem shift_is (N : Nat) (a : List SNode) (d : Int) (hN : 1048577 < N) (ha : a.length ≤ 1048576) (hs : ∀ x, x ∈ a → x.Kids.length ≤ 1048576) (hr : ∀ x, x ∈ a → ∀ k, k ∈ x.Kids → -9223372036854775808 ≤ k + d ∧ k + d ≤ 9223372036854775807) :
  ms_l6Shift N a d = some (a.map (shN d)) := by
 have := shift_l1 N a d hN ha hs hr N 0 [] (by omega) (by omega) rfl
 rw [List.drop_zero, List.nil_append] at this
 exact this

mutual
theorem lst_kids : ∀ (t : STree) (b : Nat) (x : SNode), x ∈ lst b t → x.Kids.length < szT t
 | ⟨kd, o, x, y, ks⟩, b, n, h => by
  rw [lst] at h
  rw [szT]
  rcases List.mem_append.1 h with h | h
  ·have := lsts_kids ks b n h; omega
  ·rw [List.mem_singleton.1 h]
   have := szTs_len ks
   simp only [endsT_len]
   omega
theorem lsts_kids : ∀ (ts : List STree) (b : Nat) (x : SNode), x ∈ lsts b ts → x.Kids.length < szTs ts
 | [], b, n, h => by rw [lsts] at h; cases h
 | t :: ts, b, n, h => by
  rw [lsts] at h
  rw [szTs]
  rcases List.mem_append.1 h with h | h
  ·have := lst_kids t b n h; omega
  ·have := lsts_kids ts _ n h; omega
end

theorem shiftT_is (N : Nat) (t : STree) (b d : Nat) (hN : 1048577 < N) (h : b + d + szT t ≤ 1000000) : ms_l6Shift N (lst b t) (d : Int) = some (lst (b + d) t) := by
 rw [lst_sh]
 exact shift_is N _ _ hN (by rw [lst_len]; omega) (fun x hx => by have := lst_kids t b x hx; omega) fun x hx k hk => by have := lst_range t b x hx k hk; omega

theorem make_l (N : Nat) (n0 : SNode) (ts : List STree) (hN : 1048577 < N) (hsz : szTs ts ≤ 900000) : ∀ (rest done : List STree) (n : Nat), done ++ rest = ts → rest.length < n →
  ms_l6Make_l1 N n (ts.map (lst 0), n0, (done.length : Int), lsts 0 done, endsT 0 done) = some (lst 0 ⟨n0.Kind, n0.Op, n0.Text, n0.Other, ts⟩)
 | [], done, n, hd, hn => by
  obtain ⟨n, rfl⟩ : ∃ m, n = m + 1 := ⟨n - 1, by simp at hn; omega⟩
  rw [List.append_nil] at hd
  subst hd
  have hl := szTs_len done
  have : ¬ done.length < (done.map (lst 0)).length := by simp
  rw [ms_l6Make_l1]
  simp only [lt_false this, cond_false]
  rw [app_some (by rw [lsts_len]; simp; omega), oBs, lst]
 | t :: rest, done, n, hd, hn => by
  simp only [List.length_cons] at hn
  obtain ⟨n, rfl⟩ : ∃ m, n = m + 1 := ⟨n - 1, by omega⟩
  have hlt : done.length < (ts.map (lst 0)).length := by rw [← hd]; simp
  have hlt2 : done.length < ts.length := by simpa using hlt
  have hx : (ts.map (lst 0))[done.length]'hlt = lst 0 t := by simp [← hd]
  have hsum : szTs done + szT t + szTs rest = szTs ts := by rw [← hd, szTs_app, szTs]; omega
  have hl := szTs_len done
  have hp := szT_pos t
  rw [ms_l6Make_l1]
  simp only [lt_true hlt, cond_true, ix_nat hlt, oBs, hx, lsts_len]
  have hsh := shiftT_is N t 0 (szTs done) hN (by omega)
  rw [Nat.zero_add] at hsh
  rw [hsh, oBs, app_some (by rw [lsts_len, lst_len]; omega), oBs, List.length_append, lsts_len, lst_len, wrap64 (n := ((szTs done + szT t : Nat) : Int) - 1) (by omega) (by omega), app_some (by rw [endsT_len]; simp; omega), oBs, wrap64 (by omega) (by omega)]
  have := make_l N n0 ts hN hsz rest (done ++ [t]) n (by simpa using hd) (by omega)
  rw [lsts_app, endsT_app, Nat.zero_add] at this
  simp only [lsts, endsT, List.append_nil, List.length_append, List.length_cons, List.length_nil] at this
  exact this

theorem make_is (N : Nat) (n0 : SNode) (ts : List STree) (hN : 1048577 < N) (hsz : szTs ts ≤ 900000) : ms_l6Make N n0 (ts.map (lst 0)) = some (lst 0 ⟨n0.Kind, n0.Op, n0.Text, n0.Other, ts⟩) :=
 make_l N n0 ts hN hsz ts [] N rfl (by have := szTs_len ts; omega)

mutual
def depT : STree → Nat
 | ⟨_, _, _, _, ks⟩ => depTs ks + 1
def depTs : List STree → Nat
 | [] => 0
 | t :: ts => max (depT t) (depTs ts)
end
mutual
theorem depT_le : ∀ t : STree, depT t ≤ szT t
 | ⟨k, o, x, y, ks⟩ => by have := depTs_le ks; rw [depT, szT]; omega
theorem depTs_le : ∀ ts : List STree, depTs ts ≤ szTs ts
 | [] => by rw [depTs, szTs]; omega
 | t :: ts => by have := depT_le t; have := depTs_le ts; rw [depTs, szTs]; omega
end
theorem depT_eq (t : STree) : depT t = depTs t.kids + 1 := by cases t; rw [depT]

theorem depth_l (t : STree) (G : Nat) (hsz : szT t ≤ 100000) : ∀ (ts : List STree) (j n m : Nat), (∀ k, k ∈ ts → (scc6 G).mi_tree__depth k = some (depT k : Int)) → t.kids.drop j = ts → ts.length < n → m ≤ 100000 →
  mi_tree__depth_l1 G (scc6 G) n (t, (m : Int), (j : Int)) = some (((max m (depTs ts) + 1 : Nat) : Int))
 | [], j, n, m, ih, hd, hn, hm => by
  obtain ⟨n, rfl⟩ : ∃ m, n = m + 1 := ⟨n - 1, by simp at hn; omega⟩
  have hj : ¬ j < t.kids.length := by
   intro h
   rw [drop_cons h] at hd
   cases hd
  rw [mi_tree__depth_l1]
  simp only [lt_false hj, cond_false]
  rw [wrap64 (by omega) (by omega), depTs]
  congr 1
  omega
 | k :: ts, j, n, m, ih, hd, hn, hm => by
  simp only [List.length_cons] at hn
  obtain ⟨n, rfl⟩ : ∃ m, n = m + 1 := ⟨n - 1, by omega⟩
  have hj : j < t.kids.length := by
   cases Nat.lt_or_ge j t.kids.length with
   | inl h => exact h
   | inr h => rw [List.drop_of_length_le h] at hd; cases hd
  have hjl : t.kids.length ≤ 100000 := by have := szTs_len t.kids; have := szT_eq t; omega
  have hmem : k ∈ t.kids := by
   have : k ∈ t.kids.drop j := by rw [hd]; simp
   exact List.mem_of_mem_drop this
  have hkd : depT k ≤ 100000 := by have := depT_le k; have := szTs_mem hmem; have := szT_eq t; omega
  rw [drop_cons hj] at hd
  injection hd with hd1 hd2
  rw [mi_tree__depth_l1]
  simp only [lt_true hj, cond_true, ix_nat hj, hd1, oBs]
  rw [ih k (by simp), oBs, wrap64 (by omega) (by omega)]
  have hmax : (if (depT k : Int) > (m : Int) then (depT k : Int) else (m : Int)) = ((max m (depT k) : Nat) : Int) := by split <;> omega
  rw [hmax, show ((j : Int) + 1) = ((j + 1 : Nat) : Int) by omega, depth_l t G hsz ts (j + 1) n (max m (depT k)) (fun k' h' => ih k' (by simp [h'])) hd2 (by omega) (by omega), depTs, Nat.max_assoc]

theorem depth_is : ∀ (t : STree) (N : Nat), 2 * szT t + 2 ≤ N → szT t ≤ 100000 → (scc6 N).mi_tree__depth t = some (depT t : Int) := by
 intro t
 induction t using STree.ind with
 | h t ih =>
  intro N hN hsz
  obtain ⟨M, rfl⟩ : ∃ M, N = M + 1 := ⟨N - 1, by omega⟩
  have h1 := szT_eq t
  have h2 := szTs_len t.kids
  show mi_tree__depth_F M (scc6 M) t = _
  unfold mi_tree__depth_F
  have := depth_l t M hsz t.kids 0 M 0 (fun k hk => ih k hk M (by have := szTs_mem hk; omega) (by have := szTs_mem hk; omega)) rfl (by omega) (by omega)
  refine Eq.trans this ?_
  rw [depT_eq, Nat.zero_max]

def DepOk (a : List SNode) (d : List Int) : Prop := ∀ (j : Nat) (v : Int), d[j]? = some v → ∃ t s, TA a t s j ∧ v = depT t

theorem sdepth_l2 (N : Nat) (kb : (List SNode × Int × List Int) → Option Int) (a : List SNode) (ha : a.length ≤ 400) (i : Nat) (hi : i < a.length) (d : List Int) (hd : d.length = i) (hok : DepOk a d) (hkl : a[i].Kids.length ≤ 400) : ∀ (ts : List STree) (j n s m : Nat), KA a ts (a[i].Kids.drop j) s i → j ≤ a[i].Kids.length → ts.length < n → m ≤ 1000 → szTs ts ≤ 400 →
  ms_DepthOf_l2 N kb n (a, (i : Int), d, (m : Int), (j : Int)) = kb (a, ((i + 1 : Nat) : Int), d ++ [((max m (depTs ts + (if ts = [] then 0 else 1)) : Nat) : Int)])
 | [], j, n, s, m, h, hj, hn, hm, hsz => by
  simp only [KA] at h
  obtain ⟨n, rfl⟩ : ∃ m, n = m + 1 := ⟨n - 1, by simp at hn; omega⟩
  have hlt : ¬ j < a[i].Kids.length := by
   intro hlt
   rw [drop_cons hlt] at h
   cases h.1
  rw [ms_DepthOf_l2, ix_nat hi, oBs]
  simp only [lt_false hlt, cond_false]
  rw [app_some (by simp; omega), oBs, wrap64 (by omega) (by omega), depTs]
  simp
 | t :: ts, j, n, s, m, h, hj, hn, hm, hsz => by
  simp only [KA] at h
  obtain ⟨k, ks', hdk, h1, h2, hta, hka⟩ := h
  simp only [List.length_cons] at hn
  rw [szTs] at hsz
  obtain ⟨n, rfl⟩ : ∃ m, n = m + 1 := ⟨n - 1, by omega⟩
  have hlt : j < a[i].Kids.length := by
   cases Nat.lt_or_ge j a[i].Kids.length with
   | inl h => exact h
   | inr h => rw [List.drop_of_length_le h] at hdk; cases hdk
  rw [drop_cons hlt] at hdk
  injection hdk with hd1 hd2
  have hkd : k < d.length := by omega
  obtain ⟨t', s', ht', hv⟩ := hok k d[k] (List.getElem?_eq_getElem hkd)
  obtain ⟨rfl, rfl⟩ := TA.uniq hta ht'
  have hdl := depT_le t
  rw [ms_DepthOf_l2, ix_nat hi, oBs]
  simp only [lt_true hlt, cond_true, ix_nat hi, ix_nat hlt, oBs, hd1]
  rw [ix_nat hkd, oBs, hv, wrap64 (n := 1 + (depT t : Int)) (by omega) (by omega), wrap64 (by omega) (by omega)]
  have hmax : (if 1 + (depT t : Int) > (m : Int) then 1 + (depT t : Int) else (m : Int)) = ((max m (depT t + 1) : Nat) : Int) := by split <;> omega
  rw [hmax, show ((j : Int) + 1) = ((j + 1 : Nat) : Int) by omega, sdepth_l2 N kb a ha i hi d hd hok hkl ts (j + 1) n (k + 1) _ (hd2 ▸ hka) (by omega) (by omega) (by omega) (by omega), depTs]
  have e : max (max m (depT t + 1)) (depTs ts + (if ts = [] then 0 else 1)) = max m (max (depT t) (depTs ts) + (if t :: ts = [] then 0 else 1)) := by
   have h3 : (t :: ts = []) = False := by simp
   simp only [h3, if_false]
   split
   ·subst_vars
    rw [depTs]
    omega
   ·omega
  rw [e]

theorem sdepth_l1 (N : Nat) (a : List SNode) (hN : 1000 < N) (ha : a.length ≤ 400) (h1 : 1 ≤ a.length) (hT : ∀ i, i < a.length → ∃ (t : STree) (s : Nat), TA a t s i) {t0 : STree} (h0 : TA a t0 0 (a.length - 1)) : ∀ (n i : Nat) (d : List Int), a.length - i < n → i ≤ a.length → d.length = i → DepOk a d →
  ms_DepthOf_l1 N n (a, (i : Int), d) = some (depT t0 : Int) := by
 intro n
 induction n with
 | zero => intro i d h; omega
 | succ n ih =>
  intro i d hn hi hd hok
  rw [ms_DepthOf_l1]
  by_cases h : i < a.length
  ·obtain ⟨t, s, ht⟩ := hT i h
   have htp := ht.part
   obtain ⟨kd, op, x, y, ts⟩ := t
   have ht2 := ht
   rw [TA] at ht2
   obtain ⟨n0, hn0, _, _, _, _, hk⟩ := ht2
   rw [List.getElem?_eq_getElem h] at hn0
   cases hn0
   obtain ⟨k1, k2, k3, k4⟩ := hk.part
   have hl := szTs_len ts
   have hkl : a[i].Kids.length = ts.length := by rw [k4, endsT_len]
   rw [szT] at htp
   have := sdepth_l2 N (ms_DepthOf_l1 N n) a ha i h d hd hok (by omega) ts 0 N s 1 (by simpa using hk) (by omega) (by omega) (by omega) (by omega)
   simp only [lt_true h, cond_true]
   refine Eq.trans this ?_
   have e : max 1 (depTs ts + (if ts = [] then 0 else 1)) = depT ⟨a[i].Kind, a[i].Op, a[i].Text, a[i].Other, ts⟩ := by
    rw [depT]
    split
    ·subst_vars
     rw [depTs]
     rfl
    ·omega
   refine ih (i + 1) _ (by omega) (by omega) (by simp [hd]) fun j v hv => ?_
   rw [List.getElem?_append] at hv
   split at hv
   ·exact hok j v hv
   ·rename_i hj
    have hji : j = i := by
     have := (List.getElem?_eq_some_iff.1 hv).1
     simp at this
     omega
    subst hji
    rw [hd, Nat.sub_self] at hv
    simp only [List.getElem?_cons_zero, Option.some.injEq] at hv
    refine ⟨_, _, ht, ?_⟩
    rw [← hv, e]
    simp_all [depT]
  ·simp only [lt_false h, cond_false]
   have hia : i = a.length := by omega
   have hlt : a.length - 1 < d.length := by omega
   obtain ⟨t', s', ht', hv⟩ := hok (a.length - 1) _ (List.getElem?_eq_getElem hlt)
   obtain ⟨rfl, _⟩ := TA.uniq h0 ht'
   have hx := ix_nat hlt
   rw [wrap64 (by omega) (by omega), show (a.length : Int) - 1 = ((a.length - 1 : Nat) : Int) by omega, hx, oBs, hv]

theorem depthOf_spec (N : Nat) (a : List SNode) (hN : 1048577 < N) (hs : ∀ x, x ∈ a → smNode x) (hsh : shapeB a = true) {t : STree} (ht : TA a t 0 (a.length - 1)) : ms_DepthOf N a = some (depT t : Int) := by
 obtain ⟨h1, h2, r, _, _, _, hT, _⟩ := shape_of hsh
 unfold ms_DepthOf
 rw [shapeOk_spec N a hN hs, hsh, oBs]
 exact sdepth_l1 N a (by omega) h2 h1 (fun i hi => by obtain ⟨t, s, _, h⟩ := hT i hi; exact ⟨t, s, h⟩) ht N 0 [] (by omega) (by omega) rfl (fun j v h => by simp at h)

theorem kidsOk_l (N : Nat) (a : List SNode) (hN : 1048577 < N) (ha : a.length ≤ 400) (i : Nat) (hi : i < a.length) (hf : FK a[i]) (hkl : a[i].Kids.length ≤ 400) (hkr : ∀ k, k ∈ a[i].Kids → 0 ≤ k ∧ k < a.length) (kb1 kb2 : (List SNode × Int) → Option Bool) (c : Bool)
  (hkb : ∃ b : Bool, kb1 (a, ((i + 1 : Nat) : Int)) = some b ∧ kb2 (a, ((i + 1 : Nat) : Int)) = some (b && c)) : ∀ (n j : Nat), a[i].Kids.length - j < n → j ≤ a[i].Kids.length →
  ∃ b : Bool, ms_TreeOk_l2 N kb1 n (a, (i : Int), (j : Int)) = some b ∧ mi_TreeOk_l2 N kb2 n (a, (i : Int), a[i], (j : Int)) = some (b && c) := by
 intro n
 induction n with
 | zero => intro j h; omega
 | succ n ih =>
  intro j hn hj
  rw [ms_TreeOk_l2, mi_TreeOk_l2, ix_nat hi, oBs]
  by_cases h : j < a[i].Kids.length
  ·have hk := hkr _ (List.getElem_mem h)
   have hk2 : a[i].Kids[j].toNat < a.length := by omega
   have hx : ix a a[i].Kids[j] = some a[a[i].Kids[j].toNat] := by
    have := ix_nat hk2
    rwa [Int.toNat_of_nonneg hk.1] at this
   obtain ⟨b, b1, b2⟩ := kid_ex a[i] j a[a[i].Kids[j].toNat].Kind hf h hkl
   simp only [lt_true h, cond_true, ix_nat hi, ix_nat h, oBs, hx, b1, b2]
   cases b with
   | false => exact ⟨false, rfl, rfl⟩
   | true =>
    simp only [Bool.not_true, cond_false]
    rw [wrap64 (by omega) (by omega), show ((j : Int) + 1) = ((j + 1 : Nat) : Int) by omega]
    exact ih (j + 1) (by omega) (by omega)
  ·simp only [lt_false h, cond_false]
   rw [wrap64 (by omega) (by omega)]
   exact hkb

def NodesOk (a : List SNode) : Prop := ∀ x, x ∈ a → FK x ∧ knownK x.Kind

theorem nodesOk_l (N : Nat) (a : List SNode) (hN : 1048577 + 400 < N) (ha : a.length ≤ 400) (hs : ∀ x, x ∈ a → smNode x) (hk : ∀ x, x ∈ a → x.Kids.length ≤ 400 ∧ ∀ k, k ∈ x.Kids → 0 ≤ k ∧ k < a.length) (c : Bool) (hc : Option.bind (mi_rootOf N a) (fun r => (mi_tree__depth N r).bind fun q => some (decide (q ≤ 40))) = some c) : ∀ (n i : Nat), a.length - i < n → i ≤ a.length →
  ∃ b : Bool, ms_TreeOk_l1 N n (a, (i : Int)) = some b ∧ mi_TreeOk_l1 N n (a, (i : Int)) = some (b && c) ∧ (b = true → ∀ x, x ∈ a.drop i → FK x ∧ knownK x.Kind) := by
 intro n
 induction n with
 | zero => intro i h; omega
 | succ n ih =>
  intro i hn hi
  rw [ms_TreeOk_l1, mi_TreeOk_l1]
  by_cases h : i < a.length
  ·have hx := List.getElem_mem h
   obtain ⟨hk1, hk2⟩ := hk _ hx
   obtain ⟨b, b1, b2, b3⟩ := fields_ex N a[i] (by omega) (hs _ hx) hk1
   simp only [lt_true h, cond_true, ix_nat h, oBs, b1, b2]
   cases b with
   | false => exact ⟨false, rfl, rfl, fun h => by cases h⟩
   | true =>
    simp only [Bool.not_true, cond_false]
    obtain ⟨q, q1, q2, q3⟩ := ih (i + 1) (by omega) (by omega)
    obtain ⟨b', e1, e2⟩ := kidsOk_l N a (by omega) ha i h (b3 rfl).1 hk1 hk2 (ms_TreeOk_l1 N n) (mi_TreeOk_l1 N n) c ⟨q, q1, q2⟩ N 0 (by omega) (by omega)
    refine ⟨b', e1, e2, fun hb x hx => ?_⟩
    rw [drop_cons h] at hx
    rcases List.mem_cons.1 hx with rfl | hx
    ·exact b3 rfl
    ·refine q3 ?_ x hx
     subst hb
     have : ∀ (m j : Nat), a[i].Kids.length - j < m → j ≤ a[i].Kids.length → ms_TreeOk_l2 N (ms_TreeOk_l1 N n) m (a, (i : Int), (j : Int)) = some true → q = true := by
      intro m
      induction m with
      | zero => intro j h; omega
      | succ m ihm =>
       intro j hm hj hh
       rw [ms_TreeOk_l2, ix_nat h, oBs] at hh
       by_cases hlt : j < a[i].Kids.length
       ·simp only [lt_true hlt, cond_true, ix_nat h, ix_nat hlt, oBs] at hh
        obtain ⟨y1, _, hh⟩ := Option.bind_eq_some_iff.1 hh
        obtain ⟨y2, _, hh⟩ := Option.bind_eq_some_iff.1 hh
        cases y2 with
        | false => cases hh
        | true =>
         simp only [Bool.not_true, cond_false] at hh
         rw [wrap64 (by omega) (by omega), show ((j : Int) + 1) = ((j + 1 : Nat) : Int) by omega] at hh
         exact ihm (j + 1) (by omega) (by omega) hh
       ·simp only [lt_false hlt, cond_false] at hh
        rw [wrap64 (by omega) (by omega)] at hh
        have hh' : ms_TreeOk_l1 N n (a, ((i + 1 : Nat) : Int)) = some true := hh
        rw [q1] at hh'
        exact Option.some.inj hh'
     exact this N 0 (by omega) (by omega) e1
  ·simp only [lt_false h, cond_false]
   refine ⟨true, rfl, by rw [hc, Bool.true_and], fun _ x hx => ?_⟩
   rw [drop_nil h] at hx
   cases hx

theorem treeOk_ex (N : Nat) (a : List SNode) (hN : 1048577 + 400 < N) (hs : ∀ x, x ∈ a → smNode x) : ∃ b : Bool, ms_TreeOk N a = some b ∧ mi_TreeOk N a = some b ∧ (b = true → shapeB a = true ∧ NodesOk a) := by
 unfold ms_TreeOk mi_TreeOk
 rw [shapeOk_spec N a (by omega) hs, shapeOk_impl N a (by omega)]
 simp only [oBs]
 cases hsh : shapeB a with
 | false => exact ⟨false, rfl, rfl, fun h => by cases h⟩
 | true =>
  obtain ⟨h1, h2, r, _, _, _, hT, t, ht⟩ := shape_of hsh
  have hd := depthOf_spec N a (by omega) hs hsh ht
  obtain ⟨_, hsz, _⟩ := ht.part
  have hdi : mi_tree__depth N t = some (depT t : Int) := depth_is t N (by omega) (by omega)
  have hc : Option.bind (mi_rootOf N a) (fun r => (mi_tree__depth N r).bind fun q => some (decide (q ≤ 40))) = some (decide ((depT t : Int) ≤ 40)) := by
   rw [rootOf_is N a (by omega) ht h1 h2, oBs, hdi, oBs]
  obtain ⟨b, b1, b2, b3⟩ := nodesOk_l N a hN h2 hs (shape_kids hsh) _ hc N 0 (by omega) (by omega)
  have b1' : ms_TreeOk_l1 N N (a, 0) = some b := b1
  have b2' : mi_TreeOk_l1 N N (a, 0) = some (b && decide ((depT t : Int) ≤ 40)) := b2
  simp only [Bool.not_true, cond_false, hd, oBs, b1', b2']
  by_cases hle : (depT t : Int) ≤ 40
  ·have e1 : decide ((depT t : Int) > 40) = false := by simp; omega
   have e2 : decide ((depT t : Int) ≤ 40) = true := by simp; omega
   simp only [e1, e2, cond_false, oBs, Bool.and_true]
   exact ⟨b, rfl, rfl, fun hb => ⟨trivial, fun x hx => b3 hb x (by simpa using hx)⟩⟩
  ·have e1 : decide ((depT t : Int) > 40) = true := by simp; omega
   have e2 : decide ((depT t : Int) ≤ 40) = false := by simp; omega
   simp only [e1, e2, cond_true, oBs, Bool.and_false]
   exact ⟨false, rfl, rfl, fun h => by cases h⟩

theorem clone_is (l : List Int) (h : l.length ≤ 1048576) : m_slices_Clone_int l = some l := by
 unfold m_slices_Clone_int
 rw [app_some (by simp; omega), oBs, List.nil_append]

theorem copyNodes_l (N : Nat) (a : List SNode) (ha : a.length ≤ 1048576) (hs : ∀ x, x ∈ a → smNode x) : ∀ (n i : Nat), a.length - i < n → i ≤ a.length → mi_copyNodes_l1 N n (a, (i : Int), a.take i) = some a := by
 intro n
 induction n with
 | zero => intro i h; omega
 | succ n ih =>
  intro i hn hi
  rw [mi_copyNodes_l1]
  by_cases h : i < a.length
  ·have hx := hs _ (List.getElem_mem h)
   unfold smNode at hx
   simp only [lt_true h, cond_true, ix_nat h, oBs]
   rw [clone_is _ (by omega), oBs, app_some (by simp; omega), oBs, wrap64 (by omega) (by omega)]
   have e : a.take i ++ [(⟨a[i].Kind, a[i].Op, a[i].Text, a[i].Other, a[i].Kids⟩ : SNode)] = a.take (i + 1) := by
    rw [List.take_add_one, List.getElem?_eq_getElem h]
    rfl
   rw [e]
   exact ih (i + 1) (by omega) (by omega)
  ·simp only [lt_false h, cond_false]
   rw [List.take_of_length_le (by omega)]

theorem copyNodes_is (N : Nat) (a : List SNode) (hN : 1048577 < N) (ha : a.length ≤ 1048576) (hs : ∀ x, x ∈ a → smNode x) : mi_copyNodes N a = some a :=
 copyNodes_l N a ha hs N 0 (by omega) (by omega)

theorem TA.node {a : List SNode} {t : STree} {s i : Nat} (h : TA a t s i) : ∃ n, a[i]? = some n ∧ t.kind = n.Kind ∧ t.op = n.Op ∧ t.text = n.Text ∧ t.other = n.Other ∧ KA a t.kids n.Kids s i ∧ t.kids.length = n.Kids.length := by
 obtain ⟨kd, op, x, y, ts⟩ := t
 rw [TA] at h
 obtain ⟨n, hn, rfl, rfl, rfl, rfl, hk⟩ := h
 have h4 := hk.part.2.2.2
 exact ⟨n, hn, rfl, rfl, rfl, rfl, hk, by rw [h4, endsT_len]⟩

theorem KA.get {a : List SNode} : ∀ {ts : List STree} {ks : List Int} {s e : Nat}, KA a ts ks s e → ∀ (j : Nat) (t : STree), ts[j]? = some t → ∃ k s' : Nat, ks[j]? = some (k : Int) ∧ TA a t s' k ∧ k < e
 | [], ks, s, e, h, j, t, hj => by simp at hj
 | t0 :: ts, ks, s, e, h, j, t, hj => by
  rw [KA] at h
  obtain ⟨k, ks', rfl, h1, h2, ht, hk⟩ := h
  cases j with
  | zero =>
   simp only [List.getElem?_cons_zero, Option.some.injEq] at hj
   subst hj
   exact ⟨k, s, rfl, ht, h2⟩
  | succ j =>
   simp only [List.getElem?_cons_succ] at hj ⊢
   exact KA.get hk j t hj

theorem small_lst {t : STree} {b : Nat} (hsz : szT t ≤ 1000000) (ht : ∀ x, x ∈ lst b t → x.Text.length ≤ 1048576 ∧ x.Other.length ≤ 1048576) : ∀ x, x ∈ lst b t → smNode x := fun x hx => by
 have := lst_kids t b x hx
 have := ht x hx
 unfold smNode
 omega

def tx (x : SNode) : Prop := x.Text.length ≤ 1048576 ∧ x.Other.length ≤ 1048576
def txT (t : STree) : Prop := ∀ x, x ∈ lst 0 t → tx x
theorem txT_lst {t : STree} (h : txT t) (b : Nat) : ∀ x, x ∈ lst b t → tx x := fun x hx => by
 have e := lst_sh t 0 b
 rw [Nat.zero_add] at e
 rw [e] at hx
 obtain ⟨y, hy, rfl⟩ := List.mem_map.1 hx
 exact h y hy
theorem txTs {ts : List STree} (h : ∀ t, t ∈ ts → txT t) : ∀ (b : Nat) x, x ∈ lsts b ts → tx x := by
 induction ts with
 | nil => intro b x hx; rw [lsts] at hx; cases hx
 | cons t ts ih =>
  intro b x hx
  rw [lsts] at hx
  rcases List.mem_append.1 hx with hx | hx
  ·exact txT_lst (h t (by simp)) b x hx
  ·exact ih (fun t' h' => h t' (by simp [h'])) _ x hx
theorem txT_mk {kd op : Int} {x y : List UInt8} {ts : List STree} (h : ∀ t, t ∈ ts → txT t) (hx : x.length ≤ 1048576) (hy : y.length ≤ 1048576) : txT ⟨kd, op, x, y, ts⟩ := fun n hn => by
 rw [lst] at hn
 rcases List.mem_append.1 hn with hn | hn
 ·exact txTs h 0 n hn
 ·rw [List.mem_singleton.1 hn]
  exact ⟨hx, hy⟩
theorem small_of {t : STree} (hsz : szT t ≤ 1000000) (ht : txT t) (b : Nat) : ∀ x, x ∈ lst b t → smNode x :=
 small_lst hsz fun x hx => txT_lst ht b x hx

end Go.Proofs.Tryz
