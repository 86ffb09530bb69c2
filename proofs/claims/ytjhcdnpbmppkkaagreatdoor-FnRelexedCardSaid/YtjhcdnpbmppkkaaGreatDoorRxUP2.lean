/-
 Plain lemmas on the models, part 2.
-/
import Derived.Test.YtjhcdnpbmppkkaaGreatDoorRxUP1
namespace Go.Proofs.Tryz
open Go.Av
set_option maxRecDepth 100000
set_option linter.unusedSimpArgs false
set_option linter.unusedVariables false

structure STree where
 kind : Int
 op : Int
 text : List UInt8
 other : List UInt8
 kids : List STree
instance : Inhabited STree := ⟨⟨0, 0, [], [], []⟩⟩
structure SDoc where
 kind : Int
 n : Int
 text : List UInt8
 kids : List SDoc
 group : Int
instance : Inhabited SDoc := ⟨⟨0, 0, [], [], 0⟩⟩

def isE (k : Int) : Bool := decide (k ≥ 1) && decide (k ≤ 15)
def isL (k : Int) : Bool := k == 1 || (k == 5 || k == 6)

theorem isE_spec (k : Int) : ms_IsExpr k = some (isE k) := by unfold ms_IsExpr; rw [l1In_is]; rfl
theorem isL_spec (k : Int) : ms_IsLvalue k = some (isL k) := by
 unfold ms_IsLvalue isL
 cases (k == 1) <;> cases (k == 5) <;> rfl
theorem isL_E {k : Int} (h : isL k = true) : isE k = true := by
 unfold isL at h
 simp only [Bool.or_eq_true, beq_iff_eq] at h
 rcases h with rfl | rfl | rfl <;> rfl

mutual
def szT : STree → Nat
 | ⟨_, _, _, _, ks⟩ => szTs ks + 1
def szTs : List STree → Nat
 | [] => 0
 | t :: ts => szT t + szTs ts
end
mutual
def lst (b : Nat) : STree → List SNode
 | ⟨k, o, t, p, ks⟩ => lsts b ks ++ [⟨k, o, t, p, endsT b ks⟩]
def lsts (b : Nat) : List STree → List SNode
 | [] => []
 | t :: ts => lst b t ++ lsts (b + szT t) ts
def endsT (b : Nat) : List STree → List Int
 | [] => []
 | t :: ts => (((b + szT t : Nat) : Int) - 1) :: endsT (b + szT t) ts
end
mutual
theorem STree.ind {P : STree → Prop} (h : ∀ t : STree, (∀ k, k ∈ t.kids → P k) → P t) : ∀ t, P t
 | ⟨k, o, x, y, ks⟩ => h ⟨k, o, x, y, ks⟩ (STree.inds h ks)
theorem STree.inds {P : STree → Prop} (h : ∀ t : STree, (∀ k, k ∈ t.kids → P k) → P t) : ∀ (ks : List STree) k, k ∈ ks → P k
 | [], k, hk => by cases hk
 | t :: ts, k, hk => (List.mem_cons.1 hk).elim (fun e => e ▸ STree.ind h t) (STree.inds h ts k)
end
theorem szT_pos (t : STree) : 1 ≤ szT t := by cases t; rw [szT]; omega
theorem szT_eq (t : STree) : szT t = szTs t.kids + 1 := by cases t; rw [szT]
theorem szTs_len : ∀ ts : List STree, ts.length ≤ szTs ts
 | [] => by simp [szTs]
 | t :: ts => by have := szT_pos t; have := szTs_len ts; rw [szTs]; simp only [List.length_cons]; omega
theorem szTs_mem : ∀ {ts : List STree} {t : STree}, t ∈ ts → szT t ≤ szTs ts
 | t' :: ts, t, h => by
  rw [szTs]
  rcases List.mem_cons.1 h with rfl | h
  ·omega
  ·have := szTs_mem h; omega
theorem endsT_len : ∀ (ts : List STree) (b : Nat), (endsT b ts).length = ts.length
 | [], b => rfl
 | t :: ts, b => by rw [endsT, List.length_cons, List.length_cons, endsT_len ts _]

theorem endsT_range : ∀ (ts : List STree) (b : Nat) (k : Int), k ∈ endsT b ts → 0 ≤ k ∧ k < b + szTs ts
 | [], b, k, h => by cases h
 | t :: ts, b, k, h => by
  rw [endsT] at h
  rw [szTs]
  have := szT_pos t
  rcases List.mem_cons.1 h with rfl | h
  ·omega
  ·have := endsT_range ts _ k h; omega
mutual
theorem lst_range : ∀ (t : STree) (b : Nat) (x : SNode), x ∈ lst b t → ∀ k, k ∈ x.Kids → 0 ≤ k ∧ k < b + szT t
 | ⟨kd, o, x, y, ks⟩, b, n, h, k, hk => by
  rw [lst] at h
  rw [szT]
  rcases List.mem_append.1 h with h | h
  ·have := lsts_range ks b n h k hk; omega
  ·rw [List.mem_singleton.1 h] at hk
   have := endsT_range ks b k hk; omega
theorem lsts_range : ∀ (ts : List STree) (b : Nat) (x : SNode), x ∈ lsts b ts → ∀ k, k ∈ x.Kids → 0 ≤ k ∧ k < b + szTs ts
 | [], b, n, h, k, hk => by rw [lsts] at h; cases h
 | t :: ts, b, n, h, k, hk => by
  rw [lsts] at h
  rw [szTs]
  rcases List.mem_append.1 h with h | h
  ·have := lst_range t b n h k hk; omega
  ·have := lsts_range ts _ n h k hk; omega
end

mutual
def TA (a : List SNode) : STree → Nat → Nat → Prop
 | ⟨kd, op, x, y, ts⟩, s, i => ∃ n, a[i]? = some n ∧ n.Kind = kd ∧ n.Op = op ∧ n.Text = x ∧ n.Other = y ∧ KA a ts n.Kids s i
def KA (a : List SNode) : List STree → List Int → Nat → Nat → Prop
 | [], ks, s, e => ks = [] ∧ s = e
 | t :: ts, ks, s, e => ∃ (k : Nat) (ks' : List Int), ks = (k : Int) :: ks' ∧ s ≤ k ∧ k < e ∧ TA a t s k ∧ KA a ts ks' (k + 1) e
end

def part (a : List SNode) (s e : Nat) : List SNode := (a.drop s).take (e - s)
theorem part_cat {a : List SNode} {s m e : Nat} (h1 : s ≤ m) (h2 : m ≤ e) : part a s m ++ part a m e = part a s e := by
 unfold part
 rw [show e - s = (m - s) + (e - m) by omega, List.take_add, List.drop_drop, show s + (m - s) = m by omega]
theorem part_one {a : List SNode} {i : Nat} {n : SNode} (h : a[i]? = some n) : part a i (i + 1) = [n] := by
 obtain ⟨hi, rfl⟩ := List.getElem?_eq_some_iff.1 h
 unfold part
 rw [show i + 1 - i = 1 by omega, List.drop_eq_getElem_cons hi]
 rfl
theorem part_nil (a : List SNode) (i : Nat) : part a i i = [] := by
 unfold part
 simp
theorem part_all (a : List SNode) : part a 0 a.length = a := by
 unfold part
 simp

theorem TA.lt {a : List SNode} {t : STree} {s i : Nat} (h : TA a t s i) : i < a.length := by
 cases t
 rw [TA] at h
 obtain ⟨n, hn, _⟩ := h
 exact (List.getElem?_eq_some_iff.1 hn).1

mutual
theorem TA.part {a : List SNode} : ∀ {t : STree} {s i : Nat}, TA a t s i → s ≤ i ∧ szT t = i + 1 - s ∧ part a s (i + 1) = lst s t
 | ⟨kd, op, x, y, ts⟩, s, i, h => by
  rw [TA] at h
  obtain ⟨n, hn, rfl, rfl, rfl, rfl, hk⟩ := h
  obtain ⟨h1, h2, h3, h4⟩ := KA.part hk
  refine ⟨h1, by rw [szT]; omega, ?_⟩
  rw [lst, ← h3, ← h4, ← part_cat h1 (Nat.le_succ i), part_one hn]
theorem KA.part {a : List SNode} : ∀ {ts : List STree} {ks : List Int} {s e : Nat}, KA a ts ks s e → s ≤ e ∧ szTs ts = e - s ∧ Go.Proofs.Tryz.part a s e = lsts s ts ∧ ks = endsT s ts
 | [], ks, s, e, h => by
  rw [KA] at h
  obtain ⟨rfl, rfl⟩ := h
  exact ⟨Nat.le_refl _, by rw [szTs]; omega, by rw [part_nil, lsts], by rw [endsT]⟩
 | t :: ts, ks, s, e, h => by
  rw [KA] at h
  obtain ⟨k, ks', rfl, h1, h2, ht, hk⟩ := h
  obtain ⟨g1, g2, g3⟩ := TA.part ht
  obtain ⟨k1, k2, k3, k4⟩ := KA.part hk
  have e1 : s + szT t = k + 1 := by omega
  refine ⟨by omega, by rw [szTs]; omega, ?_, ?_⟩
  ·rw [lsts, e1, ← g3, ← k3, part_cat (by omega) (by omega)]
  ·rw [endsT, e1, ← k4]
   congr 1
   omega
end

mutual
theorem TA.uniq {a : List SNode} : ∀ {t t' : STree} {s s' i : Nat}, TA a t s i → TA a t' s' i → t = t' ∧ s = s'
 | ⟨kd, op, x, y, ts⟩, ⟨kd', op', x', y', ts'⟩, s, s', i, h, h' => by
  rw [TA] at h h'
  obtain ⟨n, hn, rfl, rfl, rfl, rfl, hk⟩ := h
  obtain ⟨n', hn', rfl, rfl, rfl, rfl, hk'⟩ := h'
  rw [hn] at hn'
  cases hn'
  obtain ⟨rfl, rfl⟩ := KA.uniq hk hk'
  exact ⟨rfl, rfl⟩
theorem KA.uniq {a : List SNode} : ∀ {ts ts' : List STree} {ks : List Int} {s s' e : Nat}, KA a ts ks s e → KA a ts' ks s' e → ts = ts' ∧ s = s'
 | [], [], ks, s, s', e, h, h' => by
  rw [KA] at h h'
  exact ⟨rfl, h.2.trans h'.2.symm⟩
 | [], t' :: ts', ks, s, s', e, h, h' => by
  simp only [KA] at h h'
  obtain ⟨k, ks', e1, _⟩ := h'
  rw [h.1] at e1; cases e1
 | t :: ts, [], ks, s, s', e, h, h' => by
  simp only [KA] at h h'
  obtain ⟨k, ks', e1, _⟩ := h
  rw [h'.1] at e1; cases e1
 | t :: ts, t' :: ts', ks, s, s', e, h, h' => by
  rw [KA] at h h'
  obtain ⟨k, ks', rfl, _, _, ht, hk⟩ := h
  obtain ⟨k2, ks2, e1, _, _, ht', hk'⟩ := h'
  injection e1 with e1 e2
  have : k = k2 := by omega
  subst this
  subst e2
  obtain ⟨rfl, rfl⟩ := TA.uniq ht ht'
  obtain ⟨rfl, _⟩ := KA.uniq hk hk'
  exact ⟨rfl, rfl⟩
end

theorem KA.of {a : List SNode} {r : List Int} {e : Nat} (ih : ∀ k s : Nat, k < e → r[k]? = some (s : Int) → ∃ t, TA a t s k) : ∀ (ks : List Int) (s : Nat), Go.Av.Kids r (s : Int) (e : Int) ks → ∃ ts, KA a ts ks s e
  | [], s, h => by
    simp only [Go.Av.Kids] at h
    exact ⟨[], by rw [KA]; exact ⟨rfl, by omega⟩⟩
  | k :: ks, s, h => by
    obtain ⟨h0, h1, h2, h3, h4⟩ := h
    obtain ⟨kn, rfl⟩ := Int.eq_ofNat_of_zero_le (show 0 ≤ k by omega)
    rw [Int.toNat_natCast] at h3
    obtain ⟨t, ht⟩ := ih kn s (by omega) h3
    obtain ⟨ts, hts⟩ := KA.of ih ks (kn + 1) (by have : ((kn + 1 : Nat) : Int) = (kn : Int) + 1 := by omega
                                                 rw [this]; exact h4)
    exact ⟨t :: ts, by rw [KA]; exact ⟨kn, ks, rfl, by omega, by omega, ht, hts⟩⟩

theorem TA.of {a : List SNode} {r : List Int} (hl : Low r) (hk : ∀ (i : Nat) (hi : i < a.length), ∃ s, r[i]? = some s ∧ Go.Av.Kids r s (i : Int) a[i].Kids) : ∀ (i s : Nat), i < a.length → r[i]? = some (s : Int) → ∃ t, TA a t s i := by
 intro i
 induction i using Nat.strongRecOn with
 | ind i ih =>
  intro s hi hs
  obtain ⟨s', hs', hks⟩ := hk i hi
  rw [hs] at hs'
  cases hs'
  obtain ⟨ts, hts⟩ := KA.of (a := a) (r := r) (e := i) (fun k s hk' hr => ih k hk' s (by omega) hr) _ _ hks
  exact ⟨⟨a[i].Kind, a[i].Op, a[i].Text, a[i].Other, ts⟩, by rw [TA]; exact ⟨a[i], List.getElem?_eq_getElem hi, rfl, rfl, rfl, rfl, hts⟩⟩

theorem shape_of {a : List SNode} (h : shapeB a = true) : 1 ≤ a.length ∧ a.length ≤ 400 ∧ ∃ r, starts (kidsN a) [] = some r ∧ r.length = a.length ∧ Low r ∧
  (∀ i, i < a.length → ∃ (t : STree) (s : Nat), r[i]? = some (s : Int) ∧ TA a t s i) ∧ ∃ t, TA a t 0 (a.length - 1) := by
 unfold shapeB at h
 simp only [Bool.and_eq_true, decide_eq_true_eq] at h
 obtain ⟨⟨h1, h2⟩, h3⟩ := h
 cases hst : starts (kidsN a) [] with
 | none => rw [hst] at h3; cases h3
 | some r =>
  rw [hst] at h3
  obtain ⟨⟨m, hm, hml⟩, hl, hk⟩ := starts_spec _ (fun j s h => by simp at h) hst
  have hrl : r.length = a.length := by rw [hm]; simp [hml, kidsN]
  have hk' : ∀ (i : Nat) (hi : i < a.length), ∃ s, r[i]? = some s ∧ Go.Av.Kids r s (i : Int) a[i].Kids := fun i hi => by
   obtain ⟨s, e1, e2⟩ := hk i a[i].Kids (by simp [kidsN, List.getElem?_eq_getElem hi])
   simp only [List.length_nil, Nat.zero_add] at e1 e2
   exact ⟨s, e1, e2⟩
  refine ⟨h1, h2, r, rfl, hrl, hl, fun i hi => ?_, ?_⟩
  ·obtain ⟨s, hs, _⟩ := hk' i hi
   have := (hl i s hs).1
   obtain ⟨sn, rfl⟩ := Int.eq_ofNat_of_zero_le this
   obtain ⟨t, ht⟩ := TA.of hl hk' i sn hi hs
   exact ⟨t, sn, hs, ht⟩
  ·have : r[a.length - 1]? = some ((0 : Nat) : Int) := by simpa [rootAt] using h3
   exact TA.of hl hk' (a.length - 1) 0 (by omega) this

theorem shape_kids {a : List SNode} (h : shapeB a = true) : ∀ x, x ∈ a → x.Kids.length ≤ 400 ∧ ∀ k, k ∈ x.Kids → 0 ≤ k ∧ k < a.length := by
 obtain ⟨h1, h2, r, _, _, _, hT, t, ht⟩ := shape_of h
 obtain ⟨g1, g2, g3⟩ := ht.part
 rw [show a.length - 1 + 1 = a.length by omega, part_all] at g3
 intro x hx
 constructor
 ·obtain ⟨i, hi, rfl⟩ := List.getElem_of_mem hx
  obtain ⟨t', s, _, ht'⟩ := hT i hi
  cases t'
  rw [TA] at ht'
  obtain ⟨n, hn, _, _, _, _, hk⟩ := ht'
  rw [List.getElem?_eq_getElem hi] at hn
  cases hn
  obtain ⟨k1, k2, k3, k4⟩ := hk.part
  have := szTs_len ‹List STree›
  rw [k4, endsT_len]
  omega
 ·intro k hk
  rw [g3] at hx
  have := lst_range t 0 x hx k hk
  omega

mutual
def depT : STree → Nat
 | ⟨_, _, _, _, ks⟩ => depTs ks + 1
def depTs : List STree → Nat
 | [] => 0
 | t :: ts => max (depT t) (depTs ts)
end
mutual
theorem depT_le : ∀ t : STree, depT t ≤ szT t
 | ⟨k, o, x, y, ks⟩ => by have := depTs_le ks; rw [depT, szT]; omega
theorem depTs_le : ∀ ts : List STree, depTs ts ≤ szTs ts
 | [] => by rw [depTs, szTs]; omega
 | t :: ts => by have := depT_le t; have := depTs_le ts; rw [depTs, szTs]; omega
end
def DepOk (a : List SNode) (d : List Int) : Prop := ∀ (j : Nat) (v : Int), d[j]? = some v → ∃ t s, TA a t s j ∧ v = depT t

theorem sdepth_l2 (N : Nat) (kb : (List SNode × Int × List Int) → Option Int) (a : List SNode) (ha : a.length ≤ 400) (i : Nat) (hi : i < a.length) (d : List Int) (hd : d.length = i) (hok : DepOk a d) (hkl : a[i].Kids.length ≤ 400) : ∀ (ts : List STree) (j n s m : Nat), KA a ts (a[i].Kids.drop j) s i → j ≤ a[i].Kids.length → ts.length < n → m ≤ 1000 → szTs ts ≤ 400 →
  ms_DepthOf_l2 N kb n (a, (i : Int), d, (m : Int), (j : Int)) = kb (a, ((i + 1 : Nat) : Int), d ++ [((max m (depTs ts + (if ts = [] then 0 else 1)) : Nat) : Int)])
 | [], j, n, s, m, h, hj, hn, hm, hsz => by
  simp only [KA] at h
  obtain ⟨n, rfl⟩ : ∃ m, n = m + 1 := ⟨n - 1, by simp at hn; omega⟩
  have hlt : ¬ j < a[i].Kids.length := by
   intro hlt
   rw [drop_cons hlt] at h
   cases h.1
  rw [ms_DepthOf_l2, ix_nat hi, Option.bind_some]
  simp only [lt_false hlt, cond_false]
  rw [app_some (by simp; omega), Option.bind_some, wrap64 (by omega) (by omega), depTs]
  simp
 | t :: ts, j, n, s, m, h, hj, hn, hm, hsz => by
  simp only [KA] at h
  obtain ⟨k, ks', hdk, h1, h2, hta, hka⟩ := h
  simp only [List.length_cons] at hn
  rw [szTs] at hsz
  obtain ⟨n, rfl⟩ : ∃ m, n = m + 1 := ⟨n - 1, by omega⟩
  have hlt : j < a[i].Kids.length := by
   cases Nat.lt_or_ge j a[i].Kids.length with
   | inl h => exact h
   | inr h => rw [List.drop_of_length_le h] at hdk; cases hdk
  rw [drop_cons hlt] at hdk
  injection hdk with hd1 hd2
  have hkd : k < d.length := by omega
  obtain ⟨t', s', ht', hv⟩ := hok k d[k] (List.getElem?_eq_getElem hkd)
  obtain ⟨rfl, rfl⟩ := TA.uniq hta ht'
  have hdl := depT_le t
  rw [ms_DepthOf_l2, ix_nat hi, Option.bind_some]
  simp only [lt_true hlt, cond_true, ix_nat hi, ix_nat hlt, Option.bind_some, hd1]
  rw [ix_nat hkd, Option.bind_some, hv, wrap64 (n := 1 + (depT t : Int)) (by omega) (by omega), wrap64 (by omega) (by omega)]
  have hmax : (if 1 + (depT t : Int) > (m : Int) then 1 + (depT t : Int) else (m : Int)) = ((max m (depT t + 1) : Nat) : Int) := by split <;> omega
  rw [hmax, show ((j : Int) + 1) = ((j + 1 : Nat) : Int) by omega, sdepth_l2 N kb a ha i hi d hd hok hkl ts (j + 1) n (k + 1) _ (hd2 ▸ hka) (by omega) (by omega) (by omega) (by omega), depTs]
  have e : max (max m (depT t + 1)) (depTs ts + (if ts = [] then 0 else 1)) = max m (max (depT t) (depTs ts) + (if t :: ts = [] then 0 else 1)) := by
   have h3 : (t :: ts = []) = False := by simp
   simp only [h3, if_false]
   split
   ·subst_vars
    rw [depTs]
    omega
   ·omega
  rw [e]

theorem sdepth_l1 (N : Nat) (a : List SNode) (hN : 1000 < N) (ha : a.length ≤ 400) (h1 : 1 ≤ a.length) (hT : ∀ i, i < a.length → ∃ (t : STree) (s : Nat), TA a t s i) {t0 : STree} (h0 : TA a t0 0 (a.length - 1)) : ∀ (n i : Nat) (d : List Int), a.length - i < n → i ≤ a.length → d.length = i → DepOk a d →
  ms_DepthOf_l1 N n (a, (i : Int), d) = some (depT t0 : Int) := by
 intro n
 induction n with
 | zero => intro i d h; omega
 | succ n ih =>
  intro i d hn hi hd hok
  rw [ms_DepthOf_l1]
  by_cases h : i < a.length
  ·obtain ⟨t, s, ht⟩ := hT i h
   have htp := ht.part
   obtain ⟨kd, op, x, y, ts⟩ := t
   have ht2 := ht
   rw [TA] at ht2
   obtain ⟨n0, hn0, _, _, _, _, hk⟩ := ht2
   rw [List.getElem?_eq_getElem h] at hn0
   cases hn0
   obtain ⟨k1, k2, k3, k4⟩ := hk.part
   have hl := szTs_len ts
   have hkl : a[i].Kids.length = ts.length := by rw [k4, endsT_len]
   rw [szT] at htp
   have := sdepth_l2 N (ms_DepthOf_l1 N n) a ha i h d hd hok (by omega) ts 0 N s 1 (by simpa using hk) (by omega) (by omega) (by omega) (by omega)
   simp only [lt_true h, cond_true]
   refine Eq.trans this ?_
   have e : max 1 (depTs ts + (if ts = [] then 0 else 1)) = depT ⟨a[i].Kind, a[i].Op, a[i].Text, a[i].Other, ts⟩ := by
    rw [depT]
    split
    ·subst_vars
     rw [depTs]
     rfl
    ·omega
   refine ih (i + 1) _ (by omega) (by omega) (by simp [hd]) fun j v hv => ?_
   rw [List.getElem?_append] at hv
   split at hv
   ·exact hok j v hv
   ·rename_i hj
    have hji : j = i := by
     have := (List.getElem?_eq_some_iff.1 hv).1
     simp at this
     omega
    subst hji
    rw [hd, Nat.sub_self] at hv
    simp only [List.getElem?_cons_zero, Option.some.injEq] at hv
    refine ⟨_, _, ht, ?_⟩
    rw [← hv, e]
    simp_all [depT]
  ·simp only [lt_false h, cond_false]
   have hia : i = a.length := by omega
   have hlt : a.length - 1 < d.length := by omega
   obtain ⟨t', s', ht', hv⟩ := hok (a.length - 1) _ (List.getElem?_eq_getElem hlt)
   obtain ⟨rfl, _⟩ := TA.uniq h0 ht'
   have hx := ix_nat hlt
   rw [wrap64 (by omega) (by omega), show (a.length : Int) - 1 = ((a.length - 1 : Nat) : Int) by omega, hx, Option.bind_some, hv]

theorem depthOf_spec (N : Nat) (a : List SNode) (hN : 1048577 < N) (hs : ∀ x, x ∈ a → smNode x) (hsh : shapeB a = true) {t : STree} (ht : TA a t 0 (a.length - 1)) : ms_DepthOf N a = some (depT t : Int) := by
 obtain ⟨h1, h2, r, _, _, _, hT, _⟩ := shape_of hsh
 unfold ms_DepthOf
 rw [shapeOk_spec N a hN hs, hsh, Option.bind_some]
 exact sdepth_l1 N a (by omega) h2 h1 (fun i hi => by obtain ⟨t, s, _, h⟩ := hT i hi; exact ⟨t, s, h⟩) ht N 0 [] (by omega) (by omega) rfl (fun j v h => by simp at h)

theorem TA.node {a : List SNode} {t : STree} {s i : Nat} (h : TA a t s i) : ∃ n, a[i]? = some n ∧ t.kind = n.Kind ∧ t.op = n.Op ∧ t.text = n.Text ∧ t.other = n.Other ∧ KA a t.kids n.Kids s i ∧ t.kids.length = n.Kids.length := by
 obtain ⟨kd, op, x, y, ts⟩ := t
 rw [TA] at h
 obtain ⟨n, hn, rfl, rfl, rfl, rfl, hk⟩ := h
 have h4 := hk.part.2.2.2
 exact ⟨n, hn, rfl, rfl, rfl, rfl, hk, by rw [h4, endsT_len]⟩

theorem KA.get {a : List SNode} : ∀ {ts : List STree} {ks : List Int} {s e : Nat}, KA a ts ks s e → ∀ (j : Nat) (t : STree), ts[j]? = some t → ∃ k s' : Nat, ks[j]? = some (k : Int) ∧ TA a t s' k ∧ k < e
 | [], ks, s, e, h, j, t, hj => by simp at hj
 | t0 :: ts, ks, s, e, h, j, t, hj => by
  rw [KA] at h
  obtain ⟨k, ks', rfl, h1, h2, ht, hk⟩ := h
  cases j with
  | zero =>
   simp only [List.getElem?_cons_zero, Option.some.injEq] at hj
   subst hj
   exact ⟨k, s, rfl, ht, h2⟩
  | succ j =>
   simp only [List.getElem?_cons_succ] at hj ⊢
   exact KA.get hk j t hj

end Go.Proofs.Tryz
