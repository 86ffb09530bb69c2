/-
 Plain lemmas on the models, part 12.
-/
import Derived.Test.YtkfcajnnbhahoaaGreatDoorDdCP11
namespace Go.Proofs.Tryz
open Go.Av
set_option maxRecDepth 100000
set_option linter.unusedSimpArgs false
set_option linter.unusedVariables false

theorem nodes_l2 (N : Nat) (a : List SNode) (kb : (List SNode × Int) → Option Bool) (i : Nat) (hi : i < a.length) (hi2 : i ≤ 100000) (hkl : a[i].Kids.length ≤ 100000) : ∀ (m j : Nat), a[i].Kids.length - j < m → j ≤ a[i].Kids.length → ms_TreeOk_l2 N kb m (a, (i : Int), (j : Int)) = some true →
  kb (a, ((i + 1 : Nat) : Int)) = some true ∧ ∀ (q : Nat) (hq : q < a[i].Kids.length), j ≤ q → ∃ y, ix a a[i].Kids[q] = some y ∧ ms_l7Kid a[i] (q : Int) y.Kind = some true := by
 intro m
 induction m with
 | zero => intro j h; omega
 | succ m ihm =>
  intro j hm hj hh
  rw [ms_TreeOk_l2, ix_nat hi, Option.bind_some] at hh
  by_cases hlt : j < a[i].Kids.length
  ·simp only [lt_true hlt, cond_true, ix_nat hi, ix_nat hlt, Option.bind_some] at hh
   obtain ⟨y1, h1, hh⟩ := Option.bind_eq_some_iff.1 hh
   obtain ⟨y2, h2, hh⟩ := Option.bind_eq_some_iff.1 hh
   cases y2 with
   | false => cases hh
   | true =>
    simp only [Bool.not_true, cond_false] at hh
    rw [wrap64 (by omega) (by omega), show ((j : Int) + 1) = ((j + 1 : Nat) : Int) by omega] at hh
    obtain ⟨r1, r2⟩ := ihm (j + 1) (by omega) (by omega) hh
    refine ⟨r1, fun q hq hjq => ?_⟩
    by_cases hqj : q = j
    ·subst hqj; exact ⟨y1, h1, h2⟩
    ·exact r2 q hq (by omega)
  ·simp only [lt_false hlt, cond_false] at hh
   rw [wrap64 (by omega) (by omega)] at hh
   exact ⟨hh, fun q hq hjq => by omega⟩

def NodeR (N : Nat) (a : List SNode) (x : SNode) : Prop := ms_FieldsOk N x = some true ∧ ∀ (q : Nat) (hq : q < x.Kids.length), ∃ y, ix a x.Kids[q] = some y ∧ ms_l7Kid x (q : Int) y.Kind = some true

theorem nodes_l1 (N : Nat) (a : List SNode) (ha : a.length ≤ 400) (hk : ∀ x, x ∈ a → x.Kids.length ≤ 400) (hN : 500 < N) : ∀ (n i : Nat), a.length - i < n → i ≤ a.length → ms_TreeOk_l1 N n (a, (i : Int)) = some true → ∀ x, x ∈ a.drop i → NodeR N a x := by
 intro n
 induction n with
 | zero => intro i h; omega
 | succ n ih =>
  intro i hn hi h x hx
  rw [ms_TreeOk_l1] at h
  by_cases hlt : i < a.length
  ·simp only [lt_true hlt, cond_true, ix_nat hlt, Option.bind_some] at h
   obtain ⟨b, hb, h⟩ := Option.bind_eq_some_iff.1 h
   cases b with
   | false => cases h
   | true =>
    simp only [Bool.not_true, cond_false] at h
    have hkl := hk _ (List.getElem_mem hlt)
    obtain ⟨h1, h2⟩ := nodes_l2 N a (ms_TreeOk_l1 N n) i hlt (by omega) (by omega) N 0 (by omega) (by omega) h
    rw [drop_cons hlt] at hx
    rcases List.mem_cons.1 hx with rfl | hx
    ·exact ⟨hb, fun q hq => h2 q hq (by omega)⟩
    ·exact ih (i + 1) (by omega) (by omega) h1 x hx
  ·rw [drop_nil hlt] at hx
   cases hx

theorem treeOk_nodes (N : Nat) (a : List SNode) (hN : 500 < N) (hsh : shapeB a = true) (h : ms_TreeOk N a = some true) : ∀ x, x ∈ a → NodeR N a x := by
 unfold ms_TreeOk at h
 obtain ⟨y, _, h⟩ := Option.bind_eq_some_iff.1 h
 cases y with
 | true => cases h
 | false =>
  rw [cond_false] at h
  intro x hx
  have h2 := (shape_of hsh).2.1
  exact nodes_l1 N a h2 (fun z hz => (shape_kids hsh z hz).1) hN N 0 (by omega) (by omega) h x (by rw [List.drop_zero]; exact hx)

theorem sortI_perm (l : List Int) : (sortI l).Perm l := List.mergeSort_perm l _
theorem sortI_pw (l : List Int) : (sortI l).Pairwise (· ≤ ·) := by
 have h := List.pairwise_mergeSort (le := fun x y : Int => decide (x ≤ y)) (fun a b c h1 h2 => by simp at *; omega) (fun a b => by simp; omega) l
 exact h.imp fun h => by simpa using h
theorem sortI_of {l : List Int} (h : l.Pairwise (· ≤ ·)) : sortI l = l := List.mergeSort_of_pairwise (h.imp fun h => by simpa using h)
theorem sortS_is (l : List Int) (hl : l.length ≤ 1000000) : m_slices_Sort_int l = some (sortI l) := by
 unfold m_slices_Sort_int sortO
 rw [if_pos (by omega)]

def leaveB (k : Int) : Bool := k == 22 || (k == 23 || (k == 24 || (k == 25 || k == 26)))
theorem leaves_is (x : SNode) : mi_Leaves x = some (leaveB x.Kind) := by
 unfold mi_Leaves leaveB mi_Leaves_k1
 cases x.Kind == 22 <;> cases x.Kind == 23 <;> cases x.Kind == 24 <;> cases x.Kind == 25 <;> cases x.Kind == 26 <;> rfl
def kindAt (a : List SNode) (k : Int) : Int := ((ix a k).map (·.Kind)).getD 0
theorem kindAt_of {a : List SNode} {k : Int} {x : SNode} (h : ix a k = some x) : kindAt a k = x.Kind := by unfold kindAt; rw [h]; rfl

def deadF (a : List SNode) : Bool → List Int → List Int
 | _, [] => []
 | left, k :: ks => (bif left && (kindAt a k != 34) then [k] else []) ++ deadF a (left || leaveB (kindAt a k)) ks
theorem deadF_len (a : List SNode) : ∀ (ks : List Int) (left : Bool), (deadF a left ks).length ≤ ks.length
 | [], _ => Nat.le_refl _
 | k :: ks, left => by
  rw [deadF, List.length_append, List.length_cons]
  have := deadF_len a ks (left || leaveB (kindAt a k))
  cases left && (kindAt a k != 34) <;> simp <;> omega
def deadAll (a : List SNode) (l : List SNode) : List Int := l.flatMap fun x => bif x.Kind != 33 then [] else deadF a false x.Kids
theorem deadAll_len (a : List SNode) : ∀ l : List SNode, (∀ x, x ∈ l → x.Kids.length ≤ 400) → (deadAll a l).length ≤ 400 * l.length
 | [], _ => by simp [deadAll]
 | x :: l, h => by
  have h1 := deadAll_len a l fun y hy => h y (by simp [hy])
  have h2 := deadF_len a x.Kids false
  have h3 := h x (by simp)
  have e : deadAll a (x :: l) = (bif x.Kind != 33 then [] else deadF a false x.Kids) ++ deadAll a l := rfl
  rw [e, List.length_append, List.length_cons]
  cases x.Kind != 33
  ·simp only [cond_false]; omega
  ·simp only [cond_true, List.length_nil]; omega

def Ins (a : List SNode) (ks : List Int) : Prop := ∀ k, k ∈ ks → ∃ x, ix a k = some x
theorem ins_of {a : List SNode} {ks : List Int} (h : ∀ k, k ∈ ks → 0 ≤ k ∧ k < a.length) : Ins a ks := fun k hk => by
 obtain ⟨h0, h1⟩ := h k hk
 have hlt : k.toNat < a.length := by omega
 refine ⟨a[k.toNat], ?_⟩
 have := ix_nat hlt
 rwa [Int.toNat_of_nonneg h0] at this

theorem di_l3 (N : Nat) (kb : (List SNode × Int × List Int) → Option (List Int)) (a : List SNode) (i : Int) (e : SNode) (hk : e.Kids.length ≤ 400) (hin : Ins a e.Kids) : ∀ (n j : Nat) (left : Bool) (acc : List Int), e.Kids.length - j < n → j ≤ e.Kids.length → acc.length + e.Kids.length ≤ 900000 + j →
  mi_DeadStmts_l3 N kb n (a, i, e, left, (j : Int), acc) = kb (a, IntKind.wrap .i64 (i + 1), acc ++ deadF a left (e.Kids.drop j)) := by
 intro n
 induction n with
 | zero => intro j left acc h; omega
 | succ n ih =>
  intro j left acc hn hj hacc
  rw [mi_DeadStmts_l3]
  by_cases h : j < e.Kids.length
  ·obtain ⟨x, hx⟩ := hin e.Kids[j] (List.getElem_mem h)
   have hka := kindAt_of hx
   simp only [lt_true h, cond_true, ix_nat h, Option.bind_some, hx]
   have e1 : (bif left then some (x.Kind != 34) else some false) = some (left && (x.Kind != 34)) := by cases left <;> rfl
   simp only [e1, Option.bind_some]
   have next : ∀ acc : List Int, acc.length + e.Kids.length ≤ 900000 + (j + 1) → mi_DeadStmts_k4 N kb (mi_DeadStmts_l3 N kb n) (a, left, e.Kids[j], i, e, (j : Int), acc) = kb (a, IntKind.wrap .i64 (i + 1), acc ++ deadF a (left || leaveB (kindAt a e.Kids[j])) (e.Kids.drop (j + 1))) := fun acc hacc => by
    unfold mi_DeadStmts_k4
    have e2 : (bif left then some true else (some (leaveB x.Kind))) = some (left || leaveB x.Kind) := by cases left <;> rfl
    simp only [hx, Option.bind_some, leaves_is, e2]
    rw [wrap64 (by omega) (by omega), show (j : Int) + 1 = ((j + 1 : Nat) : Int) by omega, ih (j + 1) _ acc (by omega) (by omega) (by omega), hka]
   rw [drop_cons h, deadF, hka]
   cases hb : left && (x.Kind != 34) with
   | true =>
    simp only [cond_true]
    rw [app_some (by simp; omega), Option.bind_some, next _ (by simp; omega), hka]
    simp
   | false =>
    simp only [cond_false]
    rw [next _ (by omega), hka]
    simp
  ·simp only [lt_false h, cond_false]
   rw [drop_nil h, deadF, List.append_nil]
   rfl

theorem di_l1 (N : Nat) (a : List SNode) (hN : 1048577 < N) (ha : a.length ≤ 400) (hk : ∀ x, x ∈ a → x.Kids.length ≤ 400 ∧ ∀ k, k ∈ x.Kids → 0 ≤ k ∧ k < a.length) : ∀ (n i : Nat) (acc : List Int), a.length - i < n → i ≤ a.length → acc.length ≤ 400 * i →
  mi_DeadStmts_l1 N n (a, (i : Int), acc) = some (sortI (acc ++ deadAll a (a.drop i))) := by
 intro n
 induction n with
 | zero => intro i acc h; omega
 | succ n ih =>
  intro i acc hn hi hacc
  rw [mi_DeadStmts_l1]
  by_cases h : i < a.length
  ·obtain ⟨hkl, hkr⟩ := hk _ (List.getElem_mem h)
   simp only [lt_true h, cond_true, ix_nat h, Option.bind_some]
   have next : ∀ acc : List Int, acc.length ≤ 400 * (i + 1) → mi_DeadStmts_l1 N n (a, IntKind.wrap .i64 ((i : Int) + 1), acc) = some (sortI (acc ++ deadAll a (a.drop (i + 1)))) := fun acc hacc => by
    rw [wrap64 (by omega) (by omega), show (i : Int) + 1 = ((i + 1 : Nat) : Int) by omega]
    exact ih (i + 1) acc (by omega) (by omega) hacc
   have ed : deadAll a (a.drop i) = (bif a[i].Kind != 33 then [] else deadF a false a[i].Kids) ++ deadAll a (a.drop (i + 1)) := by
    rw [drop_cons h]; rfl
   rw [ed]
   cases hb : a[i].Kind != 33 with
   | true =>
    simp only [cond_true, List.nil_append]
    exact next acc (by omega)
   | false =>
    simp only [cond_false]
    have hd := deadF_len a a[i].Kids false
    have := di_l3 N (mi_DeadStmts_l1 N n) a (i : Int) a[i] hkl (ins_of hkr) N 0 false acc (by omega) (by omega) (by omega)
    rw [List.drop_zero] at this
    refine Eq.trans this ?_
    rw [next _ (by simp; omega), List.append_assoc]
  ·simp only [lt_false h, cond_false]
   rw [drop_nil h]
   have e : deadAll a [] = [] := rfl
   rw [e, List.append_nil, sortS_is _ (by omega)]
   rfl

mutual
def AllT (P : STree → Prop) : STree → Prop
 | ⟨k, o, x, y, ts⟩ => P ⟨k, o, x, y, ts⟩ ∧ AllTs P ts
def AllTs (P : STree → Prop) : List STree → Prop
 | [] => True
 | t :: ts => AllT P t ∧ AllTs P ts
end
theorem allTs_of {P : STree → Prop} : ∀ {ts : List STree}, (∀ t, t ∈ ts → AllT P t) → AllTs P ts
 | [], _ => by rw [AllTs]; trivial
 | t :: ts, h => by rw [AllTs]; exact ⟨h t (by simp), allTs_of fun u hu => h u (by simp [hu])⟩
theorem allT_true : ∀ t : STree, AllT (fun _ => True) t := by
 refine STree.ind fun t ih => ?_
 obtain ⟨k, o, x, y, ts⟩ := t
 rw [AllT]
 exact ⟨trivial, allTs_of ih⟩
theorem AllT.head {P : STree → Prop} {t : STree} (h : AllT P t) : P t := by
 obtain ⟨k, o, x, y, ts⟩ := t
 rw [AllT] at h
 exact h.1

mutual
theorem TA.sub {a : List SNode} {P : STree → Prop} : ∀ {t : STree} {s i : Nat}, TA a t s i → AllT P t → ∀ j, s ≤ j → j ≤ i → ∃ u s', TA a u s' j ∧ s ≤ s' ∧ P u
 | ⟨kd, op, x, y, ts⟩, s, i, h, hp, j, h1, h2 => by
  by_cases hj : j = i
  ·subst hj
   exact ⟨_, s, h, Nat.le_refl _, hp.head⟩
  ·rw [TA] at h
   rw [AllT] at hp
   obtain ⟨n, hn, rfl, rfl, rfl, rfl, hk⟩ := h
   exact KA.sub hk hp.2 j h1 (by omega)
theorem KA.sub {a : List SNode} {P : STree → Prop} : ∀ {ts : List STree} {ks : List Int} {s e : Nat}, KA a ts ks s e → AllTs P ts → ∀ j, s ≤ j → j < e → ∃ u s', TA a u s' j ∧ s ≤ s' ∧ P u
 | [], ks, s, e, h, hp, j, h1, h2 => by
  rw [KA] at h
  omega
 | t :: ts, ks, s, e, h, hp, j, h1, h2 => by
  rw [KA] at h
  rw [AllTs] at hp
  obtain ⟨k, ks', rfl, g1, g2, ht, hk⟩ := h
  have hs := ht.part.1
  by_cases hj : j ≤ k
  ·exact TA.sub ht hp.1 j h1 hj
  ·obtain ⟨u, s', r1, r2, r3⟩ := KA.sub hk hp.2 j (by omega) h2
   exact ⟨u, s', r1, by omega, r3⟩
end

theorem KA.mem {a : List SNode} : ∀ {ts : List STree} {ks : List Int} {s e : Nat}, KA a ts ks s e → ∀ k : Int, k ∈ ks → ∃ n : Nat, k = n ∧ s ≤ n ∧ n < e
 | [], ks, s, e, h, k, hk => by
  rw [KA] at h
  rw [h.1] at hk
  cases hk
 | t :: ts, ks, s, e, h, k, hk => by
  rw [KA] at h
  obtain ⟨k0, ks', rfl, g1, g2, ht, hk'⟩ := h
  have hs := ht.part.1
  rcases List.mem_cons.1 hk with rfl | hk
  ·exact ⟨k0, rfl, hs, g2⟩
  ·obtain ⟨n, r1, r2, r3⟩ := KA.mem hk' k hk
   exact ⟨n, r1, by omega, r3⟩

theorem KA.inc {a : List SNode} : ∀ {ts : List STree} {ks : List Int} {s e : Nat}, KA a ts ks s e → ks.Pairwise (· < ·)
 | [], ks, s, e, h => by
  rw [KA] at h
  rw [h.1]
  exact List.Pairwise.nil
 | t :: ts, ks, s, e, h => by
  rw [KA] at h
  obtain ⟨k0, ks', rfl, g1, g2, ht, hk'⟩ := h
  refine List.pairwise_cons.2 ⟨fun z hz => ?_, KA.inc hk'⟩
  obtain ⟨n, rfl, r2, _⟩ := KA.mem hk' z hz
  omega

theorem KA.after {a : List SNode} : ∀ {ts : List STree} {ks : List Int} {s e : Nat}, KA a ts ks s e → ∀ k : Nat, (k : Int) ∈ ks → ∀ i, k < i → i < e → ∃ u s', TA a u s' i ∧ k < s'
 | [], ks, s, e, h, k, hk, i, h1, h2 => by
  rw [KA] at h
  rw [h.1] at hk
  cases hk
 | t :: ts, ks, s, e, h, k, hk, i, h1, h2 => by
  rw [KA] at h
  obtain ⟨k0, ks', rfl, g1, g2, ht, hk'⟩ := h
  rcases List.mem_cons.1 hk with h0 | hk
  ·have : k = k0 := by omega
   subst this
   obtain ⟨u, s', r1, r2, _⟩ := KA.sub hk' (allTs_of fun t _ => allT_true t) i (by omega) h2
   exact ⟨u, s', r1, by omega⟩
  ·exact KA.after hk' k hk i h1 h2

theorem parent_uniq {a : List SNode} {n n' : SNode} {t t' : STree} {ts ts' : List STree} {s s' i i' : Nat} (h : TA a t s i) (hk : KA a ts n.Kids s i) (h' : TA a t' s' i') (hk' : KA a ts' n'.Kids s' i') {k : Int} (m : k ∈ n.Kids) (m' : k ∈ n'.Kids) : i = i' := by
 obtain ⟨x, rfl, x1, x2⟩ := hk.mem k m
 obtain ⟨x', e, y1, y2⟩ := hk'.mem _ m'
 have : x' = x := by omega
 subst this
 rcases Nat.lt_trichotomy i i' with hlt | rfl | hlt
 ·obtain ⟨u, s2, r1, r2⟩ := hk'.after x' m' i x2 hlt
  have := (TA.uniq r1 h).2
  omega
 ·rfl
 ·obtain ⟨u, s2, r1, r2⟩ := hk.after x' m i' y2 hlt
  have := (TA.uniq r1 h').2
  omega

theorem deadF_sub (a : List SNode) : ∀ (ks : List Int) (b : Bool) (k : Int), k ∈ deadF a b ks → k ∈ ks
 | [], b, k, h => by rw [deadF] at h; exact h
 | k0 :: ks, b, k, h => by
  rw [deadF] at h
  rcases List.mem_append.1 h with h | h
  ·cases hb : (b && (kindAt a k0 != 34)) with
   | true => rw [hb, cond_true, List.mem_singleton] at h; simp [h]
   | false => rw [hb, cond_false] at h; cases h
  ·exact List.mem_cons_of_mem _ (deadF_sub a ks _ k h)

theorem deadAll_mem (a l : List SNode) (k : Int) : k ∈ deadAll a l ↔ ∃ x, x ∈ l ∧ x.Kind = 33 ∧ k ∈ deadF a false x.Kids := by
 unfold deadAll
 rw [List.mem_flatMap]
 constructor
 ·rintro ⟨x, hx, h⟩
  refine ⟨x, hx, ?_⟩
  cases hb : x.Kind != 33 with
  | true => rw [hb, cond_true] at h; cases h
  | false => rw [hb, cond_false] at h; exact ⟨by simpa using hb, h⟩
 ·rintro ⟨x, hx, hk, h⟩
  refine ⟨x, hx, ?_⟩
  have : (x.Kind != 33) = false := by simp [hk]
  rw [this, cond_false]; exact h

theorem dead_iff {a : List SNode} (hsh : shapeB a = true) {n : SNode} {t : STree} {s i : Nat} (h : TA a t s i) (hn : a[i]? = some n) (hk : KA a t.kids n.Kids s i) {k : Int} (m : k ∈ n.Kids) : k ∈ deadAll a a ↔ n.Kind = 33 ∧ k ∈ deadF a false n.Kids := by
 rw [deadAll_mem]
 constructor
 ·rintro ⟨x, hx, h1, h2⟩
  obtain ⟨i', hi'⟩ := List.getElem?_of_mem hx
  obtain ⟨_, _, _, _, _, _, hT, _⟩ := shape_of hsh
  obtain ⟨t', s', _, ht'⟩ := hT i' (List.getElem?_eq_some_iff.1 hi').1
  obtain ⟨n', hn', _, _, _, _, hk', _⟩ := ht'.node
  rw [hi'] at hn'
  have := Option.some.inj hn'
  subst this
  have := parent_uniq h hk ht' hk' m (deadF_sub a _ _ _ h2)
  subst this
  rw [hn] at hi'
  have := Option.some.inj hi'
  subst this
  exact ⟨h1, h2⟩
 ·rintro ⟨h1, h2⟩
  exact ⟨n, List.mem_of_getElem? hn, h1, h2⟩

theorem root_dead {a : List SNode} (hsh : shapeB a = true) : ((a.length - 1 : Nat) : Int) ∉ deadAll a a := fun h => by
 obtain ⟨x, hx, _, h2⟩ := (deadAll_mem a a _).1 h
 obtain ⟨i', hi'⟩ := List.getElem?_of_mem hx
 obtain ⟨_, _, _, _, _, _, hT, _⟩ := shape_of hsh
 have hlt := (List.getElem?_eq_some_iff.1 hi').1
 obtain ⟨t', s', _, ht'⟩ := hT i' hlt
 obtain ⟨n', hn', _, _, _, _, hk', _⟩ := ht'.node
 rw [hi'] at hn'
 have := Option.some.inj hn'
 subst this
 obtain ⟨k, e, _, h3⟩ := hk'.mem _ (deadF_sub a _ _ _ h2)
 omega

theorem idx_l (N : Nat) (p : List Int) (x : Int) (hp : p.length ≤ 1000000) : ∀ (n i : Nat), p.length - i < n → i ≤ p.length → ∃ r : Int, m_slices_Index_int_l1 N n (p, x, (i : Int)) = some r ∧ decide (r ≥ 0) = decide (x ∈ p.drop i) := by
 intro n
 induction n with
 | zero => intro i h; omega
 | succ n ih =>
  intro i hn hi
  rw [m_slices_Index_int_l1]
  by_cases h : i < p.length
  ·simp only [lt_true h, cond_true, ix_nat h, Option.bind_some]
   rw [drop_cons h]
   by_cases hx : x = p[i]
   ·have e : (x == p[i]) = true := by simpa using hx
    rw [e, cond_true]
    refine ⟨(i : Int), rfl, ?_⟩
    rw [decide_eq_true (by omega : (i : Int) ≥ 0), decide_eq_true (List.mem_cons.2 (.inl hx))]
   ·have e : (x == p[i]) = false := by simpa using hx
    rw [e, cond_false, wrap64 (by omega) (by omega), show (i : Int) + 1 = ((i + 1 : Nat) : Int) by omega]
    obtain ⟨r, r1, r2⟩ := ih (i + 1) (by omega) (by omega)
    refine ⟨r, r1, ?_⟩
    rw [r2]
    by_cases hm : x ∈ p.drop (i + 1)
    ·rw [decide_eq_true hm, decide_eq_true (List.mem_cons.2 (.inr hm))]
    ·rw [decide_eq_false hm, decide_eq_false (fun g => (List.mem_cons.1 g).elim hx hm)]
  ·simp only [lt_false h, cond_false]
   rw [drop_nil h]
   exact ⟨-1, rfl, by simp⟩

theorem contI_is (N : Nat) (p : List Int) (x : Int) (hp : p.length ≤ 1000000) (hN : 1000000 < N) : m_slices_Contains_int N p x = some (decide (x ∈ p)) := by
 obtain ⟨r, r1, r2⟩ := idx_l N p x hp N 0 (by omega) (by omega)
 unfold m_slices_Contains_int m_slices_Index_int
 have r1' : m_slices_Index_int_l1 N N (p, x, 0) = some r := r1
 rw [r1', Option.bind_some, r2, List.drop_zero]

theorem fields_len (N : Nat) (k o : Int) (x y : List UInt8) (ks ks' : List Int) (h : ks.length = ks'.length) : ms_FieldsOk N ⟨k, o, x, y, ks⟩ = ms_FieldsOk N ⟨k, o, x, y, ks'⟩ := by
 have h1 : ms_l7Many ⟨k, o, x, y, ks⟩ = ms_l7Many ⟨k, o, x, y, ks'⟩ := by
  simp only [ms_l7Many, ms_l7Many_k1, ms_l7Many_k2, ms_l7Many_k3, ms_l7Many_k4, ms_l7Many_k5, ms_l7Many_k6, h]
 have h2 : ms_l7Op ⟨k, o, x, y, ks⟩ = ms_l7Op ⟨k, o, x, y, ks'⟩ := rfl
 have h3 : ms_l7Text N ⟨k, o, x, y, ks⟩ = ms_l7Text N ⟨k, o, x, y, ks'⟩ := rfl
 unfold ms_FieldsOk
 rw [h1, h2, h3]
 simp only [h]

theorem fields_33 (N : Nat) (o : Int) (x y : List UInt8) (ks ks' : List Int) (h : ms_FieldsOk N ⟨33, o, x, y, ks⟩ = some true) : ms_FieldsOk N ⟨33, o, x, y, ks'⟩ = some true := by
 have e : ∀ l : List Int, ms_FieldsOk N ⟨33, o, x, y, l⟩ = (ms_l7Op ⟨33, o, x, y, ks⟩).bind fun r14 => bif r14 then ((ms_l7Text N ⟨33, o, x, y, ks⟩).bind fun r15 => bif r15 then some true else some false) else some false := fun l => by
  have h1 : ms_l7Many ⟨33, o, x, y, l⟩ = some (0, (l.length : Int)) := rfl
  have h2 : ms_l7Op ⟨33, o, x, y, l⟩ = ms_l7Op ⟨33, o, x, y, ks⟩ := rfl
  have h3 : ms_l7Text N ⟨33, o, x, y, l⟩ = ms_l7Text N ⟨33, o, x, y, ks⟩ := rfl
  have h4 : ms_l1In (l.length : Int) 0 (l.length : Int) = some true := by rw [l1In_is]; simp
  unfold ms_FieldsOk
  rw [h1, Option.bind_some, h2, h3]
  simp only [h4, l1In_is, Option.bind_some]
  cases ms_l7Op ⟨33, o, x, y, ks⟩ with
  | none => rfl
  | some b => cases b with
   | false => rfl
   | true => cases ms_l7Text N ⟨33, o, x, y, ks⟩ with
    | none => rfl
    | some c => cases c <;> rfl
 rw [e] at h ⊢
 exact h

theorem kid_len (k o : Int) (x y : List UInt8) (ks ks' : List Int) (h : ks.length = ks'.length) (q kd : Int) : ms_l7Kid ⟨k, o, x, y, ks⟩ q kd = ms_l7Kid ⟨k, o, x, y, ks'⟩ q kd := by
 simp only [ms_l7Kid, ms_l7Kid_k1, ms_l7Kid_k2, h]

def RT (N : Nat) (t : STree) : Prop := ms_FieldsOk N ⟨t.kind, t.op, t.text, t.other, List.replicate t.kids.length 0⟩ = some true ∧
 ∀ (q : Nat) (u : STree), t.kids[q]? = some u → ms_l7Kid ⟨t.kind, t.op, t.text, t.other, List.replicate t.kids.length 0⟩ (q : Int) u.kind = some true

theorem dd1_is (N : Nat) (i : Nat) (t : STree) (p : List Int) (hp : p.length ≤ 1000000) (hN : 1000000 < N) : mi_DropDead_1 N (i : Int) t p = some (if (i : Int) ∈ p then [] else [t]) := by
 unfold mi_DropDead_1
 rw [contI_is N p _ hp hN, Option.bind_some]
 by_cases h : (i : Int) ∈ p
 ·rw [decide_eq_true h, if_pos h]; rfl
 ·rw [decide_eq_false h, if_neg h]; rfl

theorem ok_l2 (N : Nat) (a : List SNode) (kb : (List SNode × Int) → Option Bool) (i : Nat) (hi : i < a.length) (hkl : a[i].Kids.length ≤ 100000) (hk : ∀ (q : Nat) (hq : q < a[i].Kids.length), ∃ y, ix a a[i].Kids[q] = some y ∧ ms_l7Kid a[i] (q : Int) y.Kind = some true) : ∀ (m j : Nat), a[i].Kids.length - j < m → j ≤ a[i].Kids.length →
  ms_TreeOk_l2 N kb m (a, (i : Int), (j : Int)) = kb (a, IntKind.wrap .i64 ((i : Int) + 1)) := by
 intro m
 induction m with
 | zero => intro j h; omega
 | succ m ihm =>
  intro j hm hj
  rw [ms_TreeOk_l2, ix_nat hi, Option.bind_some]
  by_cases hlt : j < a[i].Kids.length
  ·obtain ⟨y, h1, h2⟩ := hk j hlt
   simp only [lt_true hlt, cond_true, ix_nat hi, ix_nat hlt, Option.bind_some, h1, h2, Bool.not_true, cond_false]
   rw [wrap64 (by omega) (by omega), show ((j : Int) + 1) = ((j + 1 : Nat) : Int) by omega]
   exact ihm (j + 1) (by omega) (by omega)
  ·simp only [lt_false hlt, cond_false]

theorem ok_l1 (N : Nat) (a : List SNode) (ha : a.length ≤ 400) (hN : 500 < N) (hk : ∀ x, x ∈ a → x.Kids.length ≤ 400) (hr : ∀ x, x ∈ a → NodeR N a x) : ∀ (n i : Nat), a.length - i < n → i ≤ a.length → ms_TreeOk_l1 N n (a, (i : Int)) = some true := by
 intro n
 induction n with
 | zero => intro i h; omega
 | succ n ih =>
  intro i hn hi
  rw [ms_TreeOk_l1]
  by_cases hlt : i < a.length
  ·obtain ⟨h1, h2⟩ := hr _ (List.getElem_mem hlt)
   have hkl := hk _ (List.getElem_mem hlt)
   simp only [lt_true hlt, cond_true, ix_nat hlt, Option.bind_some, h1, Bool.not_true, cond_false]
   have := ok_l2 N a (ms_TreeOk_l1 N n) i hlt (by omega) h2 N 0 (by omega) (by omega)
   refine Eq.trans this ?_
   rw [wrap64 (by omega) (by omega), show ((i : Int) + 1) = ((i + 1 : Nat) : Int) by omega]
   exact ih (i + 1) (by omega) (by omega)
  ·simp only [lt_false hlt, cond_false]

theorem treeOk_lst (N : Nat) (t : STree) (hN : 1048577 < N) (hsz : szT t ≤ 400) (hd : depT t ≤ 40) (hs : ∀ x, x ∈ lst 0 t → smNode x) (hall : AllT (RT N) t) : ms_TreeOk N (lst 0 t) = some true := by
 have hsh := shapeB_lst t hsz
 have hT := TA_self t
 have hll := lst_len t 0
 have hpos := szT_pos t
 have hdep := depthOf_spec N (lst 0 t) hN hs hsh hT
 unfold ms_TreeOk
 rw [shapeOk_spec N _ hN hs, hsh, hdep]
 have hle : decide ((depT t : Int) > 40) = false := by simp; omega
 simp only [Option.bind_some, Bool.not_true, cond_false, hle]
 have hr : ∀ x, x ∈ lst 0 t → NodeR N (lst 0 t) x := fun x hx => by
  obtain ⟨i, hi⟩ := List.getElem?_of_mem hx
  have hlt := (List.getElem?_eq_some_iff.1 hi).1
  obtain ⟨u, s', hu, _, h1, h2⟩ := TA.sub hT hall i (by omega) (by omega)
  obtain ⟨n, hn, e1, e2, e3, e4, hka, hkl⟩ := hu.node
  rw [hi] at hn
  have := Option.some.inj hn
  subst this
  obtain ⟨xk, xo, xx, xy, xks⟩ := x
  obtain ⟨uk, uo, ux, uy, uks⟩ := u
  have e1 : uk = xk := e1
  have e2 : uo = xo := e2
  have e3 : ux = xx := e3
  have e4 : uy = xy := e4
  subst e1 e2 e3 e4
  have hl : (List.replicate uks.length (0 : Int)).length = xks.length := by rw [List.length_replicate]; exact hkl
  refine ⟨(fields_len N _ _ _ _ _ _ hl).symm.trans h1, fun q hq => ?_⟩
  have hq2 : q < uks.length := by have hkl : uks.length = xks.length := hkl; have hq : q < xks.length := hq; omega
  have hv : uks[q]? = some uks[q] := List.getElem?_eq_getElem hq2
  obtain ⟨k, s2, hk, hTx, _⟩ := hka.get q _ hv
  obtain ⟨_, hk⟩ := List.getElem?_eq_some_iff.1 hk
  obtain ⟨m, hm, m1, _⟩ := hTx.node
  refine ⟨m, ?_, ?_⟩
  ·have hk : xks[q] = (k : Int) := hk
   show ix (lst 0 _) xks[q] = some m
   rw [hk]; exact ix_get hm
  ·rw [← m1]
   exact (kid_len _ _ _ _ _ _ hl _ _).symm.trans (h2 q _ hv)
 have := ok_l1 N (lst 0 t) (by omega) (by omega) (fun x hx => (shape_kids hsh x hx).1) hr N 0 (by omega) (by omega)
 have this' : ms_TreeOk_l1 N N (lst 0 t, 0) = some true := this
 simp only [this', Option.bind_some]

theorem deadI_ex (N : Nat) (a : List SNode) (hN : 1048577 + 400 < N) (hs : ∀ z, z ∈ a → smNode z) : ∃ r, mi_DeadStmts N a = some r ∧ r.length ≤ 160000 ∧ ∀ b, mi_TreeOk N a = some b → b = true → r = sortI (deadAll a a) := by
 obtain ⟨b, b1, b2, b3⟩ := treeOk_ex N a hN hs
 unfold mi_DeadStmts
 rw [b2]
 simp only [Option.bind_some]
 cases b with
 | false => exact ⟨[], rfl, by simp, fun b h1 h2 => by subst h2; cases h1⟩
 | true =>
  obtain ⟨hsh, _⟩ := b3 rfl
  have ha := (shape_of hsh).2.1
  have h1 := di_l1 N a (by omega) ha (shape_kids hsh) N 0 [] (by omega) (by omega) (by simp)
  rw [List.drop_zero, List.nil_append] at h1
  have hl := deadAll_len a a fun x hx => (shape_kids hsh x hx).1
  exact ⟨_, h1, by rw [sortI_len]; omega, fun _ _ _ => rfl⟩

mutual
def dropT : STree → STree
 | ⟨k, o, x, y, ts⟩ => ⟨k, o, x, y, dropTs (k == 33) false ts⟩
def dropTs (b : Bool) : Bool → List STree → List STree
 | _, [] => []
 | left, t :: ts => (bif b && (left && t.kind != 34) then [] else [dropT t]) ++ dropTs b (left || leaveB t.kind) ts
end
def ndF : Bool → List STree → Bool
 | _, [] => true
 | left, t :: ts => !(left && t.kind != 34) && ndF (left || leaveB t.kind) ts
def NdP (t : STree) : Prop := t.kind = 33 → ndF false t.kids = true
theorem dropT_kind (t : STree) : (dropT t).kind = t.kind := by cases t; rw [dropT]
theorem dropTs_nil (b left : Bool) : dropTs b left [] = [] := by rw [dropTs]
theorem dropTs_gone {b left : Bool} {t : STree} (h : (b && (left && t.kind != 34)) = true) (ts : List STree) : dropTs b left (t :: ts) = dropTs b (left || leaveB t.kind) ts := by
 rw [dropTs, h]; rfl
theorem dropTs_kept {b left : Bool} {t : STree} (h : (b && (left && t.kind != 34)) = false) (ts : List STree) : dropTs b left (t :: ts) = dropT t :: dropTs b (left || leaveB t.kind) ts := by
 rw [dropTs, h]; rfl
theorem dropTs_map : ∀ (ts : List STree) (left : Bool), dropTs false left ts = ts.map dropT
 | [], left => by rw [dropTs_nil]; rfl
 | t :: ts, left => by rw [dropTs_kept (by rfl), dropTs_map ts]; rfl
theorem dropTs_mem {b : Bool} : ∀ {ts : List STree} {left : Bool} {u : STree}, u ∈ dropTs b left ts → ∃ t, t ∈ ts ∧ u = dropT t
 | [], left, u, h => by rw [dropTs_nil] at h; cases h
 | t :: ts, left, u, h => by
  cases hc : (b && (left && t.kind != 34)) with
  | true =>
   rw [dropTs_gone hc] at h
   obtain ⟨v, h1, h2⟩ := dropTs_mem h
   exact ⟨v, by simp [h1], h2⟩
  | false =>
   rw [dropTs_kept hc] at h
   rcases List.mem_cons.1 h with h | h
   ·exact ⟨t, by simp, h⟩
   ·obtain ⟨v, h1, h2⟩ := dropTs_mem h
    exact ⟨v, by simp [h1], h2⟩
theorem dropTs_ndF : ∀ (ts : List STree) (left : Bool), ndF left (dropTs true left ts) = true
 | [], left => by rw [dropTs_nil]; rfl
 | t :: ts, left => by
  have ih := dropTs_ndF ts (left || leaveB t.kind)
  cases hc : (true && (left && t.kind != 34)) with
  | true =>
   rw [dropTs_gone hc]
   cases left with
   | true => exact ih
   | false => cases hc
  | false =>
   rw [dropTs_kept hc, ndF, dropT_kind, ih]
   rw [Bool.true_and] at hc
   rw [hc]; rfl
theorem AllTs.mem {P : STree → Prop} : ∀ {ts : List STree}, AllTs P ts → ∀ t, t ∈ ts → AllT P t
 | [], _, t, h => by cases h
 | u :: ts, h, t, ht => by
  rw [AllTs] at h
  rcases List.mem_cons.1 ht with rfl | ht
  ·exact h.1
  ·exact AllTs.mem h.2 t ht
theorem dropT_nd : ∀ t : STree, AllT NdP (dropT t) := by
 refine STree.ind fun t ih => ?_
 obtain ⟨k, o, x, y, ts⟩ := t
 rw [dropT, AllT]
 refine ⟨fun hk => ?_, allTs_of fun u hu => ?_⟩
 ·have hk : k = 33 := hk
  subst hk
  exact dropTs_ndF ts false
 ·obtain ⟨v, h1, rfl⟩ := dropTs_mem hu
  exact ih v h1
theorem dropTs_id : ∀ {b : Bool} (ts : List STree) (left : Bool), (∀ t, t ∈ ts → dropT t = t) → (b = true → ndF left ts = true) → dropTs b left ts = ts
 | b, [], left, _, _ => dropTs_nil b left
 | b, t :: ts, left, h, hn => by
  have hc : (b && (left && t.kind != 34)) = false := by
   cases b with
   | false => rfl
   | true =>
    have := hn rfl
    rw [ndF] at this
    rw [Bool.true_and]
    cases hx : (left && t.kind != 34) with
    | false => rfl
    | true => rw [hx] at this; cases this
  rw [dropTs_kept hc, h t (by simp), dropTs_id ts _ (fun u hu => h u (by simp [hu])) fun hb => by
   have := hn hb
   rw [ndF] at this
   exact (Bool.and_eq_true_iff.1 this).2]
theorem dropT_id : ∀ t : STree, AllT NdP t → dropT t = t := by
 refine STree.ind fun t ih => ?_
 obtain ⟨k, o, x, y, ts⟩ := t
 intro h
 rw [AllT] at h
 rw [dropT, dropTs_id ts false (fun u hu => ih u hu (h.2.mem u hu)) fun hk => h.1 (by simpa using hk)]
theorem dropTs_sz {b : Bool} : ∀ (ts : List STree) (left : Bool), (∀ t, t ∈ ts → szT (dropT t) ≤ szT t ∧ (szT (dropT t) = szT t → AllT NdP t)) → szTs (dropTs b left ts) ≤ szTs ts ∧ (szTs (dropTs b left ts) = szTs ts → AllTs NdP ts ∧ (b = true → ndF left ts = true))
 | [], left, _ => by
  rw [dropTs_nil]
  exact ⟨Nat.le_refl _, fun _ => ⟨by rw [AllTs]; trivial, fun _ => rfl⟩⟩
 | t :: ts, left, h => by
  obtain ⟨g1, g2⟩ := dropTs_sz (b := b) ts (left || leaveB t.kind) fun u hu => h u (by simp [hu])
  obtain ⟨f1, f2⟩ := h t (by simp)
  have hp := szT_pos t
  cases hc : (b && (left && t.kind != 34)) with
  | true =>
   rw [dropTs_gone hc, szTs]
   exact ⟨by omega, fun e => by omega⟩
  | false =>
   rw [dropTs_kept hc, szTs, szTs]
   refine ⟨by omega, fun e => ?_⟩
   obtain ⟨k1, k2⟩ := g2 (by omega)
   refine ⟨by rw [AllTs]; exact ⟨f2 (by omega), k1⟩, fun hb => ?_⟩
   rw [hb, Bool.true_and] at hc
   rw [ndF, hc, k2 hb]; rfl
theorem dropT_sz : ∀ t : STree, szT (dropT t) ≤ szT t ∧ (szT (dropT t) = szT t → AllT NdP t) := by
 refine STree.ind fun t ih => ?_
 obtain ⟨k, o, x, y, ts⟩ := t
 obtain ⟨g1, g2⟩ := dropTs_sz (b := k == 33) ts false ih
 rw [dropT, szT, szT]
 refine ⟨by omega, fun e => ?_⟩
 obtain ⟨k1, k2⟩ := g2 (by omega)
 rw [AllT]
 exact ⟨fun hk => k2 (by have hk : k = 33 := hk; simp [hk]), k1⟩
theorem depTs_mem : ∀ {ts : List STree} {m : Nat}, (∀ t, t ∈ ts → depT t ≤ m) → depTs ts ≤ m
 | [], m, _ => by rw [depTs]; omega
 | t :: ts, m, h => by
  rw [depTs]
  have := h t (by simp)
  have := depTs_mem (ts := ts) fun u hu => h u (by simp [hu])
  omega
theorem depT_mem : ∀ {ts : List STree} {t : STree}, t ∈ ts → depT t ≤ depTs ts
 | u :: ts, t, h => by
  rw [depTs]
  rcases List.mem_cons.1 h with rfl | h
  ·omega
  ·have := depT_mem h; omega
theorem dropT_dep : ∀ t : STree, depT (dropT t) ≤ depT t := by
 refine STree.ind fun t ih => ?_
 obtain ⟨k, o, x, y, ts⟩ := t
 rw [dropT, depT, depT]
 have : depTs (dropTs (k == 33) false ts) ≤ depTs ts := depTs_mem fun u hu => by
  obtain ⟨v, h1, rfl⟩ := dropTs_mem hu
  exact Nat.le_trans (ih v h1) (depT_mem h1)
 omega
def TxP (t : STree) : Prop := t.text.length ≤ 1048576 ∧ t.other.length ≤ 1048576
theorem txT_all : ∀ t : STree, AllT TxP t → txT t := by
 refine STree.ind fun t ih => ?_
 obtain ⟨k, o, x, y, ts⟩ := t
 intro h
 rw [AllT] at h
 exact txT_mk (fun u hu => ih u hu (h.2.mem u hu)) h.1.1 h.1.2
theorem dropT_tx : ∀ t : STree, AllT TxP t → AllT TxP (dropT t) := by
 refine STree.ind fun t ih => ?_
 obtain ⟨k, o, x, y, ts⟩ := t
 intro h
 rw [AllT] at h
 rw [dropT, AllT]
 refine ⟨h.1, allTs_of fun u hu => ?_⟩
 obtain ⟨v, h1, rfl⟩ := dropTs_mem hu
 exact ih v h1 (h.2.mem v h1)
theorem dropT_rt (N : Nat) : ∀ t : STree, AllT (RT N) t → AllT (RT N) (dropT t) := by
 refine STree.ind fun t ih => ?_
 obtain ⟨k, o, x, y, ts⟩ := t
 intro h
 rw [AllT] at h
 rw [dropT, AllT]
 refine ⟨?_, allTs_of fun u hu => ?_⟩
 ·obtain ⟨hf, hk⟩ := h.1
  by_cases h33 : k = 33
  ·subst h33
   refine ⟨fields_33 N o x y _ _ hf, fun q u hu => ?_⟩
   obtain ⟨v, h1, rfl⟩ := dropTs_mem (List.mem_of_getElem? hu)
   obtain ⟨p, hp⟩ := List.getElem?_of_mem h1
   rw [dropT_kind]
   exact hk p v hp
  ·have hb : (k == 33) = false := by simpa using h33
   rw [hb, dropTs_map]
   have hl : (List.replicate (ts.map dropT).length (0 : Int)) = List.replicate ts.length 0 := by rw [List.length_map]
   refine ⟨?_, fun q u hu => ?_⟩
   ·show ms_FieldsOk N ⟨k, o, x, y, List.replicate (ts.map dropT).length 0⟩ = some true
    rw [hl]; exact hf
   ·show ms_l7Kid ⟨k, o, x, y, List.replicate (ts.map dropT).length 0⟩ (q : Int) u.kind = some true
    rw [hl]
    have hu : (ts.map dropT)[q]? = some u := hu
    rw [List.getElem?_map, Option.map_eq_some_iff] at hu
    obtain ⟨v, h1, rfl⟩ := hu
    rw [dropT_kind]
    exact hk q v h1
 ·obtain ⟨v, h1, rfl⟩ := dropTs_mem hu
  exact ih v h1 (h.2.mem v h1)
theorem KA.mem_ta {a : List SNode} : ∀ {ts : List STree} {ks : List Int} {s e : Nat}, KA a ts ks s e → ∀ t, t ∈ ts → ∃ s' k : Nat, TA a t s' k ∧ k < e
 | [], ks, s, e, h, t, ht => by cases ht
 | u :: ts, ks, s, e, h, t, ht => by
  simp only [KA] at h
  obtain ⟨k, ks', _, h1, h2, hta, hka⟩ := h
  rcases List.mem_cons.1 ht with rfl | ht
  ·exact ⟨s, k, hta, h2⟩
  ·exact KA.mem_ta hka t ht
theorem TA.all {a : List SNode} {P : STree → Prop} (hP : ∀ u s j, TA a u s j → P u) : ∀ (t : STree) (s i : Nat), TA a t s i → AllT P t := by
 refine STree.ind fun t ih => ?_
 intro s i h
 obtain ⟨n, hn, e1, e2, e3, e4, hka, hkl⟩ := h.node
 have ht := hP t s i h
 obtain ⟨k, o, x, y, ts⟩ := t
 rw [AllT]
 refine ⟨ht, allTs_of fun u hu => ?_⟩
 obtain ⟨s', k, hu2, _⟩ := hka.mem_ta u hu
 exact ih u hu s' k hu2
theorem deadF_nd {a : List SNode} : ∀ {ts : List STree} {ks : List Int} {s e : Nat} (left : Bool), KA a ts ks s e → (deadF a left ks = [] ↔ ndF left ts = true)
 | [], ks, s, e, left, h => by
  simp only [KA] at h
  rw [h.1]
  exact ⟨fun _ => rfl, fun _ => rfl⟩
 | t :: ts, ks, s, e, left, h => by
  simp only [KA] at h
  obtain ⟨k, ks', rfl, h1, h2, hta, hka⟩ := h
  obtain ⟨n, hn, e1, _⟩ := hta.node
  have hk : kindAt a (k : Int) = t.kind := by rw [kindAt_of (ix_get hn), e1]
  have ih := deadF_nd (left || leaveB t.kind) hka
  rw [deadF, ndF, hk]
  cases hc : (left && t.kind != 34) with
  | true => exact ⟨fun h => by simp at h, fun h => by cases h⟩
  | false =>
   rw [cond_false, List.nil_append, ih]
   exact ⟨fun h => by rw [h]; rfl, fun h => by simpa using h⟩
theorem deadAll_nd {a : List SNode} {t : STree} (h : TA a t 0 (a.length - 1)) : deadAll a a = [] ↔ AllT NdP t := by
 constructor
 ·intro hd
  refine TA.all (fun u s j hu => ?_) t 0 _ h
  obtain ⟨n, hn, e1, e2, e3, e4, hka, hkl⟩ := hu.node
  intro hk
  refine (deadF_nd false hka).1 (List.eq_nil_iff_forall_not_mem.2 fun k hkm => ?_)
  have : k ∈ deadAll a a := (deadAll_mem a a k).2 ⟨n, List.mem_of_getElem? hn, by omega, hkm⟩
  rw [hd] at this
  cases this
 ·intro hall
  refine List.eq_nil_iff_forall_not_mem.2 fun k hkm => ?_
  obtain ⟨x, hx, h33, hk⟩ := (deadAll_mem a a k).1 hkm
  obtain ⟨j, hj⟩ := List.getElem?_of_mem hx
  have hlt := (List.getElem?_eq_some_iff.1 hj).1
  obtain ⟨u, s', hu, _, hp⟩ := TA.sub h hall j (by omega) (by omega)
  obtain ⟨n, hn, e1, e2, e3, e4, hka, hkl⟩ := hu.node
  rw [hj] at hn
  have := Option.some.inj hn
  subst this
  rw [(deadF_nd false hka).2 (hp (by omega))] at hk
  cases hk
theorem deadF_nodup (a : List SNode) : ∀ (ks : List Int) (left : Bool), ks.Pairwise (· < ·) → (deadF a left ks).Pairwise (· < ·) := by
 intro ks
 induction ks with
 | nil => intro left h; exact List.Pairwise.nil
 | cons k ks ih =>
  intro left h
  rw [List.pairwise_cons] at h
  have := ih (left || leaveB (kindAt a k)) h.2
  rw [deadF]
  cases hc : (left && (kindAt a k != 34)) with
  | true =>
   rw [cond_true, List.singleton_append, List.pairwise_cons]
   exact ⟨fun q hq => h.1 q (deadF_sub a ks _ q hq), this⟩
  | false => exact this
theorem deadAll_nodup {a : List SNode} (hsh : shapeB a = true) : (deadAll a a).Nodup := by
 obtain ⟨l1, l2, _, _, _, _, hT, _⟩ := shape_of hsh
 unfold deadAll List.Nodup
 rw [List.pairwise_flatMap]
 have at_ : ∀ i (hi : i < a.length), ∃ (t : STree) (s : Nat), TA a t s i ∧ KA a t.kids a[i].Kids s i := fun i hi => by
  obtain ⟨t, s, _, h⟩ := hT i hi
  obtain ⟨n, hn, e1, e2, e3, e4, hka, hkl⟩ := h.node
  rw [List.getElem?_eq_getElem hi] at hn
  have := Option.some.inj hn
  rw [← this] at hka
  exact ⟨t, s, h, hka⟩
 refine ⟨fun x hx => ?_, ?_⟩
 ·cases x.Kind != 33 with
  | true => exact List.Pairwise.nil
  | false =>
   obtain ⟨i, hi, rfl⟩ := List.getElem_of_mem hx
   obtain ⟨t, s, h, hka⟩ := at_ i hi
   exact (deadF_nodup a _ false hka.inc).imp fun h => by omega
 ·rw [List.pairwise_iff_getElem]
  intro i j hi hj hij k hk k' hk' e
  subst e
  have sub : ∀ (x : SNode) k, k ∈ (bif x.Kind != 33 then [] else deadF a false x.Kids) → k ∈ x.Kids := fun x k h => by
   cases hc : x.Kind != 33 with
   | true => rw [hc] at h; cases h
   | false => rw [hc] at h; exact deadF_sub a _ _ k h
  obtain ⟨t, s, h, hka⟩ := at_ i hi
  obtain ⟨t', s', h', hka'⟩ := at_ j hj
  have := parent_uniq h hka h' hka' (sub _ k hk) (sub _ k hk')
  omega
theorem dropI_l (a : List SNode) (p : List Int) (hp : p.length ≤ 1000000) (M i : Nat) (e : SNode) (hM : 1048577 < M) (hek : e.Kids.length ≤ 400) : ∀ (ts : List STree) (j n s : Nat) (left : Bool) (acc : List STree),
  (∀ t, t ∈ ts → ∀ s k : Nat, TA a t s k → k < i → (scc6 M).mi_edited a (k : Int) p = some (if (k : Int) ∈ p then [] else [dropT t])) → KA a ts (e.Kids.drop j) s i → (∀ k, k ∈ e.Kids.drop j → (k ∈ p ↔ e.Kind = 33 ∧ k ∈ deadF a left (e.Kids.drop j))) → j ≤ e.Kids.length → ts.length < n → acc.length ≤ j →
  mi_edited_l1 M (scc6 M) p n (a, (i : Int), e, (j : Int), acc) = Option.bind (mi_DropDead_1 M (i : Int) ⟨e.Kind, e.Op, e.Text, e.Other, acc ++ dropTs (e.Kind == 33) left ts⟩ p) (fun r => some r)
 | [], j, n, s, left, acc, ih, h, hdec, hj, hn, hacc => by
  simp only [KA] at h
  obtain ⟨n, rfl⟩ : ∃ m, n = m + 1 := ⟨n - 1, by simp at hn; omega⟩
  have hlt : ¬ j < e.Kids.length := by
   intro hlt
   rw [drop_cons hlt] at h
   cases h.1
  rw [mi_edited_l1, dropTs_nil]
  simp only [lt_false hlt, cond_false, List.append_nil]
 | t :: ts, j, n, s, left, acc, ih, h, hdec, hj, hn, hacc => by
  have hinc := h.inc
  simp only [KA] at h
  obtain ⟨k, ks', hd, h1, h2, hta, hka⟩ := h
  simp only [List.length_cons] at hn
  obtain ⟨n, rfl⟩ : ∃ m, n = m + 1 := ⟨n - 1, by omega⟩
  have hlt : j < e.Kids.length := by
   cases Nat.lt_or_ge j e.Kids.length with
   | inl h => exact h
   | inr h => rw [List.drop_of_length_le h] at hd; cases hd
  rw [hd] at hinc hdec
  rw [drop_cons hlt] at hd
  injection hd with hd1 hd2
  have r1 := ih t (by simp) s k hta h2
  have hstep : IntKind.wrap .i64 ((j : Int) + 1) = ((j + 1 : Nat) : Int) := by rw [wrap64 (by omega) (by omega)]; omega
  obtain ⟨nk, hnk, e1, _⟩ := hta.node
  have hk2 : kindAt a (k : Int) = t.kind := by rw [kindAt_of (ix_get hnk), e1]
  rw [List.pairwise_cons] at hinc
  have hnot : (k : Int) ∉ ks' := fun hm => by have := hinc.1 _ hm; omega
  have htail := dropI_l a p hp M i e hM hek ts (j + 1) n (k + 1) (left || leaveB t.kind)
  have hhead : (k : Int) ∈ p ↔ ((e.Kind == 33) && (left && t.kind != 34)) = true := by
   rw [hdec _ (by simp), deadF, hk2]
   constructor
   ·rintro ⟨g1, g2⟩
    cases hc : (left && t.kind != 34) with
    | true => simp [g1]
    | false =>
     rw [hc] at g2
     exact absurd (deadF_sub a ks' _ _ g2) hnot
   ·intro g
    rw [Bool.and_eq_true] at g
    refine ⟨by simpa using g.1, ?_⟩
    rw [g.2]; simp
  have hrest : ∀ q, q ∈ e.Kids.drop (j + 1) → (q ∈ p ↔ e.Kind = 33 ∧ q ∈ deadF a (left || leaveB t.kind) (e.Kids.drop (j + 1))) := fun q hq => by
   rw [hd2] at hq ⊢
   rw [hdec q (by simp [hq]), deadF, hk2]
   have hne : q ≠ (k : Int) := fun g => hnot (g ▸ hq)
   cases hc : (left && t.kind != 34) with
   | true => simp [hne]
   | false => simp
  rw [mi_edited_l1]
  simp only [lt_true hlt, cond_true, ix_nat hlt, hd1, Option.bind_some, r1]
  by_cases hk : (k : Int) ∈ p
  ·rw [if_pos hk, app_some (by simp; omega), Option.bind_some, hstep, List.append_nil, dropTs_gone (hhead.1 hk)]
   exact htail acc (fun u hu => ih u (by simp [hu])) (hd2 ▸ hka) hrest (by omega) (by omega) (by omega)
  ·have hc : ((e.Kind == 33) && (left && t.kind != 34)) = false := by
    cases hc : ((e.Kind == 33) && (left && t.kind != 34)) with
    | false => rfl
    | true => exact absurd (hhead.2 hc) hk
   rw [if_neg hk, app_some (by simp; omega), Option.bind_some, hstep, dropTs_kept hc]
   have := htail (acc ++ [dropT t]) (fun u hu => ih u (by simp [hu])) (hd2 ▸ hka) hrest (by omega) (by omega) (by simp; omega)
   rw [this]
   simp
theorem dropI_is (a : List SNode) (hsh : shapeB a = true) (p : List Int) (hp : p.length ≤ 1000000) (hpm : ∀ k, k ∈ p ↔ k ∈ deadAll a a) :
  ∀ (t : STree) (s i M : Nat), TA a t s i → i ≤ 1000 → szT t ≤ 400 → 1048578 + szT t ≤ M → (scc6 M).mi_edited a (i : Int) p = some (if (i : Int) ∈ p then [] else [dropT t]) := by
 intro t
 induction t using STree.ind with
 | h t ih =>
  intro s i M h hi hsz hM
  obtain ⟨M, rfl⟩ : ∃ m, M = m + 1 := ⟨M - 1, by omega⟩
  have hse := szT_eq t
  obtain ⟨n, hn, e1, e2, e3, e4, hka, hkl⟩ := h.node
  have hnm := List.mem_of_getElem? hn
  obtain ⟨hnk, hnr⟩ := shape_kids hsh n hnm
  have hlen := szTs_len t.kids
  have hdec : ∀ k, k ∈ n.Kids → (k ∈ p ↔ n.Kind = 33 ∧ k ∈ deadF a false n.Kids) := fun k hk => by
   rw [hpm, dead_iff hsh h hn hka hk]
  have := dropI_l a p hp M i n (by omega) hnk t.kids 0 M s false [] (fun t' ht' s' k hta hki => ih t' ht' s' k M hta (by omega) (by have := szTs_mem ht'; omega) (by have := szTs_mem ht'; omega)) (by simpa using hka) (by simpa using hdec) (by omega) (by omega) (by simp)
  show mi_edited_F M (scc6 M) a (i : Int) p = _
  unfold mi_edited_F
  rw [ix_get hn, Option.bind_some]
  refine Eq.trans this ?_
  rw [dd1_is M i _ p hp (by omega), List.nil_append]
  obtain ⟨k, o, x, y, ts⟩ := t
  have e1 : k = n.Kind := e1
  have e2 : o = n.Op := e2
  have e3 : x = n.Text := e3
  have e4 : y = n.Other := e4
  subst e1 e2 e3 e4
  rw [dropT]
  rfl
theorem rt_of (N : Nat) (a : List SNode) (hN : 500 < N) (hsh : shapeB a = true) (hok : ms_TreeOk N a = some true) {t : STree} (h : TA a t 0 (a.length - 1)) : AllT (RT N) t := by
 refine TA.all (fun u s j hu => ?_) t 0 _ h
 obtain ⟨n, hn, e1, e2, e3, e4, hka, hkl⟩ := hu.node
 obtain ⟨hf, hkd⟩ := treeOk_nodes N a hN hsh hok n (List.mem_of_getElem? hn)
 obtain ⟨nk, no, nx, ny, nks⟩ := n
 obtain ⟨uk, uo, ux, uy, uks⟩ := u
 have e1 : uk = nk := e1
 have e2 : uo = no := e2
 have e3 : ux = nx := e3
 have e4 : uy = ny := e4
 subst e1 e2 e3 e4
 have hkl : uks.length = nks.length := hkl
 have hl : nks.length = (List.replicate uks.length (0 : Int)).length := by rw [List.length_replicate]; omega
 refine ⟨(fields_len N _ _ _ _ _ _ hl).symm.trans hf, fun q v hv => ?_⟩
 have hv : uks[q]? = some v := hv
 obtain ⟨k, s', hk, hTx, _⟩ := hka.get q v hv
 obtain ⟨hj, hk⟩ := List.getElem?_eq_some_iff.1 hk
 obtain ⟨y, hy, hy2⟩ := hkd q hj
 obtain ⟨m, hm, m1, _⟩ := hTx.node
 rw [hk, ix_get hm] at hy
 have hy := Option.some.inj hy
 subst hy
 rw [m1]
 exact (kid_len _ _ _ _ _ _ hl _ _).symm.trans hy2

end Go.Proofs.Tryz
