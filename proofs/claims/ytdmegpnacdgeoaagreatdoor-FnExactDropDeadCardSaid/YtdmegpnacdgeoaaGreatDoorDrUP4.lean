/-
  Plain lemmas on the models, part 4.
-/
import Derived.Test.YtdmegpnacdgeoaaGreatDoorDrUP3
namespace Go.Proofs.Tryz
open Go.Av
set_option maxRecDepth 100000
set_option linter.unusedSimpArgs false
set_option linter.unusedVariables false

theorem sortI_perm (l : List Int) : (sortI l).Perm l := List.mergeSort_perm l _
theorem sortS_is (l : List Int) (hl : l.length ≤ 1000000) : m_slices_Sort_int l = some (sortI l) := by
  unfold m_slices_Sort_int sortO
  rw [if_pos (by omega)]

def leaveB (k : Int) : Bool := k == 22 || (k == 23 || (k == 24 || (k == 25 || k == 26)))
theorem leaves_is (x : SNode) : mi_Leaves x = some (leaveB x.Kind) := by
  unfold mi_Leaves leaveB mi_Leaves_k1
  cases x.Kind == 22 <;> cases x.Kind == 23 <;> cases x.Kind == 24 <;> cases x.Kind == 25 <;> cases x.Kind == 26 <;> rfl
theorem leavesS_is (x : SNode) : ms_Leaves x = some (leaveB x.Kind) := leaves_is x

def kindAt (a : List SNode) (k : Int) : Int := ((ix a k).map (·.Kind)).getD 0
theorem kindAt_of {a : List SNode} {k : Int} {x : SNode} (h : ix a k = some x) : kindAt a k = x.Kind := by unfold kindAt; rw [h]; rfl

def deadF (a : List SNode) : Bool → List Int → List Int
  | _, [] => []
  | left, k :: ks => (bif left && (kindAt a k != 34) then [k] else []) ++ deadF a (left || leaveB (kindAt a k)) ks
theorem deadF_len (a : List SNode) : ∀ (ks : List Int) (left : Bool), (deadF a left ks).length ≤ ks.length
  | [], _ => Nat.le_refl _
  | k :: ks, left => by
    rw [deadF, List.length_append, List.length_cons]
    have := deadF_len a ks (left || leaveB (kindAt a k))
    cases left && (kindAt a k != 34) <;> simp <;> omega
theorem deadF_true (a : List SNode) : ∀ ks : List Int, deadF a true ks = ks.filter fun k => kindAt a k != 34
  | [] => rfl
  | k :: ks => by
    rw [deadF, Bool.true_or, deadF_true a ks, Bool.true_and, List.filter_cons]
    cases kindAt a k != 34 <;> simp

def deadAll (a : List SNode) (l : List SNode) : List Int := l.flatMap fun x => bif x.Kind != 33 then [] else deadF a false x.Kids
theorem deadAll_len (a : List SNode) : ∀ l : List SNode, (∀ x, x ∈ l → x.Kids.length ≤ 400) → (deadAll a l).length ≤ 400 * l.length
  | [], _ => by simp [deadAll]
  | x :: l, h => by
    have h1 := deadAll_len a l fun y hy => h y (by simp [hy])
    have h2 := deadF_len a x.Kids false
    have h3 := h x (by simp)
    have e : deadAll a (x :: l) = (bif x.Kind != 33 then [] else deadF a false x.Kids) ++ deadAll a l := rfl
    rw [e, List.length_append, List.length_cons]
    cases x.Kind != 33
    · simp only [cond_false]; omega
    · simp only [cond_true, List.length_nil]; omega

def Ins (a : List SNode) (ks : List Int) : Prop := ∀ k, k ∈ ks → ∃ x, ix a k = some x
theorem ins_of {a : List SNode} {ks : List Int} (h : ∀ k, k ∈ ks → 0 ≤ k ∧ k < a.length) : Ins a ks := fun k hk => by
  obtain ⟨h0, h1⟩ := h k hk
  have hlt : k.toNat < a.length := by omega
  refine ⟨a[k.toNat], ?_⟩
  have := ix_nat hlt
  rwa [Int.toNat_of_nonneg h0] at this

theorem di_l3 (N : Nat) (kb : (List SNode × Int × List Int) → Option (List Int)) (a : List SNode) (i : Int) (e : SNode) (hk : e.Kids.length ≤ 400) (hin : Ins a e.Kids) : ∀ (n j : Nat) (left : Bool) (acc : List Int), e.Kids.length - j < n → j ≤ e.Kids.length → acc.length + e.Kids.length ≤ 900000 + j →
    mi_DeadStmts_l3 N kb n (a, i, e, left, (j : Int), acc) = kb (a, IntKind.wrap .i64 (i + 1), acc ++ deadF a left (e.Kids.drop j)) := by
  intro n
  induction n with
  | zero => intro j left acc h; omega
  | succ n ih =>
    intro j left acc hn hj hacc
    rw [mi_DeadStmts_l3]
    by_cases h : j < e.Kids.length
    · obtain ⟨x, hx⟩ := hin e.Kids[j] (List.getElem_mem h)
      have hka := kindAt_of hx
      simp only [lt_true h, cond_true, ix_nat h, Option.bind_some, hx]
      have e1 : (bif left then some (x.Kind != 34) else some false) = some (left && (x.Kind != 34)) := by cases left <;> rfl
      simp only [e1, Option.bind_some]
      have next : ∀ acc : List Int, acc.length + e.Kids.length ≤ 900000 + (j + 1) → mi_DeadStmts_k4 N kb (mi_DeadStmts_l3 N kb n) (a, left, e.Kids[j], i, e, (j : Int), acc) = kb (a, IntKind.wrap .i64 (i + 1), acc ++ deadF a (left || leaveB (kindAt a e.Kids[j])) (e.Kids.drop (j + 1))) := fun acc hacc => by
        unfold mi_DeadStmts_k4
        have e2 : (bif left then some true else (some (leaveB x.Kind))) = some (left || leaveB x.Kind) := by cases left <;> rfl
        simp only [hx, Option.bind_some, leaves_is, e2]
        rw [wrap64 (by omega) (by omega), show (j : Int) + 1 = ((j + 1 : Nat) : Int) by omega, ih (j + 1) _ acc (by omega) (by omega) (by omega), hka]
      rw [drop_cons h, deadF, hka]
      cases hb : left && (x.Kind != 34) with
      | true =>
        simp only [cond_true]
        rw [app_some (by simp; omega), Option.bind_some, next _ (by simp; omega), hka]
        simp
      | false =>
        simp only [cond_false]
        rw [next _ (by omega), hka]
        simp
    · simp only [lt_false h, cond_false]
      rw [drop_nil h, deadF, List.append_nil]
      rfl

theorem di_l1 (N : Nat) (a : List SNode) (hN : 1048577 < N) (ha : a.length ≤ 400) (hk : ∀ x, x ∈ a → x.Kids.length ≤ 400 ∧ ∀ k, k ∈ x.Kids → 0 ≤ k ∧ k < a.length) : ∀ (n i : Nat) (acc : List Int), a.length - i < n → i ≤ a.length → acc.length ≤ 400 * i →
    mi_DeadStmts_l1 N n (a, (i : Int), acc) = some (sortI (acc ++ deadAll a (a.drop i))) := by
  intro n
  induction n with
  | zero => intro i acc h; omega
  | succ n ih =>
    intro i acc hn hi hacc
    rw [mi_DeadStmts_l1]
    by_cases h : i < a.length
    · obtain ⟨hkl, hkr⟩ := hk _ (List.getElem_mem h)
      simp only [lt_true h, cond_true, ix_nat h, Option.bind_some]
      have next : ∀ acc : List Int, acc.length ≤ 400 * (i + 1) → mi_DeadStmts_l1 N n (a, IntKind.wrap .i64 ((i : Int) + 1), acc) = some (sortI (acc ++ deadAll a (a.drop (i + 1)))) := fun acc hacc => by
        rw [wrap64 (by omega) (by omega), show (i : Int) + 1 = ((i + 1 : Nat) : Int) by omega]
        exact ih (i + 1) acc (by omega) (by omega) hacc
      have ed : deadAll a (a.drop i) = (bif a[i].Kind != 33 then [] else deadF a false a[i].Kids) ++ deadAll a (a.drop (i + 1)) := by
        rw [drop_cons h]; rfl
      rw [ed]
      cases hb : a[i].Kind != 33 with
      | true =>
        simp only [cond_true, List.nil_append]
        exact next acc (by omega)
      | false =>
        simp only [cond_false]
        have hd := deadF_len a a[i].Kids false
        have := di_l3 N (mi_DeadStmts_l1 N n) a (i : Int) a[i] hkl (ins_of hkr) N 0 false acc (by omega) (by omega) (by omega)
        rw [List.drop_zero] at this
        refine Eq.trans this ?_
        rw [next _ (by simp; omega), List.append_assoc]
    · simp only [lt_false h, cond_false]
      rw [drop_nil h]
      have e : deadAll a [] = [] := rfl
      rw [e, List.append_nil, sortS_is _ (by omega)]
      rfl

theorem from_l (N : Nat) (a : List SNode) (ks : List Int) (hk : ks.length ≤ 400) (hin : Ins a ks) : ∀ (n j : Nat), ks.length - j < n → j ≤ ks.length →
    ∃ f : Nat, ms_l40From_l1 N n (a, ks, (j : Int)) = some (f : Int) ∧ j ≤ f ∧ f ≤ ks.length ∧ deadF a false (ks.drop j) = (ks.drop f).filter fun k => kindAt a k != 34 := by
  intro n
  induction n with
  | zero => intro j h; omega
  | succ n ih =>
    intro j hn hj
    rw [ms_l40From_l1]
    by_cases h : j < ks.length
    · obtain ⟨x, hx⟩ := hin ks[j] (List.getElem_mem h)
      have hka := kindAt_of hx
      simp only [lt_true h, cond_true, ix_nat h, Option.bind_some, hx, leavesS_is]
      rw [drop_cons h, deadF, Bool.false_and, cond_false, List.nil_append, Bool.false_or, hka]
      have hw : IntKind.wrap .i64 ((j : Int) + 1) = ((j + 1 : Nat) : Int) := by rw [wrap64 (by omega) (by omega)]; omega
      rw [hw]
      cases hb : leaveB x.Kind with
      | true => exact ⟨j + 1, rfl, by omega, by omega, deadF_true a _⟩
      | false =>
        obtain ⟨f, h1, h2, h3, h4⟩ := ih (j + 1) (by omega) (by omega)
        exact ⟨f, h1, by omega, h3, h4⟩
    · simp only [lt_false h, cond_false]
      refine ⟨ks.length, rfl, hj, Nat.le_refl _, ?_⟩
      rw [drop_nil h, List.drop_length]; rfl

mutual
def stT (b : Nat) : STree → List Int
  | ⟨_, _, _, _, ks⟩ => stTs b ks ++ [(b : Int)]
def stTs (b : Nat) : List STree → List Int
  | [] => []
  | t :: ts => stT b t ++ stTs (b + szT t) ts
end
mutual
theorem stT_len : ∀ (t : STree) (b : Nat), (stT b t).length = szT t
  | ⟨_, _, _, _, ks⟩, b => by rw [stT, szT, List.length_append, stTs_len ks b]; rfl
theorem stTs_len : ∀ (ts : List STree) (b : Nat), (stTs b ts).length = szTs ts
  | [], b => by rw [stTs, szTs]; rfl
  | t :: ts, b => by rw [stTs, szTs, List.length_append, stT_len t b, stTs_len ts _]
end
theorem stT_last (t : STree) (b : Nat) : (stT b t)[szT t - 1]? = some (b : Int) := by
  obtain ⟨k, o, x, y, ks⟩ := t
  rw [stT, szT, Nat.add_sub_cancel, List.getElem?_append_right (by rw [stTs_len]; omega), stTs_len, Nat.sub_self]
  rfl
theorem stTs_app : ∀ (a c : List STree) (b : Nat), stTs b (a ++ c) = stTs b a ++ stTs (b + szTs a) c
  | [], c, b => by simp [stTs, szTs]
  | t :: a, c, b => by rw [List.cons_append, stTs, stTs, szTs, stTs_app a c, List.append_assoc, Nat.add_assoc]

theorem walk_ends (b : Nat) (ts : List STree) : ∀ (m : Nat) (ts1 ts2 : List STree), ts1.length = m → ts1 ++ ts2 = ts → ∀ out : List Int, (∀ i, i < szTs ts → out[b + i]? = (stTs b ts)[i]?) → walk out ((b + szTs ts1 : Nat) : Int) (endsT b ts1).reverse = some (b : Int) := by
  intro m
  induction m with
  | zero =>
    intro ts1 ts2 hl _ out _
    have : ts1 = [] := List.length_eq_zero_iff.1 hl
    subst this
    simp [endsT, walk, szTs]
  | succ m ih =>
    intro ts1 ts2 hl he out ho
    obtain ⟨u, t, rfl⟩ : ∃ u t, ts1 = u ++ [t] := by
      rcases List.eq_nil_or_concat ts1 with rfl | ⟨u, t, rfl⟩
      · cases hl
      · exact ⟨u, t, by simp⟩
    have hp := szT_pos t
    have hsz : szTs (u ++ [t]) = szTs u + szT t := by rw [szTs_app, szTs, szTs]; omega
    rw [endsT_app, List.reverse_append, endsT, endsT, List.reverse_cons, List.reverse_nil, List.nil_append, List.singleton_append, walk, hsz]
    have hne : ¬ (((b + (szTs u + szT t) : Nat) : Int) = 0 ∨ (((b + szTs u + szT t : Nat) : Int) - 1) ≠ ((b + (szTs u + szT t) : Nat) : Int) - 1) := by omega
    rw [if_neg hne]
    have htot : szTs ts = szTs u + (szT t + szTs ts2) := by rw [← he, szTs_app, hsz]; omega
    have hi : (((b + (szTs u + szT t) : Nat) : Int) - 1).toNat = b + (szTs u + (szT t - 1)) := by omega
    rw [hi, ho _ (by omega)]
    have hst : stTs b ts = stTs b u ++ (stT (b + szTs u) t ++ stTs (b + szTs u + szT t) ts2) := by
      rw [← he, List.append_assoc, List.singleton_append, stTs_app, stTs]
    rw [hst, List.getElem?_append_right (by rw [stTs_len]; omega), stTs_len, Nat.add_sub_cancel_left, List.getElem?_append_left (by rw [stT_len]; omega), stT_last]
    exact ih u (t :: ts2) (by simpa using hl) (by rw [← he]; simp) out ho

mutual
theorem starts_lst : ∀ (t : STree) (b : Nat) (rest : List (List Int)) (out : List Int), out.length = b → starts (kidsN (lst b t) ++ rest) out = starts rest (out ++ stT b t)
  | ⟨k, o, x, y, ks⟩, b, rest, out, hb => by
    have h1 := starts_lsts ks b ([endsT b ks] ++ rest) out hb
    have hl : (out ++ stTs b ks).length = b + szTs ks := by rw [List.length_append, stTs_len, hb]
    rw [lst, stT]
    have e : kidsN (lsts b ks ++ [(⟨k, o, x, y, endsT b ks⟩ : SNode)]) ++ rest = kidsN (lsts b ks) ++ ([endsT b ks] ++ rest) := by
      unfold kidsN
      rw [List.map_append, List.append_assoc]
      rfl
    rw [e, h1, List.singleton_append, starts, hl]
    have := walk_ends b ks ks.length ks [] rfl (by simp) (out ++ stTs b ks) (fun i hi => by rw [List.getElem?_append_right (by omega), hb, Nat.add_sub_cancel_left])
    rw [this, Option.bind_some, List.append_assoc]
theorem starts_lsts : ∀ (ts : List STree) (b : Nat) (rest : List (List Int)) (out : List Int), out.length = b → starts (kidsN (lsts b ts) ++ rest) out = starts rest (out ++ stTs b ts)
  | [], b, rest, out, hb => by
    rw [lsts, stTs, List.append_nil]
    rfl
  | t :: ts, b, rest, out, hb => by
    rw [lsts, stTs]
    have e : kidsN (lst b t ++ lsts (b + szT t) ts) ++ rest = kidsN (lst b t) ++ (kidsN (lsts (b + szT t) ts) ++ rest) := by
      unfold kidsN
      rw [List.map_append, List.append_assoc]
    rw [e, starts_lst t b _ out hb, starts_lsts ts (b + szT t) rest _ (by rw [List.length_append, stT_len, hb]), List.append_assoc]
end

theorem shapeB_lst (t : STree) (h : szT t ≤ 400) : shapeB (lst 0 t) = true := by
  have hp := szT_pos t
  have hs := starts_lst t 0 [] [] rfl
  rw [List.append_nil, List.nil_append] at hs
  unfold shapeB
  rw [hs, lst_len]
  simp only [starts, rootAt, stT_last, Bool.and_eq_true, decide_eq_true_eq]
  exact ⟨⟨hp, h⟩, by simp⟩

def PR (a : List SNode) (b : Nat) (l : List SNode) : Prop := ∀ (i : Nat) (x : SNode), l[i]? = some x → a[b + i]? = some x
theorem PR.left {a l1 l2 : List SNode} {b : Nat} (h : PR a b (l1 ++ l2)) : PR a b l1 := fun i x hx => h i x (by rw [List.getElem?_append_left (List.getElem?_eq_some_iff.1 hx).1]; exact hx)
theorem PR.right {a l1 l2 : List SNode} {b : Nat} (h : PR a b (l1 ++ l2)) : PR a (b + l1.length) l2 := fun i x hx => by
  have := h (l1.length + i) x (by rw [List.getElem?_append_right (by omega), Nat.add_sub_cancel_left]; exact hx)
  rw [Nat.add_assoc]
  exact this
mutual
theorem TA_lst {a : List SNode} : ∀ (t : STree) (b : Nat), PR a b (lst b t) → TA a t b (b + szT t - 1)
  | ⟨k, o, x, y, ks⟩, b, h => by
    rw [lst] at h
    have h1 := KA_lst ks b h.left
    have h2 := h.right 0 _ rfl
    rw [lsts_len, Nat.add_zero] at h2
    rw [szT, show b + (szTs ks + 1) - 1 = b + szTs ks by omega, TA]
    exact ⟨_, h2, rfl, rfl, rfl, rfl, h1⟩
theorem KA_lst {a : List SNode} : ∀ (ts : List STree) (b : Nat), PR a b (lsts b ts) → KA a ts (endsT b ts) b (b + szTs ts)
  | [], b, h => by
    rw [KA, endsT, szTs]
    exact ⟨rfl, rfl⟩
  | t :: ts, b, h => by
    rw [lsts] at h
    have hp := szT_pos t
    have h1 := TA_lst t b h.left
    have h2 := KA_lst ts (b + szT t) (by have := h.right; rw [lst_len] at this; exact this)
    rw [KA, endsT, szTs]
    refine ⟨b + szT t - 1, endsT (b + szT t) ts, ?_, by omega, by omega, h1, ?_⟩
    · congr 1
      omega
    · rw [show b + szT t - 1 + 1 = b + szT t by omega, ← Nat.add_assoc]
      exact h2
end
theorem TA_self (t : STree) : TA (lst 0 t) t 0 ((lst 0 t).length - 1) := by
  have := TA_lst (a := lst 0 t) t 0 (fun i x hx => by rw [Nat.zero_add]; exact hx)
  rw [Nat.zero_add] at this
  rw [lst_len]
  exact this

theorem nodes_l2 (N : Nat) (a : List SNode) (kb : (List SNode × Int) → Option Bool) (i : Nat) (hi : i < a.length) (hi2 : i ≤ 100000) (hkl : a[i].Kids.length ≤ 100000) : ∀ (m j : Nat), a[i].Kids.length - j < m → j ≤ a[i].Kids.length → ms_TreeOk_l2 N kb m (a, (i : Int), (j : Int)) = some true →
    kb (a, ((i + 1 : Nat) : Int)) = some true ∧ ∀ (q : Nat) (hq : q < a[i].Kids.length), j ≤ q → ∃ y, ix a a[i].Kids[q] = some y ∧ ms_l7Kid a[i] (q : Int) y.Kind = some true := by
  intro m
  induction m with
  | zero => intro j h; omega
  | succ m ihm =>
    intro j hm hj hh
    rw [ms_TreeOk_l2, ix_nat hi, Option.bind_some] at hh
    by_cases hlt : j < a[i].Kids.length
    · simp only [lt_true hlt, cond_true, ix_nat hi, ix_nat hlt, Option.bind_some] at hh
      obtain ⟨y1, h1, hh⟩ := Option.bind_eq_some_iff.1 hh
      obtain ⟨y2, h2, hh⟩ := Option.bind_eq_some_iff.1 hh
      cases y2 with
      | false => cases hh
      | true =>
        simp only [Bool.not_true, cond_false] at hh
        rw [wrap64 (by omega) (by omega), show ((j : Int) + 1) = ((j + 1 : Nat) : Int) by omega] at hh
        obtain ⟨r1, r2⟩ := ihm (j + 1) (by omega) (by omega) hh
        refine ⟨r1, fun q hq hjq => ?_⟩
        by_cases hqj : q = j
        · subst hqj; exact ⟨y1, h1, h2⟩
        · exact r2 q hq (by omega)
    · simp only [lt_false hlt, cond_false] at hh
      rw [wrap64 (by omega) (by omega)] at hh
      exact ⟨hh, fun q hq hjq => by omega⟩

def NodeR (N : Nat) (a : List SNode) (x : SNode) : Prop := ms_FieldsOk N x = some true ∧ ∀ (q : Nat) (hq : q < x.Kids.length), ∃ y, ix a x.Kids[q] = some y ∧ ms_l7Kid x (q : Int) y.Kind = some true

theorem nodes_l1 (N : Nat) (a : List SNode) (ha : a.length ≤ 400) (hk : ∀ x, x ∈ a → x.Kids.length ≤ 400) (hN : 500 < N) : ∀ (n i : Nat), a.length - i < n → i ≤ a.length → ms_TreeOk_l1 N n (a, (i : Int)) = some true → ∀ x, x ∈ a.drop i → NodeR N a x := by
  intro n
  induction n with
  | zero => intro i h; omega
  | succ n ih =>
    intro i hn hi h x hx
    rw [ms_TreeOk_l1] at h
    by_cases hlt : i < a.length
    · simp only [lt_true hlt, cond_true, ix_nat hlt, Option.bind_some] at h
      obtain ⟨b, hb, h⟩ := Option.bind_eq_some_iff.1 h
      cases b with
      | false => cases h
      | true =>
        simp only [Bool.not_true, cond_false] at h
        have hkl := hk _ (List.getElem_mem hlt)
        obtain ⟨h1, h2⟩ := nodes_l2 N a (ms_TreeOk_l1 N n) i hlt (by omega) (by omega) N 0 (by omega) (by omega) h
        rw [drop_cons hlt] at hx
        rcases List.mem_cons.1 hx with rfl | hx
        · exact ⟨hb, fun q hq => h2 q hq (by omega)⟩
        · exact ih (i + 1) (by omega) (by omega) h1 x hx
    · rw [drop_nil hlt] at hx
      cases hx

theorem treeOk_nodes (N : Nat) (a : List SNode) (hN : 500 < N) (hsh : shapeB a = true) (h : ms_TreeOk N a = some true) : ∀ x, x ∈ a → NodeR N a x := by
  unfold ms_TreeOk at h
  obtain ⟨y, _, h⟩ := Option.bind_eq_some_iff.1 h
  cases y with
  | true => cases h
  | false =>
    rw [cond_false] at h
    intro x hx
    have h2 := (shape_of hsh).2.1
    exact nodes_l1 N a h2 (fun z hz => (shape_kids hsh z hz).1) hN N 0 (by omega) (by omega) h x (by rw [List.drop_zero]; exact hx)

mutual
def AllT (P : STree → Prop) : STree → Prop
  | ⟨k, o, x, y, ts⟩ => P ⟨k, o, x, y, ts⟩ ∧ AllTs P ts
def AllTs (P : STree → Prop) : List STree → Prop
  | [] => True
  | t :: ts => AllT P t ∧ AllTs P ts
end
theorem allTs_of {P : STree → Prop} : ∀ {ts : List STree}, (∀ t, t ∈ ts → AllT P t) → AllTs P ts
  | [], _ => by rw [AllTs]; trivial
  | t :: ts, h => by rw [AllTs]; exact ⟨h t (by simp), allTs_of fun u hu => h u (by simp [hu])⟩
theorem allT_true : ∀ t : STree, AllT (fun _ => True) t := by
  refine STree.ind fun t ih => ?_
  obtain ⟨k, o, x, y, ts⟩ := t
  rw [AllT]
  exact ⟨trivial, allTs_of ih⟩
theorem AllT.head {P : STree → Prop} {t : STree} (h : AllT P t) : P t := by
  obtain ⟨k, o, x, y, ts⟩ := t
  rw [AllT] at h
  exact h.1

mutual
theorem TA.sub {a : List SNode} {P : STree → Prop} : ∀ {t : STree} {s i : Nat}, TA a t s i → AllT P t → ∀ j, s ≤ j → j ≤ i → ∃ u s', TA a u s' j ∧ s ≤ s' ∧ P u
  | ⟨kd, op, x, y, ts⟩, s, i, h, hp, j, h1, h2 => by
    by_cases hj : j = i
    · subst hj
      exact ⟨_, s, h, Nat.le_refl _, hp.head⟩
    · rw [TA] at h
      rw [AllT] at hp
      obtain ⟨n, hn, rfl, rfl, rfl, rfl, hk⟩ := h
      exact KA.sub hk hp.2 j h1 (by omega)
theorem KA.sub {a : List SNode} {P : STree → Prop} : ∀ {ts : List STree} {ks : List Int} {s e : Nat}, KA a ts ks s e → AllTs P ts → ∀ j, s ≤ j → j < e → ∃ u s', TA a u s' j ∧ s ≤ s' ∧ P u
  | [], ks, s, e, h, hp, j, h1, h2 => by
    rw [KA] at h
    omega
  | t :: ts, ks, s, e, h, hp, j, h1, h2 => by
    rw [KA] at h
    rw [AllTs] at hp
    obtain ⟨k, ks', rfl, g1, g2, ht, hk⟩ := h
    have hs := ht.part.1
    by_cases hj : j ≤ k
    · exact TA.sub ht hp.1 j h1 hj
    · obtain ⟨u, s', r1, r2, r3⟩ := KA.sub hk hp.2 j (by omega) h2
      exact ⟨u, s', r1, by omega, r3⟩
end

theorem KA.mem {a : List SNode} : ∀ {ts : List STree} {ks : List Int} {s e : Nat}, KA a ts ks s e → ∀ k : Int, k ∈ ks → ∃ n : Nat, k = n ∧ s ≤ n ∧ n < e
  | [], ks, s, e, h, k, hk => by
    rw [KA] at h
    rw [h.1] at hk
    cases hk
  | t :: ts, ks, s, e, h, k, hk => by
    rw [KA] at h
    obtain ⟨k0, ks', rfl, g1, g2, ht, hk'⟩ := h
    have hs := ht.part.1
    rcases List.mem_cons.1 hk with rfl | hk
    · exact ⟨k0, rfl, hs, g2⟩
    · obtain ⟨n, r1, r2, r3⟩ := KA.mem hk' k hk
      exact ⟨n, r1, by omega, r3⟩

theorem KA.inc {a : List SNode} : ∀ {ts : List STree} {ks : List Int} {s e : Nat}, KA a ts ks s e → ks.Pairwise (· < ·)
  | [], ks, s, e, h => by
    rw [KA] at h
    rw [h.1]
    exact List.Pairwise.nil
  | t :: ts, ks, s, e, h => by
    rw [KA] at h
    obtain ⟨k0, ks', rfl, g1, g2, ht, hk'⟩ := h
    refine List.pairwise_cons.2 ⟨fun z hz => ?_, KA.inc hk'⟩
    obtain ⟨n, rfl, r2, _⟩ := KA.mem hk' z hz
    omega

theorem KA.after {a : List SNode} : ∀ {ts : List STree} {ks : List Int} {s e : Nat}, KA a ts ks s e → ∀ k : Nat, (k : Int) ∈ ks → ∀ i, k < i → i < e → ∃ u s', TA a u s' i ∧ k < s'
  | [], ks, s, e, h, k, hk, i, h1, h2 => by
    rw [KA] at h
    rw [h.1] at hk
    cases hk
  | t :: ts, ks, s, e, h, k, hk, i, h1, h2 => by
    rw [KA] at h
    obtain ⟨k0, ks', rfl, g1, g2, ht, hk'⟩ := h
    rcases List.mem_cons.1 hk with h0 | hk
    · have : k = k0 := by omega
      subst this
      obtain ⟨u, s', r1, r2, _⟩ := KA.sub hk' (allTs_of fun t _ => allT_true t) i (by omega) h2
      exact ⟨u, s', r1, by omega⟩
    · exact KA.after hk' k hk i h1 h2

theorem parent_uniq {a : List SNode} {n n' : SNode} {t t' : STree} {ts ts' : List STree} {s s' i i' : Nat} (h : TA a t s i) (hk : KA a ts n.Kids s i) (h' : TA a t' s' i') (hk' : KA a ts' n'.Kids s' i') {k : Int} (m : k ∈ n.Kids) (m' : k ∈ n'.Kids) : i = i' := by
  obtain ⟨x, rfl, x1, x2⟩ := hk.mem k m
  obtain ⟨x', e, y1, y2⟩ := hk'.mem _ m'
  have : x' = x := by omega
  subst this
  rcases Nat.lt_trichotomy i i' with hlt | rfl | hlt
  · obtain ⟨u, s2, r1, r2⟩ := hk'.after x' m' i x2 hlt
    have := (TA.uniq r1 h).2
    omega
  · rfl
  · obtain ⟨u, s2, r1, r2⟩ := hk.after x' m i' y2 hlt
    have := (TA.uniq r1 h').2
    omega

theorem deadF_sub (a : List SNode) : ∀ (ks : List Int) (b : Bool) (k : Int), k ∈ deadF a b ks → k ∈ ks
  | [], b, k, h => by rw [deadF] at h; exact h
  | k0 :: ks, b, k, h => by
    rw [deadF] at h
    rcases List.mem_append.1 h with h | h
    · cases hb : (b && (kindAt a k0 != 34)) with
      | true => rw [hb, cond_true, List.mem_singleton] at h; simp [h]
      | false => rw [hb, cond_false] at h; cases h
    · exact List.mem_cons_of_mem _ (deadF_sub a ks _ k h)

theorem deadAll_mem (a l : List SNode) (k : Int) : k ∈ deadAll a l ↔ ∃ x, x ∈ l ∧ x.Kind = 33 ∧ k ∈ deadF a false x.Kids := by
  unfold deadAll
  rw [List.mem_flatMap]
  constructor
  · rintro ⟨x, hx, h⟩
    refine ⟨x, hx, ?_⟩
    cases hb : x.Kind != 33 with
    | true => rw [hb, cond_true] at h; cases h
    | false => rw [hb, cond_false] at h; exact ⟨by simpa using hb, h⟩
  · rintro ⟨x, hx, hk, h⟩
    refine ⟨x, hx, ?_⟩
    have : (x.Kind != 33) = false := by simp [hk]
    rw [this, cond_false]; exact h

theorem dead_iff {a : List SNode} (hsh : shapeB a = true) {n : SNode} {t : STree} {s i : Nat} (h : TA a t s i) (hn : a[i]? = some n) (hk : KA a t.kids n.Kids s i) {k : Int} (m : k ∈ n.Kids) : k ∈ deadAll a a ↔ n.Kind = 33 ∧ k ∈ deadF a false n.Kids := by
  rw [deadAll_mem]
  constructor
  · rintro ⟨x, hx, h1, h2⟩
    obtain ⟨i', hi'⟩ := List.getElem?_of_mem hx
    obtain ⟨_, _, _, _, _, _, hT, _⟩ := shape_of hsh
    obtain ⟨t', s', _, ht'⟩ := hT i' (List.getElem?_eq_some_iff.1 hi').1
    obtain ⟨n', hn', _, _, _, _, hk', _⟩ := ht'.node
    rw [hi'] at hn'
    have := Option.some.inj hn'
    subst this
    have := parent_uniq h hk ht' hk' m (deadF_sub a _ _ _ h2)
    subst this
    rw [hn] at hi'
    have := Option.some.inj hi'
    subst this
    exact ⟨h1, h2⟩
  · rintro ⟨h1, h2⟩
    exact ⟨n, List.mem_of_getElem? hn, h1, h2⟩

theorem root_dead {a : List SNode} (hsh : shapeB a = true) : ((a.length - 1 : Nat) : Int) ∉ deadAll a a := fun h => by
  obtain ⟨x, hx, _, h2⟩ := (deadAll_mem a a _).1 h
  obtain ⟨i', hi'⟩ := List.getElem?_of_mem hx
  obtain ⟨_, _, _, _, _, _, hT, _⟩ := shape_of hsh
  have hlt := (List.getElem?_eq_some_iff.1 hi').1
  obtain ⟨t', s', _, ht'⟩ := hT i' hlt
  obtain ⟨n', hn', _, _, _, _, hk', _⟩ := ht'.node
  rw [hi'] at hn'
  have := Option.some.inj hn'
  subst this
  obtain ⟨k, e, _, h3⟩ := hk'.mem _ (deadF_sub a _ _ _ h2)
  omega

theorem place_dead (a : List SNode) (ks : List Int) (f : Nat) (hinc : ks.Pairwise (· < ·)) (hf : deadF a false ks = (ks.drop f).filter fun k => kindAt a k != 34) (q : Nat) (hq : q < ks.length) : ks[q] ∈ deadF a false ks ↔ ¬(q < f ∨ kindAt a ks[q] = 34) := by
  rw [hf, List.mem_filter]
  have hd : ks[q] ∈ ks.drop f ↔ f ≤ q := by
    constructor
    · intro h
      obtain ⟨j, hj, e⟩ := List.mem_iff_getElem.1 h
      rw [List.getElem_drop] at e
      rw [List.length_drop] at hj
      have hi := List.pairwise_iff_getElem.1 hinc
      rcases Nat.lt_trichotomy (f + j) q with g | g | g
      · have := hi (f + j) q (by omega) hq g; omega
      · omega
      · have := hi q (f + j) hq (by omega) g; omega
    · intro h
      refine List.mem_iff_getElem.2 ⟨q - f, by rw [List.length_drop]; omega, ?_⟩
      rw [List.getElem_drop]
      congr 1; omega
  rw [hd]
  simp only [bne_iff_ne, ne_eq]
  omega

theorem idx_l (N : Nat) (p : List Int) (x : Int) (hp : p.length ≤ 1000000) : ∀ (n i : Nat), p.length - i < n → i ≤ p.length → ∃ r : Int, m_slices_Index_int_l1 N n (p, x, (i : Int)) = some r ∧ decide (r ≥ 0) = decide (x ∈ p.drop i) := by
  intro n
  induction n with
  | zero => intro i h; omega
  | succ n ih =>
    intro i hn hi
    rw [m_slices_Index_int_l1]
    by_cases h : i < p.length
    · simp only [lt_true h, cond_true, ix_nat h, Option.bind_some]
      rw [drop_cons h]
      by_cases hx : x = p[i]
      · have e : (x == p[i]) = true := by simpa using hx
        rw [e, cond_true]
        refine ⟨(i : Int), rfl, ?_⟩
        rw [decide_eq_true (by omega : (i : Int) ≥ 0), decide_eq_true (List.mem_cons.2 (.inl hx))]
      · have e : (x == p[i]) = false := by simpa using hx
        rw [e, cond_false, wrap64 (by omega) (by omega), show (i : Int) + 1 = ((i + 1 : Nat) : Int) by omega]
        obtain ⟨r, r1, r2⟩ := ih (i + 1) (by omega) (by omega)
        refine ⟨r, r1, ?_⟩
        rw [r2]
        by_cases hm : x ∈ p.drop (i + 1)
        · rw [decide_eq_true hm, decide_eq_true (List.mem_cons.2 (.inr hm))]
        · rw [decide_eq_false hm, decide_eq_false (fun g => (List.mem_cons.1 g).elim hx hm)]
    · simp only [lt_false h, cond_false]
      rw [drop_nil h]
      exact ⟨-1, rfl, by simp⟩

theorem contI_is (N : Nat) (p : List Int) (x : Int) (hp : p.length ≤ 1000000) (hN : 1000000 < N) : m_slices_Contains_int N p x = some (decide (x ∈ p)) := by
  obtain ⟨r, r1, r2⟩ := idx_l N p x hp N 0 (by omega) (by omega)
  unfold m_slices_Contains_int m_slices_Index_int
  have r1' : m_slices_Index_int_l1 N N (p, x, 0) = some r := r1
  rw [r1', Option.bind_some, r2, List.drop_zero]

theorem fields_len (N : Nat) (k o : Int) (x y : List UInt8) (ks ks' : List Int) (h : ks.length = ks'.length) : ms_FieldsOk N ⟨k, o, x, y, ks⟩ = ms_FieldsOk N ⟨k, o, x, y, ks'⟩ := by
  have h1 : ms_l7Many ⟨k, o, x, y, ks⟩ = ms_l7Many ⟨k, o, x, y, ks'⟩ := by
    simp only [ms_l7Many, ms_l7Many_k1, ms_l7Many_k2, ms_l7Many_k3, ms_l7Many_k4, ms_l7Many_k5, ms_l7Many_k6, h]
  have h2 : ms_l7Op ⟨k, o, x, y, ks⟩ = ms_l7Op ⟨k, o, x, y, ks'⟩ := rfl
  have h3 : ms_l7Text N ⟨k, o, x, y, ks⟩ = ms_l7Text N ⟨k, o, x, y, ks'⟩ := rfl
  unfold ms_FieldsOk
  rw [h1, h2, h3]
  simp only [h]

theorem fields_33 (N : Nat) (o : Int) (x y : List UInt8) (ks ks' : List Int) (h : ms_FieldsOk N ⟨33, o, x, y, ks⟩ = some true) : ms_FieldsOk N ⟨33, o, x, y, ks'⟩ = some true := by
  have e : ∀ l : List Int, ms_FieldsOk N ⟨33, o, x, y, l⟩ = Option.bind (ms_l7Op ⟨33, o, x, y, ks⟩) fun r14 => bif r14 then (Option.bind (ms_l7Text N ⟨33, o, x, y, ks⟩) fun r15 => bif r15 then some true else some false) else some false := fun l => by
    have h1 : ms_l7Many ⟨33, o, x, y, l⟩ = some (0, (l.length : Int)) := rfl
    have h2 : ms_l7Op ⟨33, o, x, y, l⟩ = ms_l7Op ⟨33, o, x, y, ks⟩ := rfl
    have h3 : ms_l7Text N ⟨33, o, x, y, l⟩ = ms_l7Text N ⟨33, o, x, y, ks⟩ := rfl
    have h4 : ms_l1In (l.length : Int) 0 (l.length : Int) = some true := by rw [l1In_is]; simp
    unfold ms_FieldsOk
    rw [h1, Option.bind_some, h2, h3]
    simp only [h4, l1In_is, Option.bind_some]
    cases ms_l7Op ⟨33, o, x, y, ks⟩ with
    | none => rfl
    | some b => cases b with
      | false => rfl
      | true => cases ms_l7Text N ⟨33, o, x, y, ks⟩ with
        | none => rfl
        | some c => cases c <;> rfl
  rw [e] at h ⊢
  exact h

theorem kid_len (k o : Int) (x y : List UInt8) (ks ks' : List Int) (h : ks.length = ks'.length) (q kd : Int) : ms_l7Kid ⟨k, o, x, y, ks⟩ q kd = ms_l7Kid ⟨k, o, x, y, ks'⟩ q kd := by
  simp only [ms_l7Kid, ms_l7Kid_k1, ms_l7Kid_k2, h]

def RT (N : Nat) (t : STree) : Prop := ms_FieldsOk N ⟨t.kind, t.op, t.text, t.other, List.replicate t.kids.length 0⟩ = some true ∧
  ∀ (q : Nat) (u : STree), t.kids[q]? = some u → ms_l7Kid ⟨t.kind, t.op, t.text, t.other, List.replicate t.kids.length 0⟩ (q : Int) u.kind = some true

theorem dd1_is (N : Nat) (i : Nat) (t : STree) (p : List Int) (hp : p.length ≤ 1000000) (hN : 1000000 < N) : mi_DropDead_1 N (i : Int) t p = some (if (i : Int) ∈ p then [] else [t]) := by
  unfold mi_DropDead_1
  rw [contI_is N p _ hp hN, Option.bind_some]
  by_cases h : (i : Int) ∈ p
  · rw [decide_eq_true h, if_pos h]; rfl
  · rw [decide_eq_false h, if_neg h]; rfl

def DropR (N : Nat) (t t' : STree) : Prop := t'.kind = t.kind ∧ szT t' ≤ szT t ∧ depT t' ≤ depT t ∧ txT t' ∧ AllT (RT N) t'

theorem drop_l (Nf : Nat) (a : List SNode) (p : List Int) (hp : p.length ≤ 1000000) (fr : Nat) (M i : Nat) (e : SNode) (he : a[i]? = some e) (hM : 1048577 < M) (hek : e.Kids.length ≤ 400) (hfr : fr ≤ e.Kids.length)
    (hdec : ∀ (q : Nat) (hq : q < e.Kids.length), e.Kids[q] ∈ p ↔ ¬(q < fr ∨ kindAt a e.Kids[q] = 34)) : ∀ (ts : List STree) (j n n' s : Nat) (acc : List STree),
    (∀ t, t ∈ ts → ∀ s k : Nat, TA a t s k → k < i → ∃ t', (scc4 M).mi_edited a (k : Int) p = some (if (k : Int) ∈ p then [] else [t']) ∧ (scc1 M).ms_l40Drop a (k : Int) = some (lst 0 t') ∧ DropR Nf t t') → KA a ts (e.Kids.drop j) s i → j ≤ e.Kids.length → ts.length < n → ts.length < n' →
    szTs acc + szTs ts ≤ 900000 → acc.length ≤ j →
    ∃ res, mi_edited_l1 M (scc4 M) p n (a, (i : Int), e, (j : Int), acc) = Option.bind (mi_DropDead_1 M (i : Int) ⟨e.Kind, e.Op, e.Text, e.Other, acc ++ res⟩ p) (fun r => some r) ∧
      ms_l40Drop_l2 M (scc1 M) n' (a, (i : Int), (fr : Int), (j : Int), acc.map (lst 0)) = some (lst 0 ⟨e.Kind, e.Op, e.Text, e.Other, acc ++ res⟩) ∧
      szTs res ≤ szTs ts ∧ depTs res ≤ depTs ts ∧ res.length ≤ ts.length ∧ (∀ u, u ∈ res → txT u ∧ AllT (RT Nf) u ∧ ∃ t, t ∈ ts ∧ u.kind = t.kind) ∧ (fr = e.Kids.length → res.map (·.kind) = ts.map (·.kind))
  | [], j, n, n', s, acc, ih, h, hj, hn, hn', hsz, hacc => by
    simp only [KA] at h
    obtain ⟨n, rfl⟩ : ∃ m, n = m + 1 := ⟨n - 1, by simp at hn; omega⟩
    obtain ⟨n', rfl⟩ : ∃ m, n' = m + 1 := ⟨n' - 1, by simp at hn'; omega⟩
    have hlt : ¬ j < e.Kids.length := by
      intro hlt
      rw [drop_cons hlt] at h
      cases h.1
    have hm := make_is M e acc hM (by rw [szTs] at hsz; omega)
    refine ⟨[], ?_, ?_, Nat.le_refl _, Nat.le_refl _, Nat.le_refl _, fun u hu => (by cases hu), fun _ => rfl⟩
    · rw [mi_edited_l1]
      simp only [lt_false hlt, cond_false, List.append_nil]
    · rw [ms_l40Drop_l2]
      simp only [ix_get he, Option.bind_some, lt_false hlt, cond_false, List.append_nil, hm]
  | t :: ts, j, n, n', s, acc, ih, h, hj, hn, hn', hsz, hacc => by
    simp only [KA] at h
    obtain ⟨k, ks', hd, h1, h2, hta, hka⟩ := h
    simp only [List.length_cons] at hn hn'
    rw [szTs] at hsz
    obtain ⟨n, rfl⟩ : ∃ m, n = m + 1 := ⟨n - 1, by omega⟩
    obtain ⟨n', rfl⟩ : ∃ m, n' = m + 1 := ⟨n' - 1, by omega⟩
    have hlt : j < e.Kids.length := by
      cases Nat.lt_or_ge j e.Kids.length with
      | inl h => exact h
      | inr h => rw [List.drop_of_length_le h] at hd; cases hd
    rw [drop_cons hlt] at hd
    injection hd with hd1 hd2
    obtain ⟨t', r1, r2, r3, r4, r5, r6, r7⟩ := ih t (by simp) s k hta h2
    have hstep : IntKind.wrap .i64 ((j : Int) + 1) = ((j + 1 : Nat) : Int) := by rw [wrap64 (by omega) (by omega)]; omega
    obtain ⟨nk, hnk, _⟩ := hta.node
    have hka2 : kindAt a (k : Int) = nk.Kind := kindAt_of (ix_get hnk)
    have hdj := hdec j hlt
    rw [hd1] at hdj
    have hpos := szT_pos t'
    have htail := drop_l Nf a p hp fr M i e he hM hek hfr hdec ts (j + 1) n n' (k + 1)
    have hkeep : (bif (decide ((j : Int) < (fr : Int))) then some true else (some (nk.Kind == 34))) = some (decide (j < fr ∨ nk.Kind = 34)) := by
      by_cases g : j < fr
      · have g1 : decide ((j : Int) < (fr : Int)) = true := by simpa using g
        rw [g1, cond_true, decide_eq_true (.inl g)]
      · have g1 : decide ((j : Int) < (fr : Int)) = false := by simpa using g
        rw [g1, cond_false]
        congr 1
        by_cases g2 : nk.Kind = 34
        · rw [decide_eq_true (.inr g2)]; simpa using g2
        · rw [decide_eq_false (fun x => x.elim g g2)]; simpa using g2
    by_cases hk : (k : Int) ∈ p
    · -- dropped
      have hno : ¬(j < fr ∨ nk.Kind = 34) := by rw [← hka2]; exact hdj.1 hk
      obtain ⟨res, e1, e2, e3, e4, e5, e6, e7⟩ := htail acc (fun u hu => ih u (by simp [hu])) (hd2 ▸ hka) (by omega) (by omega) (by omega) (by omega) (by omega)
      refine ⟨res, ?_, ?_, by rw [szTs]; omega, by rw [depTs]; omega, by simp; omega, fun u hu => ?_, fun hf => ?_⟩
      · rw [mi_edited_l1]
        simp only [lt_true hlt, cond_true, ix_nat hlt, hd1, Option.bind_some, r1, if_pos hk]
        rw [app_some (by simp; omega), Option.bind_some, hstep, List.append_nil, e1]
      · rw [ms_l40Drop_l2]
        simp only [ix_get he, Option.bind_some, lt_true hlt, cond_true, ix_nat hlt, hd1, ix_get hnk, hkeep, decide_eq_false hno, cond_false]
        unfold ms_l40Drop_k3
        simp only [hstep]
        exact e2
      · obtain ⟨g1, g2, v, g3, g4⟩ := e6 u hu
        exact ⟨g1, g2, v, by simp [g3], g4⟩
      · exfalso; exact hno (.inl (by omega))
    · -- kept
      have hyes : j < fr ∨ nk.Kind = 34 := by
        rw [← hka2]
        exact Decidable.byContradiction fun g => hk (hdj.2 g)
      obtain ⟨res, e1, e2, e3, e4, e5, e6, e7⟩ := htail (acc ++ [t']) (fun u hu => ih u (by simp [hu])) (hd2 ▸ hka) (by omega) (by omega) (by omega) (by rw [szTs_app, szTs, szTs]; omega) (by simp; omega)
      refine ⟨t' :: res, ?_, ?_, by rw [szTs, szTs]; omega, by rw [depTs, depTs]; omega, by simp; omega, fun u hu => ?_, fun hf => ?_⟩
      · rw [mi_edited_l1]
        simp only [lt_true hlt, cond_true, ix_nat hlt, hd1, Option.bind_some, r1, if_neg hk]
        rw [app_some (by simp; omega), Option.bind_some, hstep, e1]
        simp
      · rw [ms_l40Drop_l2]
        simp only [ix_get he, Option.bind_some, lt_true hlt, cond_true, ix_nat hlt, hd1, ix_get hnk, hkeep, decide_eq_true hyes, r2]
        rw [app_some (by rw [List.length_map]; simp; omega), Option.bind_some]
        unfold ms_l40Drop_k3
        simp only [hstep]
        rw [show acc ++ t' :: res = acc ++ [t'] ++ res by simp]
        simpa using e2
      · rcases List.mem_cons.1 hu with rfl | hu
        · exact ⟨r6, r7, t, by simp, r3⟩
        · obtain ⟨g1, g2, v, g3, g4⟩ := e6 u hu
          exact ⟨g1, g2, v, by simp [g3], g4⟩
      · rw [List.map_cons, List.map_cons, r3, e7 hf]

theorem drop_is (Nf : Nat) (a : List SNode) (hNf : 500 < Nf) (hsh : shapeB a = true) (hok : ms_TreeOk Nf a = some true) (hs : ∀ z, z ∈ a → smNode z) (p : List Int) (hp : p.length ≤ 1000000) (hpm : ∀ k, k ∈ p ↔ k ∈ deadAll a a) :
    ∀ (t : STree) (s i M : Nat), TA a t s i → i ≤ 1000 → szT t ≤ 400 → 1048578 + szT t ≤ M → ∃ t', (scc4 M).mi_edited a (i : Int) p = some (if (i : Int) ∈ p then [] else [t']) ∧ (scc1 M).ms_l40Drop a (i : Int) = some (lst 0 t') ∧ DropR Nf t t' := by
  intro t
  induction t using STree.ind with
  | h t ih =>
    intro s i M h hi hsz hM
    obtain ⟨M, rfl⟩ : ∃ m, M = m + 1 := ⟨M - 1, by omega⟩
    have hse := szT_eq t
    obtain ⟨n, hn, e1, e2, e3, e4, hka, hkl⟩ := h.node
    have hnm := List.mem_of_getElem? hn
    obtain ⟨hnk, hnr⟩ := shape_kids hsh n hnm
    obtain ⟨hf, hkd⟩ := treeOk_nodes Nf a hNf hsh hok n hnm
    have hlen := szTs_len t.kids
    obtain ⟨f, f1, _, f3, f4⟩ := from_l M a n.Kids hnk (ins_of hnr) M 0 (by omega) (by omega)
    rw [List.drop_zero] at f4
    have f1' : ms_l40From M a n.Kids = some (f : Int) := f1
    obtain ⟨fr, hfr, hfr1, hfr2, hfr3⟩ : ∃ fr : Nat, fr ≤ n.Kids.length ∧ (n.Kind = 33 → fr = f) ∧ (n.Kind ≠ 33 → fr = n.Kids.length) ∧ ms_l40Drop_F M (scc1 M) a (i : Int) = ms_l40Drop_l2 M (scc1 M) M (a, (i : Int), (fr : Int), 0, []) := by
      unfold ms_l40Drop_F
      rw [ix_get hn, Option.bind_some, Option.bind_some]
      by_cases h33 : n.Kind = 33
      · have : (n.Kind == 33) = true := by simp [h33]
        rw [this, cond_true, Option.bind_some, f1', Option.bind_some]
        exact ⟨f, f3, fun _ => rfl, fun g => absurd h33 g, rfl⟩
      · have : (n.Kind == 33) = false := by simpa using h33
        rw [this, cond_false]
        exact ⟨n.Kids.length, Nat.le_refl _, fun g => absurd g h33, fun _ => rfl, rfl⟩
    have hdec : ∀ (q : Nat) (hq : q < n.Kids.length), n.Kids[q] ∈ p ↔ ¬(q < fr ∨ kindAt a n.Kids[q] = 34) := fun q hq => by
      rw [hpm, dead_iff hsh h hn hka (List.getElem_mem hq)]
      by_cases h33 : n.Kind = 33
      · rw [hfr1 h33, place_dead a n.Kids f hka.inc f4 q hq]
        exact ⟨fun g => g.2, fun g => ⟨h33, g⟩⟩
      · rw [hfr2 h33]
        exact ⟨fun g => absurd g.1 h33, fun g => absurd (.inl hq) g⟩
    obtain ⟨res, g1, g2, g3, g4, g5, g6, g7⟩ := drop_l Nf a p hp fr M i n hn (by omega) hnk hfr hdec t.kids 0 M M s [] (fun t' ht' s' k hta hki => ih t' ht' s' k M hta (by omega) (by have := szTs_mem ht'; omega) (by have := szTs_mem ht'; omega)) (by simpa using hka) (by omega) (by omega) (by omega) (by rw [szTs]; omega) (by simp)
    rw [List.nil_append] at g1 g2
    have hxn := hs n hnm
    unfold smNode at hxn
    have hdt := depT_eq t
    refine ⟨⟨n.Kind, n.Op, n.Text, n.Other, res⟩, ?_, ?_, e1.symm, by rw [szT]; omega, by rw [depT]; omega, txT_mk (fun u hu => (g6 u hu).1) (by omega) (by omega), ?_⟩
    · show mi_edited_F M (scc4 M) a (i : Int) p = _
      unfold mi_edited_F
      rw [ix_get hn, Option.bind_some]
      refine Eq.trans g1 ?_
      rw [dd1_is M i _ p hp (by omega)]
      rfl
    · show ms_l40Drop_F M (scc1 M) a (i : Int) = _
      rw [hfr3]
      exact g2
    · rw [AllT]
      refine ⟨?_, allTs_of fun u hu => (g6 u hu).2.1⟩
      have kindq : ∀ (q : Nat) (hq : q < n.Kids.length) (v : STree), t.kids[q]? = some v → ms_l7Kid n (q : Int) v.kind = some true := fun q hq v hv => by
        obtain ⟨k, s', hk, hTx, _⟩ := hka.get q v hv
        obtain ⟨hj, hk⟩ := List.getElem?_eq_some_iff.1 hk
        obtain ⟨y, hy, hy2⟩ := hkd q hj
        obtain ⟨m, hm, m1, _⟩ := hTx.node
        rw [hk, ix_get hm] at hy
        have hy := Option.some.inj hy
        subst hy
        rw [m1]; exact hy2
      obtain ⟨nk, no, nx, ny, nks⟩ := n
      by_cases h33 : nk = 33
      · subst h33
        refine ⟨fields_33 Nf no nx ny nks _ hf, fun q u hu => ?_⟩
        obtain ⟨v, hv, huv⟩ := (g6 u (List.mem_of_getElem? hu)).2.2
        obtain ⟨q', hq'⟩ := List.getElem?_of_mem hv
        have hlt := (List.getElem?_eq_some_iff.1 hq').1
        have := kindq q' (by rw [← hkl]; exact hlt) v hq'
        rw [← huv] at this
        exact this
      · have hmap := g7 (hfr2 h33)
        have hl : res.length = t.kids.length := by have := congrArg List.length hmap; simpa using this
        have hl2 : nks.length = (List.replicate res.length (0 : Int)).length := by
          have hkl : t.kids.length = nks.length := hkl
          rw [List.length_replicate]; omega
        refine ⟨(fields_len Nf nk no nx ny nks _ hl2).symm.trans hf, fun q u hu => ?_⟩
        have hlt := (List.getElem?_eq_some_iff.1 hu).1
        have hlt2 : q < t.kids.length := by rw [← hl]; exact hlt
        have hv : t.kids[q]? = some t.kids[q] := List.getElem?_eq_getElem hlt2
        have hku : u.kind = t.kids[q].kind := by
          have h1 : (res.map (·.kind))[q]? = some u.kind := by rw [List.getElem?_map, hu]; rfl
          have h2 : (t.kids.map (·.kind))[q]? = some t.kids[q].kind := by rw [List.getElem?_map, hv]; rfl
          rw [hmap, h2] at h1
          exact (Option.some.inj h1).symm
        have := kindq q (by show q < nks.length; have hkl : t.kids.length = nks.length := hkl; omega) _ hv
        rw [← hku] at this
        exact (kid_len nk no nx ny nks _ hl2 _ _).symm.trans this

theorem ok_l2 (N : Nat) (a : List SNode) (kb : (List SNode × Int) → Option Bool) (i : Nat) (hi : i < a.length) (hkl : a[i].Kids.length ≤ 100000) (hk : ∀ (q : Nat) (hq : q < a[i].Kids.length), ∃ y, ix a a[i].Kids[q] = some y ∧ ms_l7Kid a[i] (q : Int) y.Kind = some true) : ∀ (m j : Nat), a[i].Kids.length - j < m → j ≤ a[i].Kids.length →
    ms_TreeOk_l2 N kb m (a, (i : Int), (j : Int)) = kb (a, IntKind.wrap .i64 ((i : Int) + 1)) := by
  intro m
  induction m with
  | zero => intro j h; omega
  | succ m ihm =>
    intro j hm hj
    rw [ms_TreeOk_l2, ix_nat hi, Option.bind_some]
    by_cases hlt : j < a[i].Kids.length
    · obtain ⟨y, h1, h2⟩ := hk j hlt
      simp only [lt_true hlt, cond_true, ix_nat hi, ix_nat hlt, Option.bind_some, h1, h2, Bool.not_true, cond_false]
      rw [wrap64 (by omega) (by omega), show ((j : Int) + 1) = ((j + 1 : Nat) : Int) by omega]
      exact ihm (j + 1) (by omega) (by omega)
    · simp only [lt_false hlt, cond_false]

theorem ok_l1 (N : Nat) (a : List SNode) (ha : a.length ≤ 400) (hN : 500 < N) (hk : ∀ x, x ∈ a → x.Kids.length ≤ 400) (hr : ∀ x, x ∈ a → NodeR N a x) : ∀ (n i : Nat), a.length - i < n → i ≤ a.length → ms_TreeOk_l1 N n (a, (i : Int)) = some true := by
  intro n
  induction n with
  | zero => intro i h; omega
  | succ n ih =>
    intro i hn hi
    rw [ms_TreeOk_l1]
    by_cases hlt : i < a.length
    · obtain ⟨h1, h2⟩ := hr _ (List.getElem_mem hlt)
      have hkl := hk _ (List.getElem_mem hlt)
      simp only [lt_true hlt, cond_true, ix_nat hlt, Option.bind_some, h1, Bool.not_true, cond_false]
      have := ok_l2 N a (ms_TreeOk_l1 N n) i hlt (by omega) h2 N 0 (by omega) (by omega)
      refine Eq.trans this ?_
      rw [wrap64 (by omega) (by omega), show ((i : Int) + 1) = ((i + 1 : Nat) : Int) by omega]
      exact ih (i + 1) (by omega) (by omega)
    · simp only [lt_false hlt, cond_false]

theorem treeOk_lst (N : Nat) (t : STree) (hN : 1048577 < N) (hsz : szT t ≤ 400) (hd : depT t ≤ 40) (hs : ∀ x, x ∈ lst 0 t → smNode x) (hall : AllT (RT N) t) : ms_TreeOk N (lst 0 t) = some true := by
  have hsh := shapeB_lst t hsz
  have hT := TA_self t
  have hll := lst_len t 0
  have hpos := szT_pos t
  have hdep := depthOf_spec N (lst 0 t) hN hs hsh hT
  unfold ms_TreeOk
  rw [shapeOk_spec N _ hN hs, hsh, hdep]
  have hle : decide ((depT t : Int) > 40) = false := by simp; omega
  simp only [Option.bind_some, Bool.not_true, cond_false, hle]
  have hr : ∀ x, x ∈ lst 0 t → NodeR N (lst 0 t) x := fun x hx => by
    obtain ⟨i, hi⟩ := List.getElem?_of_mem hx
    have hlt := (List.getElem?_eq_some_iff.1 hi).1
    obtain ⟨u, s', hu, _, h1, h2⟩ := TA.sub hT hall i (by omega) (by omega)
    obtain ⟨n, hn, e1, e2, e3, e4, hka, hkl⟩ := hu.node
    rw [hi] at hn
    have := Option.some.inj hn
    subst this
    obtain ⟨xk, xo, xx, xy, xks⟩ := x
    obtain ⟨uk, uo, ux, uy, uks⟩ := u
    have e1 : uk = xk := e1
    have e2 : uo = xo := e2
    have e3 : ux = xx := e3
    have e4 : uy = xy := e4
    subst e1 e2 e3 e4
    have hl : (List.replicate uks.length (0 : Int)).length = xks.length := by rw [List.length_replicate]; exact hkl
    refine ⟨(fields_len N _ _ _ _ _ _ hl).symm.trans h1, fun q hq => ?_⟩
    have hq2 : q < uks.length := by have hkl : uks.length = xks.length := hkl; have hq : q < xks.length := hq; omega
    have hv : uks[q]? = some uks[q] := List.getElem?_eq_getElem hq2
    obtain ⟨k, s2, hk, hTx, _⟩ := hka.get q _ hv
    obtain ⟨_, hk⟩ := List.getElem?_eq_some_iff.1 hk
    obtain ⟨m, hm, m1, _⟩ := hTx.node
    refine ⟨m, ?_, ?_⟩
    · have hk : xks[q] = (k : Int) := hk
      show ix (lst 0 _) xks[q] = some m
      rw [hk]; exact ix_get hm
    · rw [← m1]
      exact (kid_len _ _ _ _ _ _ hl _ _).symm.trans (h2 q _ hv)
  have := ok_l1 N (lst 0 t) (by omega) (by omega) (fun x hx => (shape_kids hsh x hx).1) hr N 0 (by omega) (by omega)
  have this' : ms_TreeOk_l1 N N (lst 0 t, 0) = some true := this
  simp only [this', Option.bind_some]

theorem deadI_ex (N : Nat) (a : List SNode) (hN : 1048577 + 400 < N) (hs : ∀ z, z ∈ a → smNode z) : ∃ r, mi_DeadStmts N a = some r ∧ r.length ≤ 160000 ∧ ∀ b, mi_TreeOk N a = some b → b = true → r = sortI (deadAll a a) := by
  obtain ⟨b, b1, b2, b3⟩ := treeOk_ex N a hN hs
  unfold mi_DeadStmts
  rw [b2]
  simp only [Option.bind_some]
  cases b with
  | false => exact ⟨[], rfl, by simp, fun b h1 h2 => by subst h2; cases h1⟩
  | true =>
    obtain ⟨hsh, _⟩ := b3 rfl
    have ha := (shape_of hsh).2.1
    have h1 := di_l1 N a (by omega) ha (shape_kids hsh) N 0 [] (by omega) (by omega) (by simp)
    rw [List.drop_zero, List.nil_append] at h1
    have hl := deadAll_len a a fun x hx => (shape_kids hsh x hx).1
    exact ⟨_, h1, by rw [sortI_len]; omega, fun _ _ _ => rfl⟩

theorem dropDead_ex (N : Nat) (a : List SNode) (hN : 1048577 + 1000 < N) (ha : a.length ≤ 1048576) (hs : ∀ z, z ∈ a → smNode z) : ∃ r, ms_DropDead N a = some r ∧ mi_DropDead N a = some r ∧ r.length ≤ 1048576 ∧ ∀ z, z ∈ r → smNode z := by
  obtain ⟨b, b1, b2, b3⟩ := treeOk_ex N a (by omega) hs
  obtain ⟨D, d2, d3, d4⟩ := deadI_ex N a (by omega) hs
  have hc2 := copyNodes_is N a (by omega) ha hs
  unfold ms_DropDead mi_DropDead mi_edit
  rw [b1, d2, b2]
  simp only [Option.bind_some]
  rw [wrap64 (n := (a.length : Int) - 1) (by omega) (by omega), within_is]
  cases b with
  | false =>
    simp only [Bool.not_false, cond_true, Option.bind_some, hc2]
    exact ⟨[], rfl, rfl, by simp, fun z hz => (by cases hz)⟩
  | true =>
    obtain ⟨hsh, _⟩ := b3 rfl
    obtain ⟨l1, l2, _, _, _, _, hT, t, ht⟩ := shape_of hsh
    have hD := d4 true b2 rfl
    have hpm : ∀ k, k ∈ D ↔ k ∈ deadAll a a := fun k => by rw [hD]; exact (sortI_perm _).mem_iff
    have hsz : szT t ≤ 400 := by have := ht.part.2.1; omega
    obtain ⟨t', r1, r2, r3, r4, r5, r6, r7⟩ := drop_is N a (by omega) hsh b1 hs D (by omega) hpm t 0 (a.length - 1) N ht (by omega) hsz (by omega)
    have hroot : ((a.length - 1 : Nat) : Int) ∉ D := fun h => root_dead hsh ((hpm _).1 h)
    rw [if_neg hroot] at r1
    have hi : (a.length : Int) - 1 = ((a.length - 1 : Nat) : Int) := by omega
    have r1' : mi_edited N a ((a.length : Int) - 1) D = some [t'] := by rw [hi]; exact r1
    have r2' : ms_l40Drop N a ((a.length : Int) - 1) = some (lst 0 t') := by rw [hi]; exact r2
    have hw : (decide ((0 : Int) ≥ 0) && decide ((0 : Int) ≤ (a.length : Int) - 1)) = true := by simp; omega
    have hli := list_is N t' (by omega) (by omega)
    have hsm := small_of (by omega) r6 0
    have hdo : depT t ≤ 40 := by
      have h0 := b1
      unfold ms_TreeOk at h0
      rw [shapeOk_spec N a (by omega) hs, hsh, depthOf_spec N a (by omega) hs hsh ht] at h0
      simp only [Option.bind_some, Bool.not_true, cond_false] at h0
      cases hg : decide ((depT t : Int) > 40) with
      | true => rw [hg] at h0; simp at h0
      | false => simp at hg; omega
    have hok := treeOk_lst N t' (by omega) (by omega) (by omega) hsm r7
    obtain ⟨c, c1, c2, _⟩ := treeOk_ex N (lst 0 t') (by omega) hsm
    rw [hok] at c1
    cases c1
    have hx0 : ix [t'] 0 = some t' := rfl
    have hne : ((([t'] : List STree).length : Int) != 1) = false := rfl
    simp only [Bool.not_true, cond_false, hw, Option.bind_some, r1', r2', hne, hx0, hli, c2]
    exact ⟨_, rfl, rfl, by rw [lst_len]; omega, hsm⟩

end Go.Proofs.Tryz
