/-
  Plain lemmas on the models, part 5.
-/
import Derived.Test.YtllanibkffnogaaGreatDoorRwXP4
namespace Go.Proofs.Tryz
open Go.Av
set_option maxRecDepth 100000
set_option linter.unusedSimpArgs false
set_option linter.unusedVariables false

mutual
def stT (b : Nat) : STree → List Int
  | ⟨_, _, _, _, ks⟩ => stTs b ks ++ [(b : Int)]
def stTs (b : Nat) : List STree → List Int
  | [] => []
  | t :: ts => stT b t ++ stTs (b + szT t) ts
end
mutual
theorem stT_len : ∀ (t : STree) (b : Nat), (stT b t).length = szT t
  | ⟨_, _, _, _, ks⟩, b => by rw [stT, szT, List.length_append, stTs_len ks b]; rfl
theorem stTs_len : ∀ (ts : List STree) (b : Nat), (stTs b ts).length = szTs ts
  | [], b => by rw [stTs, szTs]; rfl
  | t :: ts, b => by rw [stTs, szTs, List.length_append, stT_len t b, stTs_len ts _]
end
theorem stT_last (t : STree) (b : Nat) : (stT b t)[szT t - 1]? = some (b : Int) := by
  obtain ⟨k, o, x, y, ks⟩ := t
  rw [stT, szT, Nat.add_sub_cancel, List.getElem?_append_right (by rw [stTs_len]; omega), stTs_len, Nat.sub_self]
  rfl
theorem stTs_app : ∀ (a c : List STree) (b : Nat), stTs b (a ++ c) = stTs b a ++ stTs (b + szTs a) c
  | [], c, b => by simp [stTs, szTs]
  | t :: a, c, b => by rw [List.cons_append, stTs, stTs, szTs, stTs_app a c, List.append_assoc, Nat.add_assoc]

theorem walk_ends (b : Nat) (ts : List STree) : ∀ (m : Nat) (ts1 ts2 : List STree), ts1.length = m → ts1 ++ ts2 = ts → ∀ out : List Int, (∀ i, i < szTs ts → out[b + i]? = (stTs b ts)[i]?) → walk out ((b + szTs ts1 : Nat) : Int) (endsT b ts1).reverse = some (b : Int) := by
  intro m
  induction m with
  | zero =>
    intro ts1 ts2 hl _ out _
    have : ts1 = [] := List.length_eq_zero_iff.1 hl
    subst this
    simp [endsT, walk, szTs]
  | succ m ih =>
    intro ts1 ts2 hl he out ho
    obtain ⟨u, t, rfl⟩ : ∃ u t, ts1 = u ++ [t] := by
      rcases List.eq_nil_or_concat ts1 with rfl | ⟨u, t, rfl⟩
      · cases hl
      · exact ⟨u, t, by simp⟩
    have hp := szT_pos t
    have hsz : szTs (u ++ [t]) = szTs u + szT t := by rw [szTs_app, szTs, szTs]; omega
    rw [endsT_app, List.reverse_append, endsT, endsT, List.reverse_cons, List.reverse_nil, List.nil_append, List.singleton_append, walk, hsz]
    have hne : ¬ (((b + (szTs u + szT t) : Nat) : Int) = 0 ∨ (((b + szTs u + szT t : Nat) : Int) - 1) ≠ ((b + (szTs u + szT t) : Nat) : Int) - 1) := by omega
    rw [if_neg hne]
    have htot : szTs ts = szTs u + (szT t + szTs ts2) := by rw [← he, szTs_app, hsz]; omega
    have hi : (((b + (szTs u + szT t) : Nat) : Int) - 1).toNat = b + (szTs u + (szT t - 1)) := by omega
    rw [hi, ho _ (by omega)]
    have hst : stTs b ts = stTs b u ++ (stT (b + szTs u) t ++ stTs (b + szTs u + szT t) ts2) := by
      rw [← he, List.append_assoc, List.singleton_append, stTs_app, stTs]
    rw [hst, List.getElem?_append_right (by rw [stTs_len]; omega), stTs_len, Nat.add_sub_cancel_left, List.getElem?_append_left (by rw [stT_len]; omega), stT_last]
    exact ih u (t :: ts2) (by simpa using hl) (by rw [← he]; simp) out ho

mutual
theorem starts_lst : ∀ (t : STree) (b : Nat) (rest : List (List Int)) (out : List Int), out.length = b → starts (kidsN (lst b t) ++ rest) out = starts rest (out ++ stT b t)
  | ⟨k, o, x, y, ks⟩, b, rest, out, hb => by
    have h1 := starts_lsts ks b ([endsT b ks] ++ rest) out hb
    have hl : (out ++ stTs b ks).length = b + szTs ks := by rw [List.length_append, stTs_len, hb]
    rw [lst, stT]
    have e : kidsN (lsts b ks ++ [(⟨k, o, x, y, endsT b ks⟩ : SNode)]) ++ rest = kidsN (lsts b ks) ++ ([endsT b ks] ++ rest) := by
      unfold kidsN
      rw [List.map_append, List.append_assoc]
      rfl
    rw [e, h1, List.singleton_append, starts, hl]
    have := walk_ends b ks ks.length ks [] rfl (by simp) (out ++ stTs b ks) (fun i hi => by rw [List.getElem?_append_right (by omega), hb, Nat.add_sub_cancel_left])
    rw [this, Option.bind_some, List.append_assoc]
theorem starts_lsts : ∀ (ts : List STree) (b : Nat) (rest : List (List Int)) (out : List Int), out.length = b → starts (kidsN (lsts b ts) ++ rest) out = starts rest (out ++ stTs b ts)
  | [], b, rest, out, hb => by
    rw [lsts, stTs, List.append_nil]
    rfl
  | t :: ts, b, rest, out, hb => by
    rw [lsts, stTs]
    have e : kidsN (lst b t ++ lsts (b + szT t) ts) ++ rest = kidsN (lst b t) ++ (kidsN (lsts (b + szT t) ts) ++ rest) := by
      unfold kidsN
      rw [List.map_append, List.append_assoc]
    rw [e, starts_lst t b _ out hb, starts_lsts ts (b + szT t) rest _ (by rw [List.length_append, stT_len, hb]), List.append_assoc]
end

theorem shapeB_lst (t : STree) (h : szT t ≤ 400) : shapeB (lst 0 t) = true := by
  have hp := szT_pos t
  have hs := starts_lst t 0 [] [] rfl
  rw [List.append_nil, List.nil_append] at hs
  unfold shapeB
  rw [hs, lst_len]
  simp only [starts, rootAt, stT_last, Bool.and_eq_true, decide_eq_true_eq]
  exact ⟨⟨hp, h⟩, by simp⟩

def PR (a : List SNode) (b : Nat) (l : List SNode) : Prop := ∀ (i : Nat) (x : SNode), l[i]? = some x → a[b + i]? = some x
theorem PR.left {a l1 l2 : List SNode} {b : Nat} (h : PR a b (l1 ++ l2)) : PR a b l1 := fun i x hx => h i x (by rw [List.getElem?_append_left (List.getElem?_eq_some_iff.1 hx).1]; exact hx)
theorem PR.right {a l1 l2 : List SNode} {b : Nat} (h : PR a b (l1 ++ l2)) : PR a (b + l1.length) l2 := fun i x hx => by
  have := h (l1.length + i) x (by rw [List.getElem?_append_right (by omega), Nat.add_sub_cancel_left]; exact hx)
  rw [Nat.add_assoc]
  exact this
mutual
theorem TA_lst {a : List SNode} : ∀ (t : STree) (b : Nat), PR a b (lst b t) → TA a t b (b + szT t - 1)
  | ⟨k, o, x, y, ks⟩, b, h => by
    rw [lst] at h
    have h1 := KA_lst ks b h.left
    have h2 := h.right 0 _ rfl
    rw [lsts_len, Nat.add_zero] at h2
    rw [szT, show b + (szTs ks + 1) - 1 = b + szTs ks by omega, TA]
    exact ⟨_, h2, rfl, rfl, rfl, rfl, h1⟩
theorem KA_lst {a : List SNode} : ∀ (ts : List STree) (b : Nat), PR a b (lsts b ts) → KA a ts (endsT b ts) b (b + szTs ts)
  | [], b, h => by
    rw [KA, endsT, szTs]
    exact ⟨rfl, rfl⟩
  | t :: ts, b, h => by
    rw [lsts] at h
    have hp := szT_pos t
    have h1 := TA_lst t b h.left
    have h2 := KA_lst ts (b + szT t) (by have := h.right; rw [lst_len] at this; exact this)
    rw [KA, endsT, szTs]
    refine ⟨b + szT t - 1, endsT (b + szT t) ts, ?_, by omega, by omega, h1, ?_⟩
    · congr 1
      omega
    · rw [show b + szT t - 1 + 1 = b + szT t by omega, ← Nat.add_assoc]
      exact h2
end
theorem TA_self (t : STree) : TA (lst 0 t) t 0 ((lst 0 t).length - 1) := by
  have := TA_lst (a := lst 0 t) t 0 (fun i x hx => by rw [Nat.zero_add]; exact hx)
  rw [Nat.zero_add] at this
  rw [lst_len]
  exact this

theorem fields_name (N : Nat) (x : SNode) (h : ms_FieldsOk N x = some true) (hk : x.Kind = 1) : x.Kids = [] := by
  unfold ms_FieldsOk at h
  have hm : ms_l7Many x = some (0, 0) := by
    simp only [ms_l7Many, ms_l7Many_k1, ms_l7Many_k2, ms_l7Many_k3, ms_l7Many_k4, ms_l7Many_k5, ms_l7Many_k6, hk, Int.reduceBEq, cond_false]
  rw [hm, Option.bind_some] at h
  obtain ⟨y6, _, h⟩ := Option.bind_eq_some_iff.1 h
  obtain ⟨y13, h, h'⟩ := Option.bind_eq_some_iff.1 h
  cases h'
  cases y6 with
  | false => cases h
  | true =>
    rw [cond_true] at h
    obtain ⟨r14, _, h⟩ := Option.bind_eq_some_iff.1 h
    cases r14 with
    | false => cases h
    | true =>
      rw [cond_true] at h
      obtain ⟨r15, _, h⟩ := Option.bind_eq_some_iff.1 h
      cases r15 with
      | false => cases h
      | true =>
        rw [cond_true, l1In_is, Option.bind_some, Option.some.injEq, Bool.and_eq_true, decide_eq_true_eq, decide_eq_true_eq] at h
        exact List.length_eq_zero_iff.1 (by omega)

theorem fields_l2 (N : Nat) (a : List SNode) (kb : (List SNode × Int) → Option Bool) (i : Nat) (hi : i < a.length) (hi2 : i ≤ 100000) (hkl : a[i].Kids.length ≤ 100000) : ∀ (m j : Nat), a[i].Kids.length - j < m → j ≤ a[i].Kids.length → ms_TreeOk_l2 N kb m (a, (i : Int), (j : Int)) = some true → kb (a, ((i + 1 : Nat) : Int)) = some true := by
  intro m
  induction m with
  | zero => intro j h; omega
  | succ m ihm =>
    intro j hm hj hh
    rw [ms_TreeOk_l2, ix_nat hi, Option.bind_some] at hh
    by_cases hlt : j < a[i].Kids.length
    · simp only [lt_true hlt, cond_true, ix_nat hi, ix_nat hlt, Option.bind_some] at hh
      obtain ⟨y1, _, hh⟩ := Option.bind_eq_some_iff.1 hh
      obtain ⟨y2, _, hh⟩ := Option.bind_eq_some_iff.1 hh
      cases y2 with
      | false => cases hh
      | true =>
        simp only [Bool.not_true, cond_false] at hh
        rw [wrap64 (by omega) (by omega), show ((j : Int) + 1) = ((j + 1 : Nat) : Int) by omega] at hh
        exact ihm (j + 1) (by omega) (by omega) hh
    · simp only [lt_false hlt, cond_false] at hh
      rw [wrap64 (by omega) (by omega)] at hh
      exact hh

theorem fields_l1 (N : Nat) (a : List SNode) (ha : a.length ≤ 400) (hk : ∀ x, x ∈ a → x.Kids.length ≤ 400) (hN : 500 < N) : ∀ (n i : Nat), a.length - i < n → i ≤ a.length → ms_TreeOk_l1 N n (a, (i : Int)) = some true → ∀ x, x ∈ a.drop i → ms_FieldsOk N x = some true := by
  intro n
  induction n with
  | zero => intro i h; omega
  | succ n ih =>
    intro i hn hi h x hx
    rw [ms_TreeOk_l1] at h
    by_cases hlt : i < a.length
    · simp only [lt_true hlt, cond_true, ix_nat hlt, Option.bind_some] at h
      obtain ⟨b, hb, h⟩ := Option.bind_eq_some_iff.1 h
      cases b with
      | false => cases h
      | true =>
        simp only [Bool.not_true, cond_false] at h
        have hkl := hk _ (List.getElem_mem hlt)
        have h1 := fields_l2 N a (ms_TreeOk_l1 N n) i hlt (by omega) (by omega) N 0 (by omega) (by omega) h
        rw [drop_cons hlt] at hx
        rcases List.mem_cons.1 hx with rfl | hx
        · exact hb
        · exact ih (i + 1) (by omega) (by omega) h1 x hx
    · rw [drop_nil hlt] at hx
      cases hx

theorem treeOk_names (N : Nat) (a : List SNode) (hN : 500 < N) (hsh : shapeB a = true) (h : ms_TreeOk N a = some true) : ∀ x, x ∈ a → x.Kind = 1 → x.Kids = [] := by
  unfold ms_TreeOk at h
  obtain ⟨y, _, h⟩ := Option.bind_eq_some_iff.1 h
  cases y with
  | true => cases h
  | false =>
    rw [cond_false] at h
    intro x hx hk
    have h2 := (shape_of hsh).2.1
    exact fields_name N x (fields_l1 N a h2 (fun z hz => (shape_kids hsh z hz).1) hN N 0 (by omega) (by omega) h x (by rw [List.drop_zero]; exact hx)) hk

end Go.Proofs.Tryz
