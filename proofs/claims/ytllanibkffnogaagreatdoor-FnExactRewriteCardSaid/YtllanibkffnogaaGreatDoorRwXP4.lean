/-
  Plain lemmas on the models, part 4.
-/
import Derived.Test.YtllanibkffnogaaGreatDoorRwXP3
namespace Go.Proofs.Tryz
open Go.Av
set_option maxRecDepth 100000
set_option linter.unusedSimpArgs false
set_option linter.unusedVariables false

def hB (k : Int) (t : List UInt8) : Bool := k == 1 && match t with
  | [c] => decide (((c.toNat : Int)) ≥ 97) && decide (((c.toNat : Int)) ≤ 122)
  | _ => false

theorem isHole_spec (n : SNode) : ms_IsHole n = some (hB n.Kind n.Text) := by
  obtain ⟨k, o, t, p, ks⟩ := n
  unfold ms_IsHole hB
  simp only
  cases hk : (k == 1) with
  | false => rfl
  | true =>
    match t with
    | [] => rfl
    | [c] =>
      have hc := UInt8.toNat_lt c
      have e : ix [c] 0 = some c := rfl
      have e1 : ((([c] : List UInt8).length : Int) == 1) = true := rfl
      rw [cond_true, e1, cond_true, e, Option.bind_some, wrap64 (by omega) (by omega), l1In_is]
      rfl
    | a :: b :: r =>
      have e : (((a :: b :: r).length : Int) == 1) = false := by simp; omega
      rw [cond_true, e]
      rfl

theorem isHole_impl (n : SNode) : mi_IsHole n = some (hB n.Kind n.Text) := by
  obtain ⟨k, o, t, p, ks⟩ := n
  unfold mi_IsHole hB
  simp only
  cases hk : (k == 1) with
  | false => rfl
  | true =>
    match t with
    | [] => rfl
    | [c] =>
      have e : ix [c] 0 = some c := rfl
      have e1 : ((([c] : List UInt8).length : Int) == 1) = true := rfl
      rw [cond_true, e1, cond_true, e, Option.bind_some, Option.bind_some]
      show _ = some (decide (((c.toNat : Int)) ≥ 97) && decide (((c.toNat : Int)) ≤ 122))
      cases decide (((c.toNat : Int)) ≥ 97) <;> rfl
    | a :: b :: r =>
      have e : (((a :: b :: r).length : Int) == 1) = false := by simp; omega
      rw [cond_true, e]
      rfl

theorem isHoleT (t : STree) : mi_tree__isHole t = some (hB t.kind t.text) := by
  unfold mi_tree__isHole
  rw [isHole_impl]
  rfl

mutual
theorem lst_inj : ∀ (t t' : STree) (b : Nat), lst b t = lst b t' → t = t'
  | ⟨k, o, x, y, ks⟩, ⟨k', o', x', y', ks'⟩, b, h => by
    rw [lst, lst] at h
    obtain ⟨h1, h2⟩ := List.append_inj' h rfl
    simp only [List.cons.injEq, SNode.mk.injEq, and_true] at h2
    obtain ⟨rfl, rfl, rfl, rfl, h3⟩ := h2
    rw [lsts_inj ks ks' b h1 h3]
theorem lsts_inj : ∀ (ts ts' : List STree) (b : Nat), lsts b ts = lsts b ts' → endsT b ts = endsT b ts' → ts = ts'
  | [], [], b, _, _ => rfl
  | [], t' :: ts', b, _, h => by simp [endsT] at h
  | t :: ts, [], b, _, h => by simp [endsT] at h
  | t :: ts, t' :: ts', b, h1, h2 => by
    rw [endsT, endsT] at h2
    injection h2 with e1 e2
    have e : szT t = szT t' := by omega
    rw [lsts, lsts] at h1
    obtain ⟨g1, g2⟩ := List.append_inj h1 (by rw [lst_len, lst_len, e])
    rw [← e] at g2 e2
    rw [lst_inj t t' b g1, lsts_inj ts ts' _ g2 e2]
end

mutual
def eqT : STree → STree → Bool
  | ⟨k, o, x, y, ks⟩, ⟨k', o', x', y', ks'⟩ => k == k' && (o == o' && (x == x' && (y == y' && eqTs ks ks')))
def eqTs : List STree → List STree → Bool
  | [], [] => true
  | t :: ts, t' :: ts' => eqT t t' && eqTs ts ts'
  | [], _ :: _ => false
  | _ :: _, [] => false
end
mutual
theorem eqT_iff : ∀ (t t' : STree), eqT t t' = true ↔ t = t'
  | ⟨k, o, x, y, ks⟩, ⟨k', o', x', y', ks'⟩ => by
    rw [eqT]
    simp only [Bool.and_eq_true, beq_iff_eq, eqTs_iff ks ks', STree.mk.injEq]
theorem eqTs_iff : ∀ (ts ts' : List STree), eqTs ts ts' = true ↔ ts = ts'
  | [], [] => by simp [eqTs]
  | [], _ :: _ => by simp [eqTs]
  | _ :: _, [] => by simp [eqTs]
  | t :: ts, t' :: ts' => by
    rw [eqTs]
    simp only [Bool.and_eq_true, eqT_iff t t', eqTs_iff ts ts', List.cons.injEq]
end
theorem eqTs_len : ∀ (ts ts' : List STree), ts.length ≠ ts'.length → eqTs ts ts' = false
  | [], [], h => absurd rfl h
  | [], _ :: _, _ => rfl
  | _ :: _, [], _ => rfl
  | t :: ts, t' :: ts', h => by
    rw [eqTs, eqTs_len ts ts' (by simpa using h), Bool.and_false]

theorem ints_l (N : Nat) (a b : List Int) (hl : a.length = b.length) (hm : a.length ≤ 1048576) : ∀ (n i : Nat), a.length - i < n → i ≤ a.length → ms_l6Ints_l1 N n (a, b, (i : Int)) = some (decide (a.drop i = b.drop i)) := by
  intro n
  induction n with
  | zero => intro i h; omega
  | succ n ih =>
    intro i hn hi
    rw [ms_l6Ints_l1]
    by_cases h : i < a.length
    · have h' : i < b.length := by omega
      simp only [lt_true h, cond_true, ix_nat h, ix_nat h', Option.bind_some]
      rw [drop_cons h, drop_cons h']
      by_cases he : a[i] = b[i]
      · have hb : (a[i] != b[i]) = false := by simpa using he
        rw [hb, cond_false, step64 h (by simp only [maxLen]; omega), ih (i + 1) (by omega) (by omega)]
        simp only [List.cons.injEq, he, true_and]
      · have hb : (a[i] != b[i]) = true := by simpa using he
        rw [hb, cond_true]
        simp only [List.cons.injEq, he, false_and, decide_false]
    · have h' : ¬ i < b.length := by omega
      simp only [lt_false h, cond_false]
      rw [drop_nil h, drop_nil h']
      simp

theorem ints_is (N : Nat) (a b : List Int) (hm : a.length ≤ 1048576) (hN : 1048577 < N) : ms_l6Ints N a b = some (decide (a = b)) := by
  unfold ms_l6Ints
  by_cases hl : a.length = b.length
  · have e : ((a.length : Int) != (b.length : Int)) = false := by simp [hl]
    rw [e, cond_false]
    exact ints_l N a b hl hm N 0 (by omega) (by omega)
  · have e : ((a.length : Int) != (b.length : Int)) = true := by simp; omega
    rw [e, cond_true]
    have : a ≠ b := fun h => hl (by rw [h])
    simp [this]

theorem sameN_l (N : Nat) (a b : List SNode) (hN : 1048577 < N) (hl : a.length = b.length) (hm : a.length ≤ 1048576) (hk : ∀ x, x ∈ a → x.Kids.length ≤ 1048576) : ∀ (n i : Nat), a.length - i < n → i ≤ a.length → ms_SameTree_l1 N n (a, b, (i : Int)) = some (decide (a.drop i = b.drop i)) := by
  intro n
  induction n with
  | zero => intro i h; omega
  | succ n ih =>
    intro i hn hi
    rw [ms_SameTree_l1]
    by_cases h : i < a.length
    · have h' : i < b.length := by omega
      have hki := hk _ (List.getElem_mem h)
      simp only [lt_true h, cond_true, ix_nat h, ix_nat h', Option.bind_some]
      rw [drop_cons h, drop_cons h', step64 h (by simp only [maxLen]; omega), ih (i + 1) (by omega) (by omega)]
      generalize a[i] = x at hki
      generalize b[i] = y
      obtain ⟨k, o, t, p, ks⟩ := x
      obtain ⟨k', o', t', p', ks'⟩ := y
      simp only at hki
      simp only [ints_is N ks ks' hki hN, Option.bind_some]
      by_cases e1 : k = k'
      · subst e1
        by_cases e2 : o = o'
        · subst e2
          by_cases e3 : t = t'
          · subst e3
            by_cases e4 : p = p'
            · subst e4
              by_cases e5 : ks = ks'
              · subst e5
                simp only [bne_self_eq_false, beq_self_eq_true, Bool.not_true, cond_false, decide_true, Option.bind_some, List.cons.injEq, true_and]
              · simp only [bne_self_eq_false, beq_self_eq_true, Bool.not_true, Bool.not_false, cond_true, cond_false, e5, decide_false, Option.bind_some, List.cons.injEq, SNode.mk.injEq, true_and, false_and]
            · have b4 : (p == p') = false := by simpa using e4
              simp only [bne_self_eq_false, beq_self_eq_true, Bool.not_true, Bool.not_false, b4, cond_true, cond_false, e4, decide_false, Option.bind_some, List.cons.injEq, SNode.mk.injEq, true_and, false_and]
          · have b3 : (t == t') = false := by simpa using e3
            simp only [bne_self_eq_false, Bool.not_false, b3, cond_true, cond_false, e3, decide_false, Option.bind_some, List.cons.injEq, SNode.mk.injEq, true_and, false_and]
        · have b2 : (o != o') = true := by simpa using e2
          simp only [bne_self_eq_false, b2, cond_true, cond_false, e2, decide_false, Option.bind_some, List.cons.injEq, SNode.mk.injEq, true_and, false_and]
      · have b1 : (k != k') = true := by simpa using e1
        simp only [b1, cond_true, e1, decide_false, Option.bind_some, List.cons.injEq, SNode.mk.injEq, false_and]
    · have h' : ¬ i < b.length := by omega
      simp only [lt_false h, cond_false]
      rw [drop_nil h, drop_nil h']
      simp

theorem sameN_is (N : Nat) (a b : List SNode) (hN : 1048577 < N) (hm : a.length ≤ 1048576) (hk : ∀ x, x ∈ a → x.Kids.length ≤ 1048576) : ms_SameTree N a b = some (decide (a = b)) := by
  unfold ms_SameTree
  by_cases hl : a.length = b.length
  · have e : ((a.length : Int) != (b.length : Int)) = false := by simp [hl]
    rw [e, cond_false]
    exact sameN_l N a b hN hl hm hk N 0 (by omega) (by omega)
  · have e : ((a.length : Int) != (b.length : Int)) = true := by simp; omega
    rw [e, cond_true]
    have : a ≠ b := fun h => hl (by rw [h])
    simp [this]

theorem sameL_is (N : Nat) (t t' : STree) (hN : 1048577 < N) (hsz : szT t ≤ 1048576) : ms_SameTree N (lst 0 t) (lst 0 t') = some (eqT t t') := by
  rw [sameN_is N _ _ hN (by rw [lst_len]; exact hsz) (fun x hx => by have := lst_kids t 0 x hx; omega)]
  congr 1
  rw [Bool.eq_iff_iff, decide_eq_true_iff, eqT_iff]
  exact ⟨lst_inj t t' 0, fun h => by rw [h]⟩

def alikeB (a b : STree) : Bool := a.kind == b.kind && (a.op == b.op && (a.text == b.text && (a.other == b.other && ((a.kids.length : Int) == (b.kids.length : Int)))))
theorem alike_is (a b : STree) : mi_tree__alike a b = some (alikeB a b) := by
  unfold mi_tree__alike alikeB
  cases (a.kind == b.kind) <;> cases (a.op == b.op) <;> cases (a.text == b.text) <;> cases (a.other == b.other) <;> rfl

theorem same_l (M : Nat) (us vs : List STree) (hl : us.length = vs.length) (hm : us.length ≤ 1048576) (ih : ∀ t, t ∈ us → ∀ t', (scc7 M).mi_tree__same t t' = some (eqT t t')) : ∀ (n i : Nat), us.length - i < n → i ≤ us.length →
    m_slices_EqualFunc_tree_l1 M (scc7 M) n (vs, us, (i : Int)) = some (eqTs (us.drop i) (vs.drop i)) := by
  intro n
  induction n with
  | zero => intro i h; omega
  | succ n ihn =>
    intro i hn hi
    rw [m_slices_EqualFunc_tree_l1]
    by_cases h : i < us.length
    · have h' : i < vs.length := by omega
      simp only [lt_true h, cond_true, ix_nat h, ix_nat h', Option.bind_some]
      rw [drop_cons h, drop_cons h', ih _ (List.getElem_mem h), Option.bind_some, step64 h (by simp only [maxLen]; omega), eqTs]
      cases eqT us[i] vs[i] with
      | false => rfl
      | true =>
        simp only [Bool.not_true, cond_false, Bool.true_and]
        exact ihn (i + 1) (by omega) (by omega)
    · have h' : ¬ i < vs.length := by omega
      simp only [lt_false h, cond_false]
      rw [drop_nil h, drop_nil h', eqTs]

theorem same_is : ∀ (t t' : STree) (N : Nat), 2 * szT t + 2 ≤ N → szT t ≤ 1048576 → (scc7 N).mi_tree__same t t' = some (eqT t t') := by
  intro t
  induction t using STree.ind with
  | h t ih =>
    intro t' N hN hsz
    have hs := szT_eq t
    have htl := szTs_len t.kids
    obtain ⟨M, rfl⟩ : ∃ M, N = M + 2 := ⟨N - 2, by omega⟩
    show mi_tree__same_F (M + 1) (scc7 (M + 1)) t t' = _
    unfold mi_tree__same_F
    rw [alike_is]
    have hE : (scc7 (M + 1)).m_slices_EqualFunc_tree t.kids t'.kids = some (eqTs t.kids t'.kids) := by
      show m_slices_EqualFunc_tree_F M (scc7 M) t.kids t'.kids = _
      unfold m_slices_EqualFunc_tree_F
      by_cases hl : t.kids.length = t'.kids.length
      · have e : ((t.kids.length : Int) != (t'.kids.length : Int)) = false := by simp [hl]
        rw [e, cond_false]
        exact same_l M t.kids t'.kids hl (by omega) (fun k hk k' => ih k hk k' M (by have := szTs_mem hk; omega) (by have := szTs_mem hk; omega)) M 0 (by omega) (by omega)
      · have e : ((t.kids.length : Int) != (t'.kids.length : Int)) = true := by simp; omega
        rw [e, cond_true, eqTs_len _ _ hl]
    simp only [hE, Option.bind_some]
    obtain ⟨k, o, x, y, ks⟩ := t
    obtain ⟨k', o', x', y', ks'⟩ := t'
    rw [eqT]
    unfold alikeB
    simp only
    cases (k == k') <;> cases (o == o') <;> cases (x == x') <;> cases (y == y') <;> try rfl
    by_cases hl : ks.length = ks'.length
    · have e : ((ks.length : Int) == (ks'.length : Int)) = true := by simp [hl]
      rw [e]; rfl
    · have e : ((ks.length : Int) == (ks'.length : Int)) = false := by simp; omega
      rw [e, eqTs_len _ _ hl]; rfl

def HF (g : List SFilling) : List SHole := g.map fun f => (⟨f.name, lst 0 f.tree⟩ : SHole)

theorem of_l (N : Nat) (g : List SFilling) (name : List UInt8) (hm : g.length ≤ 1048576) : ∀ (n i : Nat), g.length - i < n → i ≤ g.length →
    ms_l32Of_l1 N (HF g) n (name, (i : Int)) = some (match (g.drop i).find? (fun f => f.name == name) with
      | some f => (lst 0 f.tree, true)
      | none => ([], false)) := by
  intro n
  induction n with
  | zero => intro i h; omega
  | succ n ih =>
    intro i hn hi
    rw [ms_l32Of_l1]
    have hHl : (HF g).length = g.length := by simp [HF]
    by_cases h : i < g.length
    · have h' : i < (HF g).length := by omega
      have hx : (HF g)[i] = (⟨g[i].name, lst 0 g[i].tree⟩ : SHole) := by simp [HF]
      simp only [lt_true h', cond_true, ix_nat h', Option.bind_some, hx]
      rw [drop_cons h, List.find?_cons, step64 h (by simp only [maxLen]; omega)]
      cases (g[i].name == name) with
      | true => rfl
      | false =>
        simp only [cond_false]
        exact ih (i + 1) (by omega) (by omega)
    · have h' : ¬ i < (HF g).length := by omega
      simp only [lt_false h', cond_false]
      rw [drop_nil h]
      rfl

theorem of_is (N : Nat) (g : List SFilling) (name : List UInt8) (hm : g.length ≤ 1048576) (hN : 1048577 < N) : ms_l32Of N name (HF g) = some (match g.find? (fun f => f.name == name) with
      | some f => (lst 0 f.tree, true)
      | none => ([], false)) := of_l N g name hm N 0 (by omega) (by omega)

theorem got_l (M : Nat) (g : List SFilling) (t x : STree) (hm : g.length ≤ 1048576) (hs : ∀ f, f ∈ g → 2 * szT f.tree + 2 ≤ M ∧ szT f.tree ≤ 1048576) : ∀ (n i : Nat), g.length - i < n → i ≤ g.length →
    mi_tree__matches_l1 M (scc8 M) n (g, t, x, (i : Int)) = match (g.drop i).find? (fun f => f.name == t.text) with
      | some f => some (g, eqT f.tree x)
      | none => some (g ++ [⟨t.text, x⟩], true) := by
  intro n
  induction n with
  | zero => intro i h; omega
  | succ n ih =>
    intro i hn hi
    rw [mi_tree__matches_l1]
    by_cases h : i < g.length
    · obtain ⟨s1, s2⟩ := hs _ (List.getElem_mem h)
      simp only [lt_true h, cond_true, ix_nat h, Option.bind_some]
      rw [drop_cons h, List.find?_cons, step64 h (by simp only [maxLen]; omega)]
      cases (g[i].name == t.text) with
      | true =>
        simp only [cond_true]
        have := same_is g[i].tree x M s1 s2
        unfold mi_tree__same
        rw [this]
        rfl
      | false =>
        simp only [cond_false]
        exact ih (i + 1) (by omega) (by omega)
    · simp only [lt_false h, cond_false]
      rw [drop_nil h, app_some (by simp; omega)]
      rfl

def GInv (l : List SNode) (g : List SFilling) : Prop := ∀ f, f ∈ g → isE f.tree.kind = true ∧ (∃ s k, TA l f.tree s k) ∧ f.name.length = 1

theorem hB_len {k : Int} {t : List UInt8} (h : hB k t = true) : t.length = 1 := by
  unfold hB at h
  match t with
  | [] => simp at h
  | [c] => rfl
  | a :: b :: r => simp at h

theorem match_l (p l : List SNode) (M : Nat) (t x : STree) (n m : SNode) (i j : Nat) (hp : p[i]? = some n) (hx : l[j]? = some m) {sp ep sx ex : Nat} (hkp : KA p t.kids n.Kids sp ep) (hkx : KA l x.kids m.Kids sx ex) (hl : t.kids.length = x.kids.length) (hm : t.kids.length ≤ 1048576)
    (ih : ∀ tk, tk ∈ t.kids → ∀ (xk : STree) (s k s' k' : Nat) (g : List SFilling), TA p tk s k → TA l xk s' k' → GInv l g → g.length + szT tk ≤ 1000 →
      ∃ g' b h, (scc8 M).mi_tree__matches tk xk g = some (g', b) ∧ (scc1 M).ms_l32At p (k : Int) l (k' : Int) (HF g) = some (h, b) ∧ (b = true → h = HF g' ∧ GInv l g' ∧ g'.length ≤ g.length + szT tk)) :
    ∀ (r q : Nat) (g : List SFilling), t.kids.length - q < r → q ≤ t.kids.length → GInv l g → g.length + szTs (t.kids.drop q) ≤ 1000 →
      ∃ g' b h, mi_tree__matches_l2 M (scc8 M) r (t, x, (q : Int), g) = some (g', b) ∧ ms_l32At_l1 M (scc1 M) r (p, (i : Int), l, (j : Int), (q : Int), HF g) = some (h, b) ∧ (b = true → h = HF g' ∧ GInv l g' ∧ g'.length ≤ g.length + szTs (t.kids.drop q)) := by
  have hpl : n.Kids.length = t.kids.length := by rw [hkp.part.2.2.2, endsT_len]
  have hxl : m.Kids.length = x.kids.length := by rw [hkx.part.2.2.2, endsT_len]
  intro r
  induction r with
  | zero => intro q g h; omega
  | succ r ihr =>
    intro q g hr hq hg hsz
    rw [mi_tree__matches_l2, ms_l32At_l1, ix_get hp, ix_get hx]
    simp only [Option.bind_some]
    by_cases h : q < t.kids.length
    · have h1 : q < n.Kids.length := by omega
      have h2 : q < x.kids.length := by omega
      have h3 : q < m.Kids.length := by omega
      obtain ⟨k, s, e1, ta, _⟩ := hkp.get q t.kids[q] (List.getElem?_eq_getElem h)
      obtain ⟨k', s', e2, ta', _⟩ := hkx.get q x.kids[q] (List.getElem?_eq_getElem h2)
      rw [drop_cons h, szTs] at hsz
      obtain ⟨g', b, hh, b1, b2, b3⟩ := ih _ (List.getElem_mem h) _ s k s' k' g ta ta' hg (by omega)
      simp only [lt_true h, lt_true h1, cond_true, ix_nat h, ix_nat h2, ix_get e1, ix_get e2, Option.bind_some, b1, b2]
      cases b with
      | false => exact ⟨[], false, hh, rfl, rfl, fun h => by cases h⟩
      | true =>
        obtain ⟨c1, c2, c3⟩ := b3 rfl
        subst c1
        simp only [Bool.not_true, cond_false]
        rw [step64 h (by simp only [maxLen]; omega)]
        obtain ⟨g2, b, h2, d1, d2, d3⟩ := ihr (q + 1) g' (by omega) (by omega) c2 (by omega)
        refine ⟨g2, b, h2, d1, d2, fun hb => ?_⟩
        obtain ⟨f1, f2, f3⟩ := d3 hb
        refine ⟨f1, f2, ?_⟩
        rw [drop_cons h, szTs]
        omega
    · have h1 : ¬ q < n.Kids.length := by omega
      simp only [lt_false h, lt_false h1, cond_false]
      exact ⟨g, true, HF g, rfl, rfl, fun _ => ⟨rfl, hg, by omega⟩⟩

theorem match_ex (p l : List SNode) (hs : ∀ z, z ∈ l → smNode z) (hsh : shapeB l = true) : ∀ (t x : STree) (sp i sx j N : Nat) (g : List SFilling), TA p t sp i → TA l x sx j → GInv l g → g.length + szT t ≤ 1000 → 1048577 + 1000 + 2 * szT t ≤ N → szT t ≤ 400 →
    ∃ g' b h, (scc8 N).mi_tree__matches t x g = some (g', b) ∧ (scc1 N).ms_l32At p (i : Int) l (j : Int) (HF g) = some (h, b) ∧ (b = true → h = HF g' ∧ GInv l g' ∧ g'.length ≤ g.length + szT t) := by
  obtain ⟨l1, l2, _, _, _, _, hT, t0, ht0⟩ := shape_of hsh
  have hsz0 : ∀ {y : STree} {s k : Nat}, TA l y s k → szT y ≤ 400 := fun h => by have := h.part.2.1; have := h.lt; omega
  intro t
  induction t using STree.ind with
  | h t ih =>
    intro x sp i sx j N g hp hx hg hgl hN hsz
    obtain ⟨M, rfl⟩ : ∃ M, N = M + 1 := ⟨N - 1, by omega⟩
    have hst := szT_eq t
    have htl := szTs_len t.kids
    obtain ⟨n, hn, n1, n2, n3, n4, nk, nkl⟩ := hp.node
    obtain ⟨m, hm, m1, m2, m3, m4, mk, mkl⟩ := hx.node
    show ∃ g' b h, mi_tree__matches_F M (scc8 M) t x g = some (g', b) ∧ ms_l32At_F M (scc1 M) p (i : Int) l (j : Int) (HF g) = some (h, b) ∧ _
    unfold mi_tree__matches_F ms_l32At_F
    rw [isHoleT, ix_get hn, ix_get hm]
    simp only [Option.bind_some, isHole_spec, n1, n3]
    cases hh : hB n.Kind n.Text with
    | true =>
      have hgs : ∀ f, f ∈ g → 2 * szT f.tree + 2 ≤ M ∧ szT f.tree ≤ 1048576 := fun f hf => by
        obtain ⟨_, ⟨s, k, hk⟩, _⟩ := hg f hf
        have := hsz0 hk
        omega
      have hgo := got_l M g t x (by omega) hgs M 0 (by omega) (by omega)
      rw [List.drop_zero, n3] at hgo
      simp only [cond_true, part_is M l (by omega) hs hsh hx, Option.bind_some, of_is M g n.Text (by omega) (by omega), isE_impl, isE_spec, m1]
      cases hfd : g.find? (fun f => f.name == n.Text) with
      | some f =>
        rw [hfd] at hgo
        have hf : f ∈ g := List.mem_of_find?_eq_some hfd
        obtain ⟨fe, ⟨s, k, hk⟩, _⟩ := hg f hf
        have hszf := hsz0 hk
        simp only [cond_true, sameL_is M f.tree x (by omega) (by omega), Option.bind_some]
        cases he : isE m.Kind with
        | true =>
          simp only [Bool.not_true, cond_false]
          refine ⟨g, eqT f.tree x, HF g, hgo, rfl, fun _ => ⟨rfl, hg, by omega⟩⟩
        | false =>
          simp only [Bool.not_false, cond_true]
          have hne : eqT f.tree x = false := by
            cases hq : eqT f.tree x with
            | false => rfl
            | true =>
              have := (eqT_iff _ _).1 hq
              rw [this, m1, he] at fe
              cases fe
          rw [hne]
          exact ⟨[], false, HF g, rfl, rfl, fun h => by cases h⟩
      | none =>
        rw [hfd] at hgo
        simp only [cond_false]
        rw [app_some (by simp [HF]; omega)]
        simp only [Option.bind_some]
        have hHF : HF g ++ [(⟨n.Text, lst 0 x⟩ : SHole)] = HF (g ++ [⟨n.Text, x⟩]) := by simp [HF]
        cases he : isE m.Kind with
        | true =>
          simp only [Bool.not_true, cond_false]
          refine ⟨g ++ [⟨n.Text, x⟩], true, _, hgo, rfl, fun _ => ⟨hHF, fun f hf => ?_, by simp; omega⟩⟩
          rcases List.mem_append.1 hf with hf | hf
          · exact hg f hf
          · rw [List.mem_singleton.1 hf]
            exact ⟨by rw [m1]; exact he, ⟨sx, j, hx⟩, hB_len hh⟩
        | false =>
          simp only [Bool.not_false, cond_true]
          exact ⟨[], false, _, rfl, rfl, fun h => by cases h⟩
    | false =>
      simp only [cond_false, alike_is, Option.bind_some]
      have hal : alikeB t x = (n.Kind == m.Kind && (n.Op == m.Op && (n.Text == m.Text && (n.Other == m.Other && ((n.Kids.length : Int) == (m.Kids.length : Int)))))) := by
        unfold alikeB
        rw [n1, n2, n3, n4, nkl, m1, m2, m3, m4, mkl]
      rw [hal]
      have hch : (bif n.Kind != m.Kind then some true else bif n.Op != m.Op then some true else bif !(n.Text == m.Text) then some true else bif !(n.Other == m.Other) then some true else some ((n.Kids.length : Int) != (m.Kids.length : Int))) =
          some (!(n.Kind == m.Kind && (n.Op == m.Op && (n.Text == m.Text && (n.Other == m.Other && ((n.Kids.length : Int) == (m.Kids.length : Int))))))) := by
        unfold bne
        cases (n.Kind == m.Kind) <;> cases (n.Op == m.Op) <;> cases (n.Text == m.Text) <;> cases (n.Other == m.Other) <;> rfl
      rw [hch]
      simp only [Option.bind_some]
      cases hab : (n.Kind == m.Kind && (n.Op == m.Op && (n.Text == m.Text && (n.Other == m.Other && ((n.Kids.length : Int) == (m.Kids.length : Int)))))) with
      | false => exact ⟨[], false, HF g, rfl, rfl, fun h => by cases h⟩
      | true =>
        simp only [Bool.not_true, cond_false]
        simp only [Bool.and_eq_true, beq_iff_eq] at hab
        have hkl : t.kids.length = x.kids.length := by omega
        have := match_l p l M t x n m i j hn hm nk mk hkl (by omega) (fun tk htk xk s k s' k' g' ta ta' hg' hsz' => ih tk htk xk s k s' k' M g' ta ta' hg' hsz' (by have := szTs_mem htk; omega) (by have := szTs_mem htk; omega)) M 0 g (by omega) (by omega) hg (by rw [List.drop_zero]; omega)
        obtain ⟨g', b, h, c1, c2, c3⟩ := this
        refine ⟨g', b, h, c1, c2, fun hb => ?_⟩
        obtain ⟨d1, d2, d3⟩ := c3 hb
        rw [List.drop_zero] at d3
        exact ⟨d1, d2, by omega⟩

end Go.Proofs.Tryz
