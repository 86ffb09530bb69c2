/-
  Plain lemmas on the models, part 7.
-/
import Derived.Test.YtdmegpnacdgeoaaGreatDoorSpQP6
namespace Go.Proofs.Tryz
open Go.Av
set_option maxRecDepth 100000
set_option linter.unusedSimpArgs false
set_option linter.unusedVariables false

theorem big (N0 : Nat) (a : List SNode) (hN0 : 500 < N0) (hsh : shapeB a = true) (hok : ms_TreeOk N0 a = some true) : ∀ t : STree, (∃ s i, TA a t s i) → isE t.kind = true → BigB a t := by
  refine STree.ind fun t ih => ?_
  rintro ⟨s, i, hT⟩ he
  obtain ⟨n, hn, e1, e2, e3, e4, hka, hnl⟩ := hT.node
  have hmem : n ∈ a := List.mem_of_getElem? hn
  obtain ⟨hf, hkd⟩ := treeOk_nodes N0 a hN0 hsh hok n hmem
  have hkl : t.kids.length ≤ 400 := by rw [hnl]; exact (shape_kids hsh n hmem).1
  have hen : isE n.Kind = true := by rw [← e1]; exact he
  obtain ⟨har, hlv⟩ := fieldsE N0 n hf hen
  have kid : ∀ (j : Nat) (x : STree), t.kids[j]? = some x → BigB a x ∧ BigE a x ∧ isE x.kind = true ∧ ((n.Kind = 9 ∨ n.Kind = 10 ∨ (n.Kind = 15 ∧ j = 0)) → isL x.kind = true) := fun j x hx => by
    obtain ⟨k, s', hk, hTx, _⟩ := hka.get j x hx
    obtain ⟨hj, hk⟩ := List.getElem?_eq_some_iff.1 hk
    obtain ⟨y, hy, hy2⟩ := hkd j hj
    obtain ⟨m, hm, m1, _, _, _, _, hml⟩ := hTx.node
    rw [hk, ix_get hm] at hy
    have hy := Option.some.inj hy
    subst hy
    obtain ⟨h1, h2⟩ := kidE n j m.Kind hy2 hen
    rw [← m1] at h1 h2
    have hb := ih x (List.mem_of_getElem? hx) ⟨s', k, hTx⟩ h1
    have hxl : x.kids.length ≤ 400 := by rw [hml]; exact (shape_kids hsh m (List.mem_of_getElem? hm)).1
    exact ⟨hb, bigE_of hb hxl (szT_pos x), h1, h2⟩
  have mem : ∀ x, x ∈ t.kids → BigE a x ∧ isE x.kind = true := fun x hx => by
    obtain ⟨j, hj⟩ := List.getElem?_of_mem hx
    obtain ⟨_, h1, h2, _⟩ := kid j x hj
    exact ⟨h1, h2⟩
  rw [← e1, ← e2] at hlv
  have h15 : t.kind = 15 → t.op ≠ 99 := fun e => by rw [e2]; exact assign_op N0 n hf (by rw [← e1]; exact e)
  unfold Ar at har
  rw [← e1, ← hnl] at har
  obtain ⟨a0, a1, a6, a12, a14⟩ := har
  rw [← e1] at kid
  have one : t.kids.length = 1 → ∃ x, t.kids = [x] ∧ BigB a x ∧ BigE a x ∧ isE x.kind = true ∧ ((t.kind = 9 ∨ t.kind = 10 ∨ (t.kind = 15 ∧ (0 : Nat) = 0)) → isL x.kind = true) := fun h => by
    obtain ⟨x, hx⟩ := List.length_eq_one_iff.1 h
    exact ⟨x, hx, kid 0 x (by rw [hx]; rfl)⟩
  have two : t.kids.length = 2 → ∃ x y, t.kids = [x, y] := fun h => by
    match hk : t.kids, h with
    | [x, y], _ => exact ⟨x, y, rfl⟩
  have three : t.kids.length = 3 → ∃ x y w, t.kids = [x, y, w] := fun h => by
    match hk : t.kids, h with
    | [x, y, w], _ => exact ⟨x, y, w, rfl⟩
  rcases kinds he with e | e | e | e | e | e | e | e | e | e | e | e | e | e | e
  · exact leaf_is (.inl e) (List.eq_nil_of_length_eq_zero (a0 (.inl e)))
  · exact leaf_is (.inr (.inl e)) (List.eq_nil_of_length_eq_zero (a0 (.inr (.inl e))))
  · exact leaf_is (.inr (.inr (.inl e))) (List.eq_nil_of_length_eq_zero (a0 (.inr (.inr (.inl e)))))
  · exact leaf_is (.inr (.inr (.inr e))) (List.eq_nil_of_length_eq_zero (a0 (.inr (.inr (.inr e)))))
  · exact named_is (.inl e) hkl mem
  · obtain ⟨x, hx, _, h2, h3, _⟩ := one (a6 (.inl e))
    exact un_is (.inl e) hx h2 h3 hlv
  · exact named_is (.inr (.inl e)) hkl mem
  · exact named_is (.inr (.inr e)) hkl mem
  · obtain ⟨x, hx, h1, _, _, h4⟩ := one (a6 (.inr (.inl e)))
    exact pre_is e hx h1 (h4 (.inl e))
  · obtain ⟨x, hx, h1, _, _, h4⟩ := one (a6 (.inr (.inr (.inl e))))
    exact post_is e hx h1 (h4 (.inr (.inl e)))
  · obtain ⟨x, hx, _, h2, h3, _⟩ := one (a6 (.inr (.inr (.inr e))))
    exact un_is (.inr e) hx h2 h3 hlv
  · obtain ⟨x, y, hx⟩ := two (a12 (.inl e))
    obtain ⟨_, x2, x3, _⟩ := kid 0 x (by rw [hx]; rfl)
    obtain ⟨_, y2, y3, _⟩ := kid 1 y (by rw [hx]; rfl)
    exact bin_is e hx x2 y2 x3 y3 hlv
  · by_cases h1k : 1 < t.kids.length
    · exact inMany_is e h1k hkl mem
    · obtain ⟨x, hx, _, h2, h3, _⟩ := one (by have := a1 (.inr e); omega)
      exact in_is e hx h2 h3
  · obtain ⟨x, y, w, hx⟩ := three (a14 e)
    obtain ⟨_, x2, x3, _⟩ := kid 0 x (by rw [hx]; rfl)
    obtain ⟨_, y2, y3, _⟩ := kid 1 y (by rw [hx]; rfl)
    obtain ⟨_, w2, w3, _⟩ := kid 2 w (by rw [hx]; rfl)
    exact cond_is e hx x2 y2 w2 x3 y3 w3
  · obtain ⟨x, y, hx⟩ := two (a12 (.inr e))
    obtain ⟨x1, _, _, x4⟩ := kid 0 x (by rw [hx]; rfl)
    obtain ⟨_, y2, y3, _⟩ := kid 1 y (by rw [hx]; rfl)
    exact assign_is e hx (h15 e) x1 (x4 (.inr (.inr ⟨e, rfl⟩))) y2 y3

theorem exprOk_ex2 (N : Nat) (a : List SNode) (hN : 1048577 + 400 < N) (hs : ∀ x, x ∈ a → smNode x) : ∃ b : Bool, ms_ExprOk N a = some b ∧ mi_ExprOk N a = some b ∧ (b = true → shapeB a = true ∧ ∀ t, TA a t 0 (a.length - 1) → isE t.kind = true) := by
  obtain ⟨b, b1, b2, b3⟩ := treeOk_ex N a hN hs
  unfold ms_ExprOk mi_ExprOk
  rw [b1, b2]
  simp only [Option.bind_some]
  cases b with
  | false => exact ⟨false, rfl, rfl, fun h => by cases h⟩
  | true =>
    obtain ⟨h1, h2⟩ := b3 rfl
    obtain ⟨l1, l2, _⟩ := shape_of h1
    have hlt : a.length - 1 < a.length := by omega
    have hx := ix_nat hlt
    rw [wrap64 (by omega) (by omega), show (a.length : Int) - 1 = ((a.length - 1 : Nat) : Int) by omega, hx]
    simp only [cond_true, Option.bind_some, isE_spec, isE_impl]
    refine ⟨_, rfl, rfl, fun h => ⟨h1, fun t ht => ?_⟩⟩
    obtain ⟨n, hn, e1, _⟩ := ht.node
    rw [List.getElem?_eq_getElem hlt] at hn
    cases hn
    rw [e1]
    exact h

theorem markN_up (N : Nat) (k : Int) (a : List SNode) (hN : 1048576 < N) (hl : a.length ≤ 1048576) (ha : ∀ x, x ∈ a → smNode x) (h0 : 0 ≤ k) (h1 : k ≤ 4611686018427387904 - 4398050705408) :
    ∃ k' a', ml_markNodeS N k a = some (k', a') ∧ k ≤ k' ∧ k' ≤ k + 4398050705408 := by
  have hc := costNode_le a ha hl
  have hle := mkAll_le (mkNode_le N) a k h0
  exact ⟨_, _, markNodeS_is N k a hN hl ha h0 (by omega), hle.1, by omega⟩

end Go.Proofs.Tryz
