/-
  Core37: trees as lists whose nodes name their kids: the shape, in plain terms.
-/
import Derived.Test.YtkfpmbinifaakaaDoorCore36
namespace Go.Av

theorem take_rev {α : Type} {l : List α} {j : Nat} (h : j < l.length) : (l.take (j + 1)).reverse = l[j] :: (l.take j).reverse := by
  rw [List.take_add_one, List.getElem?_eq_getElem h]
  simp

theorem nat_ge (j : Nat) : decide ((j : Int) ≥ 0) = true := by simp
theorem pred_nat (j : Nat) : ((j + 1 : Nat) : Int) - 1 = (j : Int) := by omega

/-- from a node's kids, the last one first, down to where its part begins; out: where the parts of the nodes ahead begin -/
def walk (out : List Int) : Int → List Int → Option Int
  | a, [] => some a
  | a, k :: ks => if a = 0 ∨ k ≠ a - 1 then none else match out[(a - 1).toNat]? with
    | some b => walk out b ks
    | none => none

/-- where the part of each node begins -/
def starts : List (List Int) → List Int → Option (List Int)
  | [], out => some out
  | ks :: l, out => (walk out (out.length : Int) ks.reverse).bind fun s => starts l (out ++ [s])

/-- kids stand one behind the other from a to b -/
def Kids (out : List Int) : Int → Int → List Int → Prop
  | a, b, [] => a = b
  | a, b, k :: ks => 0 ≤ a ∧ a ≤ k ∧ k < b ∧ out[k.toNat]? = some a ∧ Kids out (k + 1) b ks

/-- no part begins behind its node -/
def Low (out : List Int) : Prop := ∀ (j : Nat) (s : Int), out[j]? = some s → 0 ≤ s ∧ s ≤ j

theorem Low.snoc {out : List Int} (h : Low out) {s : Int} (h0 : 0 ≤ s) (h1 : s ≤ out.length) : Low (out ++ [s]) := by
  intro j x hx
  rw [List.getElem?_append] at hx
  split at hx
  · exact h j x hx
  · rename_i hj
    have : j - out.length = 0 := by
      have := (List.getElem?_eq_some_iff.1 hx).1
      simp at this
      omega
    rw [this] at hx
    cases hx
    omega

theorem Kids.snoc {out : List Int} : ∀ {ks : List Int} {a m : Int}, Kids out a m ks → ∀ {k b : Int}, 0 ≤ m → m ≤ k → k < b → k + 1 = b → out[k.toNat]? = some m → Kids out a b (ks ++ [k])
  | [], a, m, h, k, b, h0, h1, h2, h3, h4 => by
    simp only [Kids] at h
    subst h
    exact ⟨h0, h1, h2, h4, h3⟩
  | k' :: ks, a, m, h, k, b, h0, h1, h2, h3, h4 => by
    obtain ⟨g0, g1, g2, g3, g4⟩ := h
    exact ⟨g0, g1, by omega, g3, Kids.snoc g4 h0 h1 h2 h3 h4⟩

theorem walk_le {out : List Int} (hl : Low out) : ∀ (ks : List Int) {b a : Int}, 0 ≤ b → walk out b ks = some a → 0 ≤ a ∧ a ≤ b
  | [], b, a, h0, h => by cases h; omega
  | k :: ks, b, a, h0, h => by
    unfold walk at h
    split at h
    · cases h
    · rename_i hc
      split at h
      · rename_i m hm
        have := hl _ _ hm
        have := walk_le hl ks this.1 h
        omega
      · cases h

theorem walk_kids {out : List Int} (hl : Low out) : ∀ (r : List Int) {b a : Int}, 0 ≤ b → walk out b r = some a → Kids out a b r.reverse
  | [], b, a, h0, h => by cases h; rfl
  | k :: r, b, a, h0, h => by
    unfold walk at h
    split at h
    · cases h
    · rename_i hc
      split at h
      · rename_i m hm
        have h1 := hl _ _ hm
        have h2 : k = b - 1 := by
          cases Classical.em (k = b - 1) with
          | inl h => exact h
          | inr h => exact absurd (.inr h) hc
        have h3 : b ≠ 0 := fun h => hc (.inl h)
        rw [List.reverse_cons]
        have hm' : out[k.toNat]? = some m := by rw [h2]; exact hm
        exact (walk_kids hl r h1.1 h).snoc h1.1 (by omega) (by omega) (by omega) hm'
      · cases h

theorem Kids.more {out : List Int} (out2 : List Int) : ∀ {ks : List Int} {a b : Int}, Kids out a b ks → Kids (out ++ out2) a b ks
  | [], _, _, h => h
  | k :: ks, a, b, ⟨h0, h1, h2, h3, h4⟩ => ⟨h0, h1, h2, by rw [List.getElem?_append_left (List.getElem?_eq_some_iff.1 h3).1]; exact h3, h4.more out2⟩

theorem starts_spec : ∀ (l : List (List Int)) {out r : List Int}, Low out → starts l out = some r → (∃ m, r = out ++ m ∧ m.length = l.length) ∧ Low r ∧
    ∀ (j : Nat) (ks : List Int), l[j]? = some ks → ∃ s, r[out.length + j]? = some s ∧ Kids r s ((out.length + j : Nat) : Int) ks
  | [], out, r, hl, h => by
    cases h
    exact ⟨⟨[], by simp, rfl⟩, hl, fun j ks h => by simp at h⟩
  | ks :: l, out, r, hl, h => by
    unfold starts at h
    obtain ⟨s, hs, h⟩ := Option.bind_eq_some_iff.1 h
    have h1 := walk_le hl _ (Int.natCast_nonneg _) hs
    have hl2 := hl.snoc h1.1 h1.2
    obtain ⟨⟨m, hm, hml⟩, hlr, hk⟩ := starts_spec l hl2 h
    refine ⟨⟨s :: m, by rw [hm]; simp, by simp [hml]⟩, hlr, fun j ks' hj => ?_⟩
    cases j with
    | zero =>
      simp only [List.getElem?_cons_zero, Option.some.injEq] at hj
      subst hj
      refine ⟨s, by rw [hm]; simp, ?_⟩
      have := walk_kids hl _ (Int.natCast_nonneg _) hs
      rw [List.reverse_reverse] at this
      rw [hm, List.append_assoc, Nat.add_zero]
      exact this.more _
    | succ j =>
      simp only [List.getElem?_cons_succ] at hj
      obtain ⟨s', hs', hk'⟩ := hk j ks' hj
      have e : (out ++ [s]).length + j = out.length + (j + 1) := by simp; omega
      rw [e] at hs' hk'
      exact ⟨s', hs', hk'⟩

theorem Kids.lt {out : List Int} : ∀ {ks : List Int} {a b : Int}, Kids out a b ks → ∀ k, k ∈ ks → a ≤ k ∧ 0 ≤ k ∧ k < b
  | [], _, _, _, k, hk => by cases hk
  | k' :: ks, a, b, ⟨h0, h1, h2, _, h4⟩, k, hk => by
    rcases List.mem_cons.1 hk with rfl | hk
    · omega
    · have := h4.lt k hk; omega

theorem Kids.le {out : List Int} : ∀ {ks : List Int} {a b : Int}, Kids out a b ks → a ≤ b
  | [], _, _, h => by simp only [Kids] at h; omega
  | k' :: ks, a, b, ⟨h0, h1, h2, _, h4⟩ => by have := h4.le; omega

end Go.Av
