/-
  Plain lemmas on the models, part 2.
-/
import Derived.Test.YtjmlnhngemeeaaaP1
namespace Go.Proofs.Try
open Go.Av
set_option maxRecDepth 100000

/-! ### documents copied with other kinds; shifted -/
theorem docB_shape {a : List SDNode} (h : docB a = true) : (1 ≤ a.length ∧ a.length ≤ 4000) ∧ ∃ r, starts (kidsD a) [] = some r ∧ r.length = a.length ∧ Low r ∧ rootAt r a.length = true ∧
    ∀ (i : Nat) (hi : i < a.length), ∃ s, r[i]? = some s ∧ Kids r s (i : Int) a[i].Kids := by
  unfold docB at h
  simp only [Bool.and_eq_true, decide_eq_true_eq] at h
  obtain ⟨⟨h1, _⟩, h2⟩ := h
  refine ⟨h1, ?_⟩
  cases hst : starts (kidsD a) [] with
  | none => rw [hst] at h2; cases h2
  | some r =>
    rw [hst] at h2
    obtain ⟨⟨m, hm, hml⟩, hl, hk⟩ := starts_spec _ (fun j s h => by simp at h) hst
    refine ⟨r, rfl, by rw [hm]; simp [hml, kidsD], hl, h2, fun i hi => ?_⟩
    obtain ⟨s, h3, h4⟩ := hk i a[i].Kids (by simp [kidsD, hi])
    exact ⟨s, by simpa using h3, by simpa using h4⟩

theorem docB_kids {a : List SDNode} (h : docB a = true) (x : SDNode) (hx : x ∈ a) : ∀ k, k ∈ x.Kids → 0 ≤ k ∧ k < 4000 := by
  obtain ⟨⟨_, h1⟩, r, _, _, _, _, hk⟩ := docB_shape h
  obtain ⟨i, hi, rfl⟩ := List.getElem_of_mem hx
  obtain ⟨s, _, h4⟩ := hk i hi
  intro k hk
  have := h4.lt k hk
  omega

def swK (f t : Int) (x : SDNode) : SDNode := bif x.Kind == f then ⟨t, x.N, x.Text, x.Kids⟩ else x

theorem copyDoc_l (N : Nat) (f t : Int) (a : List SDNode) (ha : a.length ≤ 1048576) (hs : ∀ x, x ∈ a → smDNode x) : ∀ (n i : Nat) (out : List SDNode), a.length - i < n → i ≤ a.length → out.length = i →
    m_impl_copyDoc_l1 N n (f, t, a, (i : Int), out) = some (out ++ (a.drop i).map (swK f t)) := by
  intro n
  induction n with
  | zero => intro i out h; omega
  | succ n ih =>
    intro i out hn hi ho
    rw [m_impl_copyDoc_l1]
    by_cases h : i < a.length
    · have hx := hs _ (List.getElem_mem h)
      unfold smDNode at hx
      simp only [lt_true h, cond_true, ix_nat h, Option.bind_some, m_impl_copyDoc_k2, step64 h (by simp only [maxLen]; omega)]
      rw [app_some (by simp; omega), Option.bind_some, Option.bind_some, app_some (by simp; omega), app_some (by simp; omega), Option.bind_some, Option.bind_some, drop_cons h]
      cases hk : (a[i].Kind == f) with
      | true =>
        rw [cond_true, ih (i + 1) _ (by omega) (by omega) (by simp [ho])]
        simp only [List.map_cons, List.append_assoc, List.cons_append, List.nil_append, swK, hk, cond_true]
      | false =>
        rw [cond_false, ih (i + 1) _ (by omega) (by omega) (by simp [ho])]
        simp only [List.map_cons, List.append_assoc, List.cons_append, List.nil_append, swK, hk, cond_false]
    · simp only [lt_false h, cond_false]
      rw [drop_nil h]
      simp

theorem copyDoc_is (N : Nat) (f t : Int) (a : List SDNode) (hN : 1048577 < N) (ha : a.length ≤ 1048576) (hs : ∀ x, x ∈ a → smDNode x) : m_impl_copyDoc N a f t = some (a.map (swK f t)) := by
  have := copyDoc_l N f t a ha hs N 0 [] (by omega) (by omega) rfl
  rw [List.drop_zero, List.nil_append] at this
  exact this

/-- a node whose kids are so much further on -/
def shD (d : Int) (x : SDNode) : SDNode := ⟨x.Kind, x.N, x.Text, x.Kids.map (· + d)⟩

theorem shD_zero (x : SDNode) : shD 0 x = x := by
  cases x
  simp [shD]

theorem shift_l2 (N : Nat) (kb : (List SDNode × Int × Int × List SDNode) → Option (List SDNode)) (a : List SDNode) (d : Int) (i : Nat) (hi : i < a.length) (hi2 : i ≤ 1048576) (out : List SDNode) (ho : out.length = i) (hk : a[i].Kids.length ≤ 1048576)
    (hr : ∀ k, k ∈ a[i].Kids → -9223372036854775808 ≤ k + d ∧ k + d ≤ 9223372036854775807) :
    ∀ (n j : Nat) (ks : List Int), a[i].Kids.length - j < n → j ≤ a[i].Kids.length → ks.length = j →
      m_spec_l15Shift_l2 N kb n (a, d, (i : Int), out, a[i], (j : Int), ks) = kb (a, d, ((i + 1 : Nat) : Int), out ++ [⟨a[i].Kind, a[i].N, a[i].Text, ks ++ (a[i].Kids.drop j).map (· + d)⟩]) := by
  intro n
  induction n with
  | zero => intro j ks h; omega
  | succ n ih =>
    intro j ks hn hj hks
    rw [m_spec_l15Shift_l2, ix_nat hi, Option.bind_some]
    by_cases h : j < a[i].Kids.length
    · have hx := hr _ (List.getElem_mem h)
      simp only [lt_true h, cond_true, ix_nat hi, ix_nat h, Option.bind_some, step64 h (by simp only [maxLen]; omega)]
      rw [wrap64 hx.1 hx.2, app_some (by simp; omega), Option.bind_some, ih (j + 1) _ (by omega) (by omega) (by simp [hks]), drop_cons h]
      simp only [List.map_cons, List.append_assoc, List.cons_append, List.nil_append]
    · simp only [lt_false h, cond_false]
      rw [app_some (by simp; omega), Option.bind_some, drop_nil h, wrap64 (by omega) (by omega)]
      simp

theorem shift_l1 (N : Nat) (a : List SDNode) (d : Int) (hN : 1048577 < N) (ha : a.length ≤ 1048576) (hs : ∀ x, x ∈ a → smDNode x) (hr : ∀ x, x ∈ a → ∀ k, k ∈ x.Kids → -9223372036854775808 ≤ k + d ∧ k + d ≤ 9223372036854775807) :
    ∀ (n i : Nat) (out : List SDNode), a.length - i < n → i ≤ a.length → out.length = i → m_spec_l15Shift_l1 N n (a, d, (i : Int), out) = some (out ++ (a.drop i).map (shD d)) := by
  intro n
  induction n with
  | zero => intro i out h; omega
  | succ n ih =>
    intro i out hn hi ho
    rw [m_spec_l15Shift_l1]
    by_cases h : i < a.length
    · have hx := hs _ (List.getElem_mem h)
      unfold smDNode at hx
      simp only [lt_true h, cond_true, ix_nat h, Option.bind_some]
      have := shift_l2 N (m_spec_l15Shift_l1 N n) a d i h (by omega) out ho (by omega) (hr _ (List.getElem_mem h)) N 0 [] (by omega) (by omega) rfl
      simp only [List.drop_zero, List.nil_append] at this
      refine Eq.trans this ?_
      rw [ih (i + 1) _ (by omega) (by omega) (by simp [ho]), drop_cons h]
      simp only [List.map_cons, List.append_assoc, List.cons_append, List.nil_append, shD]
    · simp only [lt_false h, cond_false]
      rw [drop_nil h]
      simp

theorem shift_is (N : Nat) (a : List SDNode) (d : Int) (hN : 1048577 < N) (ha : a.length ≤ 1048576) (hs : ∀ x, x ∈ a → smDNode x) (hr : ∀ x, x ∈ a → ∀ k, k ∈ x.Kids → -9223372036854775808 ≤ k + d ∧ k + d ≤ 9223372036854775807) :
    m_spec_l15Shift N a d = some (a.map (shD d)) := by
  have := shift_l1 N a d hN ha hs hr N 0 [] (by omega) (by omega) rfl
  rw [List.drop_zero, List.nil_append] at this
  exact this

theorem shift0_is (N : Nat) (a : List SDNode) (hN : 1048577 < N) (ha : a.length ≤ 1048576) (hs : ∀ x, x ∈ a → smDNode x) (hd : docB a = true) : m_spec_l15Shift N a 0 = some a := by
  rw [shift_is N a 0 hN ha hs fun x hx k hk => by have := docB_kids hd x hx k hk; omega]
  congr 1
  exact (List.map_congr_left fun x _ => shD_zero x).trans (List.map_id a)

theorem set_map {α : Type} (g : α → α) (l : List α) (i : Nat) (h : i < l.length) : ((l.take i).map g ++ l.drop i).set i (g l[i]) = (l.take (i + 1)).map g ++ l.drop (i + 1) := by
  have hl : ((l.take i).map g).length = i := by simp; omega
  rw [drop_cons h]
  have := set_mid ((l.take i).map g) l[i] (g l[i]) (l.drop (i + 1))
  rw [hl] at this
  rw [this, List.take_add_one, List.getElem?_eq_getElem h]
  simp only [Option.toList_some, List.map_append, List.map_cons, List.map_nil, List.append_assoc, List.cons_append, List.nil_append]

theorem get_map {α : Type} (g : α → α) (l : List α) (i : Nat) (h : i < l.length) : ((l.take i).map g ++ l.drop i)[i]? = some l[i] := by
  have hl : ((l.take i).map g).length = i := by simp; omega
  rw [drop_cons h]
  have := get_mid ((l.take i).map g) l[i] (l.drop (i + 1))
  rw [hl] at this
  exact this

/-- the law's end, once both functions answer the same -/
theorem sw_small (f t : Int) (a : List SDNode) (hs : ∀ x, x ∈ a → smDNode x) : ∀ x, x ∈ a.map (swK f t) → smDNode x := by
  intro x hx
  obtain ⟨y, hy, rfl⟩ := List.mem_map.1 hx
  have := hs y hy
  unfold swK
  cases (y.Kind == f)
  · exact this
  · exact this

/-! ### the law's frame, once both functions answer the same -/
def lawD1 (N : Nat) (sp im : List SDNode → Option (List SDNode)) (a0 : List SDNode) : Option Bool :=
  Option.bind (m_laws_szDNodeS N a0 1048576) fun r2 => bif (decide (r2 < 0)) then some true else (Option.bind (m_laws_toDNodeS N a0) fun r5 => Option.bind (sp r5) fun r6 => Option.bind (m_laws_toDNodeS N a0) fun r8 => Option.bind (im r8) fun r10 => Option.bind (m_laws_eqDNodeS N r10 r6) fun r14 => bif (!r14) then some false else (Option.bind (m_laws_toDNodeS N a0) fun r21 => Option.bind (m_laws_eqDNodeS N r8 r21) fun r22 => bif (!r22) then some false else (Option.bind (m_laws_markDNodeS N 1 r8) fun r24 => Option.bind (bif (decide (r24.1 < 0)) then some true else (Option.bind (m_laws_eqDNodeS N r10 r6) fun r30 => some (!r30))) fun y29 => bif y29 then some false else (Option.bind (m_laws_markDNodeS N 1 r10) fun r32 => Option.bind (m_laws_heldDNodeS N r32.2 1) fun r34 => bif (decide (r34 < 0)) then some false else (bif (r34 != r32.1) then some false else (Option.bind (m_laws_toDNodeS N a0) fun r37 => Option.bind (im r37) fun r38 => Option.bind (m_laws_eqDNodeS N r38 r6) fun r42 => bif (!r42) then some false else (Option.bind (m_laws_heldDNodeS N r32.2 1) fun r44 => bif (decide (r44 < 0)) then some false else (bif (r44 != r32.1) then some false else (some true)))))))))

theorem markD_of (N : Nat) (k : Int) (a : List SDNode) (hN : 1048576 < N) (hl : a.length ≤ 1048576) (ha : ∀ x, x ∈ a → smDNode x) (h0 : 0 ≤ k) (h1 : k ≤ 4611686018427387904 - 4398050705408) :
    ∃ k' a', m_laws_markDNodeS N k a = some (k', a') ∧ k ≤ k' ∧ k' ≤ k + 4398050705408 ∧ m_laws_heldDNodeS N a' k = some k' := by
  have hc := costDNode_le a ha hl
  have hle := mkAll_le (mkDNode_le N) a k h0
  exact ⟨_, _, markDNodeS_is N k a hN hl ha h0 (by omega), hle.1, by omega, heldDNodeS_is N k a hN hl ha h0 (by omega)⟩

theorem lawD1_is (N : Nat) (sp im : List SDNode → Option (List SDNode)) (a : List SDNode) (hN : a.length < N) (hN2 : 1048577 < N) (hl : a.length ≤ maxLen) (ha : ∀ x, x ∈ a → okDNode x)
    (both : a.length ≤ 1048576 → (∀ x, x ∈ a → smDNode x) → ∃ b, sp a = some b ∧ im a = some b ∧ b.length ≤ 1048576 ∧ ∀ x, x ∈ b → smDNode x) : lawD1 N sp im a = some true := by
  obtain ⟨r, hr, hc⟩ := szDNodeS_is N a hN hl ha 1048576 (by omega) (by omega)
  unfold lawD1
  rw [hr, Option.bind_some]
  rcases hc with ⟨hc, _⟩ | ⟨hc, h0⟩
  · simp [hc]
  · have hs := smDNode_of a (by omega)
    have hla : a.length ≤ 1048576 := by omega
    have hn : decide (r < 0) = false := by simp; omega
    obtain ⟨b, b1, b2, b3, b4⟩ := both hla hs
    have hto := toDNodeS_is N a (by omega) hla hs
    have hea := eqDNodeS_self N a (by omega) hla hs
    have heb := eqDNodeS_self N b (by omega) b3 b4
    obtain ⟨k1, a1, m1, m2, m3, m4⟩ := markD_of N 1 a (by omega) hla hs (by omega) (by omega)
    obtain ⟨k2, b5, n1, n2, n3, n4⟩ := markD_of N 1 b (by omega) b3 b4 (by omega) (by omega)
    have d1 : decide (k1 < 0) = false := by simp; omega
    have d2 : decide (k2 < 0) = false := by simp; omega
    simp only [hn, cond_false, hto, Option.bind_some, b1, b2, heb, hea, Bool.not_true, m1, n1, n4, d1, d2, bne_self_eq_false]

end Go.Proofs.Try
