/-
  Plain lemmas on the models, part 3.
-/
import Derived.Test.YtjmlnhngemeeaaaP2
namespace Go.Proofs.Try
open Go.Av
set_option maxRecDepth 100000

/-! ### the program's trees of a document -/
def part (a : List SDNode) (s e : Nat) : List SDNode := (a.drop s).take (e - s)

theorem part_len {a : List SDNode} {s e : Nat} (h : e ≤ a.length) : (part a s e).length = e - s := by
  unfold part
  simp
  omega

theorem part_cat {a : List SDNode} {s m e : Nat} (h1 : s ≤ m) (h2 : m ≤ e) : part a s m ++ part a m e = part a s e := by
  unfold part
  have e1 : a.drop m = (a.drop s).drop (m - s) := by rw [List.drop_drop]; congr 1; omega
  have e2 : e - s = (m - s) + (e - m) := by omega
  rw [e1, e2, List.take_add]

theorem part_one {a : List SDNode} {i : Nat} (h : i < a.length) : part a i (i + 1) = [a[i]] := by
  unfold part
  rw [drop_cons h, Nat.add_sub_cancel_left]
  rfl

theorem part_nil (a : List SDNode) (i : Nat) : part a i i = [] := by
  unfold part
  simp

/-- the tree writes the part, moved to where it comes to lie -/
def Good (a : List SDNode) (t : SDoc) (s e : Nat) : Prop :=
  ∀ (G : Nat) (acc : List SDNode), e - s < G → acc.length + (e - s) ≤ 100000 → m_impl_doc__add G t acc = some (acc ++ (part a s e).map (shD ((acc.length : Int) - s)))

def Goods (a : List SDNode) : List SDoc → Nat → Nat → List Int → Prop
  | [], s, b, [] => s = b
  | t :: ts, s, b, k :: ks => 0 ≤ k ∧ s ≤ k.toNat ∧ k.toNat < b ∧ Good a t s (k.toNat + 1) ∧ Goods a ts (k.toNat + 1) b ks
  | _, _, _, _ => False

theorem Goods.le {a : List SDNode} : ∀ {ts : List SDoc} {s b : Nat} {ks : List Int}, Goods a ts s b ks → s ≤ b ∧ ts.length ≤ b - s
  | [], s, b, [], h => by simp only [Goods] at h; subst h; simp
  | t :: ts, s, b, k :: ks, ⟨h0, h1, h2, _, h4⟩ => by have := h4.le; simp only [List.length_cons]; omega
  | [], _, _, _ :: _, h => h.elim
  | _ :: _, _, _, [], h => h.elim

theorem add_l (a : List SDNode) (t : SDoc) (G : Nat) : ∀ (ts : List SDoc) (ks : List Int) (s b j n : Nat) (acc : List SDNode) (ids : List Int), t.kids.drop j = ts → Goods a ts s b ks → b ≤ a.length → b - s < G → ts.length < n →
    acc.length + (b - s) ≤ 99999 → ids.length + ts.length ≤ 100000 → t.kids.length ≤ 100000 →
    m_impl_doc__add_l1 G (scc2 G) n (t, (j : Int), acc, ids) = some (acc ++ (part a s b).map (shD ((acc.length : Int) - s)) ++ [⟨t.kind, t.n, t.text, ids ++ ks.map (· + ((acc.length : Int) - s))⟩]) := by
  intro ts
  induction ts with
  | nil =>
    intro ks s b j n acc ids ht hg hb hG hn hacc hids htl
    cases ks with
    | cons k ks => exact hg.elim
    | nil =>
      simp only [Goods] at hg
      subst hg
      obtain ⟨n, rfl⟩ : ∃ m, n = m + 1 := ⟨n - 1, by simp at hn; omega⟩
      have hj : ¬ j < t.kids.length := by
        intro h
        rw [drop_cons h] at ht
        cases ht
      rw [m_impl_doc__add_l1]
      simp only [lt_false hj, cond_false]
      rw [app_some (by simp; omega), Option.bind_some, part_nil]
      simp
  | cons t' ts ih =>
    intro ks s b j n acc ids ht hg hb hG hn hacc hids htl
    cases ks with
    | nil => exact hg.elim
    | cons k ks =>
      obtain ⟨h0, h1, h2, h3, h4⟩ := hg
      simp only [List.length_cons] at hn hids
      obtain ⟨n, rfl⟩ : ∃ m, n = m + 1 := ⟨n - 1, by omega⟩
      have hj : j < t.kids.length := by
        cases Nat.lt_or_ge j t.kids.length with
        | inl h => exact h
        | inr h => rw [List.drop_of_length_le h] at ht; cases ht
      rw [drop_cons hj] at ht
      injection ht with ht1 ht2
      have hp : (part a s (k.toNat + 1)).length = k.toNat + 1 - s := part_len (by omega)
      have hg := h3 G acc (by omega) (by omega)
      rw [m_impl_doc__add_l1]
      simp only [lt_true hj, cond_true, ix_nat hj, Option.bind_some, step64 hj (by simp only [maxLen]; omega), ht1]
      have hlen : (acc ++ (part a s (k.toNat + 1)).map (shD ((acc.length : Int) - s))).length = acc.length + (k.toNat + 1 - s) := by simp [hp]
      have hg' : (scc2 G).m_impl_doc__add t' acc = some (acc ++ (part a s (k.toNat + 1)).map (shD ((acc.length : Int) - s))) := hg
      rw [hg', Option.bind_some, hlen, wrap64 (by omega) (by omega), app_some (by simp; omega), Option.bind_some]
      rw [ih ks (k.toNat + 1) b (j + 1) n _ _ ht2 h4 hb (by omega) (by omega) (by rw [hlen]; omega) (by simp; omega) htl, hlen]
      have e1 : ((acc.length + (k.toNat + 1 - s) : Nat) : Int) - ((k.toNat + 1 : Nat) : Int) = (acc.length : Int) - s := by omega
      have e2 : ((acc.length + (k.toNat + 1 - s) : Nat) : Int) - 1 = k + ((acc.length : Int) - s) := by omega
      rw [e1, e2, ← part_cat (a := a) (s := s) (m := k.toNat + 1) (e := b) (by omega) (by omega)]
      simp only [List.map_append, List.map_cons, List.append_assoc, List.cons_append, List.nil_append]

theorem groupsIn_ex (N : Nat) (a : List SDNode) (ha : a.length ≤ 1048576) : ∀ (n i : Nat) (g : Int), a.length - i < n → i ≤ a.length → ∃ g', m_impl_GroupsIn_l1 N n (a, g, (i : Int)) = some g' := by
  intro n
  induction n with
  | zero => intro i g h; omega
  | succ n ih =>
    intro i g hn hi
    rw [m_impl_GroupsIn_l1]
    by_cases h : i < a.length
    · simp only [lt_true h, cond_true, ix_nat h, Option.bind_some, m_impl_GroupsIn_k2, step64 h (by simp only [maxLen]; omega)]
      cases (a[i].Kind == 5) with
      | true => exact ih (i + 1) _ (by omega) (by omega)
      | false => exact ih (i + 1) _ (by omega) (by omega)
    · simp only [lt_false h, cond_false]
      exact ⟨g, rfl⟩

theorem docAt_l (N : Nat) (R : Rec1) (a : List SDNode) (r : List Int) (e : SDNode) (g : Int) (i : Nat) (hi : i ≤ 100000) (hR : ∀ k s' : Nat, k < i → r[k]? = some (s' : Int) → ∃ t, R.m_impl_docAt a (k : Int) = some t ∧ Good a t s' (k + 1))
    (hel : e.Kids.length ≤ 100000) : ∀ (ks : List Int) (s j n : Nat) (acc : List SDoc), e.Kids.drop j = ks → Kids r (s : Int) (i : Int) ks → ks.length < n → acc.length + ks.length ≤ 100000 →
    ∃ ts, m_impl_docAt_l1 N R n (a, e, g, (j : Int), acc) = some ⟨e.Kind, e.N, e.Text, acc ++ ts, g⟩ ∧ Goods a ts s i ks := by
  intro ks
  induction ks with
  | nil =>
    intro s j n acc hk hkids hn hacc
    obtain ⟨n, rfl⟩ : ∃ m, n = m + 1 := ⟨n - 1, by simp at hn; omega⟩
    have hj : ¬ j < e.Kids.length := by
      intro h
      rw [drop_cons h] at hk
      cases hk
    rw [m_impl_docAt_l1]
    simp only [lt_false hj, cond_false]
    simp only [Kids] at hkids
    exact ⟨[], by simp, by simp only [Goods]; omega⟩
  | cons k ks ih =>
    intro s j n acc hk hkids hn hacc
    simp only [List.length_cons] at hn hacc
    obtain ⟨n, rfl⟩ : ∃ m, n = m + 1 := ⟨n - 1, by omega⟩
    have hj : j < e.Kids.length := by
      cases Nat.lt_or_ge j e.Kids.length with
      | inl h => exact h
      | inr h => rw [List.drop_of_length_le h] at hk; cases hk
    rw [drop_cons hj] at hk
    injection hk with hk1 hk2
    obtain ⟨h0, h1, h2, h3, h4⟩ := hkids
    obtain ⟨k, rfl⟩ := Int.eq_ofNat_of_zero_le (show 0 ≤ k by omega)
    obtain ⟨t, ht, hg⟩ := hR k s (by omega) h3
    rw [m_impl_docAt_l1]
    simp only [lt_true hj, cond_true, ix_nat hj, Option.bind_some, step64 hj (by simp only [maxLen]; omega), hk1, ht]
    rw [app_some (by simp; omega), Option.bind_some]
    obtain ⟨ts, h5, h6⟩ := ih (k + 1) (j + 1) n (acc ++ [t]) hk2 (by simpa using h4) (by omega) (by simp; omega)
    refine ⟨t :: ts, ?_, ?_⟩
    · rw [h5]; simp
    · exact ⟨by omega, by omega, by omega, hg, h6⟩

theorem kids_len {r : List Int} : ∀ {ks : List Int} {a b : Int}, Kids r a b ks → (ks.length : Int) ≤ b - a
  | [], a, b, h => by simp only [Kids] at h; simp; omega
  | k :: ks, a, b, ⟨h0, h1, h2, _, h4⟩ => by have := kids_len h4; simp only [List.length_cons]; omega

theorem docAt_is (a : List SDNode) (r : List Int) (ha : a.length ≤ 4000) (hl : Low r) (hk : ∀ (i : Nat) (hi : i < a.length), ∃ s, r[i]? = some s ∧ Kids r s (i : Int) a[i].Kids) :
    ∀ (F i s : Nat), i + 1 < F → i < a.length → r[i]? = some (s : Int) → ∃ t, m_impl_docAt F a (i : Int) = some t ∧ Good a t s (i + 1) := by
  intro F
  induction F with
  | zero => intro i s h; omega
  | succ F ih =>
    intro i s hF hi hs
    show ∃ t, m_impl_docAt_F F (scc1 F) a (i : Int) = some t ∧ _
    unfold m_impl_docAt_F
    obtain ⟨s', hs', hkid⟩ := hk i hi
    rw [hs] at hs'
    cases hs'
    have hlow := hl i s hs
    have hkl := kids_len hkid
    have hcut := cut_nat (l := a) (Nat.zero_le i) (by omega)
    simp only [List.drop_zero, Nat.sub_zero] at hcut
    have hcut' : cut a 0 (i : Int) = some (a.take i) := hcut
    obtain ⟨g, hg⟩ := groupsIn_ex F (a.take i) (by simp; omega) F 0 0 (by simp; omega) (by omega)
    have hg' : m_impl_GroupsIn F (a.take i) = some g := hg
    rw [ix_nat hi, Option.bind_some, hcut', Option.bind_some, hg', Option.bind_some]
    obtain ⟨ts, h1, h2⟩ := docAt_l F (scc1 F) a r a[i] g i (by omega) (fun k s' hk hs' => ih k s' (by omega) (by omega) hs') (by omega) a[i].Kids s 0 F [] rfl hkid (by omega) (by simp; omega)
    have h1' : m_impl_docAt_l1 F (scc1 F) F (a, a[i], g, 0, []) = some ⟨a[i].Kind, a[i].N, a[i].Text, ts, g⟩ := h1
    refine ⟨_, h1', ?_⟩
    intro G acc hG hacc
    obtain ⟨G, rfl⟩ : ∃ m, G = m + 1 := ⟨G - 1, by omega⟩
    have hle := h2.le
    have h3 := add_l a ⟨a[i].Kind, a[i].N, a[i].Text, ts, g⟩ G ts a[i].Kids s i 0 G acc [] rfl h2 (by omega) (by omega) (by omega) (by omega) (by simp; omega) (by show ts.length ≤ _; omega)
    refine Eq.trans h3 ?_
    rw [← part_cat (a := a) (s := s) (m := i) (e := i + 1) (by omega) (by omega), part_one hi]
    simp only [List.map_append, List.map_cons, List.map_nil, List.append_assoc, shD, List.nil_append]

theorem docOf_is (N : Nat) (a : List SDNode) (hN : 4002 < N) (hd : docB a = true) : ∃ t, m_impl_docOf N a = some t ∧ Good a t 0 a.length := by
  obtain ⟨⟨h1, h2⟩, r, _, hrl, hl, hroot, hk⟩ := docB_shape hd
  unfold m_impl_docOf
  have hr : r[a.length - 1]? = some ((0 : Nat) : Int) := by
    unfold rootAt at hroot
    simpa using hroot
  obtain ⟨t, h3, h4⟩ := docAt_is a r h2 hl hk N (a.length - 1) 0 (by omega) (by omega) hr
  rw [wrap64 (by omega) (by omega)]
  have e : ((a.length : Int) - 1) = ((a.length - 1 : Nat) : Int) := by omega
  rw [e, h3, Option.bind_some]
  have e2 : a.length - 1 + 1 = a.length := by omega
  rw [e2] at h4
  exact ⟨t, rfl, h4⟩

theorem part_all (a : List SDNode) : part a 0 a.length = a := by
  unfold part
  simp

end Go.Proofs.Try
