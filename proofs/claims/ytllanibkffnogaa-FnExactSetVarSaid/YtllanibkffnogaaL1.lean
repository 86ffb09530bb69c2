/-
  The laws own helpers: copying, comparing, measuring, marking.
-/
import Derived.Test.YtllanibkffnogaaM1
namespace Go.Proofs.Try
open Go.Av
set_option maxRecDepth 100000
set_option linter.unusedVariables false

/-! ### marks in letters -/
theorem markText_l (N : Nat) : ∀ (n : Nat) (k : Int) (s : List UInt8), 0 ≤ k → k < 10 ^ n → k ≤ 9223372036854775807 → s.length + n ≤ 100 → ∃ r, m_laws_markText_l1 N (n + 1) (k, s) = some r := by
  intro n
  induction n with
  | zero =>
    intro k s h0 h1 _ hs
    have : k = 0 := by omega
    subst this
    exact ⟨109 :: s, by simp [m_laws_markText_l1, cat, maxLen]; omega⟩
  | succ n ih =>
    intro k s h0 h1 h2 hs
    rw [m_laws_markText_l1]
    by_cases hk : k > 0
    · have hd : decide (k > 0) = true := by simp [hk]
      have hq : Int.tdiv k 10 = k / 10 := Int.tdiv_eq_ediv_of_nonneg h0
      have hb : k / 10 < 10 ^ n := by rw [Int.pow_succ] at h1; omega
      rw [hd, cond_true, cat_some (by simp [maxLen]; omega), Option.bind_some, hq, wrap64 (n := k / 10) (by omega) (by omega)]
      exact ih _ _ (by omega) hb (by omega) (by simp; omega)
    · have hd : decide (k > 0) = false := by simp; omega
      rw [hd, cond_false, cat_some (by simp [maxLen]; omega)]
      exact ⟨_, rfl⟩

/-- a mark's letters -/
def mT (N : Nat) (k : Int) : List UInt8 := (m_laws_markText N k).getD []

theorem mT_is (N : Nat) (k : Int) (hN : 30 ≤ N) (h0 : 0 ≤ k) (h1 : k ≤ 9223372036854775807) : m_laws_markText N k = some (mT N k) := by
  have : ∃ r, m_laws_markText N k = some r := by
    unfold m_laws_markText
    by_cases hk : k ≤ 0
    · exact ⟨[109, 48], by simp [hk]⟩
    · have hd : decide (k ≤ 0) = false := by simp; omega
      rw [hd, cond_false]
      obtain ⟨m, rfl⟩ : ∃ m, N = (m + 20) + 1 := ⟨N - 21, by omega⟩
      obtain ⟨r, hr⟩ := markText_l (m + 20 + 1) 19 k [] h0 (by omega) h1 (by simp)
      have mono : ∀ (n d : Nat) (s : Int × List UInt8) r, m_laws_markText_l1 (m + 20 + 1) n s = some r → m_laws_markText_l1 (m + 20 + 1) (n + d) s = some r := by
        intro n
        induction n with
        | zero => intro d s r h; cases h
        | succ n ih =>
          intro d s r h
          obtain ⟨a, b⟩ := s
          rw [show n + 1 + d = (n + d) + 1 by omega]
          rw [m_laws_markText_l1] at h ⊢
          cases hc : decide (a > 0) with
          | true =>
            rw [hc] at h
            simp only [cond_true] at h ⊢
            cases hcat : cat [bytI (IntKind.wrap .i64 (48 + a.tmod 10))] b with
            | none => rw [hcat] at h; cases h
            | some s2 => rw [hcat] at h; exact ih d _ r h
          | false =>
            rw [hc] at h
            exact h
      exact ⟨r, by have := mono 20 (m + 1) _ r hr; rw [show 20 + (m + 1) = m + 20 + 1 by omega] at this; exact this⟩
  obtain ⟨r, hr⟩ := this
  unfold mT
  rw [hr]
  rfl

/-! ### the laws' helpers over []Bind -/
def szBind (x : SBind) : Nat := x.Name.length

/-- no part of it is longer than memory -/
def okBind (x : SBind) : Prop := x.Name.length ≤ maxLen

theorem szBind_is (x : SBind) (hx : okBind x) : Sz (m_laws_szBind x) (szBind x) := by
  intro b h0 h1
  have hName := hx
  unfold okBind at hName
  simp only [maxLen] at hName
  unfold m_laws_szBind szBind
  rw [wrap64 (n := b - (x.Name.length : Int)) (by omega) (by omega)]
  by_cases g0 : b - (x.Name.length : Int) < 0
  · exact ⟨-1, by simp [g0], .inl ⟨by omega, by omega⟩⟩
  exact ⟨b - (x.Name.length : Int), by simp [g0], .inr ⟨by omega, by omega⟩⟩

theorem szBindS_is (N : Nat) (a : List SBind) (hN : a.length < N) (hl : a.length ≤ maxLen) (ha : ∀ x, x ∈ a → okBind x) : Sz (m_laws_szBindS N a) (a.length + sumN szBind a) := by
  have hloop : ∀ n s, m_laws_szBindS_l1 N n s = szL m_laws_szBind n s := by
    intro n
    induction n with
    | zero => intro s; rfl
    | succ n ih => intro ⟨a, b, i⟩; rw [m_laws_szBindS_l1, szL]; simp only [ih]
  intro b h0 h1
  have := Sz.list (f := m_laws_szBind) (sz := szBind) (fun x hx => szBind_is x (ha x hx)) hl (g := fun n b => bif decide (IntKind.wrap .i64 (b - (a.length : Int)) < 0) then some (-1) else szL m_laws_szBind n (a, IntKind.wrap .i64 (b - (a.length : Int)), 0)) hN (fun b => rfl) b h0 h1
  unfold m_laws_szBindS
  simpa only [hloop] using this

/-- small enough to be copied, compared, marked -/
def smBind (x : SBind) : Prop := x.Name.length ≤ 1048576

theorem smBind_of (a : List SBind) (h : a.length + sumN szBind a ≤ 1048576) : ∀ x, x ∈ a → smBind x := by
  intro x hx
  have := sumN_mem (sz := szBind) hx
  have e : szBind x = x.Name.length := rfl
  rw [e] at this
  unfold smBind
  omega

theorem toBind_is (x : SBind) (hx : smBind x) : m_laws_toBind x = some x := by
  unfold m_laws_toBind
  rfl

theorem toBindS_is (N : Nat) (a : List SBind) (hN : 2000000 < N) (hl : a.length ≤ 2000000) (ha : ∀ x, x ∈ a → smBind x) : m_laws_toBindS N a = some a := by
  have hloop : ∀ n s, m_laws_toBindS_l1 N n s = toL m_laws_toBind n s := by
    intro n
    induction n with
    | zero => intro s; rfl
    | succ n ih => intro ⟨a, i, y⟩; rw [m_laws_toBindS_l1, toL]; simp only [ih]
  unfold m_laws_toBindS
  rw [mk_some (by omega) (by simp only [maxLen]; omega), Option.bind_some, hloop]
  exact toL_is _ a (fun x hx => toBind_is x (ha x hx)) (by simp only [maxLen]; omega) N 0 _ (by omega) (by omega) (by simp) (by simp)

theorem eqBind_self (x : SBind) (hx : smBind x) : m_laws_eqBind x x = some true := by
  unfold m_laws_eqBind
  simp

theorem eqBindS_self (N : Nat) (a : List SBind) (hN : 2000000 < N) (hl : a.length ≤ 2000000) (ha : ∀ x, x ∈ a → smBind x) : m_laws_eqBindS N a a = some true := by
  have hloop : ∀ n s, m_laws_eqBindS_l1 N n s = eqL (m_laws_eqBind) n s := by
    intro n
    induction n with
    | zero => intro s; rfl
    | succ n ih => intro ⟨a, b, i⟩; rw [m_laws_eqBindS_l1, eqL]; simp only [ih]
  unfold m_laws_eqBindS
  simp only [bne_self_eq_false, cond_false, hloop]
  exact eqL_self _ a (fun x hx => eqBind_self x (ha x hx)) (by simp only [maxLen]; omega) N 0 (by omega) (by omega)

def mkBind (N : Nat) (x : SBind) (k : Int) : SBind × Int := (⟨mT N k, (k + 1)⟩, k + 2)

def costBind (x : SBind) : Nat := 2

theorem mkBind_le (N : Nat) (x : SBind) (k : Int) (_ : 0 ≤ k) : k ≤ (mkBind N x k).2 ∧ (mkBind N x k).2 ≤ k + costBind x := by
  simp only [mkBind, costBind]
  omega

theorem markBindS_is (N : Nat) (k : Int) (a : List SBind) (hN : 2000000 < N) (hl : a.length ≤ 2000000) (ha : ∀ x, x ∈ a → smBind x) (h0 : 0 ≤ k) (h1 : k + sumN costBind a ≤ 4611686018427387904) :
    m_laws_markBindS N k a = some ((mkAll (mkBind N) a k).2, (mkAll (mkBind N) a k).1) := by
  have := markLoop (M := m_laws_markBindS_l1 N) (mk := mkBind N) (cost := costBind) (ok := smBind) (mkBind_le N) (fun n k i y e hs h0 h1 hl hy => by
      have hi : i < y.length := (List.getElem?_eq_some_iff.1 hy).1
      have he : y[i] = e := (List.getElem?_eq_some_iff.1 hy).2
      unfold costBind at h1
      unfold smBind at hs
      rw [m_laws_markBindS_l1]
      have w1 : IntKind.wrap .i64 (k + 1) = k + 1 := wrap64 (by omega) (by omega)
      have w2 : IntKind.wrap .i64 (k + 1 + 1) = k + 2 := by rw [wrap64 (by omega) (by omega)]; omega
      have t0 := mT_is N k (by omega) (by omega) (by omega)
      simp only [lt_true hi, cond_true, ix_nat, upd_nat, List.length_set, hi, List.getElem_set_self, List.set_set, he, Option.bind_some, step64 hi hl, w1, w2, t0]
      rfl) (fun n k i y hi => by
      rw [m_laws_markBindS_l1]
      simp only [lt_false hi, cond_false]) a [] k N ha h0 h1 (by omega) (by simp [maxLen]; omega)
  unfold m_laws_markBindS
  simpa using this

theorem heldBindS_is (N : Nat) (k : Int) (a : List SBind) (hN : 2000000 < N) (hl : a.length ≤ 2000000) (ha : ∀ x, x ∈ a → smBind x) (h0 : 0 ≤ k) (h1 : k + sumN costBind a ≤ 4611686018427387904) :
    m_laws_heldBindS N (mkAll (mkBind N) a k).1 k = some (mkAll (mkBind N) a k).2 := by
  have := heldLoop (L := m_laws_heldBindS_l1 N) (mk := mkBind N) (cost := costBind) (ok := smBind) (mkBind_le N) (fun n k i y e hs h0 h1 hl hy => by
      have hi : i < y.length := (List.getElem?_eq_some_iff.1 hy).1
      unfold costBind at h1
      unfold smBind at hs
      rw [m_laws_heldBindS_l1]
      have w1 : IntKind.wrap .i64 (k + 1) = k + 1 := wrap64 (by omega) (by omega)
      have w2 : IntKind.wrap .i64 (k + 1 + 1) = k + 2 := by rw [wrap64 (by omega) (by omega)]; omega
      have t0 := mT_is N k (by omega) (by omega) (by omega)
      simp only [lt_true hi, cond_true, ix_get hy, Option.bind_some, step64 hi hl, mkBind, bne_self_eq_false, cond_false, w1, w2, t0, beq_self_eq_true, Bool.not_true]) (fun n k i y hi => by
      rw [m_laws_heldBindS_l1]
      simp only [lt_false hi, cond_false]) a [] k N ha h0 h1 (by omega) (by simp [maxLen]; omega)
  unfold m_laws_heldBindS
  simpa using this

theorem costBind_le (a : List SBind) (ha : ∀ x, x ∈ a → smBind x) (hl : a.length ≤ 2000000) : sumN costBind a ≤ 1099512676352 * 4 := by
  have : ∀ l : List SBind, (∀ x, x ∈ l → smBind x) → sumN costBind l ≤ 1048582 * l.length := by
    intro l
    induction l with
    | nil => intro _; simp [sumN]
    | cons x l ih =>
      intro h
      have h1 := ih fun y hy => h y (by simp [hy])
      have h2 := h x (by simp)
      unfold smBind at h2
      simp only [sumN, List.map_cons, List.sum_cons, List.length_cons, costBind] at h1 ⊢
      omega
  have := this a ha
  omega


end Go.Proofs.Try
