/-
  The laws own helpers: copying, comparing, measuring, marking.
-/
import Derived.Test.YtkfpmbinifaakaaDoorM1
namespace Go.Proofs.Tryd
open Go.Av
set_option maxRecDepth 100000


/-! ### the laws' helpers over []Token -/
def szToken (x : SToken) : Nat := x.Text.length

/-- no part of it is longer than memory -/
def okToken (x : SToken) : Prop := x.Text.length ≤ maxLen

theorem szToken_is (x : SToken) (hx : okToken x) : Sz (m_laws_szToken x) (szToken x) := by
  intro b h0 h1
  have hText := hx
  unfold okToken at hText
  simp only [maxLen] at hText
  unfold m_laws_szToken szToken
  rw [wrap64 (n := b - (x.Text.length : Int)) (by omega) (by omega)]
  by_cases g0 : b - (x.Text.length : Int) < 0
  · exact ⟨-1, by simp [g0], .inl ⟨by omega, by omega⟩⟩
  exact ⟨b - (x.Text.length : Int), by simp [g0], .inr ⟨by omega, by omega⟩⟩

theorem szTokenS_is (N : Nat) (a : List SToken) (hN : a.length < N) (hl : a.length ≤ maxLen) (ha : ∀ x, x ∈ a → okToken x) : Sz (m_laws_szTokenS N a) (a.length + sumN szToken a) := by
  have hloop : ∀ n s, m_laws_szTokenS_l1 N n s = szL m_laws_szToken n s := by
    intro n
    induction n with
    | zero => intro s; rfl
    | succ n ih => intro ⟨a, b, i⟩; rw [m_laws_szTokenS_l1, szL]; simp only [ih]
  intro b h0 h1
  have := Sz.list (f := m_laws_szToken) (sz := szToken) (fun x hx => szToken_is x (ha x hx)) hl (g := fun n b => bif decide (IntKind.wrap .i64 (b - (a.length : Int)) < 0) then some (-1) else szL m_laws_szToken n (a, IntKind.wrap .i64 (b - (a.length : Int)), 0)) hN (fun b => rfl) b h0 h1
  unfold m_laws_szTokenS
  simpa only [hloop] using this

/-- small enough to be copied, compared, marked -/
def smToken (x : SToken) : Prop := x.Text.length ≤ 1048576

theorem smToken_of (a : List SToken) (h : a.length + sumN szToken a ≤ 1048576) : ∀ x, x ∈ a → smToken x := by
  intro x hx
  have := sumN_mem (sz := szToken) hx
  have e : szToken x = x.Text.length := rfl
  rw [e] at this
  unfold smToken
  omega

theorem toToken_is (x : SToken) (hx : smToken x) : m_laws_toToken x = some x := by
  unfold m_laws_toToken
  rfl

theorem toTokenS_is (N : Nat) (a : List SToken) (hN : 1048576 < N) (hl : a.length ≤ 1048576) (ha : ∀ x, x ∈ a → smToken x) : m_laws_toTokenS N a = some a := by
  have hloop : ∀ n s, m_laws_toTokenS_l1 N n s = toL m_laws_toToken n s := by
    intro n
    induction n with
    | zero => intro s; rfl
    | succ n ih => intro ⟨a, i, y⟩; rw [m_laws_toTokenS_l1, toL]; simp only [ih]
  unfold m_laws_toTokenS
  rw [mk_some (by omega) (by simp only [maxLen]; omega), Option.bind_some, hloop]
  exact toL_is _ a (fun x hx => toToken_is x (ha x hx)) (by simp only [maxLen]; omega) N 0 _ (by omega) (by omega) (by simp) (by simp)

theorem eqToken_self (x : SToken) (hx : smToken x) : m_laws_eqToken x x = some true := by
  unfold m_laws_eqToken
  simp

theorem eqTokenS_self (N : Nat) (a : List SToken) (hN : 1048576 < N) (hl : a.length ≤ 1048576) (ha : ∀ x, x ∈ a → smToken x) : m_laws_eqTokenS N a a = some true := by
  have hloop : ∀ n s, m_laws_eqTokenS_l1 N n s = eqL (m_laws_eqToken) n s := by
    intro n
    induction n with
    | zero => intro s; rfl
    | succ n ih => intro ⟨a, b, i⟩; rw [m_laws_eqTokenS_l1, eqL]; simp only [ih]
  unfold m_laws_eqTokenS
  simp only [bne_self_eq_false, cond_false, hloop]
  exact eqL_self _ a (fun x hx => eqToken_self x (ha x hx)) (by simp only [maxLen]; omega) N 0 (by omega) (by omega)

end Go.Proofs.Tryd
