/-
  Plain lemmas on the models, part 1.
-/
import Derived.Test.YtjmlnhngemeeaaaDoorL1
namespace Go.Proofs.Tryd
open Go.Av
set_option maxRecDepth 100000

/-! ### the law's frame, once both functions answer the same -/
def lawT1 (N : Nat) (sp im : List SToken → Option (List SToken)) (a0 : List SToken) : Option Bool :=
  Option.bind (m_laws_szTokenS N a0 1048576) fun r2 => bif (decide (r2 < 0)) then some true else (Option.bind (m_laws_toTokenS N a0) fun r5 => Option.bind (sp r5) fun r6 => Option.bind (m_laws_toTokenS N a0) fun r8 => Option.bind (im r8) fun r10 => Option.bind (m_laws_eqTokenS N r10 r6) fun r14 => bif (!r14) then some false else (Option.bind (m_laws_toTokenS N a0) fun r21 => Option.bind (m_laws_eqTokenS N r8 r21) fun r22 => bif (!r22) then some false else (Option.bind (m_laws_markTokenS N 1 r8) fun r24 => Option.bind (bif (decide (r24.1 < 0)) then some true else (Option.bind (m_laws_eqTokenS N r10 r6) fun r30 => some (!r30))) fun y29 => bif y29 then some false else (Option.bind (m_laws_markTokenS N 1 r10) fun r32 => Option.bind (m_laws_heldTokenS N r32.2 1) fun r34 => bif (decide (r34 < 0)) then some false else (bif (r34 != r32.1) then some false else (Option.bind (m_laws_toTokenS N a0) fun r37 => Option.bind (im r37) fun r38 => Option.bind (m_laws_eqTokenS N r38 r6) fun r42 => bif (!r42) then some false else (Option.bind (m_laws_heldTokenS N r32.2 1) fun r44 => bif (decide (r44 < 0)) then some false else (bif (r44 != r32.1) then some false else (some true)))))))))

theorem markT_of (N : Nat) (k : Int) (a : List SToken) (hN : 1048576 < N) (hl : a.length ≤ 1048576) (ha : ∀ x, x ∈ a → smToken x) (h0 : 0 ≤ k) (h1 : k ≤ 4611686018427387904 - 4398050705408) :
    ∃ k' a', m_laws_markTokenS N k a = some (k', a') ∧ k ≤ k' ∧ k' ≤ k + 4398050705408 ∧ m_laws_heldTokenS N a' k = some k' := by
  have hc := costToken_le a ha hl
  have hle := mkAll_le (mkToken_le N) a k h0
  exact ⟨_, _, markTokenS_is N k a hN hl ha h0 (by omega), hle.1, by omega, heldTokenS_is N k a hN hl ha h0 (by omega)⟩

theorem lawT1_is (N : Nat) (sp im : List SToken → Option (List SToken)) (a : List SToken) (hN : a.length < N) (hN2 : 1048577 < N) (hl : a.length ≤ maxLen) (ha : ∀ x, x ∈ a → okToken x)
    (both : a.length ≤ 1048576 → (∀ x, x ∈ a → smToken x) → ∃ b, sp a = some b ∧ im a = some b ∧ b.length ≤ 1048576 ∧ ∀ x, x ∈ b → smToken x) : lawT1 N sp im a = some true := by
  obtain ⟨r, hr, hc⟩ := szTokenS_is N a hN hl ha 1048576 (by omega) (by omega)
  unfold lawT1
  rw [hr, Option.bind_some]
  rcases hc with ⟨hc, _⟩ | ⟨hc, h0⟩
  · simp [hc]
  · have hs := smToken_of a (by omega)
    have hla : a.length ≤ 1048576 := by omega
    have hn : decide (r < 0) = false := by simp; omega
    obtain ⟨b, b1, b2, b3, b4⟩ := both hla hs
    have hto := toTokenS_is N a (by omega) hla hs
    have hea := eqTokenS_self N a (by omega) hla hs
    have heb := eqTokenS_self N b (by omega) b3 b4
    obtain ⟨k1, a1, m1, m2, m3, m4⟩ := markT_of N 1 a (by omega) hla hs (by omega) (by omega)
    obtain ⟨k2, b5, n1, n2, n3, n4⟩ := markT_of N 1 b (by omega) b3 b4 (by omega) (by omega)
    have d1 : decide (k1 < 0) = false := by simp; omega
    have d2 : decide (k2 < 0) = false := by simp; omega
    simp only [hn, cond_false, hto, Option.bind_some, b1, b2, heb, hea, Bool.not_true, m1, n1, n4, d1, d2, bne_self_eq_false]

end Go.Proofs.Tryd
