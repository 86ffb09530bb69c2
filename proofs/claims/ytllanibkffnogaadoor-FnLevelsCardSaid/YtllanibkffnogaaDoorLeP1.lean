/-
  Plain lemmas on the models, part 1.
-/
import Derived.Test.YtllanibkffnogaaDoorLeM1
namespace Go.Proofs.Tryd
open Go.Av
set_option maxRecDepth 100000
set_option linter.unusedSimpArgs false
set_option linter.unusedVariables false

theorem at_is (x : List UInt8) (i : Nat) (hi : i ≤ 1000) (hx : x.length ≤ 1048576) : ∃ v : Int, m_laws_at x (i : Int) = some v ∧ 0 ≤ v ∧ v < 256 := by
  unfold m_laws_at
  by_cases h : i < x.length
  · have hb := UInt8.toNat_lt x[i]
    rw [lt_true h, cond_true, ix_nat h, Option.bind_some, wrap64 (by omega) (by omega)]
    exact ⟨_, rfl, by omega, by omega⟩
  · rw [lt_false h, cond_false, wrap64 (n := (i : Int) * 37) (by omega) (by omega), wrap64 (n := (x.length : Int) * 11) (by omega) (by omega), wrap64 (by omega) (by omega), Int.tmod_eq_emod_of_nonneg (by omega)]
    exact ⟨_, rfl, by omega, by omega⟩
theorem big_is (x : List UInt8) : m_laws_big x = some (decide ((x.length : Int) > 1048576)) := rfl

end Go.Proofs.Tryd
