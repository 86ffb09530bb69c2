/-
  Plain lemmas on the models, part 4.
-/
import Derived.Test.YtdmegpnacdgeoaaGreatDoorSpQP3
namespace Go.Proofs.Tryz
open Go.Av
set_option maxRecDepth 100000
set_option linter.unusedSimpArgs false
set_option linter.unusedVariables false

theorem opLevel_is (o : Int) : mi_OpLevel o = ms_OpLevel o := rfl
theorem opLevel_ex (o : Int) : ∃ v, ms_OpLevel o = some v ∧ v ≤ 12 := by
  have h : ∀ {c : Bool} {x y : Option Int}, (∃ v, x = some v ∧ v ≤ 12) → (∃ v, y = some v ∧ v ≤ 12) → ∃ v, (bif c then x else y) = some v ∧ v ≤ 12 := fun {c x y} hx hy => by
    cases c
    · exact hy
    · exact hx
  have h4 : ∀ b, ∃ v, ms_OpLevel_k4 (o, b) = some v ∧ v ≤ 12 := fun b => h ⟨10, rfl, by decide⟩ (h ⟨12, rfl, by decide⟩ ⟨0, rfl, by decide⟩)
  have h3 : ∀ b, ∃ v, ms_OpLevel_k3 (o, b) = some v ∧ v ≤ 12 := fun b => h ⟨9, rfl, by decide⟩ (h (h4 _) (h (h4 _) (h4 _)))
  have h2 : ∀ b, ∃ v, ms_OpLevel_k2 (o, b) = some v ∧ v ≤ 12 := fun b => h ⟨7, rfl, by decide⟩ (h ⟨8, rfl, by decide⟩ (h (h3 _) (h3 _)))
  have h1 : ∀ b, ∃ v, ms_OpLevel_k1 (o, b) = some v ∧ v ≤ 12 := fun b => h ⟨6, rfl, by decide⟩ (h (h2 _) (h (h2 _) (h (h2 _) (h (h2 _) (h (h2 _) (h2 _))))))
  exact h ⟨3, rfl, by decide⟩ (h ⟨4, rfl, by decide⟩ (h (h1 _) (h1 _)))

def opLv (o : Int) : Int := (ms_OpLevel o).getD 0
theorem opLv_is (o : Int) : ms_OpLevel o = some (opLv o) := by
  obtain ⟨v, h, _⟩ := opLevel_ex o
  unfold opLv; rw [h]; rfl
theorem opLv_le (o : Int) : opLv o ≤ 12 := by
  obtain ⟨v, h, h2⟩ := opLevel_ex o
  unfold opLv; rw [h]; exact h2

def lv (k o : Int) : Int :=
  bif k == 15 then 1 else bif k == 14 then 2 else bif k == 13 then 5 else bif k == 12 then opLv o else bif k == 11 then 11 else bif k == 9 || k == 10 then 13 else bif k == 6 then 14 else
  bif k == 1 || (k == 2 || (k == 3 || (k == 4 || (k == 5 || (k == 7 || k == 8))))) then 15 else 0

theorem levelOf_is (n : SNode) : ms_LevelOf n = some (lv n.Kind n.Op) := by
  have h2 : ∀ b : Bool, ms_LevelOf_k2 b = some (bif b then 15 else 0) := fun b => by cases b <;> rfl
  unfold ms_LevelOf lv
  rw [opLv_is]
  cases n.Kind == 15
  · cases n.Kind == 14
    · cases n.Kind == 13
      · cases n.Kind == 12
        · cases n.Kind == 11
          · simp only [cond_false, ms_LevelOf_k1]
            cases n.Kind == 9
            · cases n.Kind == 10
              · cases n.Kind == 6
                · cases n.Kind == 1
                  · cases n.Kind == 2
                    · cases n.Kind == 3
                      · cases n.Kind == 4
                        · cases n.Kind == 5
                          · cases n.Kind == 7
                            · cases n.Kind == 8 <;> rfl
                            · rfl
                          · rfl
                        · rfl
                      · rfl
                    · rfl
                  · rfl
                · rfl
              · rfl
            · rfl
          · rfl
        · rfl
      · rfl
    · rfl
  · rfl

theorem levelOfI_is (n : SNode) : mi_LevelOf n = some (lv n.Kind n.Op) := levelOf_is n

def posB (p : SPos) : Bool := (decide (p.Level ≥ 1) && decide (p.Level ≤ 15)) && (!p.Dollar || p.Level == 14)
theorem posOk_is (p : SPos) : ms_PosOk p = some (posB p) := by
  unfold ms_PosOk posB
  rw [l1In_is, Option.bind_some]
  cases (decide (p.Level ≥ 1) && decide (p.Level ≤ 15)) <;> cases p.Dollar <;> rfl
theorem posOkI_is (p : SPos) : mi_PosOk p = some (posB p) := by
  unfold mi_PosOk posB
  rw [within_is, Option.bind_some]
  cases (decide (p.Level ≥ 1) && decide (p.Level ≤ 15)) <;> cases p.Dollar <;> rfl

def fitB (k o : Int) (p : SPos) : Bool :=
  !(!posB p || lv k o == 0) && (!(p.NoIn && k == 13) && (!(p.NoGt && (k == 12 && o == 62)) && (!(p.NoSign && (k == 11 || (k == 9 || k == 4))) && ((p.Dollar && k == 9) || decide (lv k o ≥ p.Level)))))

theorem bo_or (c d : Bool) : (bif c then some true else some d) = some (c || d) := by cases c <;> rfl
theorem bo_and (c d : Bool) : (bif c then some d else some false) = some (c && d) := by cases c <;> rfl
theorem bo_not (c d : Bool) : (bif c then some false else some d) = some (!c && d) := by cases c <;> rfl
theorem bo_dd (c a d : Bool) : (bif c then some (a || d) else some d) = some ((c && a) || d) := by cases c <;> rfl

theorem fits_is (n : SNode) (p : SPos) : ms_Fits n p = some (fitB n.Kind n.Op p) := by
  unfold ms_Fits fitB
  rw [posOk_is, levelOf_is]
  simp only [Option.bind_some, bo_or, bo_and, bo_not]

theorem fitsI_is (n : SNode) (p : SPos) : mi_Fits n p = some (fitB n.Kind n.Op p) := by
  unfold mi_Fits fitB
  rw [posOkI_is, levelOfI_is]
  simp only [Option.bind_some, bo_or, bo_and, bo_not, bo_dd]

def sideLv (o : Int) : Int × Int :=
  bif opLv o == 3 then (3, 4) else bif opLv o == 4 then (4, 5) else bif opLv o == 6 then (7, 7) else bif opLv o == 7 then (8, 8) else bif opLv o == 8 then (8, 9) else bif opLv o == 9 then (9, 10) else bif opLv o == 10 then (10, 11) else (13, 11)

theorem sides_is (o : Int) : ms_l9Sides o = some (sideLv o) := by
  unfold ms_l9Sides sideLv
  rw [opLv_is, Option.bind_some]
  cases opLv o == 3 <;> cases opLv o == 4 <;> cases opLv o == 6 <;> cases opLv o == 7 <;> cases opLv o == 8 <;> cases opLv o == 9 <;> cases opLv o == 10 <;> rfl

theorem binLevel_is (o : Int) (k : Nat) : mi_binLevel o (k : Int) = some (bif decide (k > 0) then (sideLv o).2 else (sideLv o).1) := by
  unfold mi_binLevel sideLv
  rw [opLevel_is, opLv_is, Option.bind_some]
  have hk : ((k : Int) == 0) = !decide (k > 0) := by
    by_cases h : k = 0
    · subst h; rfl
    · have h1 : ((k : Int) == 0) = false := by simp; omega
      have h2 : decide (k > 0) = true := by simp; omega
      rw [h1, h2]; rfl
  cases opLv o == 3 <;> cases opLv o == 4 <;> cases opLv o == 6 <;> cases opLv o == 7 <;> cases opLv o == 8 <;> cases opLv o == 9 <;> cases opLv o == 10 <;> simp only [cond_true, cond_false, mi_binLevel_k1, hk] <;> cases decide (k > 0) <;> rfl

def kidP (kd o : Int) (n : Nat) (k : Nat) (p : SPos) : SPos :=
  bif kd == 15 then (bif decide (k > 0) then ⟨1, false, p.NoIn, p.NoGt, false⟩ else ⟨14, false, p.NoIn, p.NoGt, p.NoSign⟩)
  else bif kd == 14 then (bif decide (k > 0) then ⟨2, false, p.NoIn, p.NoGt, false⟩ else ⟨3, false, p.NoIn, p.NoGt, p.NoSign⟩)
  else bif kd == 13 then (bif decide (n > 1) then ⟨1, false, false, false, false⟩ else ⟨5, false, p.NoIn, p.NoGt, p.NoSign⟩)
  else bif kd == 12 then (bif decide (k > 0) then ⟨(sideLv o).2, false, p.NoIn, p.NoGt, o == 99⟩ else ⟨(sideLv o).1, false, p.NoIn, p.NoGt, p.NoSign⟩)
  else bif kd == 11 then ⟨11, false, p.NoIn, p.NoGt, false⟩
  else bif kd == 9 || kd == 10 then ⟨14, false, p.NoIn, p.NoGt, false⟩
  else bif kd == 6 then ⟨14, true, p.NoIn, p.NoGt, false⟩ else ⟨1, false, false, false, false⟩

theorem kidPos_is (n : SNode) (k : Nat) (p : SPos) (hk : k < n.Kids.length) (hl : n.Kids.length ≤ 1000000) (hp : posB p = true) (hlv : lv n.Kind n.Op ≠ 0) : ms_KidPos n (k : Int) p = some (kidP n.Kind n.Op n.Kids.length k p) := by
  have h0 : (lv n.Kind n.Op == 0) = false := by simpa using hlv
  have h1 : (decide ((k : Int) ≥ 0) && decide ((k : Int) ≤ (n.Kids.length : Int) - 1)) = true := by simp; omega
  have hg : decide ((k : Int) > 0) = decide (k > 0) := by by_cases h : k > 0 <;> simp [h]
  have hz : ((k : Int) == 0) = !decide (k > 0) := by
    by_cases h : k = 0
    · subst h; rfl
    · have h1 : ((k : Int) == 0) = false := by simp; omega
      have h2 : decide (k > 0) = true := by simp; omega
      rw [h1, h2]; rfl
  have hn : decide ((n.Kids.length : Int) > 1) = decide (n.Kids.length > 1) := by by_cases h : n.Kids.length > 1 <;> simp [h] <;> omega
  unfold ms_KidPos kidP
  rw [wrap64 (by omega) (by omega), l1In_is, posOk_is, levelOf_is, hp, h1]
  simp only [Option.bind_some, Bool.not_true, cond_false, bo_and, hg, hz, hn, h0, sides_is]
  cases n.Kind == 15
  · cases n.Kind == 14
    · cases n.Kind == 13
      · cases n.Kind == 12
        · cases n.Kind == 11
          · cases n.Kind == 9
            · cases n.Kind == 10
              · cases h6 : n.Kind == 6 <;> (show ms_KidPos_k2 (n, p, p.NoSign && !decide (k > 0), false) = _; rw [ms_KidPos_k2, h6]; rfl)
              · rfl
            · rfl
          · rfl
        · cases decide (k > 0) <;> cases p.NoSign <;> rfl
      · have hk0 : decide (n.Kids.length > 1) = false → decide (k > 0) = false := fun h => by simp at h ⊢; omega
        cases hq : decide (n.Kids.length > 1)
        · rw [hk0 hq]; cases p.NoSign <;> rfl
        · rfl
    · cases decide (k > 0) <;> cases p.NoSign <;> rfl
  · cases decide (k > 0) <;> cases p.NoSign <;> rfl

theorem kidPosI_is (n : SNode) (k : Nat) (p : SPos) (hk : k < n.Kids.length) (hl : n.Kids.length ≤ 1000000) (hp : posB p = true) (he : isE n.Kind = true) (hlv : lv n.Kind n.Op ≠ 0) (h12 : n.Kind = 12 → n.Kids.length = 2) : mi_KidPos n (k : Int) p = some (kidP n.Kind n.Op n.Kids.length k p) := by
  have h0 : (lv n.Kind n.Op == 0) = false := by simpa using hlv
  have h1 : (decide ((k : Int) ≥ 0) && decide ((k : Int) ≤ (n.Kids.length : Int) - 1)) = true := by simp; omega
  have hg : decide ((k : Int) > 0) = decide (k > 0) := by by_cases h : k > 0 <;> simp [h]
  have hz : ((k : Int) == 0) = !decide (k > 0) := by
    by_cases h : k = 0
    · subst h; rfl
    · have h1 : ((k : Int) == 0) = false := by simp; omega
      have h2 : decide (k > 0) = true := by simp; omega
      rw [h1, h2]; rfl
  have hn : decide ((n.Kids.length : Int) > 1) = decide (n.Kids.length > 1) := by by_cases h : n.Kids.length > 1 <;> simp [h] <;> omega
  have ho : (opLv n.Op == 15) = false := by have := opLv_le n.Op; simp; omega
  unfold mi_KidPos kidP
  rw [wrap64 (by omega) (by omega), within_is, posOkI_is, levelOfI_is, hp, h1]
  simp only [Option.bind_some, Bool.not_true, cond_false, h0, bo_and, bo_or, hn]
  unfold mi_kidLevel
  simp only [binLevel_is, Option.bind_some, hg, mi_KidPos_k2, mi_KidPos_k1, hz]
  have hc : n.Kind = 1 ∨ n.Kind = 2 ∨ n.Kind = 3 ∨ n.Kind = 4 ∨ n.Kind = 5 ∨ n.Kind = 6 ∨ n.Kind = 7 ∨ n.Kind = 8 ∨ n.Kind = 9 ∨ n.Kind = 10 ∨ n.Kind = 11 ∨ n.Kind = 12 ∨ n.Kind = 13 ∨ n.Kind = 14 ∨ n.Kind = 15 := by
    unfold isE at he; simp only [Bool.and_eq_true, decide_eq_true_eq] at he; omega
  rcases hc with e | e | e | e | e | e | e | e | e | e | e | e | e | e | e <;> simp only [e]
  case inr.inr.inr.inr.inr.inr.inr.inr.inr.inr.inr.inl =>
    have hk2 : k < 2 := by have := h12 e; omega
    have hk1 : ((k : Int) == 1) = decide (k > 0) := by
      by_cases h : k = 0
      · subst h; rfl
      · have h' : k = 1 := by omega
        subst h'; rfl
    have hlv12 : lv 12 n.Op = opLv n.Op := rfl
    simp only [hlv12, ho, hk1]
    cases decide (k > 0) <;> cases p.NoSign <;> rfl
  case inr.inr.inr.inr.inr.inr.inr.inr.inr.inr.inr.inr.inl =>
    have hk0 : decide (n.Kids.length > 1) = false → k = 0 := fun h => by simp at h; omega
    cases hq : decide (n.Kids.length > 1)
    · have e := hk0 hq
      subst e
      cases p.NoSign <;> rfl
    · rfl
  case inr.inr.inr.inr.inr.inr.inr.inr.inr.inr.inr.inr.inr.inl =>
    by_cases h : k = 0
    · subst h; cases p.NoSign <;> rfl
    · have h2 : decide (k > 0) = true := by simp; omega
      rw [h2]
      cases (k : Int) == 1 <;> rfl
  case inr.inr.inr.inr.inr.inr.inr.inr.inr.inr.inr.inr.inr.inr =>
    by_cases h : k = 0
    · subst h; cases p.NoSign <;> rfl
    · have h2 : decide (k > 0) = true := by simp; omega
      rw [h2]
      cases (k : Int) == 1 <;> rfl
  all_goals rfl

end Go.Proofs.Tryz
