/-
  ExactClassOf: for all arguments the law returns true: the program's function returns what the reference's returns.
  No condition.
-/
import Derived.Test.YtaipmddanmmkeaaRows
import Derived.WalkKit
import Derived.ProofKit
import Derived.OpenShut
import Derived.Test.YtaipmddanmmkeaaW1
import Derived.Test.YtaipmddanmmkeaaCore31
namespace Go.Proofs.Ytaipmddanmmkeaa.fnExactClassOf
open Go.ChangeShapes Go.WideShapes Go.ChangeAt Go.RowKit Go.Av Go.Proofs.Try
set_option linter.unusedVariables false
set_option maxRecDepth 100000

theorem own : ownKnob Try.prog.godebug = none := by kernel_rfl

theorem plain (n : Int) (_ : (Lit.int .i64 n).wf = true) : m_laws_FnExactClassOf n = some true := by
  have hw : ∀ a b c, m_spec_l1In a b c = m_impl_within a b c := fun _ _ _ => rfl
  have hin : ∀ a b c : Int, m_impl_within a b c = some (decide (a ≥ b) && decide (a ≤ c)) := fun a b c => by
    unfold m_impl_within
    by_cases h : a ≥ b <;> simp [h]
  have he : m_impl_ClassOf n = m_spec_ClassOf n ∧ ∃ r, m_spec_ClassOf n = some r := by
    unfold m_impl_ClassOf m_spec_ClassOf m_impl_isKeywordKind m_impl_isSignKind
    simp only [hw, hin]
    by_cases h1 : n = 1
    · subst h1; exact ⟨rfl, _, rfl⟩
    by_cases h2 : n = 2
    · subst h2; exact ⟨rfl, _, rfl⟩
    by_cases h3 : n = 3
    · subst h3; exact ⟨rfl, _, rfl⟩
    by_cases h4 : n = 4
    · subst h4; exact ⟨rfl, _, rfl⟩
    by_cases h5 : n = 5
    · subst h5; exact ⟨rfl, _, rfl⟩
    by_cases h6 : n = 6
    · subst h6; exact ⟨rfl, _, rfl⟩
    by_cases h7 : n = 7
    · subst h7; exact ⟨rfl, _, rfl⟩
    by_cases h8 : n = 8
    · subst h8; exact ⟨rfl, _, rfl⟩
    have e1 : (n == 1) = false := by simpa using h1
    have e2 : (n == 2) = false := by simpa using h2
    have e3 : (n == 3) = false := by simpa using h3
    have e4 : (n == 4) = false := by simpa using h4
    have e5 : (n == 5) = false := by simpa using h5
    have e6 : (n == 6) = false := by simpa using h6
    have e7 : (n == 7) = false := by simpa using h7
    have e8 : (n == 8) = false := by simpa using h8
    simp only [e1, e2, e3, e4, e5, e6, e7, e8, cond_false, Option.bind_some]
    cases (decide (n ≥ 10) && decide (n ≤ 26)) <;> cases (decide (n ≥ 30) && decide (n ≤ 68)) <;> simp
  obtain ⟨h1, r, h2⟩ := he
  unfold m_laws_FnExactClassOf
  rw [h1, h2]
  simp


theorem kids : Kids Try.prog (· < Try.prog.types.size) := kids_rows (by kernel_rfl) (by kernel_rfl)
theorem full : ∀ t e, t < Try.prog.types.size → Try.prog.underlying t = some (.slice e) → 0 < Try.prog.cellsOf e := slices_full_of Try.prog (by kernel_rfl)

theorem lifted (os : Os) (started : os.Started) (H : Type) (enc : TypeId × Value → H) :
    ReturnsInHanded {} Try.checked os 5 .any (Rows.fnExactClassOfSpec.pre6 enc Try.prog Try.f5 Rows.fnExactClassOfRow.domain false) (Rows.fnExactClassOfSpec.post enc Try.prog Try.f5 false true false false) := by
  refine returnsInHanded_of_change (C := Try.checked) own started (by kernel_rfl) Try.func5
    (ChangeSpec.witness6 (enc := enc) (C := Try.checked) false ⟨#[], #[.int .i64 0], []⟩ 8 (by kernel_rfl) (by kernel_rfl) (by kernel_rfl) (by kernel_rfl)) ?_
  intro W base args ds gs before hval0 hW hcnd _
  have hval : ∀ (j : Nat) t v, Try.f5.params[j]? = some t → args[j]? = some v → Value.okWide Try.prog W .any base t v := hval0
  have hW' := hW
  obtain ⟨p, q, hA0, hV, rfl, hfz, hnd⟩ := hW
  have hA : DataW.TrodAll enc Try.prog W 0 (fun _ => true) true Try.f5.params.toList args.toList ds p := hA0
  rw [Try.params5] at hA hval
  have hA1 := hA
  obtain ⟨v0, vs0, d0, ds0, p0, q0, hargs, rfl, rfl, h0, r0⟩ := trodAll_cons hA
  obtain ⟨rfl, rfl, rfl⟩ := trodAll_nil r0
  obtain rfl : args = #[v0] := by cases args; simp_all
  have hA2 : DataW.TrodAll enc Try.prog W 0 (fun _ => true) true [3] [v0] [d0] (p0 ++ []) := hA1
  obtain ⟨rfl, rfl⟩ := trodVars_none hV
  obtain ⟨fu0, hf0⟩ := h0
  obtain ⟨a0, k0, c0⟩ := (Reader.i64 Try.underlying3) enc W fu0 _ _ hf0
  obtain ⟨n0, rfl⟩ := okWide_int Try.underlying3 (hval 0 3 v0 rfl rfl)
  have hlt : ∀ b, blocksOf (p0 ++ []) b → b < W.heap.size := by
    rintro b ⟨m, hm, rfl⟩
    exact DataW.TrodAll.lt hA1 m (by simpa using hm)
  have hN := plain a0 k0
  refine (AC.below (m_laws_FnExactClassOf_ok a0 hN) (blocksOf (p0 ++ [])) hlt rfl fun i x hx => ?_).mono ?_
  · match i with
    | 0 =>
      simp only [List.getElem?_cons_succ, List.getElem?_cons_zero, Option.some.injEq] at hx
      subst hx
      exact argOne rfl (c0 _ fun p hp => ⟨p, by simp [hp], rfl⟩)
    | i + 1 => simp at hx
  · rintro e W' ⟨x, S', rfl, hx, hb⟩
    have hxt := hx.c_inv
    subst hxt
    exact ⟨_, rfl, Av.post_of_below (pa := (p0 ++ [])) (pv := []) hW' (fun _ _ _ => (trodAll_cons_mk (shut_bool Try.underlying4 _) trodAll_mk0))
      (fun sp hsp => args_kept kids full hb (by decide +kernel) hA2 (fun m hm => hsp m (by simpa using hm))) (fun _ _ => rfl) (by simp) hb (ok_one (by kernel_rfl) rfl (okWide_bool_mk Try.underlying4 _))⟩

theorem over : Rows.fnExactClassOfRow.holds Try.pinned (OpenSpec.ofChange Rows.fnExactClassOfSpec) :=
  OpenClaim.holds_of_wide 5 Try.f5 rfl rfl rfl rfl rfl rfl rfl ⟨rfl, rfl, rfl, rfl, rfl⟩ rfl rfl rfl rfl rfl (by kernel_rfl) Try.func5 (by kernel_rfl)
    (of_decide_eq_true (by kernel_rfl)) (by unfold Func.isWrapper; first | (rw [if_pos (by decide +kernel)]; kernel_rfl) | (rw [if_neg (by decide +kernel)]; exact ⟨rfl, rfl⟩))
    (fun os started H enc _ => lifted os started H enc)

/-- the statement -/
theorem proved : Rows.FnExactClassOfSaid :=
  over
#print axioms proved
end Go.Proofs.Ytaipmddanmmkeaa.fnExactClassOf
