/-
  RanWord: for every argument the program's RanWord returns what the reference's RanWord returns: the law returns true.
  Every int; no condition.
-/
import Derived.Test.YtaipmddanmmkeaaRows
import Derived.WalkKit
import Derived.ProofKit
import Derived.OpenShut
import Derived.Test.YtaipmddanmmkeaaW1
import Derived.Test.YtaipmddanmmkeaaCore29
namespace Go.Proofs.Ytaipmddanmmkeaa.fnExactRanWord
open Go.ChangeShapes Go.WideShapes Go.ChangeAt Go.RowKit Go.Av Go.Proofs.Try
set_option linter.unusedVariables false      -- a walk need not use every 'w<i>' (that an integer argument fits its kind)

theorem own : ownKnob Try.prog.godebug = none := by kernel_rfl

/-! ### STEP 1: THE WALK: the Go text returns true. 'Grown w w'': the world has at most new blocks (Derived/RowKit3.lean). Part the cases AHEAD of 'go_enter' where a test parts the walk; take each callee by a contract of your own. -/
theorem ix_get {α : Type} (l : List α) (n : Int) (h0 : 0 ≤ n) (h1 : n < l.length) : ∃ x, ix l n = some x := by
  unfold ix
  rw [if_pos h0]
  exact ⟨_, List.getElem?_eq_getElem (by omega)⟩

/-- the law in plain Lean: both return the same -/
theorem plain (n : Int) : m_laws_FnExactRanWord n = some true := by
  have hw : m_spec_RanWord n = m_impl_RanWord n := rfl
  have hs : ∃ r, m_impl_RanWord n = some r := by
    unfold m_impl_RanWord m_impl_within
    by_cases h0 : n ≥ 0
    · by_cases h1 : n ≤ 3
      · obtain ⟨x, hx⟩ := ix_get (α := List UInt8) [[101, 110, 100], [101, 120, 105, 116], [102, 117, 101, 108], [110, 111, 110, 101]] n h0 (by simp; omega)
        exact ⟨x, by simp [h0, h1, hx]⟩
      · exact ⟨[], by simp [h0, h1]⟩
    · exact ⟨[], by simp [h0]⟩
  obtain ⟨r, hr⟩ := hs
  unfold m_laws_FnExactRanWord
  rw [hw, hr]
  simp

theorem walk (a0 : Int) (w : World) : Calls Try.prog 3 #[.int .i64 a0] w fun e w' => e = .returned (.bool true) ∧ Below w.heap.size w w' := by
  refine (AC.below (m_laws_FnExactRanWord_ok a0 (plain a0)) (fun _ => False) (fun _ h => h.elim) rfl fun i x hx => ?_).mono ?_
  · match i with
    | 0 => simp at hx; subst hx; exact .c _
    | i + 1 => simp at hx
  · rintro e w' ⟨x, S', rfl, hx, hb⟩
    exact ⟨by rw [hx.c_inv], hb⟩

/-! ### THE ROW's STEP: WRITTEN OUT: LEAVE IT -/
set_option maxRecDepth 100000 in
theorem lifted (os : Os) (started : os.Started) (H : Type) (enc : TypeId × Value → H) :
    ReturnsInHanded {} Try.checked os 3 .any (Rows.fnExactRanWordSpec.pre6 enc Try.prog Try.f3 Rows.fnExactRanWordRow.domain false) (Rows.fnExactRanWordSpec.post enc Try.prog Try.f3 false true false false) := by
  refine returnsInHanded_of_change (C := Try.checked) own started (by kernel_rfl) Try.func3
    (ChangeSpec.witness6 (enc := enc) (C := Try.checked) false ⟨#[], #[.int .i64 0], []⟩ 8 (by kernel_rfl) (by kernel_rfl) (by kernel_rfl) (by kernel_rfl)) ?_
  intro W base args ds gs before hval0 hW hcnd _
  have hval : ∀ (j : Nat) t v, Try.f3.params[j]? = some t → args[j]? = some v → Value.okWide Try.prog W .any base t v := hval0
  have hW' := hW
  obtain ⟨p, q, hA0, hV, rfl, hfz, hnd⟩ := hW
  have hA : DataW.TrodAll enc Try.prog W 0 (fun _ => true) true Try.f3.params.toList args.toList ds p := hA0
  rw [Try.params3] at hA hval
  obtain ⟨v0, vs0, d0, ds0, p0, q0, hargs, rfl, rfl, h0, r0⟩ := trodAll_cons hA
  obtain ⟨rfl, rfl, rfl⟩ := trodAll_nil r0
  obtain rfl : args = #[v0] := by cases args; simp_all
  obtain ⟨rfl, rfl⟩ := trodVars_none hV
  obtain ⟨a0, rfl, rfl, rfl, w0⟩ := open_int Try.underlying3 (hval 0 3 v0 rfl rfl) h0
  clear hA0 hval0
  simp only [List.append_nil] at hW'
  refine (walk a0 W).mono fun e W' ⟨he, hg⟩ => ?_
  subst he
  exact ⟨_, rfl, Av.post_of_below (pa := []) (pv := []) hW' (fun _ _ _ => (trodAll_cons_mk (shut_bool Try.underlying4 _) trodAll_mk0)) (fun sp _ => (trodAll_cons_mk (shut_int Try.underlying3 w0) trodAll_mk0)) (fun _ _ => rfl) rfl
    hg (ok_one (by kernel_rfl) rfl (okWide_bool_mk Try.underlying4 _))⟩

theorem over : Rows.fnExactRanWordRow.holds Try.pinned (OpenSpec.ofChange Rows.fnExactRanWordSpec) :=
  OpenClaim.holds_of_wide 3 Try.f3 rfl rfl rfl rfl rfl rfl rfl ⟨rfl, rfl, rfl, rfl, rfl⟩ rfl rfl rfl rfl rfl (by kernel_rfl) Try.func3 (by kernel_rfl)
    (of_decide_eq_true (by kernel_rfl)) (by unfold Func.isWrapper; first | (rw [if_pos (by decide +kernel)]; kernel_rfl) | (rw [if_neg (by decide +kernel)]; exact ⟨rfl, rfl⟩))
    (fun os started H enc _ => lifted os started H enc)

/-- ████ THE STATEMENT ████ -/
theorem proved : Rows.FnExactRanWordSaid :=
  over
#print axioms proved
end Go.Proofs.Ytaipmddanmmkeaa.fnExactRanWord
