/-
  ExactSplice: for all arguments the law returns true: the program's function returns what the reference's returns.
  No condition.
-/
import Derived.Test.YtaipmddanmmkeaaRows
import Derived.WalkKit
import Derived.ProofKit
import Derived.OpenShut
import Derived.Test.YtaipmddanmmkeaaW1
import Derived.Test.YtaipmddanmmkeaaCore31
namespace Go.Proofs.Ytaipmddanmmkeaa.fnExactSplice
open Go.ChangeShapes Go.WideShapes Go.ChangeAt Go.RowKit Go.Av Go.Proofs.Try
set_option linter.unusedVariables false
set_option maxRecDepth 100000

theorem own : ownKnob Try.prog.godebug = none := by kernel_rfl

theorem wrap64 {n : Int} (h1 : -9223372036854775808 ≤ n) (h2 : n ≤ 9223372036854775807) : IntKind.wrap .i64 n = n := by
  rw [IntKind.wrap_i64]; omega

theorem cut_some {α : Type} {l : List α} {lo hi : Int} (h0 : 0 ≤ lo) (h1 : lo ≤ hi) (h2 : hi ≤ l.length) : cut l lo hi = some ((l.drop lo.toNat).take (hi.toNat - lo.toNat)) := by
  unfold cut
  rw [if_pos ⟨h0, h1, h2⟩]

theorem cat_some {a b : List UInt8} (h : a.length + b.length ≤ maxLen) : cat a b = some (a ++ b) := by
  unfold cat
  rw [if_pos h]

theorem plain (s : List UInt8) (i k : Int) (t : List UInt8) (_ : s.length ≤ maxLen) (_ : (Lit.int .i64 i).wf = true) (_ : (Lit.int .i64 k).wf = true) (_ : t.length ≤ maxLen) : m_laws_FnExactSplice s i k t = some true := by
  have hw : m_spec_Splice s i k t = m_impl_Splice s i k t := rfl
  have hin : ∀ a b c : Int, m_impl_within a b c = some (decide (a ≥ b) && decide (a ≤ c)) := fun a b c => by
    unfold m_impl_within
    by_cases h : a ≥ b <;> simp [h]
  unfold m_laws_FnExactSplice
  by_cases hs : (s.length : Int) > 1048576
  · simp [hs]
  by_cases ht : (t.length : Int) > 1048576
  · simp [hs, ht]
  have h : ∃ r, m_impl_Splice s i k t = some r := by
    unfold m_impl_Splice
    simp only [hin, Option.bind_some]
    by_cases h1 : 0 ≤ i ∧ i ≤ s.length
    · have e1 : (decide (i ≥ 0) && decide (i ≤ (s.length : Int))) = true := by simp [h1.1, h1.2]
      rw [wrap64 (n := (s.length : Int) - i) (by omega) (by omega)]
      by_cases h2 : 0 ≤ k ∧ k ≤ s.length - i
      · have e2 : (decide (k ≥ 0) && decide (k ≤ (s.length : Int) - i)) = true := by simp [h2.1, h2.2]
        rw [wrap64 (n := i + k) (by omega) (by omega)]
        simp only [e1, e2, Bool.not_true, cond_false, Option.bind_some]
        rw [cut_some (by omega) h1.1 h1.2, Option.bind_some, cat_some (by simp [maxLen]; omega), Option.bind_some, cut_some (by omega) (by omega) (by omega), Option.bind_some, cat_some (by simp [maxLen]; omega)]
        exact ⟨_, rfl⟩
      · have e2 : (decide (k ≥ 0) && decide (k ≤ (s.length : Int) - i)) = false := by
          simp only [Bool.and_eq_false_iff, decide_eq_false_iff_not]
          omega
        exact ⟨_, by simp only [e1, e2, Bool.not_true, Bool.not_false, cond_false, Option.bind_some, cond_true]; rfl⟩
    · have e1 : (decide (i ≥ 0) && decide (i ≤ (s.length : Int))) = false := by
        simp only [Bool.and_eq_false_iff, decide_eq_false_iff_not]
        omega
      exact ⟨_, by simp only [e1, Bool.not_false, cond_true, Option.bind_some]; rfl⟩
  obtain ⟨r, hr⟩ := h
  rw [hw, hr]
  simp [hs, ht]


theorem kids : Kids Try.prog (· < Try.prog.types.size) := kids_rows (by kernel_rfl) (by kernel_rfl)
theorem full : ∀ t e, t < Try.prog.types.size → Try.prog.underlying t = some (.slice e) → 0 < Try.prog.cellsOf e := slices_full_of Try.prog (by kernel_rfl)

theorem lifted (os : Os) (started : os.Started) (H : Type) (enc : TypeId × Value → H) :
    ReturnsInHanded {} Try.checked os 4 .any (Rows.fnExactSpliceSpec.pre6 enc Try.prog Try.f4 Rows.fnExactSpliceRow.domain false) (Rows.fnExactSpliceSpec.post enc Try.prog Try.f4 false true false false) := by
  refine returnsInHanded_of_change (C := Try.checked) own started (by kernel_rfl) Try.func4
    (ChangeSpec.witness6 (enc := enc) (C := Try.checked) false ⟨#[], #[.string ⟨#[]⟩, .int .i64 0, .int .i64 0, .string ⟨#[]⟩], []⟩ 8 (by kernel_rfl) (by kernel_rfl) (by kernel_rfl) (by kernel_rfl)) ?_
  intro W base args ds gs before hval0 hW hcnd _
  have hval : ∀ (j : Nat) t v, Try.f4.params[j]? = some t → args[j]? = some v → Value.okWide Try.prog W .any base t v := hval0
  have hW' := hW
  obtain ⟨p, q, hA0, hV, rfl, hfz, hnd⟩ := hW
  have hA : DataW.TrodAll enc Try.prog W 0 (fun _ => true) true Try.f4.params.toList args.toList ds p := hA0
  rw [Try.params4] at hA hval
  have hA1 := hA
  obtain ⟨v0, vs0, d0, ds0, p0, q0, hargs, rfl, rfl, h0, r0⟩ := trodAll_cons hA
  obtain ⟨v1, vs1, d1, ds1, p1, q1, rfl, rfl, rfl, h1, r1⟩ := trodAll_cons r0
  obtain ⟨v2, vs2, d2, ds2, p2, q2, rfl, rfl, rfl, h2, r2⟩ := trodAll_cons r1
  obtain ⟨v3, vs3, d3, ds3, p3, q3, rfl, rfl, rfl, h3, r3⟩ := trodAll_cons r2
  obtain ⟨rfl, rfl, rfl⟩ := trodAll_nil r3
  obtain rfl : args = #[v0, v1, v2, v3] := by cases args; simp_all
  have hA2 : DataW.TrodAll enc Try.prog W 0 (fun _ => true) true [9, 3, 3, 9] [v0, v1, v2, v3] [d0, d1, d2, d3] (p0 ++ (p1 ++ (p2 ++ (p3 ++ [])))) := hA1
  obtain ⟨rfl, rfl⟩ := trodVars_none hV
  obtain ⟨fu0, hf0⟩ := h0
  obtain ⟨a0, k0, c0⟩ := (Reader.str Try.underlying9) enc W fu0 _ _ hf0
  obtain ⟨n0, rfl⟩ := okWide_string Try.underlying9 (hval 0 9 v0 rfl rfl)
  obtain ⟨fu1, hf1⟩ := h1
  obtain ⟨a1, k1, c1⟩ := (Reader.i64 Try.underlying3) enc W fu1 _ _ hf1
  obtain ⟨n1, rfl⟩ := okWide_int Try.underlying3 (hval 1 3 v1 rfl rfl)
  obtain ⟨fu2, hf2⟩ := h2
  obtain ⟨a2, k2, c2⟩ := (Reader.i64 Try.underlying3) enc W fu2 _ _ hf2
  obtain ⟨n2, rfl⟩ := okWide_int Try.underlying3 (hval 2 3 v2 rfl rfl)
  obtain ⟨fu3, hf3⟩ := h3
  obtain ⟨a3, k3, c3⟩ := (Reader.str Try.underlying9) enc W fu3 _ _ hf3
  obtain ⟨n3, rfl⟩ := okWide_string Try.underlying9 (hval 3 9 v3 rfl rfl)
  have hlt : ∀ b, blocksOf (p0 ++ (p1 ++ (p2 ++ (p3 ++ [])))) b → b < W.heap.size := by
    rintro b ⟨m, hm, rfl⟩
    exact DataW.TrodAll.lt hA1 m (by simpa using hm)
  have hN := plain a0 a1 a2 a3 k0 k1 k2 k3
  refine (AC.below (m_laws_FnExactSplice_ok a0 a1 a2 a3 hN) (blocksOf (p0 ++ (p1 ++ (p2 ++ (p3 ++ []))))) hlt rfl fun i x hx => ?_).mono ?_
  · match i with
    | 0 =>
      simp only [List.getElem?_cons_succ, List.getElem?_cons_zero, Option.some.injEq] at hx
      subst hx
      exact argOne rfl (c0 _ fun p hp => ⟨p, by simp [hp], rfl⟩)
    | 1 =>
      simp only [List.getElem?_cons_succ, List.getElem?_cons_zero, Option.some.injEq] at hx
      subst hx
      exact argOne rfl (c1 _ fun p hp => ⟨p, by simp [hp], rfl⟩)
    | 2 =>
      simp only [List.getElem?_cons_succ, List.getElem?_cons_zero, Option.some.injEq] at hx
      subst hx
      exact argOne rfl (c2 _ fun p hp => ⟨p, by simp [hp], rfl⟩)
    | 3 =>
      simp only [List.getElem?_cons_succ, List.getElem?_cons_zero, Option.some.injEq] at hx
      subst hx
      exact argOne rfl (c3 _ fun p hp => ⟨p, by simp [hp], rfl⟩)
    | i + 4 => simp at hx
  · rintro e W' ⟨x, S', rfl, hx, hb⟩
    have hxt := hx.c_inv
    subst hxt
    exact ⟨_, rfl, Av.post_of_below (pa := (p0 ++ (p1 ++ (p2 ++ (p3 ++ []))))) (pv := []) hW' (fun _ _ _ => (trodAll_cons_mk (shut_bool Try.underlying4 _) trodAll_mk0))
      (fun sp hsp => args_kept kids full hb (by decide +kernel) hA2 (fun m hm => hsp m (by simpa using hm))) (fun _ _ => rfl) (by simp) hb (ok_one (by kernel_rfl) rfl (okWide_bool_mk Try.underlying4 _))⟩

theorem over : Rows.fnExactSpliceRow.holds Try.pinned (OpenSpec.ofChange Rows.fnExactSpliceSpec) :=
  OpenClaim.holds_of_wide 4 Try.f4 rfl rfl rfl rfl rfl rfl rfl ⟨rfl, rfl, rfl, rfl, rfl⟩ rfl rfl rfl rfl rfl (by kernel_rfl) Try.func4 (by kernel_rfl)
    (of_decide_eq_true (by kernel_rfl)) (by unfold Func.isWrapper; first | (rw [if_pos (by decide +kernel)]; kernel_rfl) | (rw [if_neg (by decide +kernel)]; exact ⟨rfl, rfl⟩))
    (fun os started H enc _ => lifted os started H enc)

/-- the statement -/
theorem proved : Rows.FnExactSpliceSaid :=
  over
#print axioms proved
end Go.Proofs.Ytaipmddanmmkeaa.fnExactSplice
