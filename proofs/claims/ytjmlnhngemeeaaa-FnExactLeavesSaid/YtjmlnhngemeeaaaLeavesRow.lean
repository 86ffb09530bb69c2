/-
  ExactLeaves: for all arguments the law returns true: the program's function returns what the reference's returns.
  No condition.
-/
import Derived.Test.YtjmlnhngemeeaaaRows
import Derived.WalkKit
import Derived.ProofKit
import Derived.OpenShut
import Derived.Test.YtjmlnhngemeeaaaW3
import Derived.Test.YtjmlnhngemeeaaaL1
import Derived.Test.YtjmlnhngemeeaaaCore31
namespace Go.Proofs.Ytjmlnhngemeeaaa.fnExactLeaves
open Go.ChangeShapes Go.WideShapes Go.ChangeAt Go.RowKit Go.Av Go.Proofs.Try
set_option linter.unusedVariables false
set_option maxRecDepth 100000

theorem own : ownKnob Try.prog.godebug = none := by kernel_rfl

/-- what is known of it -/
def ok24 (x : SNode) : Prop := ((Lit.int .i64 x.Kind).wf = true) ∧ ((Lit.int .i64 x.Op).wf = true) ∧ (x.Text.length ≤ maxLen) ∧ (x.Other.length ≤ maxLen) ∧ ((∀ z, z ∈ x.Kids → ((Lit.int .i64 z).wf = true)) ∧ x.Kids.length ≤ maxLen)

theorem read24 : Reader Try.prog 24 (encSNode false) ok24 := by
  intro H e w fuel cs x h
  obtain ⟨xs, n, rfl, rfl, hl, hxl, hf⟩ := DataW.trod_struct Try.underlying24 h
  have hl : cs.length = 5 := hl.trans (by kernel_rfl)
  have hxl : xs.length = 5 := hxl
  obtain ⟨y0, e0⟩ : ∃ y, xs[0]? = some y := ⟨_, List.getElem?_eq_getElem (by omega)⟩
  have h0 : DataW.trod e Try.prog w 0 (fun _ => true) true n 3 ((cs.drop 0).take (Try.prog.cellsOf 3)) = some y0 := (hf 0 _ rfl).trans e0
  have c0 : Try.prog.cellsOf 3 = 1 := by kernel_rfl
  rw [c0] at h0
  obtain ⟨a0, k0, r0⟩ := (Reader.i64 Try.underlying3) e w n _ _ h0
  obtain ⟨y1, e1⟩ : ∃ y, xs[1]? = some y := ⟨_, List.getElem?_eq_getElem (by omega)⟩
  have h1 : DataW.trod e Try.prog w 0 (fun _ => true) true n 3 ((cs.drop 1).take (Try.prog.cellsOf 3)) = some y1 := (hf 1 _ rfl).trans e1
  have c1 : Try.prog.cellsOf 3 = 1 := by kernel_rfl
  rw [c1] at h1
  obtain ⟨a1, k1, r1⟩ := (Reader.i64 Try.underlying3) e w n _ _ h1
  obtain ⟨y2, e2⟩ : ∃ y, xs[2]? = some y := ⟨_, List.getElem?_eq_getElem (by omega)⟩
  have h2 : DataW.trod e Try.prog w 0 (fun _ => true) true n 9 ((cs.drop 2).take (Try.prog.cellsOf 9)) = some y2 := (hf 2 _ rfl).trans e2
  have c2 : Try.prog.cellsOf 9 = 1 := by kernel_rfl
  rw [c2] at h2
  obtain ⟨a2, k2, r2⟩ := (Reader.str Try.underlying9) e w n _ _ h2
  obtain ⟨y3, e3⟩ : ∃ y, xs[3]? = some y := ⟨_, List.getElem?_eq_getElem (by omega)⟩
  have h3 : DataW.trod e Try.prog w 0 (fun _ => true) true n 9 ((cs.drop 3).take (Try.prog.cellsOf 9)) = some y3 := (hf 3 _ rfl).trans e3
  have c3 : Try.prog.cellsOf 9 = 1 := by kernel_rfl
  rw [c3] at h3
  obtain ⟨a3, k3, r3⟩ := (Reader.str Try.underlying9) e w n _ _ h3
  obtain ⟨y4, e4⟩ : ∃ y, xs[4]? = some y := ⟨_, List.getElem?_eq_getElem (by omega)⟩
  have h4 : DataW.trod e Try.prog w 0 (fun _ => true) true n 22 ((cs.drop 4).take (Try.prog.cellsOf 22)) = some y4 := (hf 4 _ rfl).trans e4
  have c4 : Try.prog.cellsOf 22 = 1 := by kernel_rfl
  rw [c4] at h4
  obtain ⟨a4, k4, r4⟩ := (Reader.slice Try.underlying22 (Reader.i64 Try.underlying3) 1 (by kernel_rfl) (by decide) (fun _ => rfl)) e w n _ _ h4
  refine ⟨⟨a0, a1, a2, a3, a4⟩, ⟨k0, k1, k2, k3, k4⟩, fun S hS => ?_⟩
  have hcs : cs = (cs.drop 0).take 1 ++ ((cs.drop 1).take 1 ++ ((cs.drop 2).take 1 ++ ((cs.drop 3).take 1 ++ ((cs.drop 4).take 1 ++ [])))) := by
    match cs, hl with
    | [x0, x1, x2, x3, x4], _ => rfl
  rw [hcs]
  exact CellsR.append (r0 S fun p hp => hS p (List.mem_flatMap.2 ⟨y0, List.mem_of_getElem? e0, hp⟩)) (CellsR.append (r1 S fun p hp => hS p (List.mem_flatMap.2 ⟨y1, List.mem_of_getElem? e1, hp⟩)) (CellsR.append (r2 S fun p hp => hS p (List.mem_flatMap.2 ⟨y2, List.mem_of_getElem? e2, hp⟩)) (CellsR.append (r3 S fun p hp => hS p (List.mem_flatMap.2 ⟨y3, List.mem_of_getElem? e3, hp⟩)) (CellsR.append (r4 S fun p hp => hS p (List.mem_flatMap.2 ⟨y4, List.mem_of_getElem? e4, hp⟩)) (CellsR.nil)))))

theorem plain (x : SNode) (kx : ok24 x) : ∃ N, m_laws_FnExactLeaves N x = some true := by
  obtain ⟨_, _, ht, ho, _, hk⟩ := kx
  refine ⟨1048577, ?_⟩
  obtain ⟨r, hr, hc⟩ := szNode_is x ⟨ht, ho, hk⟩ 1048576 (by omega) (by omega)
  unfold m_laws_FnExactLeaves
  rw [hr, Option.bind_some]
  rcases hc with ⟨hc, _⟩ | ⟨hc, h0⟩
  · simp [hc]
  · have hs : smNode x := by unfold szNode at hc; unfold smNode; omega
    have hn : decide (r < 0) = false := by simp; omega
    have e : m_spec_Leaves x = m_impl_Leaves x := rfl
    obtain ⟨b, hb⟩ : ∃ b, m_impl_Leaves x = some b := by
      unfold m_impl_Leaves
      cases (x.Kind == 22) <;> cases (x.Kind == 23) <;> cases (x.Kind == 24) <;> cases (x.Kind == 25) <;> cases (x.Kind == 26) <;> exact ⟨_, rfl⟩
    simp only [hn, cond_false, toNode_is 1048577 x (by omega) hs, Option.bind_some, e, hb, beq_self_eq_true, Bool.not_true, eqNode_self 1048577 x (by omega) hs]


theorem kids : Kids Try.prog (· < Try.prog.types.size) := kids_rows (by kernel_rfl) (by kernel_rfl)
theorem full : ∀ t e, t < Try.prog.types.size → Try.prog.underlying t = some (.slice e) → 0 < Try.prog.cellsOf e := slices_full_of Try.prog (by kernel_rfl)

theorem lifted (os : Os) (started : os.Started) (H : Type) (enc : TypeId × Value → H) :
    ReturnsInHanded {} Try.checked os 3 .any (Rows.fnExactLeavesSpec.pre6 enc Try.prog Try.f3 Rows.fnExactLeavesRow.domain false) (Rows.fnExactLeavesSpec.post enc Try.prog Try.f3 false true false false) := by
  refine returnsInHanded_of_change (C := Try.checked) own started (by kernel_rfl) Try.func3
    (ChangeSpec.witness6 (enc := enc) (C := Try.checked) false ⟨#[], #[.agg #[.int .i64 0, .int .i64 0, .string ⟨#[]⟩, .string ⟨#[]⟩, .slice none 0 0]], []⟩ 8 (by kernel_rfl) (by kernel_rfl) (by kernel_rfl) (by kernel_rfl)) ?_
  intro W base args ds gs before hval0 hW hcnd _
  have hval : ∀ (j : Nat) t v, Try.f3.params[j]? = some t → args[j]? = some v → Value.okWide Try.prog W .any base t v := hval0
  have hW' := hW
  obtain ⟨p, q, hA0, hV, rfl, hfz, hnd⟩ := hW
  have hA : DataW.TrodAll enc Try.prog W 0 (fun _ => true) true Try.f3.params.toList args.toList ds p := hA0
  rw [Try.params3] at hA hval
  have hA1 := hA
  obtain ⟨v0, vs0, d0, ds0, p0, q0, hargs, rfl, rfl, h0, r0⟩ := trodAll_cons hA
  obtain ⟨rfl, rfl, rfl⟩ := trodAll_nil r0
  obtain rfl : args = #[v0] := by cases args; simp_all
  have hA2 : DataW.TrodAll enc Try.prog W 0 (fun _ => true) true [24] [v0] [d0] (p0 ++ []) := hA1
  obtain ⟨rfl, rfl⟩ := trodVars_none hV
  obtain ⟨fu0, hf0⟩ := h0
  obtain ⟨a0, k0, c0⟩ := read24 enc W fu0 _ _ hf0
  obtain ⟨n0, rfl, _⟩ := okWide_struct Try.underlying24 (hval 0 24 v0 rfl rfl)
  have hlt : ∀ b, blocksOf (p0 ++ []) b → b < W.heap.size := by
    rintro b ⟨m, hm, rfl⟩
    exact DataW.TrodAll.lt hA1 m (by simpa using hm)
  obtain ⟨N, hN⟩ := plain a0 k0
  refine (AC.below (m_laws_FnExactLeaves_ok N a0 hN) (blocksOf (p0 ++ [])) hlt rfl fun i x hx => ?_).mono ?_
  · match i with
    | 0 =>
      simp only [List.getElem?_cons_succ, List.getElem?_cons_zero, Option.some.injEq] at hx
      subst hx
      exact argAgg (c0 _ fun p hp => ⟨p, by simp [hp], rfl⟩)
    | i + 1 => simp at hx
  · rintro e W' ⟨x, S', rfl, hx, hb⟩
    have hxt := hx.c_inv
    subst hxt
    exact ⟨_, rfl, Av.post_of_below (pa := (p0 ++ [])) (pv := []) hW' (fun _ _ _ => (trodAll_cons_mk (shut_bool Try.underlying4 _) trodAll_mk0))
      (fun sp hsp => args_kept kids full hb (by decide +kernel) hA2 (fun m hm => hsp m (by simpa using hm))) (fun _ _ => rfl) (by simp) hb (ok_one (by kernel_rfl) rfl (okWide_bool_mk Try.underlying4 _))⟩

theorem over : Rows.fnExactLeavesRow.holds Try.pinned (OpenSpec.ofChange Rows.fnExactLeavesSpec) :=
  OpenClaim.holds_of_wide 3 Try.f3 rfl rfl rfl rfl rfl rfl rfl ⟨rfl, rfl, rfl, rfl, rfl⟩ rfl rfl rfl rfl rfl (by kernel_rfl) Try.func3 (by kernel_rfl)
    (of_decide_eq_true (by kernel_rfl)) (by unfold Func.isWrapper; first | (rw [if_pos (by decide +kernel)]; kernel_rfl) | (rw [if_neg (by decide +kernel)]; exact ⟨rfl, rfl⟩))
    (fun os started H enc _ => lifted os started H enc)

/-- the statement -/
theorem proved : Rows.FnExactLeavesSaid :=
  over
#print axioms proved
end Go.Proofs.Ytjmlnhngemeeaaa.fnExactLeaves
