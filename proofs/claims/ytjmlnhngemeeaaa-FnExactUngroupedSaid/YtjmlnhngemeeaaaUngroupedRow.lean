/-
  ExactUngrouped: for all arguments the law returns true: the program's function returns what the reference's returns.
  No condition.
-/
import Derived.Test.YtjmlnhngemeeaaaRows
import Derived.WalkKit
import Derived.ProofKit
import Derived.OpenShut
import Derived.Test.YtjmlnhngemeeaaaW3
import Derived.Test.YtjmlnhngemeeaaaP2
import Derived.Test.YtjmlnhngemeeaaaCore31
namespace Go.Proofs.Ytjmlnhngemeeaaa.fnExactUngrouped
open Go.ChangeShapes Go.WideShapes Go.ChangeAt Go.RowKit Go.Av Go.Proofs.Try
set_option linter.unusedVariables false
set_option maxRecDepth 100000

theorem own : ownKnob Try.prog.godebug = none := by kernel_rfl

/-- what is known of it -/
def ok81 (x : SDNode) : Prop := ((Lit.int .i64 x.Kind).wf = true) ∧ ((Lit.int .i64 x.N).wf = true) ∧ (x.Text.length ≤ maxLen) ∧ ((∀ z, z ∈ x.Kids → ((Lit.int .i64 z).wf = true)) ∧ x.Kids.length ≤ maxLen)

theorem read81 : Reader Try.prog 81 (encSDNode false) ok81 := by
  intro H e w fuel cs x h
  obtain ⟨xs, n, rfl, rfl, hl, hxl, hf⟩ := DataW.trod_struct Try.underlying81 h
  have hl : cs.length = 4 := hl.trans (by kernel_rfl)
  have hxl : xs.length = 4 := hxl
  obtain ⟨y0, e0⟩ : ∃ y, xs[0]? = some y := ⟨_, List.getElem?_eq_getElem (by omega)⟩
  have h0 : DataW.trod e Try.prog w 0 (fun _ => true) true n 3 ((cs.drop 0).take (Try.prog.cellsOf 3)) = some y0 := (hf 0 _ rfl).trans e0
  have c0 : Try.prog.cellsOf 3 = 1 := by kernel_rfl
  rw [c0] at h0
  obtain ⟨a0, k0, r0⟩ := (Reader.i64 Try.underlying3) e w n _ _ h0
  obtain ⟨y1, e1⟩ : ∃ y, xs[1]? = some y := ⟨_, List.getElem?_eq_getElem (by omega)⟩
  have h1 : DataW.trod e Try.prog w 0 (fun _ => true) true n 3 ((cs.drop 1).take (Try.prog.cellsOf 3)) = some y1 := (hf 1 _ rfl).trans e1
  have c1 : Try.prog.cellsOf 3 = 1 := by kernel_rfl
  rw [c1] at h1
  obtain ⟨a1, k1, r1⟩ := (Reader.i64 Try.underlying3) e w n _ _ h1
  obtain ⟨y2, e2⟩ : ∃ y, xs[2]? = some y := ⟨_, List.getElem?_eq_getElem (by omega)⟩
  have h2 : DataW.trod e Try.prog w 0 (fun _ => true) true n 9 ((cs.drop 2).take (Try.prog.cellsOf 9)) = some y2 := (hf 2 _ rfl).trans e2
  have c2 : Try.prog.cellsOf 9 = 1 := by kernel_rfl
  rw [c2] at h2
  obtain ⟨a2, k2, r2⟩ := (Reader.str Try.underlying9) e w n _ _ h2
  obtain ⟨y3, e3⟩ : ∃ y, xs[3]? = some y := ⟨_, List.getElem?_eq_getElem (by omega)⟩
  have h3 : DataW.trod e Try.prog w 0 (fun _ => true) true n 22 ((cs.drop 3).take (Try.prog.cellsOf 22)) = some y3 := (hf 3 _ rfl).trans e3
  have c3 : Try.prog.cellsOf 22 = 1 := by kernel_rfl
  rw [c3] at h3
  obtain ⟨a3, k3, r3⟩ := (Reader.slice Try.underlying22 (Reader.i64 Try.underlying3) 1 (by kernel_rfl) (by decide) (fun _ => rfl)) e w n _ _ h3
  refine ⟨⟨a0, a1, a2, a3⟩, ⟨k0, k1, k2, k3⟩, fun S hS => ?_⟩
  have hcs : cs = (cs.drop 0).take 1 ++ ((cs.drop 1).take 1 ++ ((cs.drop 2).take 1 ++ ((cs.drop 3).take 1 ++ []))) := by
    match cs, hl with
    | [x0, x1, x2, x3], _ => rfl
  rw [hcs]
  exact CellsR.append (r0 S fun p hp => hS p (List.mem_flatMap.2 ⟨y0, List.mem_of_getElem? e0, hp⟩)) (CellsR.append (r1 S fun p hp => hS p (List.mem_flatMap.2 ⟨y1, List.mem_of_getElem? e1, hp⟩)) (CellsR.append (r2 S fun p hp => hS p (List.mem_flatMap.2 ⟨y2, List.mem_of_getElem? e2, hp⟩)) (CellsR.append (r3 S fun p hp => hS p (List.mem_flatMap.2 ⟨y3, List.mem_of_getElem? e3, hp⟩)) (CellsR.nil))))

theorem spec_l (N : Nat) (a : List SDNode) (ha : a.length ≤ 1048576) : ∀ (n i : Nat), a.length - i < n → i ≤ a.length →
    m_spec_Ungrouped_l1 N n ((i : Int), (a.take i).map (swK 5 6) ++ a.drop i) = some (a.map (swK 5 6)) := by
  intro n
  induction n with
  | zero => intro i h; omega
  | succ n ih =>
    intro i hn hi
    have hlen : ((a.take i).map (swK 5 6) ++ a.drop i).length = a.length := by simp; omega
    rw [m_spec_Ungrouped_l1, hlen]
    by_cases h : i < a.length
    · have hlt : i < ((a.take i).map (swK 5 6) ++ a.drop i).length := by omega
      simp only [lt_true h, cond_true, ix_get (get_map (swK 5 6) a i h), Option.bind_some, m_spec_Ungrouped_k2, step64 h (by simp only [maxLen]; omega)]
      have hset := set_map (swK 5 6) a i h
      cases hk : (a[i].Kind == 5) with
      | true =>
        have e : swK 5 6 a[i] = ⟨6, a[i].N, a[i].Text, a[i].Kids⟩ := by simp [swK, hk]
        rw [e] at hset
        rw [cond_true, upd_nat hlt, Option.bind_some, hset]
        exact ih (i + 1) (by omega) (by omega)
      | false =>
        have e : swK 5 6 a[i] = a[i] := by simp [swK, hk]
        have : (a.take i).map (swK 5 6) ++ a.drop i = (a.take (i + 1)).map (swK 5 6) ++ a.drop (i + 1) := by
          rw [← hset, e]
          obtain ⟨h1, h2⟩ := List.getElem?_eq_some_iff.1 (get_map (swK 5 6) a i h)
          have h3 := List.set_getElem_self h1
          rw [h2] at h3
          exact h3.symm
        rw [cond_false, this]
        exact ih (i + 1) (by omega) (by omega)
    · simp only [lt_false h, cond_false]
      rw [drop_nil h, List.take_of_length_le (by omega)]
      simp

theorem both (N : Nat) (a : List SDNode) (hN : 1048577 < N) (ha : a.length ≤ 1048576) (hs : ∀ x, x ∈ a → smDNode x) : ∃ b, m_spec_Ungrouped N a = some b ∧ m_impl_Ungrouped N a = some b ∧ b.length ≤ 1048576 ∧ ∀ x, x ∈ b → smDNode x := by
  unfold m_spec_Ungrouped m_impl_Ungrouped
  rw [specOk_is N a hN ha hs, implOk_is N a hN ha hs]
  cases hd : docB a with
  | false => exact ⟨[], rfl, rfl, by simp, fun x hx => by cases hx⟩
  | true =>
    refine ⟨a.map (swK 5 6), ?_, ?_, by simpa using ha, sw_small 5 6 a hs⟩
    · simp only [Option.bind_some, Bool.not_true, cond_false, shift0_is N a hN ha hs hd]
      have := spec_l N a ha N 0 (by omega) (by omega)
      simpa using this
    · simp only [Option.bind_some, Bool.not_true, cond_false, copyDoc_is N 5 6 a hN ha hs]

theorem plain (x : List SDNode) (kx : (∀ z, z ∈ x → ok81 z) ∧ x.length ≤ maxLen) : ∃ N, m_laws_FnExactUngrouped N x = some true := by
  obtain ⟨kz, kl⟩ := kx
  refine ⟨x.length + 1048578, ?_⟩
  exact lawD1_is (x.length + 1048578) (m_spec_Ungrouped _) (m_impl_Ungrouped _) x (by omega) (by omega) kl (fun z hz => by obtain ⟨_, _, ht, _, hk⟩ := kz z hz; exact ⟨ht, hk⟩) fun ha hs => both _ x (by omega) ha hs


theorem kids : Kids Try.prog (· < Try.prog.types.size) := kids_rows (by kernel_rfl) (by kernel_rfl)
theorem full : ∀ t e, t < Try.prog.types.size → Try.prog.underlying t = some (.slice e) → 0 < Try.prog.cellsOf e := slices_full_of Try.prog (by kernel_rfl)

theorem lifted (os : Os) (started : os.Started) (H : Type) (enc : TypeId × Value → H) :
    ReturnsInHanded {} Try.checked os 8 .any (Rows.fnExactUngroupedSpec.pre6 enc Try.prog Try.f8 Rows.fnExactUngroupedRow.domain false) (Rows.fnExactUngroupedSpec.post enc Try.prog Try.f8 false true false false) := by
  refine returnsInHanded_of_change (C := Try.checked) own started (by kernel_rfl) Try.func8
    (ChangeSpec.witness6 (enc := enc) (C := Try.checked) false ⟨#[], #[.slice none 0 0], []⟩ 8 (by kernel_rfl) (by kernel_rfl) (by kernel_rfl) (by kernel_rfl)) ?_
  intro W base args ds gs before hval0 hW hcnd _
  have hval : ∀ (j : Nat) t v, Try.f8.params[j]? = some t → args[j]? = some v → Value.okWide Try.prog W .any base t v := hval0
  have hW' := hW
  obtain ⟨p, q, hA0, hV, rfl, hfz, hnd⟩ := hW
  have hA : DataW.TrodAll enc Try.prog W 0 (fun _ => true) true Try.f8.params.toList args.toList ds p := hA0
  rw [Try.params8] at hA hval
  have hA1 := hA
  obtain ⟨v0, vs0, d0, ds0, p0, q0, hargs, rfl, rfl, h0, r0⟩ := trodAll_cons hA
  obtain ⟨rfl, rfl, rfl⟩ := trodAll_nil r0
  obtain rfl : args = #[v0] := by cases args; simp_all
  have hA2 : DataW.TrodAll enc Try.prog W 0 (fun _ => true) true [49] [v0] [d0] (p0 ++ []) := hA1
  obtain ⟨rfl, rfl⟩ := trodVars_none hV
  obtain ⟨fu0, hf0⟩ := h0
  obtain ⟨a0, k0, c0⟩ := (Reader.slice Try.underlying49 read81 4 (by kernel_rfl) (by decide) (fun _ => rfl)) enc W fu0 _ _ hf0
  obtain ⟨s0, l0, m0, rfl⟩ := okWide_slice Try.underlying49 (hval 0 49 v0 rfl rfl)
  have hlt : ∀ b, blocksOf (p0 ++ []) b → b < W.heap.size := by
    rintro b ⟨m, hm, rfl⟩
    exact DataW.TrodAll.lt hA1 m (by simpa using hm)
  obtain ⟨N, hN⟩ := plain a0 k0
  refine (AC.below (m_laws_FnExactUngrouped_ok N a0 hN) (blocksOf (p0 ++ [])) hlt rfl fun i x hx => ?_).mono ?_
  · match i with
    | 0 =>
      simp only [List.getElem?_cons_succ, List.getElem?_cons_zero, Option.some.injEq] at hx
      subst hx
      exact argOne rfl (c0 _ fun p hp => ⟨p, by simp [hp], rfl⟩)
    | i + 1 => simp at hx
  · rintro e W' ⟨x, S', rfl, hx, hb⟩
    have hxt := hx.c_inv
    subst hxt
    exact ⟨_, rfl, Av.post_of_below (pa := (p0 ++ [])) (pv := []) hW' (fun _ _ _ => (trodAll_cons_mk (shut_bool Try.underlying4 _) trodAll_mk0))
      (fun sp hsp => args_kept kids full hb (by decide +kernel) hA2 (fun m hm => hsp m (by simpa using hm))) (fun _ _ => rfl) (by simp) hb (ok_one (by kernel_rfl) rfl (okWide_bool_mk Try.underlying4 _))⟩

theorem over : Rows.fnExactUngroupedRow.holds Try.pinned (OpenSpec.ofChange Rows.fnExactUngroupedSpec) :=
  OpenClaim.holds_of_wide 8 Try.f8 rfl rfl rfl rfl rfl rfl rfl ⟨rfl, rfl, rfl, rfl, rfl⟩ rfl rfl rfl rfl rfl (by kernel_rfl) Try.func8 (by kernel_rfl)
    (of_decide_eq_true (by kernel_rfl)) (by unfold Func.isWrapper; first | (rw [if_pos (by decide +kernel)]; kernel_rfl) | (rw [if_neg (by decide +kernel)]; exact ⟨rfl, rfl⟩))
    (fun os started H enc _ => lifted os started H enc)

/-- the statement -/
theorem proved : Rows.FnExactUngroupedSaid :=
  over
#print axioms proved
end Go.Proofs.Ytjmlnhngemeeaaa.fnExactUngrouped
