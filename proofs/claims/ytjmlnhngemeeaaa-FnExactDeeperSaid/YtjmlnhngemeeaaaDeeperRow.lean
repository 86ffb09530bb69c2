/-
  ExactDeeper: for all arguments the law returns true: the program's function returns what the reference's returns.
  No condition.
-/
import Derived.Test.YtjmlnhngemeeaaaRows
import Derived.WalkKit
import Derived.ProofKit
import Derived.OpenShut
import Derived.Test.YtjmlnhngemeeaaaW3
import Derived.Test.YtjmlnhngemeeaaaP3
import Derived.Test.YtjmlnhngemeeaaaCore31
namespace Go.Proofs.Ytjmlnhngemeeaaa.fnExactDeeper
open Go.ChangeShapes Go.WideShapes Go.ChangeAt Go.RowKit Go.Av Go.Proofs.Try
set_option linter.unusedVariables false
set_option maxRecDepth 100000

theorem own : ownKnob Try.prog.godebug = none := by kernel_rfl

/-- what is known of it -/
def ok81 (x : SDNode) : Prop := ((Lit.int .i64 x.Kind).wf = true) ∧ ((Lit.int .i64 x.N).wf = true) ∧ (x.Text.length ≤ maxLen) ∧ ((∀ z, z ∈ x.Kids → ((Lit.int .i64 z).wf = true)) ∧ x.Kids.length ≤ maxLen)

theorem read81 : Reader Try.prog 81 (encSDNode false) ok81 := by
  intro H e w fuel cs x h
  obtain ⟨xs, n, rfl, rfl, hl, hxl, hf⟩ := DataW.trod_struct Try.underlying81 h
  have hl : cs.length = 4 := hl.trans (by kernel_rfl)
  have hxl : xs.length = 4 := hxl
  obtain ⟨y0, e0⟩ : ∃ y, xs[0]? = some y := ⟨_, List.getElem?_eq_getElem (by omega)⟩
  have h0 : DataW.trod e Try.prog w 0 (fun _ => true) true n 3 ((cs.drop 0).take (Try.prog.cellsOf 3)) = some y0 := (hf 0 _ rfl).trans e0
  have c0 : Try.prog.cellsOf 3 = 1 := by kernel_rfl
  rw [c0] at h0
  obtain ⟨a0, k0, r0⟩ := (Reader.i64 Try.underlying3) e w n _ _ h0
  obtain ⟨y1, e1⟩ : ∃ y, xs[1]? = some y := ⟨_, List.getElem?_eq_getElem (by omega)⟩
  have h1 : DataW.trod e Try.prog w 0 (fun _ => true) true n 3 ((cs.drop 1).take (Try.prog.cellsOf 3)) = some y1 := (hf 1 _ rfl).trans e1
  have c1 : Try.prog.cellsOf 3 = 1 := by kernel_rfl
  rw [c1] at h1
  obtain ⟨a1, k1, r1⟩ := (Reader.i64 Try.underlying3) e w n _ _ h1
  obtain ⟨y2, e2⟩ : ∃ y, xs[2]? = some y := ⟨_, List.getElem?_eq_getElem (by omega)⟩
  have h2 : DataW.trod e Try.prog w 0 (fun _ => true) true n 9 ((cs.drop 2).take (Try.prog.cellsOf 9)) = some y2 := (hf 2 _ rfl).trans e2
  have c2 : Try.prog.cellsOf 9 = 1 := by kernel_rfl
  rw [c2] at h2
  obtain ⟨a2, k2, r2⟩ := (Reader.str Try.underlying9) e w n _ _ h2
  obtain ⟨y3, e3⟩ : ∃ y, xs[3]? = some y := ⟨_, List.getElem?_eq_getElem (by omega)⟩
  have h3 : DataW.trod e Try.prog w 0 (fun _ => true) true n 22 ((cs.drop 3).take (Try.prog.cellsOf 22)) = some y3 := (hf 3 _ rfl).trans e3
  have c3 : Try.prog.cellsOf 22 = 1 := by kernel_rfl
  rw [c3] at h3
  obtain ⟨a3, k3, r3⟩ := (Reader.slice Try.underlying22 (Reader.i64 Try.underlying3) 1 (by kernel_rfl) (by decide) (fun _ => rfl)) e w n _ _ h3
  refine ⟨⟨a0, a1, a2, a3⟩, ⟨k0, k1, k2, k3⟩, fun S hS => ?_⟩
  have hcs : cs = (cs.drop 0).take 1 ++ ((cs.drop 1).take 1 ++ ((cs.drop 2).take 1 ++ ((cs.drop 3).take 1 ++ []))) := by
    match cs, hl with
    | [x0, x1, x2, x3], _ => rfl
  rw [hcs]
  exact CellsR.append (r0 S fun p hp => hS p (List.mem_flatMap.2 ⟨y0, List.mem_of_getElem? e0, hp⟩)) (CellsR.append (r1 S fun p hp => hS p (List.mem_flatMap.2 ⟨y1, List.mem_of_getElem? e1, hp⟩)) (CellsR.append (r2 S fun p hp => hS p (List.mem_flatMap.2 ⟨y2, List.mem_of_getElem? e2, hp⟩)) (CellsR.append (r3 S fun p hp => hS p (List.mem_flatMap.2 ⟨y3, List.mem_of_getElem? e3, hp⟩)) (CellsR.nil))))

theorem over_one (N : Nat) (k n : Int) (a : List SDNode) (hN : 1048577 < N) (ha : a.length ≤ 4000) (h1 : 1 ≤ a.length) (hs : ∀ x, x ∈ a → smDNode x) (hd : docB a = true) :
    m_spec_l15Over N k n [a] = some (a ++ [⟨k, n, [], [(a.length : Int) - 1]⟩]) := by
  unfold m_spec_l15Over
  obtain ⟨M, rfl⟩ : ∃ m, N = m + 2 := ⟨N - 2, by omega⟩
  rw [m_spec_l15Over_l1]
  have hsh := shift0_is (M + 2) a hN (by omega) hs hd
  have e0 : ix [a] 0 = some a := rfl
  simp only [List.length_nil, List.length_cons, Int.natCast_zero] at hsh ⊢
  have c1 : decide ((0 : Int) < ((0 + 1 : Nat) : Int)) = true := rfl
  have c2 : IntKind.wrap .i64 ((0 : Int) + 1) = 1 := rfl
  have c3 : decide ((1 : Int) < ((0 + 1 : Nat) : Int)) = false := rfl
  simp only [c1, cond_true, e0, Option.bind_some]
  rw [hsh, Option.bind_some, app_some (by simp; omega), Option.bind_some, List.nil_append, wrap64 (n := (a.length : Int) - 1) (by omega) (by omega), app_some (by simp), Option.bind_some, c2, m_spec_l15Over_l1]
  simp only [List.length_nil, List.length_cons, c3, cond_false]
  rw [app_some (by simp; omega)]
  simp

theorem both (N : Nat) (n : Int) (a : List SDNode) (hN : 1048577 < N) (ha : a.length ≤ 1048576) (hs : ∀ x, x ∈ a → smDNode x) : ∃ b, m_spec_Deeper N a n = some b ∧ m_impl_Deeper N a n = some b ∧ b.length ≤ 1048576 ∧ ∀ x, x ∈ b → smDNode x := by
  unfold m_spec_Deeper m_impl_Deeper
  rw [specOk_is N a hN ha hs, implOk_is N a hN ha hs]
  cases hd : docB a with
  | false => exact ⟨[], rfl, rfl, by simp, fun x hx => by cases hx⟩
  | true =>
    have hsh := docB_shape hd
    obtain ⟨⟨h1, h2⟩, _⟩ := hsh
    simp only [Option.bind_some, Bool.not_true, cond_false, within_is, l1In_is]
    cases hw : (decide (n ≥ 0) && decide (n ≤ 40)) with
    | false => exact ⟨[], rfl, rfl, by simp, fun x hx => by cases hx⟩
    | true =>
      simp only [Bool.not_true, cond_false, Option.bind_some]
      rw [wrap64 (n := (a.length : Int) + 1) (by omega) (by omega)]
      by_cases h4 : a.length = 4000
      · have e1 : decide ((a.length : Int) ≥ 4000) = true := by simp [h4]
        have e2 : decide ((a.length : Int) + 1 > 4000) = true := by simp [h4]
        simp only [e1, e2, cond_true]
        exact ⟨[], rfl, rfl, by simp, fun x hx => by cases hx⟩
      · have e1 : decide ((a.length : Int) ≥ 4000) = false := by simp; omega
        have e2 : decide ((a.length : Int) + 1 > 4000) = false := by simp; omega
        simp only [e1, e2, cond_false]
        obtain ⟨t, ht, hg⟩ := docOf_is N a (by omega) hd
        rw [over_one N 4 n a hN h2 h1 hs hd, ht]
        refine ⟨a ++ [⟨4, n, [], [(a.length : Int) - 1]⟩], rfl, ?_, by simp; omega, ?_⟩
        · simp only [Option.bind_some]
          unfold m_impl_doc__list
          obtain ⟨M, rfl⟩ : ∃ m, N = m + 1 := ⟨N - 1, by omega⟩
          have hgs : Goods a [t] 0 a.length [(a.length : Int) - 1] := by
            have e : ((a.length : Int) - 1).toNat + 1 = a.length := by omega
            refine ⟨by omega, by omega, by omega, ?_, ?_⟩
            · rw [e]; exact hg
            · simp only [Goods]; exact e
          have h5 := add_l a ⟨4, n, [], [t], 0⟩ M [t] [(a.length : Int) - 1] 0 a.length 0 M [] [] rfl hgs (Nat.le_refl _) (by omega) (by simp; omega) (by simp; omega) (by simp) (by simp)
          have h6 : m_impl_doc__add (M + 1) ⟨4, n, [], [t], 0⟩ [] = _ := h5
          rw [h6, Option.bind_some, part_all]
          have e7 : a.map (shD (((([] : List SDNode).length : Nat) : Int) - ((0 : Nat) : Int))) = a := (List.map_congr_left fun x _ => shD_zero x).trans (List.map_id a)
          rw [e7]
          simp
        · intro x hx
          rcases List.mem_append.1 hx with hx | hx
          · exact hs x hx
          · simp only [List.mem_singleton] at hx
            subst hx
            unfold smDNode
            simp

theorem plain (x : List SDNode) (n : Int) (kx : (∀ z, z ∈ x → ok81 z) ∧ x.length ≤ maxLen) (kn : (Go.Lit.int .i64 n).wf = true) : ∃ N, m_laws_FnExactDeeper N x n = some true := by
  obtain ⟨kz, kl⟩ := kx
  refine ⟨x.length + 1048578, ?_⟩
  exact lawD1_is (x.length + 1048578) (fun a => m_spec_Deeper _ a n) (fun a => m_impl_Deeper _ a n) x (by omega) (by omega) kl (fun z hz => by obtain ⟨_, _, ht, _, hk⟩ := kz z hz; exact ⟨ht, hk⟩) fun ha hs => both _ n x (by omega) ha hs


theorem kids : Kids Try.prog (· < Try.prog.types.size) := kids_rows (by kernel_rfl) (by kernel_rfl)
theorem full : ∀ t e, t < Try.prog.types.size → Try.prog.underlying t = some (.slice e) → 0 < Try.prog.cellsOf e := slices_full_of Try.prog (by kernel_rfl)

theorem lifted (os : Os) (started : os.Started) (H : Type) (enc : TypeId × Value → H) :
    ReturnsInHanded {} Try.checked os 9 .any (Rows.fnExactDeeperSpec.pre6 enc Try.prog Try.f9 Rows.fnExactDeeperRow.domain false) (Rows.fnExactDeeperSpec.post enc Try.prog Try.f9 false true false false) := by
  refine returnsInHanded_of_change (C := Try.checked) own started (by kernel_rfl) Try.func9
    (ChangeSpec.witness6 (enc := enc) (C := Try.checked) false ⟨#[], #[.slice none 0 0, .int .i64 0], []⟩ 8 (by kernel_rfl) (by kernel_rfl) (by kernel_rfl) (by kernel_rfl)) ?_
  intro W base args ds gs before hval0 hW hcnd _
  have hval : ∀ (j : Nat) t v, Try.f9.params[j]? = some t → args[j]? = some v → Value.okWide Try.prog W .any base t v := hval0
  have hW' := hW
  obtain ⟨p, q, hA0, hV, rfl, hfz, hnd⟩ := hW
  have hA : DataW.TrodAll enc Try.prog W 0 (fun _ => true) true Try.f9.params.toList args.toList ds p := hA0
  rw [Try.params9] at hA hval
  have hA1 := hA
  obtain ⟨v0, vs0, d0, ds0, p0, q0, hargs, rfl, rfl, h0, r0⟩ := trodAll_cons hA
  obtain ⟨v1, vs1, d1, ds1, p1, q1, rfl, rfl, rfl, h1, r1⟩ := trodAll_cons r0
  obtain ⟨rfl, rfl, rfl⟩ := trodAll_nil r1
  obtain rfl : args = #[v0, v1] := by cases args; simp_all
  have hA2 : DataW.TrodAll enc Try.prog W 0 (fun _ => true) true [49, 3] [v0, v1] [d0, d1] (p0 ++ (p1 ++ [])) := hA1
  obtain ⟨rfl, rfl⟩ := trodVars_none hV
  obtain ⟨fu0, hf0⟩ := h0
  obtain ⟨a0, k0, c0⟩ := (Reader.slice Try.underlying49 read81 4 (by kernel_rfl) (by decide) (fun _ => rfl)) enc W fu0 _ _ hf0
  obtain ⟨s0, l0, m0, rfl⟩ := okWide_slice Try.underlying49 (hval 0 49 v0 rfl rfl)
  obtain ⟨fu1, hf1⟩ := h1
  obtain ⟨a1, k1, c1⟩ := (Reader.i64 Try.underlying3) enc W fu1 _ _ hf1
  obtain ⟨n1, rfl⟩ := okWide_int Try.underlying3 (hval 1 3 v1 rfl rfl)
  have hlt : ∀ b, blocksOf (p0 ++ (p1 ++ [])) b → b < W.heap.size := by
    rintro b ⟨m, hm, rfl⟩
    exact DataW.TrodAll.lt hA1 m (by simpa using hm)
  obtain ⟨N, hN⟩ := plain a0 a1 k0 k1
  refine (AC.below (m_laws_FnExactDeeper_ok N a0 a1 hN) (blocksOf (p0 ++ (p1 ++ []))) hlt rfl fun i x hx => ?_).mono ?_
  · match i with
    | 0 =>
      simp only [List.getElem?_cons_succ, List.getElem?_cons_zero, Option.some.injEq] at hx
      subst hx
      exact argOne rfl (c0 _ fun p hp => ⟨p, by simp [hp], rfl⟩)
    | 1 =>
      simp only [List.getElem?_cons_succ, List.getElem?_cons_zero, Option.some.injEq] at hx
      subst hx
      exact argOne rfl (c1 _ fun p hp => ⟨p, by simp [hp], rfl⟩)
    | i + 2 => simp at hx
  · rintro e W' ⟨x, S', rfl, hx, hb⟩
    have hxt := hx.c_inv
    subst hxt
    exact ⟨_, rfl, Av.post_of_below (pa := (p0 ++ (p1 ++ []))) (pv := []) hW' (fun _ _ _ => (trodAll_cons_mk (shut_bool Try.underlying4 _) trodAll_mk0))
      (fun sp hsp => args_kept kids full hb (by decide +kernel) hA2 (fun m hm => hsp m (by simpa using hm))) (fun _ _ => rfl) (by simp) hb (ok_one (by kernel_rfl) rfl (okWide_bool_mk Try.underlying4 _))⟩

theorem over : Rows.fnExactDeeperRow.holds Try.pinned (OpenSpec.ofChange Rows.fnExactDeeperSpec) :=
  OpenClaim.holds_of_wide 9 Try.f9 rfl rfl rfl rfl rfl rfl rfl ⟨rfl, rfl, rfl, rfl, rfl⟩ rfl rfl rfl rfl rfl (by kernel_rfl) Try.func9 (by kernel_rfl)
    (of_decide_eq_true (by kernel_rfl)) (by unfold Func.isWrapper; first | (rw [if_pos (by decide +kernel)]; kernel_rfl) | (rw [if_neg (by decide +kernel)]; exact ⟨rfl, rfl⟩))
    (fun os started H enc _ => lifted os started H enc)

/-- the statement -/
theorem proved : Rows.FnExactDeeperSaid :=
  over
#print axioms proved
end Go.Proofs.Ytjmlnhngemeeaaa.fnExactDeeper
