/-
  ExactJoined: for all arguments the law returns true: the program's function returns what the reference's returns.
  No condition.
-/
import Derived.Test.YtjmlnhngemeeaaaRows
import Derived.WalkKit
import Derived.ProofKit
import Derived.OpenShut
import Derived.Test.YtjmlnhngemeeaaaW3
import Derived.Test.YtjmlnhngemeeaaaP3
import Derived.Test.YtjmlnhngemeeaaaCore31
namespace Go.Proofs.Ytjmlnhngemeeaaa.fnExactJoined
open Go.ChangeShapes Go.WideShapes Go.ChangeAt Go.RowKit Go.Av Go.Proofs.Try
set_option linter.unusedVariables false
set_option maxRecDepth 100000

theorem own : ownKnob Try.prog.godebug = none := by kernel_rfl

/-- what is known of it -/
def ok81 (x : SDNode) : Prop := ((Lit.int .i64 x.Kind).wf = true) ∧ ((Lit.int .i64 x.N).wf = true) ∧ (x.Text.length ≤ maxLen) ∧ ((∀ z, z ∈ x.Kids → ((Lit.int .i64 z).wf = true)) ∧ x.Kids.length ≤ maxLen)

theorem read81 : Reader Try.prog 81 (encSDNode false) ok81 := by
  intro H e w fuel cs x h
  obtain ⟨xs, n, rfl, rfl, hl, hxl, hf⟩ := DataW.trod_struct Try.underlying81 h
  have hl : cs.length = 4 := hl.trans (by kernel_rfl)
  have hxl : xs.length = 4 := hxl
  obtain ⟨y0, e0⟩ : ∃ y, xs[0]? = some y := ⟨_, List.getElem?_eq_getElem (by omega)⟩
  have h0 : DataW.trod e Try.prog w 0 (fun _ => true) true n 3 ((cs.drop 0).take (Try.prog.cellsOf 3)) = some y0 := (hf 0 _ rfl).trans e0
  have c0 : Try.prog.cellsOf 3 = 1 := by kernel_rfl
  rw [c0] at h0
  obtain ⟨a0, k0, r0⟩ := (Reader.i64 Try.underlying3) e w n _ _ h0
  obtain ⟨y1, e1⟩ : ∃ y, xs[1]? = some y := ⟨_, List.getElem?_eq_getElem (by omega)⟩
  have h1 : DataW.trod e Try.prog w 0 (fun _ => true) true n 3 ((cs.drop 1).take (Try.prog.cellsOf 3)) = some y1 := (hf 1 _ rfl).trans e1
  have c1 : Try.prog.cellsOf 3 = 1 := by kernel_rfl
  rw [c1] at h1
  obtain ⟨a1, k1, r1⟩ := (Reader.i64 Try.underlying3) e w n _ _ h1
  obtain ⟨y2, e2⟩ : ∃ y, xs[2]? = some y := ⟨_, List.getElem?_eq_getElem (by omega)⟩
  have h2 : DataW.trod e Try.prog w 0 (fun _ => true) true n 9 ((cs.drop 2).take (Try.prog.cellsOf 9)) = some y2 := (hf 2 _ rfl).trans e2
  have c2 : Try.prog.cellsOf 9 = 1 := by kernel_rfl
  rw [c2] at h2
  obtain ⟨a2, k2, r2⟩ := (Reader.str Try.underlying9) e w n _ _ h2
  obtain ⟨y3, e3⟩ : ∃ y, xs[3]? = some y := ⟨_, List.getElem?_eq_getElem (by omega)⟩
  have h3 : DataW.trod e Try.prog w 0 (fun _ => true) true n 22 ((cs.drop 3).take (Try.prog.cellsOf 22)) = some y3 := (hf 3 _ rfl).trans e3
  have c3 : Try.prog.cellsOf 22 = 1 := by kernel_rfl
  rw [c3] at h3
  obtain ⟨a3, k3, r3⟩ := (Reader.slice Try.underlying22 (Reader.i64 Try.underlying3) 1 (by kernel_rfl) (by decide) (fun _ => rfl)) e w n _ _ h3
  refine ⟨⟨a0, a1, a2, a3⟩, ⟨k0, k1, k2, k3⟩, fun S hS => ?_⟩
  have hcs : cs = (cs.drop 0).take 1 ++ ((cs.drop 1).take 1 ++ ((cs.drop 2).take 1 ++ ((cs.drop 3).take 1 ++ []))) := by
    match cs, hl with
    | [x0, x1, x2, x3], _ => rfl
  rw [hcs]
  exact CellsR.append (r0 S fun p hp => hS p (List.mem_flatMap.2 ⟨y0, List.mem_of_getElem? e0, hp⟩)) (CellsR.append (r1 S fun p hp => hS p (List.mem_flatMap.2 ⟨y1, List.mem_of_getElem? e1, hp⟩)) (CellsR.append (r2 S fun p hp => hS p (List.mem_flatMap.2 ⟨y2, List.mem_of_getElem? e2, hp⟩)) (CellsR.append (r3 S fun p hp => hS p (List.mem_flatMap.2 ⟨y3, List.mem_of_getElem? e3, hp⟩)) (CellsR.nil))))

def lawJ (N : Nat) (sp im : List SDNode → List SDNode → Option (List SDNode)) (a0 a1 : List SDNode) : Option Bool :=
  Option.bind (m_laws_szDNodeS N a0 1048576) fun r2 => bif (decide (r2 < 0)) then some true else (Option.bind (m_laws_szDNodeS N a1 r2) fun r4 => bif (decide (r4 < 0)) then some true else (Option.bind (m_laws_toDNodeS N a0) fun r8 => Option.bind (m_laws_toDNodeS N a1) fun r9 => Option.bind (sp r8 r9) fun r10 => Option.bind (m_laws_toDNodeS N a0) fun r12 => Option.bind (m_laws_toDNodeS N a1) fun r14 => Option.bind (im r12 r14) fun r16 => Option.bind (m_laws_eqDNodeS N r16 r10) fun r20 => bif (!r20) then some false else (Option.bind (m_laws_toDNodeS N a0) fun r27 => Option.bind (m_laws_eqDNodeS N r12 r27) fun r28 => bif (!r28) then some false else (Option.bind (m_laws_toDNodeS N a1) fun r35 => Option.bind (m_laws_eqDNodeS N r14 r35) fun r36 => bif (!r36) then some false else (Option.bind (m_laws_markDNodeS N 1 r12) fun r38 => Option.bind (m_laws_markDNodeS N r38.1 r14) fun r40 => Option.bind (bif (decide (r40.1 < 0)) then some true else (Option.bind (m_laws_eqDNodeS N r16 r10) fun r46 => some (!r46))) fun y45 => bif y45 then some false else (Option.bind (m_laws_markDNodeS N 1 r16) fun r48 => Option.bind (m_laws_heldDNodeS N r48.2 1) fun r50 => bif (decide (r50 < 0)) then some false else (bif (r50 != r48.1) then some false else (Option.bind (m_laws_toDNodeS N a0) fun r54 => Option.bind (m_laws_toDNodeS N a1) fun r55 => Option.bind (im r54 r55) fun r56 => Option.bind (m_laws_eqDNodeS N r56 r10) fun r60 => bif (!r60) then some false else (Option.bind (m_laws_heldDNodeS N r48.2 1) fun r62 => bif (decide (r62 < 0)) then some false else (bif (r62 != r48.1) then some false else (some true)))))))))))

theorem lawJ_is (N : Nat) (sp im : List SDNode → List SDNode → Option (List SDNode)) (a a' : List SDNode) (hN : a.length < N) (hN1 : a'.length < N) (hN2 : 1048577 < N) (hl : a.length ≤ maxLen) (ha : ∀ x, x ∈ a → okDNode x) (hl' : a'.length ≤ maxLen) (ha' : ∀ x, x ∈ a' → okDNode x)
    (both : a.length ≤ 1048576 → (∀ x, x ∈ a → smDNode x) → a'.length ≤ 1048576 → (∀ x, x ∈ a' → smDNode x) → ∃ b, sp a a' = some b ∧ im a a' = some b ∧ b.length ≤ 1048576 ∧ ∀ x, x ∈ b → smDNode x) : lawJ N sp im a a' = some true := by
  obtain ⟨r, hr, hc⟩ := szDNodeS_is N a hN hl ha 1048576 (by omega) (by omega)
  unfold lawJ
  rw [hr, Option.bind_some]
  rcases hc with ⟨hc, _⟩ | ⟨hc, h0⟩
  · simp [hc]
  · have hs := smDNode_of a (by omega)
    have hla : a.length ≤ 1048576 := by omega
    have hn : decide (r < 0) = false := by simp; omega
    obtain ⟨r', hr', hc'⟩ := szDNodeS_is N a' hN1 hl' ha' r (by omega) (by omega)
    rw [hn, cond_false, hr', Option.bind_some]
    rcases hc' with ⟨hc', _⟩ | ⟨hc', h0'⟩
    · simp [hc']
    · have hs' := smDNode_of a' (by omega)
      have hla' : a'.length ≤ 1048576 := by omega
      have hn' : decide (r' < 0) = false := by simp; omega
      obtain ⟨b, b1, b2, b3, b4⟩ := both hla hs hla' hs'
      have hto := toDNodeS_is N a (by omega) hla hs
      have hea := eqDNodeS_self N a (by omega) hla hs
      have hto' := toDNodeS_is N a' (by omega) hla' hs'
      have hea' := eqDNodeS_self N a' (by omega) hla' hs'
      have heb := eqDNodeS_self N b (by omega) b3 b4
      obtain ⟨k1, a1, m1, m2, m3, m4⟩ := markD_of N 1 a (by omega) hla hs (by omega) (by omega)
      obtain ⟨k3, a3, o1, o2, o3, o4⟩ := markD_of N k1 a' (by omega) hla' hs' (by omega) (by omega)
      obtain ⟨k2, b5, n1, n2, n3, n4⟩ := markD_of N 1 b (by omega) b3 b4 (by omega) (by omega)
      have d1 : decide (k3 < 0) = false := by simp; omega
      have d2 : decide (k2 < 0) = false := by simp; omega
      simp only [hn', cond_false, hto, hto', Option.bind_some, b1, b2, heb, hea, hea', Bool.not_true, m1, o1, n1, n4, d1, d2, bne_self_eq_false]

theorem over_two (N : Nat) (k n : Int) (a b : List SDNode) (hN : 1048577 < N) (ha : a.length ≤ 4000) (h1 : 1 ≤ a.length) (hs : ∀ x, x ∈ a → smDNode x) (hd : docB a = true) (hb : b.length ≤ 4000) (h1' : 1 ≤ b.length) (hs' : ∀ x, x ∈ b → smDNode x) (hd' : docB b = true) :
    m_spec_l15Over N k n [a, b] = some (a ++ b.map (shD a.length) ++ [⟨k, n, [], [(a.length : Int) - 1, (a.length : Int) + b.length - 1]⟩]) := by
  unfold m_spec_l15Over
  obtain ⟨M, rfl⟩ : ∃ m, N = m + 3 := ⟨N - 3, by omega⟩
  rw [m_spec_l15Over_l1]
  have hsh := shift0_is (M + 3) a hN (by omega) hs hd
  have hsh' := shift_is (M + 3) b (a.length : Int) hN (by omega) hs' (fun x hx k hk => by have := docB_kids hd' x hx k hk; omega)
  have e0 : ix [a, b] 0 = some a := rfl
  have e1 : ix [a, b] 1 = some b := rfl
  simp only [List.length_nil, List.length_cons, Int.natCast_zero] at hsh ⊢
  have c1 : decide ((0 : Int) < ((0 + 1 + 1 : Nat) : Int)) = true := rfl
  have c2 : IntKind.wrap .i64 ((0 : Int) + 1) = 1 := rfl
  have c3 : decide ((1 : Int) < ((0 + 1 + 1 : Nat) : Int)) = true := rfl
  have c4 : IntKind.wrap .i64 ((1 : Int) + 1) = 2 := rfl
  have c5 : decide ((2 : Int) < ((0 + 1 + 1 : Nat) : Int)) = false := rfl
  simp only [c1, cond_true, e0, Option.bind_some]
  rw [hsh, Option.bind_some, app_some (by simp; omega), Option.bind_some, List.nil_append, wrap64 (n := (a.length : Int) - 1) (by omega) (by omega), app_some (by simp), Option.bind_some, c2, m_spec_l15Over_l1]
  simp only [List.length_nil, List.length_cons, c3, cond_true, e1, Option.bind_some]
  rw [hsh', Option.bind_some, app_some (by simp; omega), Option.bind_some]
  have el : (a ++ b.map (shD (a.length : Int))).length = a.length + b.length := by simp
  rw [el, wrap64 (n := ((a.length + b.length : Nat) : Int) - 1) (by omega) (by omega), app_some (by simp), Option.bind_some, c4, m_spec_l15Over_l1]
  simp only [List.length_nil, List.length_cons, c5, cond_false]
  rw [app_some (by simp; omega)]
  simp

theorem sh_small (d : Int) (a : List SDNode) (hs : ∀ x, x ∈ a → smDNode x) : ∀ x, x ∈ a.map (shD d) → smDNode x := by
  intro x hx
  obtain ⟨y, hy, rfl⟩ := List.mem_map.1 hx
  have := hs y hy
  unfold smDNode at *
  simpa [shD] using this

theorem list_two (N : Nat) (a b : List SDNode) (t u : SDoc) (hN : 100000 < N) (ha : a.length ≤ 4000) (h1 : 1 ≤ a.length) (hb : b.length ≤ 4000) (h1' : 1 ≤ b.length) (ht : Go.Proofs.Try.Good a t 0 a.length) (hu : Go.Proofs.Try.Good b u 0 b.length) :
    m_impl_doc__list N ⟨6, 0, [], [t, u], 0⟩ = some (a ++ b.map (shD a.length) ++ [⟨6, 0, [], [(a.length : Int) - 1, (a.length : Int) + b.length - 1]⟩]) := by
  unfold m_impl_doc__list
  obtain ⟨M, rfl⟩ : ∃ m, N = m + 4 := ⟨N - 4, by omega⟩
  have e7 : a.map (shD (((([] : List SDNode).length : Nat) : Int) - ((0 : Nat) : Int))) = a := (List.map_congr_left fun x _ => shD_zero x).trans (List.map_id a)
  have h2 := ht (M + 3) [] (by omega) (by simp; omega)
  rw [part_all, e7, List.nil_append] at h2
  have h3 := hu (M + 3) a (by omega) (by omega)
  rw [part_all] at h3
  have h2' : (scc2 (M + 3)).m_impl_doc__add t [] = some a := h2
  have h3' : (scc2 (M + 3)).m_impl_doc__add u a = _ := h3
  have e9 : (a.length : Int) - ((0 : Nat) : Int) = a.length := by omega
  rw [e9] at h3'
  have e0 : ix [t, u] 0 = some t := rfl
  have e1 : ix [t, u] 1 = some u := rfl
  have c1 : decide ((0 : Int) < ((0 + 1 + 1 : Nat) : Int)) = true := rfl
  have c2 : IntKind.wrap .i64 ((0 : Int) + 1) = 1 := rfl
  have c3 : decide ((1 : Int) < ((0 + 1 + 1 : Nat) : Int)) = true := rfl
  have c4 : IntKind.wrap .i64 ((1 : Int) + 1) = 2 := rfl
  have c5 : decide ((2 : Int) < ((0 + 1 + 1 : Nat) : Int)) = false := rfl
  have hstep : m_impl_doc__add_l1 (M + 3) (scc2 (M + 3)) (M + 3) (⟨6, 0, [], [t, u], 0⟩, 0, [], []) = some (a ++ b.map (shD a.length) ++ [⟨6, 0, [], [(a.length : Int) - 1, (a.length : Int) + b.length - 1]⟩]) := by
    rw [m_impl_doc__add_l1]
    simp only [List.length_nil, List.length_cons, c1, cond_true, e0, Option.bind_some, h2', c2]
    rw [wrap64 (n := (a.length : Int) - 1) (by omega) (by omega), app_some (by simp), Option.bind_some, m_impl_doc__add_l1]
    simp only [List.length_nil, List.length_cons, c3, cond_true, e1, Option.bind_some, h3', c4]
    have el : (a ++ b.map (shD (a.length : Int))).length = a.length + b.length := by simp
    rw [el, wrap64 (n := ((a.length + b.length : Nat) : Int) - 1) (by omega) (by omega), app_some (by simp), Option.bind_some, m_impl_doc__add_l1]
    simp only [List.length_nil, List.length_cons, c5, cond_false]
    rw [app_some (by simp; omega)]
    simp
  have h6 : m_impl_doc__add (M + 4) ⟨6, 0, [], [t, u], 0⟩ [] = _ := hstep
  rw [h6, Option.bind_some]

theorem both (N : Nat) (a b : List SDNode) (hN : 1048577 < N) (ha : a.length ≤ 1048576) (hs : ∀ x, x ∈ a → smDNode x) (hb : b.length ≤ 1048576) (hs' : ∀ x, x ∈ b → smDNode x) : ∃ c, m_spec_Joined N a b = some c ∧ m_impl_Joined N a b = some c ∧ c.length ≤ 1048576 ∧ ∀ x, x ∈ c → smDNode x := by
  unfold m_spec_Joined m_impl_Joined
  rw [specOk_is N a hN ha hs, implOk_is N a hN ha hs, specOk_is N b hN hb hs', implOk_is N b hN hb hs']
  cases hd : docB a with
  | false => exact ⟨[], rfl, rfl, by simp, fun x hx => by cases hx⟩
  | true =>
    cases hd' : docB b with
    | false => exact ⟨[], rfl, rfl, by simp, fun x hx => by cases hx⟩
    | true =>
      obtain ⟨⟨h1, h2⟩, _⟩ := docB_shape hd
      obtain ⟨⟨h1', h2'⟩, _⟩ := docB_shape hd'
      simp only [Option.bind_some, Bool.not_true, cond_false]
      rw [wrap64 (n := (a.length : Int) + b.length) (by omega) (by omega), wrap64 (n := (a.length : Int) + b.length + 1) (by omega) (by omega)]
      by_cases h4 : a.length + b.length ≥ 4000
      · have e1 : decide ((a.length : Int) + b.length ≥ 4000) = true := by simp; omega
        have e2 : decide ((a.length : Int) + b.length + 1 > 4000) = true := by simp; omega
        simp only [e1, e2, cond_true]
        exact ⟨[], rfl, rfl, by simp, fun x hx => by cases hx⟩
      · have e1 : decide ((a.length : Int) + b.length ≥ 4000) = false := by simp; omega
        have e2 : decide ((a.length : Int) + b.length + 1 > 4000) = false := by simp; omega
        simp only [e1, e2, cond_false]
        obtain ⟨t, ht, hg⟩ := docOf_is N a (by omega) hd
        obtain ⟨u, hu, hg'⟩ := docOf_is N b (by omega) hd'
        rw [over_two N 6 0 a b hN h2 h1 hs hd h2' h1' hs' hd', ht, hu]
        refine ⟨_, rfl, ?_, by simp; omega, ?_⟩
        · simp only [Option.bind_some, m_impl_cat]
          rw [list_two N a b t u (by omega) h2 h1 h2' h1' hg hg', Option.bind_some]
        · intro x hx
          rcases List.mem_append.1 hx with hx | hx
          · rcases List.mem_append.1 hx with hx | hx
            · exact hs x hx
            · exact sh_small _ b hs' x hx
          · simp only [List.mem_singleton] at hx
            subst hx
            unfold smDNode
            simp

theorem plain (x y : List SDNode) (kx : (∀ z, z ∈ x → ok81 z) ∧ x.length ≤ maxLen) (ky : (∀ z, z ∈ y → ok81 z) ∧ y.length ≤ maxLen) : ∃ N, m_laws_FnExactJoined N x y = some true := by
  obtain ⟨kz, kl⟩ := kx
  obtain ⟨jz, jl⟩ := ky
  refine ⟨x.length + y.length + 1048578, ?_⟩
  exact lawJ_is (x.length + y.length + 1048578) (m_spec_Joined _) (m_impl_Joined _) x y (by omega) (by omega) (by omega) kl (fun z hz => by obtain ⟨_, _, ht, _, hk⟩ := kz z hz; exact ⟨ht, hk⟩) jl (fun z hz => by obtain ⟨_, _, ht, _, hk⟩ := jz z hz; exact ⟨ht, hk⟩) fun ha hs hb hs' => both _ x y (by omega) ha hs hb hs'


theorem kids : Kids Try.prog (· < Try.prog.types.size) := kids_rows (by kernel_rfl) (by kernel_rfl)
theorem full : ∀ t e, t < Try.prog.types.size → Try.prog.underlying t = some (.slice e) → 0 < Try.prog.cellsOf e := slices_full_of Try.prog (by kernel_rfl)

theorem lifted (os : Os) (started : os.Started) (H : Type) (enc : TypeId × Value → H) :
    ReturnsInHanded {} Try.checked os 10 .any (Rows.fnExactJoinedSpec.pre6 enc Try.prog Try.f10 Rows.fnExactJoinedRow.domain false) (Rows.fnExactJoinedSpec.post enc Try.prog Try.f10 false true false false) := by
  refine returnsInHanded_of_change (C := Try.checked) own started (by kernel_rfl) Try.func10
    (ChangeSpec.witness6 (enc := enc) (C := Try.checked) false ⟨#[], #[.slice none 0 0, .slice none 0 0], []⟩ 8 (by kernel_rfl) (by kernel_rfl) (by kernel_rfl) (by kernel_rfl)) ?_
  intro W base args ds gs before hval0 hW hcnd _
  have hval : ∀ (j : Nat) t v, Try.f10.params[j]? = some t → args[j]? = some v → Value.okWide Try.prog W .any base t v := hval0
  have hW' := hW
  obtain ⟨p, q, hA0, hV, rfl, hfz, hnd⟩ := hW
  have hA : DataW.TrodAll enc Try.prog W 0 (fun _ => true) true Try.f10.params.toList args.toList ds p := hA0
  rw [Try.params10] at hA hval
  have hA1 := hA
  obtain ⟨v0, vs0, d0, ds0, p0, q0, hargs, rfl, rfl, h0, r0⟩ := trodAll_cons hA
  obtain ⟨v1, vs1, d1, ds1, p1, q1, rfl, rfl, rfl, h1, r1⟩ := trodAll_cons r0
  obtain ⟨rfl, rfl, rfl⟩ := trodAll_nil r1
  obtain rfl : args = #[v0, v1] := by cases args; simp_all
  have hA2 : DataW.TrodAll enc Try.prog W 0 (fun _ => true) true [49, 49] [v0, v1] [d0, d1] (p0 ++ (p1 ++ [])) := hA1
  obtain ⟨rfl, rfl⟩ := trodVars_none hV
  obtain ⟨fu0, hf0⟩ := h0
  obtain ⟨a0, k0, c0⟩ := (Reader.slice Try.underlying49 read81 4 (by kernel_rfl) (by decide) (fun _ => rfl)) enc W fu0 _ _ hf0
  obtain ⟨s0, l0, m0, rfl⟩ := okWide_slice Try.underlying49 (hval 0 49 v0 rfl rfl)
  obtain ⟨fu1, hf1⟩ := h1
  obtain ⟨a1, k1, c1⟩ := (Reader.slice Try.underlying49 read81 4 (by kernel_rfl) (by decide) (fun _ => rfl)) enc W fu1 _ _ hf1
  obtain ⟨s1, l1, m1, rfl⟩ := okWide_slice Try.underlying49 (hval 1 49 v1 rfl rfl)
  have hlt : ∀ b, blocksOf (p0 ++ (p1 ++ [])) b → b < W.heap.size := by
    rintro b ⟨m, hm, rfl⟩
    exact DataW.TrodAll.lt hA1 m (by simpa using hm)
  obtain ⟨N, hN⟩ := plain a0 a1 k0 k1
  refine (AC.below (m_laws_FnExactJoined_ok N a0 a1 hN) (blocksOf (p0 ++ (p1 ++ []))) hlt rfl fun i x hx => ?_).mono ?_
  · match i with
    | 0 =>
      simp only [List.getElem?_cons_succ, List.getElem?_cons_zero, Option.some.injEq] at hx
      subst hx
      exact argOne rfl (c0 _ fun p hp => ⟨p, by simp [hp], rfl⟩)
    | 1 =>
      simp only [List.getElem?_cons_succ, List.getElem?_cons_zero, Option.some.injEq] at hx
      subst hx
      exact argOne rfl (c1 _ fun p hp => ⟨p, by simp [hp], rfl⟩)
    | i + 2 => simp at hx
  · rintro e W' ⟨x, S', rfl, hx, hb⟩
    have hxt := hx.c_inv
    subst hxt
    exact ⟨_, rfl, Av.post_of_below (pa := (p0 ++ (p1 ++ []))) (pv := []) hW' (fun _ _ _ => (trodAll_cons_mk (shut_bool Try.underlying4 _) trodAll_mk0))
      (fun sp hsp => args_kept kids full hb (by decide +kernel) hA2 (fun m hm => hsp m (by simpa using hm))) (fun _ _ => rfl) (by simp) hb (ok_one (by kernel_rfl) rfl (okWide_bool_mk Try.underlying4 _))⟩

theorem over : Rows.fnExactJoinedRow.holds Try.pinned (OpenSpec.ofChange Rows.fnExactJoinedSpec) :=
  OpenClaim.holds_of_wide 10 Try.f10 rfl rfl rfl rfl rfl rfl rfl ⟨rfl, rfl, rfl, rfl, rfl⟩ rfl rfl rfl rfl rfl (by kernel_rfl) Try.func10 (by kernel_rfl)
    (of_decide_eq_true (by kernel_rfl)) (by unfold Func.isWrapper; first | (rw [if_pos (by decide +kernel)]; kernel_rfl) | (rw [if_neg (by decide +kernel)]; exact ⟨rfl, rfl⟩))
    (fun os started H enc _ => lifted os started H enc)

/-- the statement -/
theorem proved : Rows.FnExactJoinedSaid :=
  over
#print axioms proved
end Go.Proofs.Ytjmlnhngemeeaaa.fnExactJoined
