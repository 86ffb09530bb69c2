/-
  ExactHeadOf: for all arguments the law returns true: the program's function returns what the reference's returns.
  The tables that the row lists are tied to the program's text.
-/
import Derived.Test.YtgnkbpkhbcmhlaaGreatDoorRows
import Derived.Test.YtgnkbpkhbcmhlaaGreatDoorCards
import Derived.Test.YtgnkbpkhbcmhlaaGreatDoorTie
import Derived.WalkKit
import Derived.ProofKit
import Derived.OpenShut
import Derived.Lay
import Derived.MakeChecks
import Derived.SevenTiedAt
import Derived.Test.YtgnkbpkhbcmhlaaGreatDoorHoVW6
import Derived.Test.YtgnkbpkhbcmhlaaGreatDoorHoVP12
import Derived.Test.YtgnkbpkhbcmhlaaGreatDoorVCore5
namespace Go.Proofs.YtgnkbpkhbcmhlaaGreatDoor.fnExactHeadOf
open Go.ChangeShapes Go.WideShapes Go.ChangeAt Go.RowKit Go.Av Go.Proofs.Tryz
set_option linter.unusedVariables false
set_option linter.unusedSimpArgs false
set_option maxRecDepth 100000

theorem own : ownKnob Tryz.prog.godebug = none := by kernel_rfl
theorem laidOut : laidOutB Tryz.prog = true := by kernel_rfl

/-- what is known of it -/
def ok43 (x : SNode) : Prop := ((Lit.int .i64 x.Kind).wf = true) ∧ ((Lit.int .i64 x.Op).wf = true) ∧ (x.Text.length ≤ maxLen) ∧ (x.Other.length ≤ maxLen) ∧ ((∀ z, z ∈ x.Kids → ((Lit.int .i64 z).wf = true)) ∧ x.Kids.length ≤ maxLen)

theorem read43 : Reader Tryz.prog 43 (eSN false) ok43 := by
  intro H e w fuel cs x h
  obtain ⟨xs, n, rfl, rfl, hl, hxl, hf⟩ := DataW.trod_struct Tryz.underlying43 h
  have hl : cs.length = 5 := hl.trans (by kernel_rfl)
  have hxl : xs.length = 5 := hxl
  obtain ⟨y0, e0⟩ : ∃ y, xs[0]? = some y := ⟨_, List.getElem?_eq_getElem (by omega)⟩
  have h0 : DataW.trod e Tryz.prog w 0 (fun _ => true) true n 3 ((cs.drop 0).take (Tryz.prog.cellsOf 3)) = some y0 := (hf 0 _ rfl).trans e0
  have c0 : Tryz.prog.cellsOf 3 = 1 := by kernel_rfl
  rw [c0] at h0
  obtain ⟨a0, k0, r0⟩ := (Reader.i64 Tryz.underlying3) e w n _ _ h0
  obtain ⟨y1, e1⟩ : ∃ y, xs[1]? = some y := ⟨_, List.getElem?_eq_getElem (by omega)⟩
  have h1 : DataW.trod e Tryz.prog w 0 (fun _ => true) true n 3 ((cs.drop 1).take (Tryz.prog.cellsOf 3)) = some y1 := (hf 1 _ rfl).trans e1
  have c1 : Tryz.prog.cellsOf 3 = 1 := by kernel_rfl
  rw [c1] at h1
  obtain ⟨a1, k1, r1⟩ := (Reader.i64 Tryz.underlying3) e w n _ _ h1
  obtain ⟨y2, e2⟩ : ∃ y, xs[2]? = some y := ⟨_, List.getElem?_eq_getElem (by omega)⟩
  have h2 : DataW.trod e Tryz.prog w 0 (fun _ => true) true n 9 ((cs.drop 2).take (Tryz.prog.cellsOf 9)) = some y2 := (hf 2 _ rfl).trans e2
  have c2 : Tryz.prog.cellsOf 9 = 1 := by kernel_rfl
  rw [c2] at h2
  obtain ⟨a2, k2, r2⟩ := (Reader.str Tryz.underlying9) e w n _ _ h2
  obtain ⟨y3, e3⟩ : ∃ y, xs[3]? = some y := ⟨_, List.getElem?_eq_getElem (by omega)⟩
  have h3 : DataW.trod e Tryz.prog w 0 (fun _ => true) true n 9 ((cs.drop 3).take (Tryz.prog.cellsOf 9)) = some y3 := (hf 3 _ rfl).trans e3
  have c3 : Tryz.prog.cellsOf 9 = 1 := by kernel_rfl
  rw [c3] at h3
  obtain ⟨a3, k3, r3⟩ := (Reader.str Tryz.underlying9) e w n _ _ h3
  obtain ⟨y4, e4⟩ : ∃ y, xs[4]? = some y := ⟨_, List.getElem?_eq_getElem (by omega)⟩
  have h4 : DataW.trod e Tryz.prog w 0 (fun _ => true) true n 41 ((cs.drop 4).take (Tryz.prog.cellsOf 41)) = some y4 := (hf 4 _ rfl).trans e4
  have c4 : Tryz.prog.cellsOf 41 = 1 := by kernel_rfl
  rw [c4] at h4
  obtain ⟨a4, k4, r4⟩ := (Reader.slice Tryz.underlying41 (Reader.i64 Tryz.underlying3) 1 (by kernel_rfl) (by decide) (fun _ => rfl)) e w n _ _ h4
  refine ⟨⟨a0, a1, a2, a3, a4⟩, ⟨k0, k1, k2, k3, k4⟩, fun S hS => ?_⟩
  have hcs : cs = (cs.drop 0).take 1 ++ ((cs.drop 1).take 1 ++ ((cs.drop 2).take 1 ++ ((cs.drop 3).take 1 ++ ((cs.drop 4).take 1 ++ [])))) := by
    match cs, hl with
    | [x0, x1, x2, x3, x4], _ => rfl
  rw [hcs]
  exact CellsR.append (r0 S fun p hp => hS p (List.mem_flatMap.2 ⟨y0, List.mem_of_getElem? e0, hp⟩)) (CellsR.append (r1 S fun p hp => hS p (List.mem_flatMap.2 ⟨y1, List.mem_of_getElem? e1, hp⟩)) (CellsR.append (r2 S fun p hp => hS p (List.mem_flatMap.2 ⟨y2, List.mem_of_getElem? e2, hp⟩)) (CellsR.append (r3 S fun p hp => hS p (List.mem_flatMap.2 ⟨y3, List.mem_of_getElem? e3, hp⟩)) (CellsR.append (r4 S fun p hp => hS p (List.mem_flatMap.2 ⟨y4, List.mem_of_getElem? e4, hp⟩)) (CellsR.nil)))))

theorem plain (a : LN) (i : Int) (ka : (∀ z, z ∈ a → ok43 z) ∧ a.length ≤ maxLen) (ki : (Lit.int .i64 i).wf = true) : ∃ N, ml_FnExactHeadOf N a i = some true := by
  obtain ⟨za, la⟩ := ka
  refine ⟨a.length + 2083578, ?_⟩
  obtain ⟨N, hN⟩ : ∃ N, N = a.length + 2083578 := ⟨_, rfl⟩
  rw [← hN]
  unfold ml_FnExactHeadOf
  obtain ⟨r, r1, r2⟩ := szNodeS_is N a (by omega) la (fun z hz => by obtain ⟨_, _, h1, h2, _, h3⟩ := za z hz; exact ⟨h1, h2, h3⟩) 1048576 (by omega) (by omega)
  rw [r1, Option.bind_some]
  rcases r2 with ⟨r2, _⟩ | ⟨r2, r0⟩
  · have : decide (r < 0) = true := by simpa using r2
    rw [this]; rfl
  · have d0 : decide (r < 0) = false := by simp; omega
    have hsa := smNode_of a (by omega)
    have ha : a.length ≤ 1048576 := by omega
    obtain ⟨b, b1, b2⟩ := headOf_ex N a i (by omega) hsa
    have ta := toNodeS_is N a (by omega) ha hsa
    have ea := eqNodeS_self N a (by omega) ha hsa
    simp only [d0, cond_false, ta, Option.bind_some, b1, b2, ea, Bool.not_true, beq_self_eq_true]



theorem kids : Go.Kids Tryz.prog (· < Tryz.prog.types.size) := kids_rows (by kernel_rfl) (by kernel_rfl)
theorem full : ∀ t e, t < Tryz.prog.types.size → Tryz.prog.underlying t = some (.slice e) → 0 < Tryz.prog.cellsOf e := slices_full_of Tryz.prog (by kernel_rfl)

/-- what the row lists -/
def lay : List (String × DataW Unit) := [("loop.example/g01543/impl.keywords", Rows.laid_loop_example_g01543_impl_keywords), ("loop.example/g01543/impl.signs", Rows.laid_loop_example_g01543_impl_signs), ("loop.example/g01543/impl.builtins", Rows.laid_loop_example_g01543_impl_builtins)]

theorem tables {W : World} (h : laidMetH Tryz.prog lay W) : W.var? Tryz.prog "loop.example/g01543/impl.keywords" = some (strCells tab_keywords) ∧ W.var? Tryz.prog "loop.example/g01543/impl.signs" = some (strCells tab_signs) ∧ W.var? Tryz.prog "loop.example/g01543/impl.builtins" = some (strCells tab_builtins) := by
  rw [MakeChecks.laidMetH_plain _ _ _ (by kernel_rfl)] at h
  obtain ⟨ps, ⟨g0, t0, cs0, fuel0, p0, q0, hg0, ht0, hv0, hd0, r0, _⟩, _, _⟩ := h
  obtain ⟨g1, t1, cs1, fuel1, p1, q1, hg1, ht1, hv1, hd1, r1, _⟩ := r0
  obtain ⟨g2, t2, cs2, fuel2, p2, q2, hg2, ht2, hv2, hd2, r2, _⟩ := r1
  obtain rfl := Option.some.inj ((show Tryz.prog.globalNamed "loop.example/g01543/impl.keywords" = some 0 by kernel_rfl).symm.trans hg0)
  obtain rfl := Option.some.inj ((show (Tryz.prog.globals[0]?).map (·.type) = some 138 by kernel_rfl).symm.trans ht0)
  have e0 : cs0 = strCells tab_keywords := strs_of_trod (l := tab_keywords) (p := p0) (by rw [show (DataW.agg (tab_keywords.map fun s => .lit (.string s)) : DataW Unit) = Rows.laid_loop_example_g01543_impl_keywords by kernel_rfl]; exact hd0) Tryz.underlying138 Tryz.underlying9 (by kernel_rfl) (by kernel_rfl)
  rw [e0] at hv0
  obtain rfl := Option.some.inj ((show Tryz.prog.globalNamed "loop.example/g01543/impl.signs" = some 1 by kernel_rfl).symm.trans hg1)
  obtain rfl := Option.some.inj ((show (Tryz.prog.globals[1]?).map (·.type) = some 139 by kernel_rfl).symm.trans ht1)
  have e1 : cs1 = strCells tab_signs := strs_of_trod (l := tab_signs) (p := p1) (by rw [show (DataW.agg (tab_signs.map fun s => .lit (.string s)) : DataW Unit) = Rows.laid_loop_example_g01543_impl_signs by kernel_rfl]; exact hd1) Tryz.underlying139 Tryz.underlying9 (by kernel_rfl) (by kernel_rfl)
  rw [e1] at hv1
  obtain rfl := Option.some.inj ((show Tryz.prog.globalNamed "loop.example/g01543/impl.builtins" = some 2 by kernel_rfl).symm.trans hg2)
  obtain rfl := Option.some.inj ((show (Tryz.prog.globals[2]?).map (·.type) = some 169 by kernel_rfl).symm.trans ht2)
  have e2 : cs2 = strCells tab_builtins := strs_of_trod (l := tab_builtins) (p := p2) (by rw [show (DataW.agg (tab_builtins.map fun s => .lit (.string s)) : DataW Unit) = Rows.laid_loop_example_g01543_impl_builtins by kernel_rfl]; exact hd2) Tryz.underlying169 Tryz.underlying9 (by kernel_rfl) (by kernel_rfl)
  rw [e2] at hv2
  exact ⟨hv0, hv1, hv2⟩

theorem grel {W : World} {S : Nat → Prop} (h0 : W.var? Tryz.prog "loop.example/g01543/impl.keywords" = some (strCells tab_keywords)) (h1 : W.var? Tryz.prog "loop.example/g01543/impl.signs" = some (strCells tab_signs)) (h2 : W.var? Tryz.prog "loop.example/g01543/impl.builtins" = some (strCells tab_builtins)) (s0 : S 0) (s1 : S 1) (s2 : S 2) : GRel (GS [0, 1, 2]) S W := by
  intro g cs hg
  have hc : ([0, 1, 2] : List Nat).contains g = true := by
    cases h : ([0, 1, 2] : List Nat).contains g with
    | true => rfl
    | false => unfold GS at hg; rw [h] at hg; cases hg
  have hm := List.contains_iff_mem.1 hc
  simp only [List.mem_cons, List.mem_nil_iff, or_false] at hm
  rcases hm with rfl | rfl | rfl
  · obtain rfl := Option.some.inj ((show GS [0, 1, 2] 0 = some (tab_keywords.map V.s) by kernel_rfl).symm.trans hg)
    exact grel_strs (show Tryz.prog.globalNamed "loop.example/g01543/impl.keywords" = some 0 by kernel_rfl) h0 s0
  · obtain rfl := Option.some.inj ((show GS [0, 1, 2] 1 = some (tab_signs.map V.s) by kernel_rfl).symm.trans hg)
    exact grel_strs (show Tryz.prog.globalNamed "loop.example/g01543/impl.signs" = some 1 by kernel_rfl) h1 s1
  · obtain rfl := Option.some.inj ((show GS [0, 1, 2] 2 = some (tab_builtins.map V.s) by kernel_rfl).symm.trans hg)
    exact grel_strs (show Tryz.prog.globalNamed "loop.example/g01543/impl.builtins" = some 2 by kernel_rfl) h2 s2

theorem lifted (os : Os) (started : os.Started) (H : Type) (enc : TypeId × Value → H) :
    ReturnsInHanded {} Tryz.checked os 5 .any (fun w args => (Rows.fnExactHeadOfSpec.pre enc Tryz.prog Tryz.f5 Rows.fnExactHeadOfRow.domain false w args ∧ laidMetH Tryz.prog lay w) ∧ sizedMet enc Tryz.prog Tryz.f5 (OpenSpec.ofChange Rows.fnExactHeadOfSpec) false w args) (Rows.fnExactHeadOfSpec.post enc Tryz.prog Tryz.f5 false true false false) := by
  refine returnsInHanded_of_change_and (C := Tryz.checked) (X := fun w _ => laidMetH Tryz.prog lay w) (fun _ _ _ hh h => h.of_heap hh) own started (by kernel_rfl) Tryz.func5
    (ChangeSpec.witness_at (enc := enc) (C := Tryz.checked) (os := os) (X := fun w _ => laidMetH Tryz.prog lay w) false (World.laidAll Tryz.prog os lay) #[.slice none 0 0, .int .i64 0] 12 (World.laidAll_os _ _ _) (by kernel_rfl) (by kernel_rfl) (by kernel_rfl) (by kernel_rfl) (by kernel_rfl)
      (by rw [MakeChecks.laidMetH_plain _ _ _ (by kernel_rfl)]; exact laidMet_laidAll _ (by kernel_rfl) (by kernel_rfl))) ?_
  intro W base args ds gs before hval0 hW hcnd _ hL _
  have hval : ∀ (j : Nat) t v, Tryz.f5.params[j]? = some t → args[j]? = some v → Value.okWide Tryz.prog W .any base t v := hval0
  have hW' := hW
  obtain ⟨p, q, hA0, hV0, rfl, hfz, hnd⟩ := hW
  have hA : DataW.TrodAll enc Tryz.prog W 0 (fun _ => true) true Tryz.f5.params.toList args.toList ds p := hA0
  have hV : DataW.TrodVars enc Tryz.prog W (fun _ => true) ["loop.example/g01543/impl.keywords", "loop.example/g01543/impl.builtins", "loop.example/g01543/impl.signs"] gs q := hV0
  rw [Tryz.params5] at hA hval
  have hA1 := hA
  obtain ⟨v0, vs0, d0, ds0, p0, q0, hargs, rfl, rfl, h0, r0⟩ := trodAll_cons hA
  obtain ⟨v1, vs1, d1, ds1, p1, q1, rfl, rfl, rfl, h1, r1⟩ := trodAll_cons r0
  obtain ⟨rfl, rfl, rfl⟩ := trodAll_nil r1
  obtain rfl : args = #[v0, v1] := by cases args; simp_all
  have hA2 : DataW.TrodAll enc Tryz.prog W 0 (fun _ => true) true [22, 3] [v0, v1] [d0, d1] (p0 ++ (p1 ++ [])) := hA1
  have hgl := vars_len hV
  obtain ⟨y0, y1, y2, rfl⟩ : ∃ y0 y1 y2, gs = [y0, y1, y2] := by
    match gs, hgl with
    | [y0, y1, y2], _ => exact ⟨y0, y1, y2, rfl⟩
  obtain ⟨fu0, hf0⟩ := h0
  obtain ⟨a0, k0, c0⟩ := (Reader.slice Tryz.underlying22 read43 5 (by kernel_rfl) (by decide) (fun _ => rfl)) enc W fu0 _ _ hf0
  obtain ⟨s0, l0, m0, rfl⟩ := okWide_slice Tryz.underlying22 (hval 0 22 v0 rfl rfl)
  obtain ⟨fu1, hf1⟩ := h1
  obtain ⟨a1, k1, c1⟩ := (Reader.i64 Tryz.underlying3) enc W fu1 _ _ hf1
  obtain ⟨n1, rfl⟩ := okWide_int Tryz.underlying3 (hval 1 3 v1 rfl rfl)
  have htab := tables hL
  have tv0 := htab.1
  have tv1 := htab.2.1
  have tv2 := htab.2.2
  have hlt : ∀ b, (fun b => blocksOf (p0 ++ (p1 ++ [])) b ∨ b = 0 ∨ b = 1 ∨ b = 2) b → b < W.heap.size := by
    intro b hb
    rcases hb with ⟨m, hm, rfl⟩ | rfl | rfl | rfl
    · exact DataW.TrodAll.lt hA1 m (by simpa using hm)
    · exact var_lt (show Tryz.prog.globalNamed "loop.example/g01543/impl.keywords" = some 0 by kernel_rfl) tv0
    · exact var_lt (show Tryz.prog.globalNamed "loop.example/g01543/impl.signs" = some 1 by kernel_rfl) tv1
    · exact var_lt (show Tryz.prog.globalNamed "loop.example/g01543/impl.builtins" = some 2 by kernel_rfl) tv2
  obtain ⟨N, hN⟩ := plain a0 a1 k0 k1
  refine (AC.belowG (ml_FnExactHeadOf_ok N a0 a1 hN) (fun b => blocksOf (p0 ++ (p1 ++ [])) b ∨ b = 0 ∨ b = 1 ∨ b = 2) hlt (grel tv0 tv1 tv2 (.inr (.inl rfl)) (.inr (.inr (.inl rfl))) (.inr (.inr (.inr rfl)))) rfl fun i x hx => ?_).mono ?_
  · match i with
    | 0 =>
      simp only [List.getElem?_cons_succ, List.getElem?_cons_zero, Option.some.injEq] at hx
      subst hx
      exact argOne rfl (c0 _ fun p hp => (.inl ⟨p, by simp [hp], rfl⟩))
    | 1 =>
      simp only [List.getElem?_cons_succ, List.getElem?_cons_zero, Option.some.injEq] at hx
      subst hx
      exact argOne rfl (c1 _ fun p hp => (.inl ⟨p, by simp [hp], rfl⟩))
    | i + 2 => simp at hx
  · rintro e W' ⟨x, S', rfl, hx, hb⟩
    have hxt := hx.c_inv
    subst hxt
    exact ⟨_, rfl, Av.post_of_below (pa := (p0 ++ (p1 ++ []))) (pv := q) hW' (fun _ _ _ => (trodAll_cons_mk (shut_bool Tryz.underlying4 _) trodAll_mk0))
      (fun sp hsp => args_kept kids full hb (by decide +kernel) hA2 (fun m hm => hsp m (by simp only [List.mem_append]; exact .inl (by simpa using hm)))) (fun sp hsp => vars_kept laidOut hb (by kernel_rfl) hV (fun m hm => hsp m (by simp [hm]))) (by simp) hb (ok_one (by kernel_rfl) rfl (okWide_bool_mk Tryz.underlying4 _))⟩

theorem over : Rows.fnExactHeadOfRow.holds Tryz.pinned (OpenSpec.ofChange Rows.fnExactHeadOfSpec) :=
  OpenClaim.holds_of_wide 5 Tryz.f5 rfl rfl rfl rfl rfl rfl rfl ⟨rfl, rfl, rfl, rfl, rfl⟩ rfl rfl rfl rfl rfl (by kernel_rfl) Tryz.func5 (by kernel_rfl)
    (of_decide_eq_true (by kernel_rfl)) (by unfold Func.isWrapper; first | (rw [if_pos (by decide +kernel)]; kernel_rfl) | (rw [if_neg (by decide +kernel)]; exact ⟨rfl, rfl⟩))
    (fun os started H enc _ => lifted os started H enc)

/-- the statement -/
theorem proved : Rows.FnExactHeadOfCardSaid :=
  Claim7.holds_tied_plain_at .later [] [.widerDeep, .data, .widerDeep] true (true, "37c7edef56258792f2a09a3e7500d4ac65e9ec8307c92312567383a29f4d8779") false
    over (fun _ h => by cases h) (by kernel_rfl) (fun _ h => by cases h) fnExactHeadOf_row_tie rfl ⟨rfl, rfl⟩ (by kernel_rfl) rfl
    (fun f fn hf hfn => by
      obtain rfl : f = 5 := Option.some.inj ((show Tryz.prog.funcNamed "loop.example/g01543/laws.FnExactHeadOf" = some 5 by kernel_rfl).symm.trans hf) |>.symm
      obtain rfl : fn = Tryz.f5 := (Option.some.inj (Tryz.func5.symm.trans hfn)).symm
      exact ⟨by kernel_rfl, fun j t ht => by
        rw [Tryz.params5] at ht
        have hm : t ∈ [22, 3] := by simpa using Array.mem_of_getElem? ht
        have hall : ([22, 3].all fun u => !Tryz.prog.wantsStandIn u) = true := by kernel_rfl
        exact (show Tryz.prog.wantsStandIn t = false by simpa using List.all_eq_true.1 hall t hm)⟩)
    (by kernel_rfl)
#print axioms proved
end Go.Proofs.YtgnkbpkhbcmhlaaGreatDoor.fnExactHeadOf
