/-
  ExactFlip: for all arguments the law returns true: the program's function returns what the reference's returns.
  The tables that the row lists are tied to the program's text.
-/
import Derived.Test.YtkfpmbinifaakaaGreatDoorRows
import Derived.Test.YtkfpmbinifaakaaGreatDoorCards
import Derived.Test.YtkfpmbinifaakaaGreatDoorTie
import Derived.WalkKit
import Derived.ProofKit
import Derived.OpenShut
import Derived.Lay
import Derived.MakeChecks
import Derived.SevenTiedAt
import Derived.Test.YtkfpmbinifaakaaGreatDoorW3
import Derived.Test.YtkfpmbinifaakaaGreatDoorP3
import Derived.Test.YtkfpmbinifaakaaGreatDoorCore5
namespace Go.Proofs.YtkfpmbinifaakaaGreatDoor.fnExactFlip
open Go.ChangeShapes Go.WideShapes Go.ChangeAt Go.RowKit Go.Av Go.Proofs.Tryz
set_option linter.unusedVariables false
set_option linter.unusedSimpArgs false
set_option maxRecDepth 100000

theorem own : ownKnob Tryz.prog.godebug = none := by kernel_rfl
theorem laidOut : laidOutB Tryz.prog = true := by kernel_rfl

/-- what is known of it -/
def ok68 (x : SNode) : Prop := ((Lit.int .i64 x.Kind).wf = true) ∧ ((Lit.int .i64 x.Op).wf = true) ∧ (x.Text.length ≤ maxLen) ∧ (x.Other.length ≤ maxLen) ∧ ((∀ z, z ∈ x.Kids → ((Lit.int .i64 z).wf = true)) ∧ x.Kids.length ≤ maxLen)

theorem read68 : Reader Tryz.prog 68 (encSNode false) ok68 := by
  intro H e w fuel cs x h
  obtain ⟨xs, n, rfl, rfl, hl, hxl, hf⟩ := DataW.trod_struct Tryz.underlying68 h
  have hl : cs.length = 5 := hl.trans (by kernel_rfl)
  have hxl : xs.length = 5 := hxl
  obtain ⟨y0, e0⟩ : ∃ y, xs[0]? = some y := ⟨_, List.getElem?_eq_getElem (by omega)⟩
  have h0 : DataW.trod e Tryz.prog w 0 (fun _ => true) true n 3 ((cs.drop 0).take (Tryz.prog.cellsOf 3)) = some y0 := (hf 0 _ rfl).trans e0
  have c0 : Tryz.prog.cellsOf 3 = 1 := by kernel_rfl
  rw [c0] at h0
  obtain ⟨a0, k0, r0⟩ := (Reader.i64 Tryz.underlying3) e w n _ _ h0
  obtain ⟨y1, e1⟩ : ∃ y, xs[1]? = some y := ⟨_, List.getElem?_eq_getElem (by omega)⟩
  have h1 : DataW.trod e Tryz.prog w 0 (fun _ => true) true n 3 ((cs.drop 1).take (Tryz.prog.cellsOf 3)) = some y1 := (hf 1 _ rfl).trans e1
  have c1 : Tryz.prog.cellsOf 3 = 1 := by kernel_rfl
  rw [c1] at h1
  obtain ⟨a1, k1, r1⟩ := (Reader.i64 Tryz.underlying3) e w n _ _ h1
  obtain ⟨y2, e2⟩ : ∃ y, xs[2]? = some y := ⟨_, List.getElem?_eq_getElem (by omega)⟩
  have h2 : DataW.trod e Tryz.prog w 0 (fun _ => true) true n 9 ((cs.drop 2).take (Tryz.prog.cellsOf 9)) = some y2 := (hf 2 _ rfl).trans e2
  have c2 : Tryz.prog.cellsOf 9 = 1 := by kernel_rfl
  rw [c2] at h2
  obtain ⟨a2, k2, r2⟩ := (Reader.str Tryz.underlying9) e w n _ _ h2
  obtain ⟨y3, e3⟩ : ∃ y, xs[3]? = some y := ⟨_, List.getElem?_eq_getElem (by omega)⟩
  have h3 : DataW.trod e Tryz.prog w 0 (fun _ => true) true n 9 ((cs.drop 3).take (Tryz.prog.cellsOf 9)) = some y3 := (hf 3 _ rfl).trans e3
  have c3 : Tryz.prog.cellsOf 9 = 1 := by kernel_rfl
  rw [c3] at h3
  obtain ⟨a3, k3, r3⟩ := (Reader.str Tryz.underlying9) e w n _ _ h3
  obtain ⟨y4, e4⟩ : ∃ y, xs[4]? = some y := ⟨_, List.getElem?_eq_getElem (by omega)⟩
  have h4 : DataW.trod e Tryz.prog w 0 (fun _ => true) true n 37 ((cs.drop 4).take (Tryz.prog.cellsOf 37)) = some y4 := (hf 4 _ rfl).trans e4
  have c4 : Tryz.prog.cellsOf 37 = 1 := by kernel_rfl
  rw [c4] at h4
  obtain ⟨a4, k4, r4⟩ := (Reader.slice Tryz.underlying37 (Reader.i64 Tryz.underlying3) 1 (by kernel_rfl) (by decide) (fun _ => rfl)) e w n _ _ h4
  refine ⟨⟨a0, a1, a2, a3, a4⟩, ⟨k0, k1, k2, k3, k4⟩, fun S hS => ?_⟩
  have hcs : cs = (cs.drop 0).take 1 ++ ((cs.drop 1).take 1 ++ ((cs.drop 2).take 1 ++ ((cs.drop 3).take 1 ++ ((cs.drop 4).take 1 ++ [])))) := by
    match cs, hl with
    | [x0, x1, x2, x3, x4], _ => rfl
  rw [hcs]
  exact CellsR.append (r0 S fun p hp => hS p (List.mem_flatMap.2 ⟨y0, List.mem_of_getElem? e0, hp⟩)) (CellsR.append (r1 S fun p hp => hS p (List.mem_flatMap.2 ⟨y1, List.mem_of_getElem? e1, hp⟩)) (CellsR.append (r2 S fun p hp => hS p (List.mem_flatMap.2 ⟨y2, List.mem_of_getElem? e2, hp⟩)) (CellsR.append (r3 S fun p hp => hS p (List.mem_flatMap.2 ⟨y3, List.mem_of_getElem? e3, hp⟩)) (CellsR.append (r4 S fun p hp => hS p (List.mem_flatMap.2 ⟨y4, List.mem_of_getElem? e4, hp⟩)) (CellsR.nil)))))

theorem flipped_ex (op : Int) : ∃ r : Int, m_spec_l31Other op = some r ∧ m_impl_flipped op = some r := by
  unfold m_spec_l31Other m_impl_flipped m_spec_l31Other_k1 m_impl_flipped_k1
  cases (op == 63) <;> cases (op == 62) <;> cases (op == 48) <;> cases (op == 49) <;> cases (op == 47) <;> cases (op == 50) <;> cases (op == 55) <;> cases (op == 57) <;> exact ⟨_, rfl, rfl⟩

theorem flip_ex (N : Nat) (a : List SNode) (hN : 1048577 + 400 < N) (ha : a.length ≤ 1048576) (hs : ∀ x, x ∈ a → smNode x) (hi : ∀ x, x ∈ a → i64N x) :
    ∃ b, m_spec_Flip N a = some b ∧ m_impl_Flip N a = some b ∧ b.1.length ≤ 1048576 ∧ ∀ x, x ∈ b.1 → smNode x := by
  obtain ⟨b, b1, b2, b3⟩ := exprOk_ex N a hN hs
  have hc1 := copy_is N a (by omega) ha hs hi
  have hc2 := copyNodes_is N a (by omega) ha hs
  unfold m_spec_Flip m_impl_Flip
  rw [b1, b2]
  simp only [Option.bind_some]
  cases b with
  | false =>
    simp only [Bool.not_false, cond_true, Option.bind_some, hc1, hc2]
    exact ⟨_, rfl, rfl, ha, hs⟩
  | true =>
    obtain ⟨hsh, hnk⟩ := b3 rfl
    obtain ⟨l1, l2, r, _, _, _, hT, t, ht⟩ := shape_of hsh
    have hlt : a.length - 1 < a.length := by omega
    have hx : ix a (IntKind.wrap .i64 ((a.length : Int) - 1)) = some a[a.length - 1] := by
      rw [wrap64 (by omega) (by omega), show (a.length : Int) - 1 = ((a.length - 1 : Nat) : Int) by omega, ix_nat hlt]
    obtain ⟨n, hn, e1, e2, e3, e4, hk, hkl⟩ := ht.node
    rw [List.getElem?_eq_getElem hlt] at hn
    cases hn
    obtain ⟨fk, _⟩ := hnk _ (List.getElem_mem hlt)
    obtain ⟨q, q1, q2⟩ := flipped_ex a[a.length - 1].Op
    have hro := rootOf_is N a (by omega) ht l1 l2
    simp only [Bool.not_true, cond_false, hx, Option.bind_some, q1, hro, e1, e2, q2]
    by_cases hkd : a[a.length - 1].Kind = 12
    · have hne : (a[a.length - 1].Kind != 12) = false := by simpa using hkd
      simp only [hne, cond_false, Option.bind_some]
      cases hq : (q == 0) with
      | true =>
        simp only [cond_true, hc1, hc2, Option.bind_some]
        exact ⟨_, rfl, rfl, ha, hs⟩
      | false =>
        simp only [cond_false]
        obtain ⟨f1, f2, f3⟩ := fk.2.2.2.2.2.2.1 hkd
        obtain ⟨t0, t1, hts⟩ : ∃ t0 t1, t.kids = [t0, t1] := by
          match h : t.kids, (by rw [hkl, f1] : t.kids.length = 2) with
          | [t0, t1], _ => exact ⟨t0, t1, rfl⟩
        rw [hts] at hk
        obtain ⟨k0, s0, g0, h0, _⟩ := hk.get 0 t0 rfl
        obtain ⟨k1, s1, g1, h1, _⟩ := hk.get 1 t1 rfl
        have i0 : ix a[a.length - 1].Kids 0 = some (k0 : Int) := ix_get (i := 0) g0
        have i1 : ix a[a.length - 1].Kids 1 = some (k1 : Int) := ix_get (i := 1) g1
        have j0 : ix t.kids 0 = some t0 := by rw [hts]; rfl
        have j1 : ix t.kids 1 = some t1 := by rw [hts]; rfl
        have p0 := part_is N a (by omega) hs hsh h0
        have p1 := part_is N a (by omega) hs hsh h1
        have hsz : szT t0 + (szT t1 + 0) + 1 ≤ 400 := by
          have := ht.part.2.1
          rw [szT_eq, hts, szTs, szTs, szTs] at this
          omega
        have hm := make_is N ⟨12, q, [], [], []⟩ [t1, t0] (by omega) (by rw [szTs, szTs, szTs]; omega)
        have hll := list_is N ⟨12, q, [], [], [t1, t0]⟩ (by rw [szT, szTs, szTs, szTs]; omega) (by rw [szT, szTs, szTs, szTs]; omega)
        simp only [List.map_cons, List.map_nil] at hm
        simp only [i0, i1, j0, j1, p0, p1, Option.bind_some, hm, hkd, e3, e4, f2, f3, hll]
        have hszt : szT ⟨12, q, [], [], [t1, t0]⟩ ≤ 400 := by rw [szT, szTs, szTs, szTs]; omega
        refine ⟨_, rfl, rfl, ?_, ?_⟩
        · simp only [lst_len]; omega
        · refine small_of (by omega) (txT_mk (fun t' h' => ?_) (by simp) (by simp)) 0
          simp only [List.mem_cons, List.mem_nil_iff, or_false] at h'
          rcases h' with rfl | rfl
          · exact txT_of hs h1
          · exact txT_of hs h0
    · have hne : (a[a.length - 1].Kind != 12) = true := by simpa using hkd
      simp only [hne, cond_true, Option.bind_some, hc1, hc2]
      exact ⟨_, rfl, rfl, ha, hs⟩

theorem plain (x : List SNode) (kx : (∀ z, z ∈ x → ok68 z) ∧ x.length ≤ maxLen) : ∃ N, m_laws_FnExactFlip N x = some true := by
  obtain ⟨kz, kl⟩ := kx
  refine ⟨x.length + 1049578, ?_⟩
  exact lawNB_is (x.length + 1049578) (fun a => m_spec_Flip _ a) (fun a => m_impl_Flip _ a) x (by omega) (by omega) kl (fun z hz => by obtain ⟨_, _, h1, h2, _, h3⟩ := kz z hz; exact ⟨h1, h2, h3⟩) fun ha hs =>
    flip_ex _ x (by omega) ha hs fun z hz k hk => by
      obtain ⟨_, _, _, _, h4, _⟩ := kz z hz
      have := h4 k hk
      simpa [Lit.wf, IntKind.min, IntKind.max, IntKind.signed, IntKind.bits] using this



theorem kids : Go.Kids Tryz.prog (· < Tryz.prog.types.size) := kids_rows (by kernel_rfl) (by kernel_rfl)
theorem full : ∀ t e, t < Tryz.prog.types.size → Tryz.prog.underlying t = some (.slice e) → 0 < Tryz.prog.cellsOf e := slices_full_of Tryz.prog (by kernel_rfl)

/-- what the row lists -/
def lay : List (String × DataW Unit) := [("loop.example/g01543/impl.keywords", Rows.laid_loop_example_g01543_impl_keywords), ("loop.example/g01543/impl.signs", Rows.laid_loop_example_g01543_impl_signs), ("loop.example/g01543/impl.builtins", Rows.laid_loop_example_g01543_impl_builtins)]

theorem tables {W : World} (h : laidMetH Tryz.prog lay W) : W.var? Tryz.prog "loop.example/g01543/impl.keywords" = some (strCells tab_keywords) ∧ W.var? Tryz.prog "loop.example/g01543/impl.signs" = some (strCells tab_signs) ∧ W.var? Tryz.prog "loop.example/g01543/impl.builtins" = some (strCells tab_builtins) := by
  rw [MakeChecks.laidMetH_plain _ _ _ (by kernel_rfl)] at h
  obtain ⟨ps, ⟨g0, t0, cs0, fuel0, p0, q0, hg0, ht0, hv0, hd0, r0, _⟩, _, _⟩ := h
  obtain ⟨g1, t1, cs1, fuel1, p1, q1, hg1, ht1, hv1, hd1, r1, _⟩ := r0
  obtain ⟨g2, t2, cs2, fuel2, p2, q2, hg2, ht2, hv2, hd2, r2, _⟩ := r1
  obtain rfl := Option.some.inj ((show Tryz.prog.globalNamed "loop.example/g01543/impl.keywords" = some 1 by kernel_rfl).symm.trans hg0)
  obtain rfl := Option.some.inj ((show (Tryz.prog.globals[1]?).map (·.type) = some 141 by kernel_rfl).symm.trans ht0)
  have e0 : cs0 = strCells tab_keywords := strs_of_trod (l := tab_keywords) (p := p0) (by rw [show (DataW.agg (tab_keywords.map fun s => .lit (.string s)) : DataW Unit) = Rows.laid_loop_example_g01543_impl_keywords by kernel_rfl]; exact hd0) Tryz.underlying141 Tryz.underlying9 (by kernel_rfl) (by kernel_rfl)
  rw [e0] at hv0
  obtain rfl := Option.some.inj ((show Tryz.prog.globalNamed "loop.example/g01543/impl.signs" = some 2 by kernel_rfl).symm.trans hg1)
  obtain rfl := Option.some.inj ((show (Tryz.prog.globals[2]?).map (·.type) = some 143 by kernel_rfl).symm.trans ht1)
  have e1 : cs1 = strCells tab_signs := strs_of_trod (l := tab_signs) (p := p1) (by rw [show (DataW.agg (tab_signs.map fun s => .lit (.string s)) : DataW Unit) = Rows.laid_loop_example_g01543_impl_signs by kernel_rfl]; exact hd1) Tryz.underlying143 Tryz.underlying9 (by kernel_rfl) (by kernel_rfl)
  rw [e1] at hv1
  obtain rfl := Option.some.inj ((show Tryz.prog.globalNamed "loop.example/g01543/impl.builtins" = some 0 by kernel_rfl).symm.trans hg2)
  obtain rfl := Option.some.inj ((show (Tryz.prog.globals[0]?).map (·.type) = some 139 by kernel_rfl).symm.trans ht2)
  have e2 : cs2 = strCells tab_builtins := strs_of_trod (l := tab_builtins) (p := p2) (by rw [show (DataW.agg (tab_builtins.map fun s => .lit (.string s)) : DataW Unit) = Rows.laid_loop_example_g01543_impl_builtins by kernel_rfl]; exact hd2) Tryz.underlying139 Tryz.underlying9 (by kernel_rfl) (by kernel_rfl)
  rw [e2] at hv2
  exact ⟨hv0, hv1, hv2⟩

theorem grel {W : World} {S : Nat → Prop} (h0 : W.var? Tryz.prog "loop.example/g01543/impl.keywords" = some (strCells tab_keywords)) (h1 : W.var? Tryz.prog "loop.example/g01543/impl.signs" = some (strCells tab_signs)) (h2 : W.var? Tryz.prog "loop.example/g01543/impl.builtins" = some (strCells tab_builtins)) (s0 : S 1) (s1 : S 2) (s2 : S 0) : GRel (GS [0, 1, 2]) S W := by
  intro g cs hg
  have hc : ([0, 1, 2] : List Nat).contains g = true := by
    cases h : ([0, 1, 2] : List Nat).contains g with
    | true => rfl
    | false => unfold GS at hg; rw [h] at hg; cases hg
  have hm := List.contains_iff_mem.1 hc
  simp only [List.mem_cons, List.mem_nil_iff, or_false] at hm
  rcases hm with rfl | rfl | rfl
  · obtain rfl := Option.some.inj ((show GS [0, 1, 2] 0 = some (tab_builtins.map V.str) by kernel_rfl).symm.trans hg)
    exact el_of_var (show Tryz.prog.globalNamed "loop.example/g01543/impl.builtins" = some 0 by kernel_rfl) h2 s2
  · obtain rfl := Option.some.inj ((show GS [0, 1, 2] 1 = some (tab_keywords.map V.str) by kernel_rfl).symm.trans hg)
    exact el_of_var (show Tryz.prog.globalNamed "loop.example/g01543/impl.keywords" = some 1 by kernel_rfl) h0 s0
  · obtain rfl := Option.some.inj ((show GS [0, 1, 2] 2 = some (tab_signs.map V.str) by kernel_rfl).symm.trans hg)
    exact el_of_var (show Tryz.prog.globalNamed "loop.example/g01543/impl.signs" = some 2 by kernel_rfl) h1 s1

theorem lifted (os : Os) (started : os.Started) (H : Type) (enc : TypeId × Value → H) :
    ReturnsInHanded {} Tryz.checked os 4 .any (fun w args => (Rows.fnExactFlipSpec.pre enc Tryz.prog Tryz.f4 Rows.fnExactFlipRow.domain false w args ∧ laidMetH Tryz.prog lay w) ∧ sizedMet enc Tryz.prog Tryz.f4 (OpenSpec.ofChange Rows.fnExactFlipSpec) false w args) (Rows.fnExactFlipSpec.post enc Tryz.prog Tryz.f4 false true false false) := by
  refine returnsInHanded_of_change_and (C := Tryz.checked) (X := fun w _ => laidMetH Tryz.prog lay w) (fun _ _ _ hh h => h.of_heap hh) own started (by kernel_rfl) Tryz.func4
    (ChangeSpec.witness_at (enc := enc) (C := Tryz.checked) (os := os) (X := fun w _ => laidMetH Tryz.prog lay w) false (World.laidAll Tryz.prog os lay) #[.slice none 0 0] 12 (World.laidAll_os _ _ _) (by kernel_rfl) (by kernel_rfl) (by kernel_rfl) (by kernel_rfl) (by kernel_rfl)
      (by rw [MakeChecks.laidMetH_plain _ _ _ (by kernel_rfl)]; exact laidMet_laidAll _ (by kernel_rfl) (by kernel_rfl))) ?_
  intro W base args ds gs before hval0 hW hcnd _ hL _
  have hval : ∀ (j : Nat) t v, Tryz.f4.params[j]? = some t → args[j]? = some v → Value.okWide Tryz.prog W .any base t v := hval0
  have hW' := hW
  obtain ⟨p, q, hA0, hV0, rfl, hfz, hnd⟩ := hW
  have hA : DataW.TrodAll enc Tryz.prog W 0 (fun _ => true) true Tryz.f4.params.toList args.toList ds p := hA0
  have hV : DataW.TrodVars enc Tryz.prog W (fun _ => true) ["loop.example/g01543/impl.keywords", "loop.example/g01543/impl.builtins", "loop.example/g01543/impl.signs"] gs q := hV0
  rw [Tryz.params4] at hA hval
  have hA1 := hA
  obtain ⟨v0, vs0, d0, ds0, p0, q0, hargs, rfl, rfl, h0, r0⟩ := trodAll_cons hA
  obtain ⟨rfl, rfl, rfl⟩ := trodAll_nil r0
  obtain rfl : args = #[v0] := by cases args; simp_all
  have hA2 : DataW.TrodAll enc Tryz.prog W 0 (fun _ => true) true [28] [v0] [d0] (p0 ++ []) := hA1
  have hgl := vars_len hV
  obtain ⟨y0, y1, y2, rfl⟩ : ∃ y0 y1 y2, gs = [y0, y1, y2] := by
    match gs, hgl with
    | [y0, y1, y2], _ => exact ⟨y0, y1, y2, rfl⟩
  obtain ⟨fu0, hf0⟩ := h0
  obtain ⟨a0, k0, c0⟩ := (Reader.slice Tryz.underlying28 read68 5 (by kernel_rfl) (by decide) (fun _ => rfl)) enc W fu0 _ _ hf0
  obtain ⟨s0, l0, m0, rfl⟩ := okWide_slice Tryz.underlying28 (hval 0 28 v0 rfl rfl)
  have htab := tables hL
  have tv0 := htab.1
  have tv1 := htab.2.1
  have tv2 := htab.2.2
  have hlt : ∀ b, (fun b => blocksOf (p0 ++ []) b ∨ b = 1 ∨ b = 2 ∨ b = 0) b → b < W.heap.size := by
    intro b hb
    rcases hb with ⟨m, hm, rfl⟩ | rfl | rfl | rfl
    · exact DataW.TrodAll.lt hA1 m (by simpa using hm)
    · exact var_lt (show Tryz.prog.globalNamed "loop.example/g01543/impl.keywords" = some 1 by kernel_rfl) tv0
    · exact var_lt (show Tryz.prog.globalNamed "loop.example/g01543/impl.signs" = some 2 by kernel_rfl) tv1
    · exact var_lt (show Tryz.prog.globalNamed "loop.example/g01543/impl.builtins" = some 0 by kernel_rfl) tv2
  obtain ⟨N, hN⟩ := plain a0 k0
  refine (AC.belowG (m_laws_FnExactFlip_ok N a0 hN) (fun b => blocksOf (p0 ++ []) b ∨ b = 1 ∨ b = 2 ∨ b = 0) hlt (grel tv0 tv1 tv2 (.inr (.inl rfl)) (.inr (.inr (.inl rfl))) (.inr (.inr (.inr rfl)))) rfl fun i x hx => ?_).mono ?_
  · match i with
    | 0 =>
      simp only [List.getElem?_cons_succ, List.getElem?_cons_zero, Option.some.injEq] at hx
      subst hx
      exact argOne rfl (c0 _ fun p hp => (.inl ⟨p, by simp [hp], rfl⟩))
    | i + 1 => simp at hx
  · rintro e W' ⟨x, S', rfl, hx, hb⟩
    have hxt := hx.c_inv
    subst hxt
    exact ⟨_, rfl, Av.post_of_below (pa := (p0 ++ [])) (pv := q) hW' (fun _ _ _ => (trodAll_cons_mk (shut_bool Tryz.underlying4 _) trodAll_mk0))
      (fun sp hsp => args_kept kids full hb (by decide +kernel) hA2 (fun m hm => hsp m (by simp only [List.mem_append]; exact .inl (by simpa using hm)))) (fun sp hsp => vars_kept laidOut hb (by kernel_rfl) hV (fun m hm => hsp m (by simp [hm]))) (by simp) hb (ok_one (by kernel_rfl) rfl (okWide_bool_mk Tryz.underlying4 _))⟩

theorem over : Rows.fnExactFlipRow.holds Tryz.pinned (OpenSpec.ofChange Rows.fnExactFlipSpec) :=
  OpenClaim.holds_of_wide 4 Tryz.f4 rfl rfl rfl rfl rfl rfl rfl ⟨rfl, rfl, rfl, rfl, rfl⟩ rfl rfl rfl rfl rfl (by kernel_rfl) Tryz.func4 (by kernel_rfl)
    (of_decide_eq_true (by kernel_rfl)) (by unfold Func.isWrapper; first | (rw [if_pos (by decide +kernel)]; kernel_rfl) | (rw [if_neg (by decide +kernel)]; exact ⟨rfl, rfl⟩))
    (fun os started H enc _ => lifted os started H enc)

/-- the statement -/
theorem proved : Rows.FnExactFlipCardSaid :=
  Claim7.holds_tied_plain_at .later [] [.widerDeep, .data, .widerDeep] true (true, "eab3a0d7134bf4612cfb1c97e08315ef20c0f79de4c44aa8b68f085a2b6e9ce2") false
    over (fun _ h => by cases h) (by kernel_rfl) (fun _ h => by cases h) fnExactFlip_row_tie rfl ⟨rfl, rfl⟩ (by kernel_rfl) rfl
    (fun f fn hf hfn => by
      obtain rfl : f = 4 := Option.some.inj ((show Tryz.prog.funcNamed "loop.example/g01543/laws.FnExactFlip" = some 4 by kernel_rfl).symm.trans hf) |>.symm
      obtain rfl : fn = Tryz.f4 := (Option.some.inj (Tryz.func4.symm.trans hfn)).symm
      exact ⟨by kernel_rfl, fun j t ht => by
        rw [Tryz.params4] at ht
        have hm : t ∈ [28] := by simpa using Array.mem_of_getElem? ht
        have hall : ([28].all fun u => !Tryz.prog.wantsStandIn u) = true := by kernel_rfl
        exact (show Tryz.prog.wantsStandIn t = false by simpa using List.all_eq_true.1 hall t hm)⟩)
    (by kernel_rfl)
#print axioms proved
end Go.Proofs.YtkfpmbinifaakaaGreatDoor.fnExactFlip
