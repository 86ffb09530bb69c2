/-
  Shown: for all arguments the law returns true: the program's function returns what the reference's returns.
  The tables that the row lists are tied to the program's text.
-/
import Derived.Test.YtkfcajnnbhahoaaGreatDoorRows
import Derived.Test.YtkfcajnnbhahoaaGreatDoorCards
import Derived.Test.YtkfcajnnbhahoaaGreatDoorTie
import Derived.WalkKit
import Derived.ProofKit
import Derived.OpenShut
import Derived.Lay
import Derived.MakeChecks
import Derived.SevenTiedAt
import Derived.Test.YtkfcajnnbhahoaaGreatDoorSwBW4
import Derived.Test.YtkfcajnnbhahoaaGreatDoorSwBP13
import Derived.Test.YtkfcajnnbhahoaaGreatDoorBCore6
namespace Go.Proofs.YtkfcajnnbhahoaaGreatDoor.fnShown
open Go.ChangeShapes Go.WideShapes Go.ChangeAt Go.RowKit Go.Av Go.Proofs.Tryz
set_option linter.unusedVariables false
set_option linter.unusedSimpArgs false
set_option maxRecDepth 100000

theorem own : ownKnob Tryz.prog.godebug = none := by kernel_rfl
theorem laidOut : laidOutB Tryz.prog = true := by kernel_rfl

theorem smS_sm {L : LN} (h : SmS L) : ∀ x, x ∈ L → smNode x := fun x hx => by
  obtain ⟨h1, h2, h3⟩ := h x hx
  exact ⟨by omega, by omega, by omega⟩
theorem same_self (N : Nat) (a : LN) (hN : 1048577 < N) (ha : a.length ≤ 1048576) (hs : ∀ x, x ∈ a → smNode x) : ms_SameTree N a a = some true := by
  have ints : ∀ (k : List Int), k.length ≤ 1048576 → ms_l6Ints N k k = some true := fun k hk => by
    have l : ∀ (n i : Nat), k.length - i < n → i ≤ k.length → ms_l6Ints_l1 N n (k, k, (i : Int)) = some true := by
      intro n
      induction n with
      | zero => intro i h; omega
      | succ n ih =>
        intro i hn hi
        rw [ms_l6Ints_l1]
        by_cases h : i < k.length
        · have ne : (k[i] != k[i]) = false := by simp
          simp only [lt_true h, cond_true, ix_nat h, Option.bind_some, ne, cond_false]
          rw [wrap64 (by omega) (by omega), show (i : Int) + 1 = ((i + 1 : Nat) : Int) by omega]
          exact ih (i + 1) (by omega) (by omega)
        · simp only [lt_false h, cond_false]
    unfold ms_l6Ints
    have ne : ((k.length : Int) != (k.length : Int)) = false := by simp
    rw [ne, cond_false]
    exact l N 0 (by omega) (by omega)
  have l : ∀ (n i : Nat), a.length - i < n → i ≤ a.length → ms_SameTree_l1 N n (a, a, (i : Int)) = some true := by
    intro n
    induction n with
    | zero => intro i h; omega
    | succ n ih =>
      intro i hn hi
      rw [ms_SameTree_l1]
      by_cases h : i < a.length
      · have e1 : (a[i].Kind != a[i].Kind) = false := by simp
        have e2 : (a[i].Op != a[i].Op) = false := by simp
        have e3 : (!(a[i].Text == a[i].Text)) = false := by simp
        have e4 : (!(a[i].Other == a[i].Other)) = false := by simp
        have e5 := ints a[i].Kids (by have := hs _ (List.getElem_mem h); unfold smNode at this; omega)
        simp only [lt_true h, cond_true, ix_nat h, Option.bind_some, e1, e2, e3, e4, e5, cond_false, Bool.not_true]
        rw [wrap64 (by omega) (by omega), show (i : Int) + 1 = ((i + 1 : Nat) : Int) by omega]
        exact ih (i + 1) (by omega) (by omega)
      · simp only [lt_false h, cond_false]
  unfold ms_SameTree
  have ne : ((a.length : Int) != (a.length : Int)) = false := by simp
  rw [ne, cond_false]
  exact l N 0 (by omega) (by omega)
/-- what is shown of a drawn list -/
theorem show_any (N : Nat) (L : LN) (hN : 1048577 + 800 < N) (hL : SpoP L) : ∃ (c : Bool) (s : LU), ms_TreeOk N L = some c ∧ ms_ShowTree N L = some s ∧ mi_ShowTree N L = some s ∧ s.length ≤ 1000000 ∧ ms_ReadTree N s = some (bif c then L else [], c) ∧ (!(s == [])) = c := by
  have hs := smS_sm hL.1
  have hl := hL.2
  obtain ⟨c, c1, _, _⟩ := treeOk_ex N L (by omega) hs
  obtain ⟨s, s1, s2⟩ := show_is N L (by omega) (by omega) hs
  cases c with
  | true =>
    obtain ⟨s', g1, g2, g3, g4⟩ := shown_back N L (by omega) hs (fun x hx => by have := hL.1 x hx; omega) c1
    rw [g1] at s1
    cases s1
    refine ⟨true, s, c1, g1, s2, g2, g4, ?_⟩
    have : (s == []) = false := by
      cases hs : (s == []) with
      | false => rfl
      | true => exact absurd (eq_of_beq hs) g3
    rw [this]; rfl
  | false =>
    have e : ms_ShowTree N L = some [] := by
      unfold ms_ShowTree
      rw [c1]
      rfl
    rw [e] at s1
    cases s1
    exact ⟨false, [], c1, e, s2, by simp, readTree_none N (by omega), rfl⟩
theorem plain (b : LU) (kb : (∀ z, z ∈ b → True) ∧ b.length ≤ maxLen) : ∃ N, ml_FnShown N b = some true := by
  refine ⟨18446744073709551657 + 2097152, ?_⟩
  obtain ⟨N, hN⟩ : ∃ N, N = 18446744073709551657 + 2097152 := ⟨_, rfl⟩
  rw [← hN]
  unfold ml_FnShown ml_big
  rw [Option.bind_some]
  by_cases hb : b.length ≤ 1048576
  · have hd : decide ((b.length : Int) > 1048576) = false := by simp; omega
    rw [hd, cond_false]
    obtain ⟨h, e1⟩ := new_dr b hb N (by omega)
    unfold ms_DrawShowTree ms_DrawReadTree
    rw [e1]
    simp only [Option.bind_some]
    obtain ⟨L, i1, h1, e2, hL, _, _⟩ := spoilt_dr b hb N (by omega) 0 h (by omega) (by omega)
    rw [e2]
    simp only [Option.bind_some]
    obtain ⟨c, s, c1, c2, c3, c4, c5, c6⟩ := show_any N L (by omega) hL
    obtain ⟨r, r1, r2, _, _⟩ := readTree_ex N s (by omega) (by omega)
    rw [c5] at r1
    cases r1
    have first : ∀ k : Option Bool, Option.bind (Option.bind (ms_TreeOk N L) fun r19 => bif (!(c == r19)) then some true else (bif c then Option.bind (ms_SameTree N (bif c then L else []) L) fun r20 => bif (!r20) then some true else (some (!((!(s == [])) == c))) else (some (!((!(s == [])) == c))))) (fun y18 => bif y18 then some false else k) = k := fun k => by
      rw [c1, Option.bind_some, c6]
      cases c with
      | false => rfl
      | true =>
        have := same_self N L (by omega) (by have := hL.2; omega) (smS_sm hL.1)
        simp only [cond_true, this, Option.bind_some]
        rfl
    rw [c3, Option.bind_some, r2, Option.bind_some]
    refine Eq.trans (first _) ?_
    -- the second text
    obtain ⟨A, i2, h2, e3, hA, g0, g1⟩ := any_dr b hb N (by omega) 0 h (by omega) (by omega)
    obtain ⟨hAS, _, _⟩ := hA.spo
    obtain ⟨_, s', _, d2, _, d4, _, _⟩ := show_any N A (by omega) hAS
    have hdraw : ∃ t : LU, t.length ≤ 1048576 ∧ (Option.bind (ms_l7Any N b 0 h) fun r5 => Option.bind (ms_ShowTree N r5.1) fun r6 => Option.bind (ms_l1Below 5 b r5.2.1 r5.2.2) fun r18 => bif (r18.1 == 0) then Option.bind (ms_l1Spoil N r6 b r18.2.1 r18.2.2) fun r20 => some r20.1 else (bif (r18.1 == 1) then Option.bind (cat r6 ([0] : LU)) fun s22 => some s22 else (bif (r18.1 == 2) then Option.bind (ms_l1Below (IntKind.wrap .i64 ((r6.length : Int) + 1)) b r18.2.1 r18.2.2) fun r25 => Option.bind (cut r6 0 r25.1) fun s26 => some s26 else (some r6)))) = some t := by
      rw [e3, Option.bind_some, d2, Option.bind_some]
      obtain ⟨q, i3, h3, e4, _, q0, q1⟩ := below_dr b hb 5 i2 h2 g0 g1
      rw [e4]
      simp only [Option.bind_some]
      cases (q == 0) with
      | true =>
        obtain ⟨x, i4, h4, e5, hx, _, _⟩ := spoil_dr b hb N (by omega) s' 1000000 d4 (by omega) i3 h3 q0 q1
        rw [cond_true, e5, Option.bind_some]
        have hx : x.length ≤ 1000000 + 10 := hx
        exact ⟨x, by omega, rfl⟩
      | false =>
        rw [cond_false]
        cases (q == 1) with
        | true =>
          rw [cond_true, cat_some (by simp only [maxLen, List.length_cons, List.length_nil]; omega), Option.bind_some]
          exact ⟨_, by simp; omega, rfl⟩
        | false =>
          rw [cond_false]
          cases (q == 2) with
          | true =>
            rw [cond_true, wrap64 (by omega) (by omega)]
            obtain ⟨x, i4, h4, e5, hx, _, _⟩ := below_dr b hb ((s'.length : Int) + 1) i3 h3 q0 q1
            rw [e5]
            simp only [Option.bind_some]
            obtain ⟨u, u1, u2⟩ := cut_ex (l := s') (x := 0) (y := x) (by omega) (by omega) (by omega)
            rw [u1, Option.bind_some]
            exact ⟨u, by omega, rfl⟩
          | false => rw [cond_false]; exact ⟨s', by omega, rfl⟩
    obtain ⟨t, t1, t2⟩ := hdraw
    rw [t2, Option.bind_some]
    obtain ⟨r, r1, r2', r3, r4⟩ := readTree_ex N t (by omega) t1
    rw [r1, r2']
    simp only [Option.bind_some]
    obtain ⟨y, k⟩ := r
    have ek : (k == k) = true := by simp
    dsimp only
    rw [ek, cond_true]
    cases k with
    | false => rfl
    | true =>
      obtain ⟨y1, y2⟩ := readTree_right N t y r1
      have r3 : y.length ≤ 400 := r3
      obtain ⟨z, z1, z2⟩ := show_is N y (by omega) (by omega) r4
      rw [y2] at z1
      cases z1
      have et : (t == t) = true := by simp
      simp only [Bool.not_true, cond_false, z2, Option.bind_some, et, cond_true, y1]
  · have hd : decide ((b.length : Int) > 1048576) = true := by simp; omega
    rw [hd]
    rfl



theorem kids : Go.Kids Tryz.prog (· < Tryz.prog.types.size) := kids_rows (by kernel_rfl) (by kernel_rfl)
theorem full : ∀ t e, t < Tryz.prog.types.size → Tryz.prog.underlying t = some (.slice e) → 0 < Tryz.prog.cellsOf e := slices_full_of Tryz.prog (by kernel_rfl)

/-- what the row lists -/
def lay : List (String × DataW Unit) := [("loop.example/g01543/impl.keywords", Rows.laid_loop_example_g01543_impl_keywords), ("loop.example/g01543/impl.signs", Rows.laid_loop_example_g01543_impl_signs), ("loop.example/g01543/impl.builtins", Rows.laid_loop_example_g01543_impl_builtins)]

theorem tables {W : World} (h : laidMetH Tryz.prog lay W) : W.var? Tryz.prog "loop.example/g01543/impl.keywords" = some (strCells tab_keywords) ∧ W.var? Tryz.prog "loop.example/g01543/impl.signs" = some (strCells tab_signs) ∧ W.var? Tryz.prog "loop.example/g01543/impl.builtins" = some (strCells tab_builtins) := by
  rw [MakeChecks.laidMetH_plain _ _ _ (by kernel_rfl)] at h
  obtain ⟨ps, ⟨g0, t0, cs0, fuel0, p0, q0, hg0, ht0, hv0, hd0, r0, _⟩, _, _⟩ := h
  obtain ⟨g1, t1, cs1, fuel1, p1, q1, hg1, ht1, hv1, hd1, r1, _⟩ := r0
  obtain ⟨g2, t2, cs2, fuel2, p2, q2, hg2, ht2, hv2, hd2, r2, _⟩ := r1
  obtain rfl := Option.some.inj ((show Tryz.prog.globalNamed "loop.example/g01543/impl.keywords" = some 1 by kernel_rfl).symm.trans hg0)
  obtain rfl := Option.some.inj ((show (Tryz.prog.globals[1]?).map (·.type) = some 216 by kernel_rfl).symm.trans ht0)
  have e0 : cs0 = strCells tab_keywords := strs_of_trod (l := tab_keywords) (p := p0) (by rw [show (DataW.agg (tab_keywords.map fun s => .lit (.string s)) : DataW Unit) = Rows.laid_loop_example_g01543_impl_keywords by kernel_rfl]; exact hd0) Tryz.underlying216 Tryz.underlying9 (by kernel_rfl) (by kernel_rfl)
  rw [e0] at hv0
  obtain rfl := Option.some.inj ((show Tryz.prog.globalNamed "loop.example/g01543/impl.signs" = some 2 by kernel_rfl).symm.trans hg1)
  obtain rfl := Option.some.inj ((show (Tryz.prog.globals[2]?).map (·.type) = some 218 by kernel_rfl).symm.trans ht1)
  have e1 : cs1 = strCells tab_signs := strs_of_trod (l := tab_signs) (p := p1) (by rw [show (DataW.agg (tab_signs.map fun s => .lit (.string s)) : DataW Unit) = Rows.laid_loop_example_g01543_impl_signs by kernel_rfl]; exact hd1) Tryz.underlying218 Tryz.underlying9 (by kernel_rfl) (by kernel_rfl)
  rw [e1] at hv1
  obtain rfl := Option.some.inj ((show Tryz.prog.globalNamed "loop.example/g01543/impl.builtins" = some 0 by kernel_rfl).symm.trans hg2)
  obtain rfl := Option.some.inj ((show (Tryz.prog.globals[0]?).map (·.type) = some 206 by kernel_rfl).symm.trans ht2)
  have e2 : cs2 = strCells tab_builtins := strs_of_trod (l := tab_builtins) (p := p2) (by rw [show (DataW.agg (tab_builtins.map fun s => .lit (.string s)) : DataW Unit) = Rows.laid_loop_example_g01543_impl_builtins by kernel_rfl]; exact hd2) Tryz.underlying206 Tryz.underlying9 (by kernel_rfl) (by kernel_rfl)
  rw [e2] at hv2
  exact ⟨hv0, hv1, hv2⟩

theorem grel {W : World} {S : Nat → Prop} (h0 : W.var? Tryz.prog "loop.example/g01543/impl.keywords" = some (strCells tab_keywords)) (h1 : W.var? Tryz.prog "loop.example/g01543/impl.signs" = some (strCells tab_signs)) (h2 : W.var? Tryz.prog "loop.example/g01543/impl.builtins" = some (strCells tab_builtins)) (s0 : S 1) (s1 : S 2) (s2 : S 0) : GRel (GS [0, 1, 2]) S W := by
  intro g cs hg
  have hc : ([0, 1, 2] : List Nat).contains g = true := by
    cases h : ([0, 1, 2] : List Nat).contains g with
    | true => rfl
    | false => unfold GS at hg; rw [h] at hg; cases hg
  have hm := List.contains_iff_mem.1 hc
  simp only [List.mem_cons, List.mem_nil_iff, or_false] at hm
  rcases hm with rfl | rfl | rfl
  · obtain rfl := Option.some.inj ((show GS [0, 1, 2] 0 = some (tab_builtins.map V.s) by kernel_rfl).symm.trans hg)
    exact grel_strs (show Tryz.prog.globalNamed "loop.example/g01543/impl.builtins" = some 0 by kernel_rfl) h2 s2
  · obtain rfl := Option.some.inj ((show GS [0, 1, 2] 1 = some (tab_keywords.map V.s) by kernel_rfl).symm.trans hg)
    exact grel_strs (show Tryz.prog.globalNamed "loop.example/g01543/impl.keywords" = some 1 by kernel_rfl) h0 s0
  · obtain rfl := Option.some.inj ((show GS [0, 1, 2] 2 = some (tab_signs.map V.s) by kernel_rfl).symm.trans hg)
    exact grel_strs (show Tryz.prog.globalNamed "loop.example/g01543/impl.signs" = some 2 by kernel_rfl) h1 s1

theorem lifted (os : Os) (started : os.Started) (H : Type) (enc : TypeId × Value → H) :
    ReturnsInHanded {} Tryz.checked os 3 .any (fun w args => (Rows.fnShownSpec.pre enc Tryz.prog Tryz.f3 Rows.fnShownRow.domain false w args ∧ laidMetH Tryz.prog lay w) ∧ sizedMet enc Tryz.prog Tryz.f3 (OpenSpec.ofChange Rows.fnShownSpec) false w args) (Rows.fnShownSpec.post enc Tryz.prog Tryz.f3 false true false false) := by
  refine returnsInHanded_of_change_and (C := Tryz.checked) (X := fun w _ => laidMetH Tryz.prog lay w) (fun _ _ _ hh h => h.of_heap hh) own started (by kernel_rfl) Tryz.func3
    (ChangeSpec.witness_at (enc := enc) (C := Tryz.checked) (os := os) (X := fun w _ => laidMetH Tryz.prog lay w) false (World.laidAll Tryz.prog os lay) #[.slice none 0 0] 12 (World.laidAll_os _ _ _) (by kernel_rfl) (by kernel_rfl) (by kernel_rfl) (by kernel_rfl) (by kernel_rfl)
      (by rw [MakeChecks.laidMetH_plain _ _ _ (by kernel_rfl)]; exact laidMet_laidAll _ (by kernel_rfl) (by kernel_rfl))) ?_
  intro W base args ds gs before hval0 hW hcnd _ hL _
  have hval : ∀ (j : Nat) t v, Tryz.f3.params[j]? = some t → args[j]? = some v → Value.okWide Tryz.prog W .any base t v := hval0
  have hW' := hW
  obtain ⟨p, q, hA0, hV0, rfl, hfz, hnd⟩ := hW
  have hA : DataW.TrodAll enc Tryz.prog W 0 (fun _ => true) true Tryz.f3.params.toList args.toList ds p := hA0
  have hV : DataW.TrodVars enc Tryz.prog W (fun _ => true) ["loop.example/g01543/impl.keywords", "loop.example/g01543/impl.builtins", "loop.example/g01543/impl.signs"] gs q := hV0
  rw [Tryz.params3] at hA hval
  have hA1 := hA
  obtain ⟨v0, vs0, d0, ds0, p0, q0, hargs, rfl, rfl, h0, r0⟩ := trodAll_cons hA
  obtain ⟨rfl, rfl, rfl⟩ := trodAll_nil r0
  obtain rfl : args = #[v0] := by cases args; simp_all
  have hA2 : DataW.TrodAll enc Tryz.prog W 0 (fun _ => true) true [22] [v0] [d0] (p0 ++ []) := hA1
  have hgl := vars_len hV
  obtain ⟨y0, y1, y2, rfl⟩ : ∃ y0 y1 y2, gs = [y0, y1, y2] := by
    match gs, hgl with
    | [y0, y1, y2], _ => exact ⟨y0, y1, y2, rfl⟩
  obtain ⟨fu0, hf0⟩ := h0
  obtain ⟨a0, k0, c0⟩ := (Reader.slice Tryz.underlying22 (Reader.u8 Tryz.underlying5) 1 (by kernel_rfl) (by decide) (fun _ => rfl)) enc W fu0 _ _ hf0
  obtain ⟨s0, l0, m0, rfl⟩ := okWide_slice Tryz.underlying22 (hval 0 22 v0 rfl rfl)
  have htab := tables hL
  have tv0 := htab.1
  have tv1 := htab.2.1
  have tv2 := htab.2.2
  have hlt : ∀ b, (fun b => blocksOf (p0 ++ []) b ∨ b = 1 ∨ b = 2 ∨ b = 0) b → b < W.heap.size := by
    intro b hb
    rcases hb with ⟨m, hm, rfl⟩ | rfl | rfl | rfl
    · exact DataW.TrodAll.lt hA1 m (by simpa using hm)
    · exact var_lt (show Tryz.prog.globalNamed "loop.example/g01543/impl.keywords" = some 1 by kernel_rfl) tv0
    · exact var_lt (show Tryz.prog.globalNamed "loop.example/g01543/impl.signs" = some 2 by kernel_rfl) tv1
    · exact var_lt (show Tryz.prog.globalNamed "loop.example/g01543/impl.builtins" = some 0 by kernel_rfl) tv2
  obtain ⟨N, hN⟩ := plain a0 k0
  refine (AC.belowG (ml_FnShown_ok N a0 hN) (fun b => blocksOf (p0 ++ []) b ∨ b = 1 ∨ b = 2 ∨ b = 0) hlt (grel tv0 tv1 tv2 (.inr (.inl rfl)) (.inr (.inr (.inl rfl))) (.inr (.inr (.inr rfl)))) rfl fun i x hx => ?_).mono ?_
  · match i with
    | 0 =>
      simp only [List.getElem?_cons_succ, List.getElem?_cons_zero, Option.some.injEq] at hx
      subst hx
      exact argOne rfl (c0 _ fun p hp => (.inl ⟨p, by simp [hp], rfl⟩))
    | i + 1 => simp at hx
  · rintro e W' ⟨x, S', rfl, hx, hb⟩
    have hxt := hx.c_inv
    subst hxt
    exact ⟨_, rfl, Av.post_of_below (pa := (p0 ++ [])) (pv := q) hW' (fun _ _ _ => (trodAll_cons_mk (shut_bool Tryz.underlying4 _) trodAll_mk0))
      (fun sp hsp => args_kept kids full hb (by decide +kernel) hA2 (fun m hm => hsp m (by simp only [List.mem_append]; exact .inl (by simpa using hm)))) (fun sp hsp => vars_kept laidOut hb (by kernel_rfl) hV (fun m hm => hsp m (by simp [hm]))) (by simp) hb (ok_one (by kernel_rfl) rfl (okWide_bool_mk Tryz.underlying4 _))⟩

theorem over : Rows.fnShownRow.holds Tryz.pinned (OpenSpec.ofChange Rows.fnShownSpec) :=
  OpenClaim.holds_of_wide 3 Tryz.f3 rfl rfl rfl rfl rfl rfl rfl ⟨rfl, rfl, rfl, rfl, rfl⟩ rfl rfl rfl rfl rfl (by kernel_rfl) Tryz.func3 (by kernel_rfl)
    (of_decide_eq_true (by kernel_rfl)) (by unfold Func.isWrapper; first | (rw [if_pos (by decide +kernel)]; kernel_rfl) | (rw [if_neg (by decide +kernel)]; exact ⟨rfl, rfl⟩))
    (fun os started H enc _ => lifted os started H enc)

/-- the statement -/
theorem proved : Rows.FnShownCardSaid :=
  Claim7.holds_tied_plain_at .later [] [.widerDeep, .data, .widerDeep] true (true, "cdaebf4274e095591c84b06983aeafee5c7bc2ccbd4e8a7f7861ba714bf390d4") true
    over (fun _ h => by cases h) (by kernel_rfl) (fun _ h => by cases h) fnShown_row_tie rfl ⟨rfl, rfl⟩ (by kernel_rfl) rfl
    (fun f fn hf hfn => by
      obtain rfl : f = 3 := Option.some.inj ((show Tryz.prog.funcNamed "loop.example/g01543/laws.FnShown" = some 3 by kernel_rfl).symm.trans hf) |>.symm
      obtain rfl : fn = Tryz.f3 := (Option.some.inj (Tryz.func3.symm.trans hfn)).symm
      exact ⟨by kernel_rfl, fun j t ht => by
        rw [Tryz.params3] at ht
        have hm : t ∈ [22] := by simpa using Array.mem_of_getElem? ht
        have hall : ([22].all fun u => !Tryz.prog.wantsStandIn u) = true := by kernel_rfl
        exact (show Tryz.prog.wantsStandIn t = false by simpa using List.all_eq_true.1 hall t hm)⟩)
    (by kernel_rfl)
#print axioms proved
end Go.Proofs.YtkfcajnnbhahoaaGreatDoor.fnShown
