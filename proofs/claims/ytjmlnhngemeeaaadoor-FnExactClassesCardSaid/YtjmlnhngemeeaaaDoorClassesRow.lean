/-
  ExactClasses: for all arguments the law returns true: the program's function returns what the reference's returns.
  The tables that the row lists are tied to the program's text.
-/
import Derived.Test.YtjmlnhngemeeaaaDoorRows
import Derived.Test.YtjmlnhngemeeaaaDoorCards
import Derived.Test.YtjmlnhngemeeaaaDoorTie
import Derived.WalkKit
import Derived.ProofKit
import Derived.OpenShut
import Derived.Lay
import Derived.MakeChecks
import Derived.SevenTiedAt
import Derived.Test.YtjmlnhngemeeaaaDoorW3
import Derived.Test.YtjmlnhngemeeaaaDoorP2
import Derived.Test.YtjmlnhngemeeaaaDoorCore39
namespace Go.Proofs.YtjmlnhngemeeaaaDoor.fnExactClasses
open Go.ChangeShapes Go.WideShapes Go.ChangeAt Go.RowKit Go.Av Go.Proofs.Tryd
set_option linter.unusedVariables false
set_option linter.unusedSimpArgs false
set_option maxRecDepth 100000

theorem own : ownKnob Tryd.prog.godebug = none := by kernel_rfl
theorem laidOut : laidOutB Tryd.prog = true := by kernel_rfl

theorem class_ex {k : Int} (hk : okKind k) : ∃ c : UInt8, m_spec_ClassOf k = some [c] ∧ m_impl_ClassOf k = some [c] := by
  have hkw : m_impl_isKeywordKind k = some (decide (k ≥ 10) && decide (k ≤ 26)) := by
    unfold m_impl_isKeywordKind
    rw [within_is']
    rfl
  have hsg : m_impl_isSignKind k = some (decide (k ≥ 30) && decide (k ≤ 68)) := by
    unfold m_impl_isSignKind
    rw [within_is']
    rfl
  unfold m_spec_ClassOf m_impl_ClassOf
  rw [l1In_is', l1In_is', hkw, hsg]
  have hne : ∀ c : Int, ¬ k = c → (k == c) = false := by
    intro c h
    cases e : (k == c) with
    | false => rfl
    | true => exact absurd (eq_of_beq e) h
  rcases hk with ⟨h1, h2⟩ | ⟨h1, h2⟩ | ⟨h1, h2⟩
  · have : k = 1 ∨ k = 2 ∨ k = 3 ∨ k = 4 ∨ k = 5 ∨ k = 6 ∨ k = 7 ∨ k = 8 := by omega
    rcases this with rfl | rfl | rfl | rfl | rfl | rfl | rfl | rfl <;> exact ⟨_, rfl, rfl⟩
  · rw [hne 1 (by omega), hne 2 (by omega), hne 3 (by omega), hne 4 (by omega), hne 5 (by omega), hne 6 (by omega), hne 7 (by omega), hne 8 (by omega), decide_eq_true h1, decide_eq_true h2]
    exact ⟨107, rfl, rfl⟩
  · rw [hne 1 (by omega), hne 2 (by omega), hne 3 (by omega), hne 4 (by omega), hne 5 (by omega), hne 6 (by omega), hne 7 (by omega), hne 8 (by omega), decide_eq_true h1, decide_eq_true h2, decide_eq_false (by omega : ¬ k ≤ 26), Bool.and_false]
    exact ⟨111, rfl, rfl⟩

theorem paint_l3 (N M : Nat) (s : List UInt8) (hs : s.length ≤ 1048576) (r : List SToken × SFault) (y : Nat) (t : SToken) (hy : r.1[y]? = some t) (ht : inText s t) (hyl : y < 1048577) (ka kb : (List UInt8 × (List SToken × SFault) × Int × List UInt8) → Option (List UInt8 × Bool)) (k1 k2 : ((List SToken × SFault) × Int × List UInt8) → Option (List UInt8 × Bool))
    (hk : ∀ out, out.length = s.length → ∃ o, k1 (r, ((y + 1 : Nat) : Int), out) = some o ∧ k2 (r, ((y + 1 : Nat) : Int), out) = some o) :
    ∀ (n m j : Nat) (out : List UInt8), t.Text.length - j < n → t.Text.length - j < m → j ≤ t.Text.length → out.length = s.length →
      ∃ o, m_spec_Classes_l3 N ka k1 n ((y : Int), r, (j : Int), out) = some o ∧ m_impl_Classes_l3 M kb k2 m (r, (y : Int), t, (j : Int), out) = some o := by
  obtain ⟨hk0, hA, hB⟩ := ht
  obtain ⟨c, c1, c2⟩ := class_ex hk0
  have hix : ix r.1 (y : Int) = some t := ix_get hy
  have hst : IntKind.wrap .i64 ((y : Int) + 1) = ((y + 1 : Nat) : Int) := by rw [wrap64 (by omega) (by omega)]; omega
  intro n
  induction n with
  | zero => intro m j out h; omega
  | succ n ih =>
    intro m j out hn hm hj ho
    obtain ⟨m, rfl⟩ : ∃ k, m = k + 1 := ⟨m - 1, by omega⟩
    rw [m_spec_Classes_l3, m_impl_Classes_l3, hix, Option.bind_some]
    by_cases h : j < t.Text.length
    · have hsj : IntKind.wrap .i64 ((j : Int) + 1) = ((j + 1 : Nat) : Int) := by rw [wrap64 (by omega) (by omega)]; omega
      obtain ⟨a, ha⟩ := Int.eq_ofNat_of_zero_le hA
      have hw : IntKind.wrap .i64 (t.At + (j : Int)) = ((a + j : Nat) : Int) := by rw [wrap64 (by omega) (by omega)]; omega
      have hlt : a + j < out.length := by omega
      have e0 : ix [c] 0 = some c := rfl
      simp only [lt_true h, cond_true, Option.bind_some, c1, c2, hw, ix_nat hlt, upd_nat hlt, hsj, e0]
      exact ih m (j + 1) _ (by omega) (by omega) (by omega) (by simpa using ho)
    · simp only [lt_false h, cond_false, hst]
      exact hk out ho

theorem paint_l2 (N M : Nat) (s : List UInt8) (hs : s.length ≤ 1048576) (hN : s.length < N) (hM : s.length < M) (r : List SToken × SFault) (hr : ∀ t, t ∈ r.1 → inText s t) (hrl : r.1.length ≤ s.length) (ka kb : (List UInt8 × (List SToken × SFault) × Int × List UInt8) → Option (List UInt8 × Bool)) :
    ∀ (n m y : Nat) (out : List UInt8), r.1.length - y < n → r.1.length - y < m → y ≤ r.1.length → out.length = s.length →
      ∃ o, m_spec_Classes_l2 N ka n (r, (y : Int), out) = some o ∧ m_impl_Classes_l2 M kb m (r, (y : Int), out) = some o := by
  intro n
  induction n with
  | zero => intro m y out h; omega
  | succ n ih =>
    intro m y out hn hm hy ho
    obtain ⟨m, rfl⟩ : ∃ k, m = k + 1 := ⟨m - 1, by omega⟩
    rw [m_spec_Classes_l2, m_impl_Classes_l2]
    by_cases h : y < r.1.length
    · rw [lt_true h, cond_true, cond_true, ix_nat h, Option.bind_some]
      have ht := hr _ (List.getElem_mem h)
      have h2 := ht
      obtain ⟨_, hA, hB⟩ := h2
      exact paint_l3 N M s hs r y r.1[y] (List.getElem?_eq_getElem h) ht (by omega) ka kb _ _ (fun out ho => ih m (y + 1) out (by omega) (by omega) (by omega) ho) N M 0 out (by omega) (by omega) (by omega) ho
    · rw [lt_false h]
      exact ⟨_, rfl, rfl⟩

theorem paint_l1 (N : Nat) (s x : List UInt8) (hx : x.length = s.length) (hs : s.length ≤ 1048576) (hN : s.length < N) (r : List SToken × SFault) (hr : ∀ t, t ∈ r.1 → inText s t) (hrl : r.1.length ≤ s.length) :
    ∀ (n m j : Nat) (out : List UInt8), s.length - j < n → s.length - j < m → j ≤ s.length → out.length = s.length →
      ∃ o, m_spec_Classes_l1 N n (s, r, (j : Int), out) = some o ∧ m_impl_Classes_l1 N m (x, r, (j : Int), out) = some o := by
  intro n
  induction n with
  | zero => intro m j out h; omega
  | succ n ih =>
    intro m j out hn hm hj ho
    obtain ⟨m, rfl⟩ : ∃ k, m = k + 1 := ⟨m - 1, by omega⟩
    rw [m_spec_Classes_l1, m_impl_Classes_l1, hx]
    by_cases h : j < s.length
    · have hlt : j < out.length := by omega
      have hsj : IntKind.wrap .i64 ((j : Int) + 1) = ((j + 1 : Nat) : Int) := by rw [wrap64 (by omega) (by omega)]; omega
      simp only [lt_true h, cond_true, ix_nat hlt, upd_nat hlt, Option.bind_some, hsj]
      exact ih m (j + 1) _ (by omega) (by omega) (by omega) (by simpa using ho)
    · rw [lt_false h, cond_false, cond_false]
      exact paint_l2 N N s hs hN hN r hr hrl _ _ N N 0 out (by omega) (by omega) (by omega) ho

theorem same (N : Nat) (s : List UInt8) (hs : s.length ≤ 1048576) (hN : 1048600 < N) : ∃ o, m_spec_Classes N s = some o ∧ m_impl_Classes N s = some o := by
  obtain ⟨ts, f, h1, h2, h3, h4, h5⟩ := lex_ex N s hs (by omega)
  unfold m_spec_Classes m_impl_Classes
  rw [h1, h2, Option.bind_some, Option.bind_some]
  have hmk := mk_some (n := 1) (z := (0 : UInt8)) (i := s.length) (by omega) (by simp only [maxLen]; omega)
  rw [hmk]
  rcases h4 with rfl | h4 | h4
  · have e1 : (((⟨0, 0⟩ : SFault).Kind) != 0) = false := rfl
    have e2 : (!((((⟨0, 0⟩ : SFault).Kind) == 0) && ((((⟨0, 0⟩ : SFault).At) == 0) && true))) = false := rfl
    simp only [e1, e2, cond_false, Option.bind_some]
    exact paint_l1 N s _ (by simp) hs (by omega) (ts, ⟨0, 0⟩) h3 h5 N N 0 _ (by omega) (by omega) (by omega) (by simp)
  all_goals
    have e1 : (f.Kind != 0) = true := by rw [h4]; rfl
    have e2 : (f.Kind == 0) = false := by rw [h4]; rfl
    simp only [e1, e2, cond_true, Bool.false_and, Bool.not_false]
    exact ⟨_, rfl, rfl⟩

theorem plain (s : List UInt8) (ks : s.length ≤ maxLen) : ∃ N, m_laws_FnExactClasses N s = some true := by
  refine ⟨1048601, ?_⟩
  unfold m_laws_FnExactClasses
  by_cases h : (s.length : Int) > 1048576
  · simp [h]
  · obtain ⟨o, h1, h2⟩ := same 1048601 s (by omega) (by omega)
    have hd : decide ((s.length : Int) > 1048576) = false := by simp; omega
    have e1 : (!(o.1 == o.1)) = false := by simp
    have e2 : (!(o.2 == o.2)) = false := by simp
    simp only [hd, cond_false, h1, h2, Option.bind_some, e1, e2]


theorem kids : Go.Kids Tryd.prog (· < Tryd.prog.types.size) := kids_rows (by kernel_rfl) (by kernel_rfl)
theorem full : ∀ t e, t < Tryd.prog.types.size → Tryd.prog.underlying t = some (.slice e) → 0 < Tryd.prog.cellsOf e := slices_full_of Tryd.prog (by kernel_rfl)

/-- what the row lists -/
def lay : List (String × DataW Unit) := [("loop.example/g01543/impl.keywords", Rows.laid_loop_example_g01543_impl_keywords), ("loop.example/g01543/impl.signs", Rows.laid_loop_example_g01543_impl_signs), ("loop.example/g01543/impl.builtins", Rows.laid_loop_example_g01543_impl_builtins)]

theorem tables {W : World} (h : laidMetH Tryd.prog lay W) : W.var? Tryd.prog "loop.example/g01543/impl.keywords" = some (strCells tab_keywords) ∧ W.var? Tryd.prog "loop.example/g01543/impl.signs" = some (strCells tab_signs) ∧ W.var? Tryd.prog "loop.example/g01543/impl.builtins" = some (strCells tab_builtins) := by
  rw [MakeChecks.laidMetH_plain _ _ _ (by kernel_rfl)] at h
  obtain ⟨ps, ⟨g0, t0, cs0, fuel0, p0, q0, hg0, ht0, hv0, hd0, r0, _⟩, _, _⟩ := h
  obtain ⟨g1, t1, cs1, fuel1, p1, q1, hg1, ht1, hv1, hd1, r1, _⟩ := r0
  obtain ⟨g2, t2, cs2, fuel2, p2, q2, hg2, ht2, hv2, hd2, r2, _⟩ := r1
  obtain rfl := Option.some.inj ((show Tryd.prog.globalNamed "loop.example/g01543/impl.keywords" = some 0 by kernel_rfl).symm.trans hg0)
  obtain rfl := Option.some.inj ((show (Tryd.prog.globals[0]?).map (·.type) = some 68 by kernel_rfl).symm.trans ht0)
  have e0 : cs0 = strCells tab_keywords := strs_of_trod (l := tab_keywords) (p := p0) (by rw [show (DataW.agg (tab_keywords.map fun s => .lit (.string s)) : DataW Unit) = Rows.laid_loop_example_g01543_impl_keywords by kernel_rfl]; exact hd0) Tryd.underlying68 Tryd.underlying9 (by kernel_rfl) (by kernel_rfl)
  rw [e0] at hv0
  obtain rfl := Option.some.inj ((show Tryd.prog.globalNamed "loop.example/g01543/impl.signs" = some 1 by kernel_rfl).symm.trans hg1)
  obtain rfl := Option.some.inj ((show (Tryd.prog.globals[1]?).map (·.type) = some 69 by kernel_rfl).symm.trans ht1)
  have e1 : cs1 = strCells tab_signs := strs_of_trod (l := tab_signs) (p := p1) (by rw [show (DataW.agg (tab_signs.map fun s => .lit (.string s)) : DataW Unit) = Rows.laid_loop_example_g01543_impl_signs by kernel_rfl]; exact hd1) Tryd.underlying69 Tryd.underlying9 (by kernel_rfl) (by kernel_rfl)
  rw [e1] at hv1
  obtain rfl := Option.some.inj ((show Tryd.prog.globalNamed "loop.example/g01543/impl.builtins" = some 6 by kernel_rfl).symm.trans hg2)
  obtain rfl := Option.some.inj ((show (Tryd.prog.globals[6]?).map (·.type) = some 99 by kernel_rfl).symm.trans ht2)
  have e2 : cs2 = strCells tab_builtins := strs_of_trod (l := tab_builtins) (p := p2) (by rw [show (DataW.agg (tab_builtins.map fun s => .lit (.string s)) : DataW Unit) = Rows.laid_loop_example_g01543_impl_builtins by kernel_rfl]; exact hd2) Tryd.underlying99 Tryd.underlying9 (by kernel_rfl) (by kernel_rfl)
  rw [e2] at hv2
  exact ⟨hv0, hv1, hv2⟩

theorem grel {W : World} {S : Nat → Prop} (h0 : W.var? Tryd.prog "loop.example/g01543/impl.keywords" = some (strCells tab_keywords)) (h1 : W.var? Tryd.prog "loop.example/g01543/impl.signs" = some (strCells tab_signs)) (h2 : W.var? Tryd.prog "loop.example/g01543/impl.builtins" = some (strCells tab_builtins)) (s0 : S 0) (s1 : S 1) (s2 : S 6) : GRel (GS [0, 1, 6]) S W := by
  intro g cs hg
  have hc : ([0, 1, 6] : List Nat).contains g = true := by
    cases h : ([0, 1, 6] : List Nat).contains g with
    | true => rfl
    | false => unfold GS at hg; rw [h] at hg; cases hg
  have hm := List.contains_iff_mem.1 hc
  simp only [List.mem_cons, List.mem_nil_iff, or_false] at hm
  rcases hm with rfl | rfl | rfl
  · obtain rfl := Option.some.inj ((show GS [0, 1, 6] 0 = some (tab_keywords.map V.str) by kernel_rfl).symm.trans hg)
    exact el_of_var (show Tryd.prog.globalNamed "loop.example/g01543/impl.keywords" = some 0 by kernel_rfl) h0 s0
  · obtain rfl := Option.some.inj ((show GS [0, 1, 6] 1 = some (tab_signs.map V.str) by kernel_rfl).symm.trans hg)
    exact el_of_var (show Tryd.prog.globalNamed "loop.example/g01543/impl.signs" = some 1 by kernel_rfl) h1 s1
  · obtain rfl := Option.some.inj ((show GS [0, 1, 6] 6 = some (tab_builtins.map V.str) by kernel_rfl).symm.trans hg)
    exact el_of_var (show Tryd.prog.globalNamed "loop.example/g01543/impl.builtins" = some 6 by kernel_rfl) h2 s2

theorem lifted (os : Os) (started : os.Started) (H : Type) (enc : TypeId × Value → H) :
    ReturnsInHanded {} Tryd.checked os 6 .any (fun w args => (Rows.fnExactClassesSpec.pre enc Tryd.prog Tryd.f6 Rows.fnExactClassesRow.domain false w args ∧ laidMetH Tryd.prog lay w) ∧ sizedMet enc Tryd.prog Tryd.f6 (OpenSpec.ofChange Rows.fnExactClassesSpec) false w args) (Rows.fnExactClassesSpec.post enc Tryd.prog Tryd.f6 false true false false) := by
  refine returnsInHanded_of_change_and (C := Tryd.checked) (X := fun w _ => laidMetH Tryd.prog lay w) (fun _ _ _ hh h => h.of_heap hh) own started (by kernel_rfl) Tryd.func6
    (ChangeSpec.witness_at (enc := enc) (C := Tryd.checked) (os := os) (X := fun w _ => laidMetH Tryd.prog lay w) false (World.laidAll Tryd.prog os lay) #[.string ⟨#[]⟩] 12 (World.laidAll_os _ _ _) (by kernel_rfl) (by kernel_rfl) (by kernel_rfl) (by kernel_rfl) (by kernel_rfl)
      (by rw [MakeChecks.laidMetH_plain _ _ _ (by kernel_rfl)]; exact laidMet_laidAll _ (by kernel_rfl) (by kernel_rfl))) ?_
  intro W base args ds gs before hval0 hW hcnd _ hL _
  have hval : ∀ (j : Nat) t v, Tryd.f6.params[j]? = some t → args[j]? = some v → Value.okWide Tryd.prog W .any base t v := hval0
  have hW' := hW
  obtain ⟨p, q, hA0, hV0, rfl, hfz, hnd⟩ := hW
  have hA : DataW.TrodAll enc Tryd.prog W 0 (fun _ => true) true Tryd.f6.params.toList args.toList ds p := hA0
  have hV : DataW.TrodVars enc Tryd.prog W (fun _ => true) ["loop.example/g01543/impl.keywords", "loop.example/g01543/impl.builtins", "loop.example/g01543/impl.signs"] gs q := hV0
  rw [Tryd.params6] at hA hval
  have hA1 := hA
  obtain ⟨v0, vs0, d0, ds0, p0, q0, hargs, rfl, rfl, h0, r0⟩ := trodAll_cons hA
  obtain ⟨rfl, rfl, rfl⟩ := trodAll_nil r0
  obtain rfl : args = #[v0] := by cases args; simp_all
  have hA2 : DataW.TrodAll enc Tryd.prog W 0 (fun _ => true) true [9] [v0] [d0] (p0 ++ []) := hA1
  have hgl := vars_len hV
  obtain ⟨y0, y1, y2, rfl⟩ : ∃ y0 y1 y2, gs = [y0, y1, y2] := by
    match gs, hgl with
    | [y0, y1, y2], _ => exact ⟨y0, y1, y2, rfl⟩
  obtain ⟨fu0, hf0⟩ := h0
  obtain ⟨a0, k0, c0⟩ := (Reader.str Tryd.underlying9) enc W fu0 _ _ hf0
  obtain ⟨n0, rfl⟩ := okWide_string Tryd.underlying9 (hval 0 9 v0 rfl rfl)
  have htab := tables hL
  have tv0 := htab.1
  have tv1 := htab.2.1
  have tv2 := htab.2.2
  have hlt : ∀ b, (fun b => blocksOf (p0 ++ []) b ∨ b = 0 ∨ b = 1 ∨ b = 6) b → b < W.heap.size := by
    intro b hb
    rcases hb with ⟨m, hm, rfl⟩ | rfl | rfl | rfl
    · exact DataW.TrodAll.lt hA1 m (by simpa using hm)
    · exact var_lt (show Tryd.prog.globalNamed "loop.example/g01543/impl.keywords" = some 0 by kernel_rfl) tv0
    · exact var_lt (show Tryd.prog.globalNamed "loop.example/g01543/impl.signs" = some 1 by kernel_rfl) tv1
    · exact var_lt (show Tryd.prog.globalNamed "loop.example/g01543/impl.builtins" = some 6 by kernel_rfl) tv2
  obtain ⟨N, hN⟩ := plain a0 k0
  refine (AC.belowG (m_laws_FnExactClasses_ok N a0 hN) (fun b => blocksOf (p0 ++ []) b ∨ b = 0 ∨ b = 1 ∨ b = 6) hlt (grel tv0 tv1 tv2 (.inr (.inl rfl)) (.inr (.inr (.inl rfl))) (.inr (.inr (.inr rfl)))) rfl fun i x hx => ?_).mono ?_
  · match i with
    | 0 =>
      simp only [List.getElem?_cons_succ, List.getElem?_cons_zero, Option.some.injEq] at hx
      subst hx
      exact argOne rfl (c0 _ fun p hp => (.inl ⟨p, by simp [hp], rfl⟩))
    | i + 1 => simp at hx
  · rintro e W' ⟨x, S', rfl, hx, hb⟩
    have hxt := hx.c_inv
    subst hxt
    exact ⟨_, rfl, Av.post_of_below (pa := (p0 ++ [])) (pv := q) hW' (fun _ _ _ => (trodAll_cons_mk (shut_bool Tryd.underlying4 _) trodAll_mk0))
      (fun sp hsp => args_kept kids full hb (by decide +kernel) hA2 (fun m hm => hsp m (by simp only [List.mem_append]; exact .inl (by simpa using hm)))) (fun sp hsp => vars_kept laidOut hb (by kernel_rfl) hV (fun m hm => hsp m (by simp [hm]))) (by simp) hb (ok_one (by kernel_rfl) rfl (okWide_bool_mk Tryd.underlying4 _))⟩

theorem over : Rows.fnExactClassesRow.holds Tryd.pinned (OpenSpec.ofChange Rows.fnExactClassesSpec) :=
  OpenClaim.holds_of_wide 6 Tryd.f6 rfl rfl rfl rfl rfl rfl rfl ⟨rfl, rfl, rfl, rfl, rfl⟩ rfl rfl rfl rfl rfl (by kernel_rfl) Tryd.func6 (by kernel_rfl)
    (of_decide_eq_true (by kernel_rfl)) (by unfold Func.isWrapper; first | (rw [if_pos (by decide +kernel)]; kernel_rfl) | (rw [if_neg (by decide +kernel)]; exact ⟨rfl, rfl⟩))
    (fun os started H enc _ => lifted os started H enc)

/-- the statement -/
theorem proved : Rows.FnExactClassesCardSaid :=
  Claim7.holds_tied_plain_at .later [] [.widerDeep, .data, .widerDeep] true (true, "07eaec5f2b6f543fb5cdbfe2ffb1fd1099b65945ea79c247d38cdfda68164ca3") false
    over (fun _ h => by cases h) (by kernel_rfl) (fun _ h => by cases h) fnExactClasses_row_tie rfl ⟨rfl, rfl⟩ (by kernel_rfl) rfl
    (fun f fn hf hfn => by
      obtain rfl : f = 6 := Option.some.inj ((show Tryd.prog.funcNamed "loop.example/g01543/laws.FnExactClasses" = some 6 by kernel_rfl).symm.trans hf) |>.symm
      obtain rfl : fn = Tryd.f6 := (Option.some.inj (Tryd.func6.symm.trans hfn)).symm
      exact ⟨by kernel_rfl, fun j t ht => by
        rw [Tryd.params6] at ht
        have hm : t ∈ [9] := by simpa using Array.mem_of_getElem? ht
        have hall : ([9].all fun u => !Tryd.prog.wantsStandIn u) = true := by kernel_rfl
        exact (show Tryd.prog.wantsStandIn t = false by simpa using List.all_eq_true.1 hall t hm)⟩)
    (by kernel_rfl)
#print axioms proved
end Go.Proofs.YtjmlnhngemeeaaaDoor.fnExactClasses
