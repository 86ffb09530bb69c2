/-
  ExactFaultText: for all arguments the law returns true: the program's function returns what the reference's returns.
  The tables that the row lists are tied to the program's text.
-/
import Derived.Test.YtdmegpnacdgeoaaDoorRows
import Derived.Test.YtdmegpnacdgeoaaDoorCards
import Derived.Test.YtdmegpnacdgeoaaDoorTie
import Derived.WalkKit
import Derived.ProofKit
import Derived.OpenShut
import Derived.Lay
import Derived.MakeChecks
import Derived.SevenTiedAt
import Derived.Test.YtdmegpnacdgeoaaDoorFtW1
import Derived.Test.YtdmegpnacdgeoaaDoorFtP1
import Derived.Test.YtdmegpnacdgeoaaDoorCore6
namespace Go.Proofs.YtdmegpnacdgeoaaDoor.fnExactFaultText
open Go.ChangeShapes Go.WideShapes Go.ChangeAt Go.RowKit Go.Av Go.Proofs.Tryd
set_option linter.unusedVariables false
set_option linter.unusedSimpArgs false
set_option maxRecDepth 100000

theorem own : ownKnob Tryd.prog.godebug = none := by kernel_rfl
theorem laidOut : laidOutB Tryd.prog = true := by kernel_rfl

/-- what is known of it -/
def ok39 (x : SFault) : Prop := ((Lit.int .i64 x.Kind).wf = true) ∧ ((Lit.int .i64 x.At).wf = true)

theorem read39 : Reader Tryd.prog 39 (encSFault) ok39 := by
  intro H e w fuel cs x h
  obtain ⟨xs, n, rfl, rfl, hl, hxl, hf⟩ := DataW.trod_struct Tryd.underlying39 h
  have hl : cs.length = 2 := hl.trans (by kernel_rfl)
  have hxl : xs.length = 2 := hxl
  obtain ⟨y0, e0⟩ : ∃ y, xs[0]? = some y := ⟨_, List.getElem?_eq_getElem (by omega)⟩
  have h0 : DataW.trod e Tryd.prog w 0 (fun _ => true) true n 3 ((cs.drop 0).take (Tryd.prog.cellsOf 3)) = some y0 := (hf 0 _ rfl).trans e0
  have c0 : Tryd.prog.cellsOf 3 = 1 := by kernel_rfl
  rw [c0] at h0
  obtain ⟨a0, k0, r0⟩ := (Reader.i64 Tryd.underlying3) e w n _ _ h0
  obtain ⟨y1, e1⟩ : ∃ y, xs[1]? = some y := ⟨_, List.getElem?_eq_getElem (by omega)⟩
  have h1 : DataW.trod e Tryd.prog w 0 (fun _ => true) true n 3 ((cs.drop 1).take (Tryd.prog.cellsOf 3)) = some y1 := (hf 1 _ rfl).trans e1
  have c1 : Tryd.prog.cellsOf 3 = 1 := by kernel_rfl
  rw [c1] at h1
  obtain ⟨a1, k1, r1⟩ := (Reader.i64 Tryd.underlying3) e w n _ _ h1
  refine ⟨⟨a0, a1⟩, ⟨k0, k1⟩, fun S hS => ?_⟩
  have hcs : cs = (cs.drop 0).take 1 ++ ((cs.drop 1).take 1 ++ []) := by
    match cs, hl with
    | [x0, x1], _ => rfl
  rw [hcs]
  exact CellsR.append (r0 S fun p hp => hS p (List.mem_flatMap.2 ⟨y0, List.mem_of_getElem? e0, hp⟩)) (CellsR.append (r1 S fun p hp => hS p (List.mem_flatMap.2 ⟨y1, List.mem_of_getElem? e1, hp⟩)) (CellsR.nil))

/-! ### numerals -/
theorem tdiv_nat (u : Nat) : Int.tdiv (u : Int) 10 = ((u / 10 : Nat) : Int) := by rw [Int.tdiv_eq_ediv_of_nonneg (by omega)]; omega
theorem tmod_nat (u : Nat) : Int.tmod (u : Int) 10 = ((u % 10 : Nat) : Int) := by rw [Int.tmod_eq_emod_of_nonneg (by omega)]; omega

theorem bytI_digit (d : Nat) (h : d < 10) : bytI (48 + (d : Int)) = UInt8.ofNat (48 + d) := by
  have : d = 0 ∨ d = 1 ∨ d = 2 ∨ d = 3 ∨ d = 4 ∨ d = 5 ∨ d = 6 ∨ d = 7 ∨ d = 8 ∨ d = 9 := by omega
  rcases this with rfl | rfl | rfl | rfl | rfl | rfl | rfl | rfl | rfl | rfl <;> decide

theorem decDigits_len : ∀ u : Nat, (Lib.decDigits u).length ≤ u + 1 := by
  intro u
  induction u using Nat.strongRecOn with
  | ind u ih =>
    rw [Lib.decDigits]
    split
    · simp
    · have := ih (u / 10) (by omega)
      rw [List.length_append, List.length_singleton]
      omega

theorem dec_l (N : Nat) (a : Int) (ha : 0 ≤ a) : ∀ (n u : Nat) (s : List UInt8), 0 < u → u < n → u ≤ 2000000 → s.length + u ≤ 4000000 → m_spec_Dec_l1 N (n + 1) (a, (u : Int), s) = some (Lib.decDigits u ++ s) := by
  intro n
  induction n with
  | zero => intro u s h0 h; omega
  | succ n ih =>
    intro u s h0 hn hu hs
    rw [m_spec_Dec_l1]
    have hne : ((u : Int) != 0) = true := by simp; omega
    have hm : decide (Int.tmod (u : Int) 10 < 0) = false := by rw [tmod_nat]; simp; omega
    simp only [hne, cond_true, hm, cond_false]
    unfold m_spec_Dec_k2
    simp only [tmod_nat, tdiv_nat]
    rw [wrap64 (by omega) (by omega), bytI_digit _ (by omega), cat_some (by simp [maxLen]; omega), Option.bind_some, wrap64 (by omega) (by omega)]
    rw [Lib.decDigits]
    by_cases h : u < 10
    · rw [dif_pos h]
      have hz : u / 10 = 0 := by omega
      have hr : u % 10 = u := by omega
      rw [hz, hr, m_spec_Dec_l1]
      have hneg : decide (a < 0) = false := by simp; omega
      simp only [hneg, cond_false]
      rfl
    · rw [dif_neg h]
      obtain ⟨n, rfl⟩ : ∃ m, n = m + 1 := ⟨n - 1, by omega⟩
      rw [ih (u / 10) _ (by omega) (by omega) (by omega) (by simp; omega)]
      simp

theorem dec_is (N : Nat) (u : Nat) (hN : 2000002 < N) (hu : u ≤ 2000000) : m_spec_Dec N (u : Int) = some (Lib.itoa u) := by
  unfold m_spec_Dec
  by_cases h : u = 0
  · subst h
    have e : Lib.itoa ((0 : Nat) : Int) = [48] := by
      unfold Lib.itoa
      rw [if_neg (by omega)]
      show Lib.decDigits 0 = [48]
      rw [Lib.decDigits]; rfl
    rw [e]; rfl
  · have hne : ((u : Int) == 0) = false := by simp; omega
    rw [hne, cond_false]
    obtain ⟨n, rfl⟩ : ∃ n, N = n + 1 := ⟨N - 1, by omega⟩
    rw [dec_l _ (u : Int) (by omega) n u [] (by omega) (by omega) hu (by simp; omega), List.append_nil]
    unfold Lib.itoa
    rw [if_neg (by omega), Int.toNat_natCast]

theorem itoaS_is (u : Nat) (hu : u ≤ 2000000) : m_strconv_Itoa (u : Int) = some (Lib.itoa u) := by
  unfold m_strconv_Itoa itoaO
  rw [if_pos ⟨by omega, by omega⟩]

theorem itoa_len (u : Nat) : (Lib.itoa (u : Int)).length ≤ u + 1 := by
  unfold Lib.itoa
  rw [if_neg (by omega), Int.toNat_natCast]
  exact decDigits_len u

theorem l1In_isF (a b c : Int) : m_spec_l1In a b c = some (decide (a ≥ b) && decide (a ≤ c)) := by
  unfold m_spec_l1In
  cases decide (a ≥ b) <;> rfl

theorem word_ex (k : Int) : ∃ w : List UInt8, m_spec_FaultWord k = some w ∧ m_impl_FaultWord k = some w ∧ w.length ≤ 6 := by
  have e : ∀ k : Int, m_impl_FaultWord k = m_spec_FaultWord k := fun k => rfl
  rw [e]
  unfold m_spec_FaultWord
  rw [l1In_isF, Option.bind_some]
  cases hb : (decide (k ≥ 0) && decide (k ≤ 4)) with
  | false => exact ⟨[], rfl, rfl, by simp⟩
  | true =>
    simp only [Bool.and_eq_true, decide_eq_true_eq] at hb
    have : k = 0 ∨ k = 1 ∨ k = 2 ∨ k = 3 ∨ k = 4 := by omega
    rcases this with rfl | rfl | rfl | rfl | rfl <;> exact ⟨_, rfl, rfl, by decide⟩

theorem faultText_ex (N : Nat) (s : List UInt8) (f : SFault) (hN : 2000002 < N) (hs : s.length ≤ 1048576) : ∃ r, m_spec_FaultText N s f = some r ∧ m_impl_FaultText N s f = some r := by
  obtain ⟨line, col, l1, l2, l3, l4⟩ := lineCol_ex N s f.At hs (by omega)
  obtain ⟨w, w1, w2, w3⟩ := word_ex f.Kind
  unfold m_spec_FaultText m_impl_FaultText
  rw [l1, l2]
  simp only [Option.bind_some, w1, w2]
  cases hc : f.Kind == 0 with
  | true => exact ⟨[], rfl, rfl⟩
  | false =>
    cases hw : w == [] with
    | true => exact ⟨[], rfl, rfl⟩
    | false =>
      cases hl : (line : Int) == 0 with
      | true => exact ⟨[], rfl, rfl⟩
      | false =>
        have il := itoa_len line
        have ic := itoa_len col
        unfold m_impl_Dec
        simp only [cond_false, Option.bind_some, dec_is N line hN (by omega), dec_is N col hN (by omega), itoaS_is line (by omega), itoaS_is col (by omega)]
        rw [cat_some (by simp [maxLen]; omega), Option.bind_some, cat_some (by simp [maxLen]; omega), Option.bind_some, cat_some (by simp [maxLen]; omega), Option.bind_some, cat_some (by simp [maxLen]; omega), Option.bind_some]
        exact ⟨_, rfl, rfl⟩

theorem plain (s : List UInt8) (f : SFault) (ks : s.length ≤ maxLen) (kf : ok39 f) : ∃ N, m_laws_FnExactFaultText N s f = some true := by
  refine ⟨3000000, ?_⟩
  obtain ⟨N, hN⟩ : ∃ N, N = 3000000 := ⟨_, rfl⟩
  rw [← hN]
  unfold m_laws_FnExactFaultText
  cases hc : decide ((s.length : Int) > 1048576) with
  | true => rfl
  | false =>
    simp at hc
    obtain ⟨r, r1, r2⟩ := faultText_ex N s f (by omega) (by omega)
    have ht : m_laws_toFault f = some f := rfl
    simp only [cond_false, ht, Option.bind_some, r1, r2, beq_self_eq_true, Bool.not_true]



theorem kids : Go.Kids Tryd.prog (· < Tryd.prog.types.size) := kids_rows (by kernel_rfl) (by kernel_rfl)
theorem full : ∀ t e, t < Tryd.prog.types.size → Tryd.prog.underlying t = some (.slice e) → 0 < Tryd.prog.cellsOf e := slices_full_of Tryd.prog (by kernel_rfl)

/-- what the row lists -/
def lay : List (String × DataW Unit) := [("math/bits.deBruijn32tab", Rows.laid_math_bits_deBruijn32tab), ("math/bits.deBruijn64tab", Rows.laid_math_bits_deBruijn64tab), ("internal/strconv.uint64pow10", Rows.laid_internal_strconv_uint64pow10)]

theorem tables {W : World} (h : laidMetH Tryd.prog lay W) : W.var? Tryd.prog "internal/strconv.uint64pow10" = some (numCells .u64 Lib.pow10Tab) := by
  rw [MakeChecks.laidMetH_plain _ _ _ (by kernel_rfl)] at h
  obtain ⟨ps, ⟨g0, t0, cs0, fuel0, p0, q0, hg0, ht0, hv0, hd0, r0, _⟩, _, _⟩ := h
  obtain ⟨g1, t1, cs1, fuel1, p1, q1, hg1, ht1, hv1, hd1, r1, _⟩ := r0
  obtain ⟨g2, t2, cs2, fuel2, p2, q2, hg2, ht2, hv2, hd2, r2, _⟩ := r1
  obtain rfl := Option.some.inj ((show Tryd.prog.globalNamed "internal/strconv.uint64pow10" = some 3 by kernel_rfl).symm.trans hg2)
  obtain rfl := Option.some.inj ((show (Tryd.prog.globals[3]?).map (·.type) = some 134 by kernel_rfl).symm.trans ht2)
  have e2 : cs2 = numCells .u64 Lib.pow10Tab := nums_of_trod (k := .u64) (l := Lib.pow10Tab) (p := p2) (by rw [show (DataW.agg (Lib.pow10Tab.map fun s => .lit (.int .u64 s)) : DataW Unit) = Rows.laid_internal_strconv_uint64pow10 by kernel_rfl]; exact hd2) Tryd.underlying134 Tryd.underlying115 (by kernel_rfl) (by kernel_rfl)
  rw [e2] at hv2
  exact hv2

theorem grel {W : World} {S : Nat → Prop} (h0 : W.var? Tryd.prog "internal/strconv.uint64pow10" = some (numCells .u64 Lib.pow10Tab)) (s0 : S 3) : GRel (GS [3]) S W := by
  intro g cs hg
  have hc : ([3] : List Nat).contains g = true := by
    cases h : ([3] : List Nat).contains g with
    | true => rfl
    | false => unfold GS at hg; rw [h] at hg; cases hg
  have hm := List.contains_iff_mem.1 hc
  simp only [List.mem_cons, List.mem_nil_iff, or_false] at hm
  obtain rfl := hm
  · obtain rfl := Option.some.inj ((show GS [3] 3 = some (Lib.pow10Tab.map (numV .u64)) by kernel_rfl).symm.trans hg)
    exact grel_nums (show Tryd.prog.globalNamed "internal/strconv.uint64pow10" = some 3 by kernel_rfl) h0 s0

theorem lifted (os : Os) (started : os.Started) (H : Type) (enc : TypeId × Value → H) :
    ReturnsInHanded {} Tryd.checked os 4 .any (fun w args => (Rows.fnExactFaultTextSpec.pre enc Tryd.prog Tryd.f4 Rows.fnExactFaultTextRow.domain false w args ∧ laidMetH Tryd.prog lay w) ∧ sizedMet enc Tryd.prog Tryd.f4 (OpenSpec.ofChange Rows.fnExactFaultTextSpec) false w args) (Rows.fnExactFaultTextSpec.post enc Tryd.prog Tryd.f4 false true false false) := by
  refine returnsInHanded_of_change_and (C := Tryd.checked) (X := fun w _ => laidMetH Tryd.prog lay w) (fun _ _ _ hh h => h.of_heap hh) own started (by kernel_rfl) Tryd.func4
    (ChangeSpec.witness_at (enc := enc) (C := Tryd.checked) (os := os) (X := fun w _ => laidMetH Tryd.prog lay w) false (World.laidAll Tryd.prog os lay) #[.string ⟨#[]⟩, .agg #[.int .i64 0, .int .i64 0]] 12 (World.laidAll_os _ _ _) (by kernel_rfl) (by kernel_rfl) (by kernel_rfl) (by kernel_rfl) (by kernel_rfl)
      (by rw [MakeChecks.laidMetH_plain _ _ _ (by kernel_rfl)]; exact laidMet_laidAll _ (by kernel_rfl) (by kernel_rfl))) ?_
  intro W base args ds gs before hval0 hW hcnd _ hL _
  have hval : ∀ (j : Nat) t v, Tryd.f4.params[j]? = some t → args[j]? = some v → Value.okWide Tryd.prog W .any base t v := hval0
  have hW' := hW
  obtain ⟨p, q, hA0, hV0, rfl, hfz, hnd⟩ := hW
  have hA : DataW.TrodAll enc Tryd.prog W 0 (fun _ => true) true Tryd.f4.params.toList args.toList ds p := hA0
  have hV : DataW.TrodVars enc Tryd.prog W (fun _ => true) [] gs q := hV0
  rw [Tryd.params4] at hA hval
  have hA1 := hA
  obtain ⟨v0, vs0, d0, ds0, p0, q0, hargs, rfl, rfl, h0, r0⟩ := trodAll_cons hA
  obtain ⟨v1, vs1, d1, ds1, p1, q1, rfl, rfl, rfl, h1, r1⟩ := trodAll_cons r0
  obtain ⟨rfl, rfl, rfl⟩ := trodAll_nil r1
  obtain rfl : args = #[v0, v1] := by cases args; simp_all
  have hA2 : DataW.TrodAll enc Tryd.prog W 0 (fun _ => true) true [9, 39] [v0, v1] [d0, d1] (p0 ++ (p1 ++ [])) := hA1
  obtain ⟨rfl, rfl⟩ := trodVars_none hV
  obtain ⟨fu0, hf0⟩ := h0
  obtain ⟨a0, k0, c0⟩ := (Reader.str Tryd.underlying9) enc W fu0 _ _ hf0
  obtain ⟨n0, rfl⟩ := okWide_string Tryd.underlying9 (hval 0 9 v0 rfl rfl)
  obtain ⟨fu1, hf1⟩ := h1
  obtain ⟨a1, k1, c1⟩ := read39 enc W fu1 _ _ hf1
  obtain ⟨n1, rfl, _⟩ := okWide_struct Tryd.underlying39 (hval 1 39 v1 rfl rfl)
  have htab := tables hL
  have tv0 := htab
  have hlt : ∀ b, (fun b => blocksOf (p0 ++ (p1 ++ [])) b ∨ b = 3) b → b < W.heap.size := by
    intro b hb
    rcases hb with ⟨m, hm, rfl⟩ | rfl
    · exact DataW.TrodAll.lt hA1 m (by simpa using hm)
    · exact var_lt (show Tryd.prog.globalNamed "internal/strconv.uint64pow10" = some 3 by kernel_rfl) tv0
  obtain ⟨N, hN⟩ := plain a0 a1 k0 k1
  refine (AC.belowG (m_laws_FnExactFaultText_ok N a0 a1 hN) (fun b => blocksOf (p0 ++ (p1 ++ [])) b ∨ b = 3) hlt (grel tv0 (.inr rfl)) rfl fun i x hx => ?_).mono ?_
  · match i with
    | 0 =>
      simp only [List.getElem?_cons_succ, List.getElem?_cons_zero, Option.some.injEq] at hx
      subst hx
      exact argOne rfl (c0 _ fun p hp => (.inl ⟨p, by simp [hp], rfl⟩))
    | 1 =>
      simp only [List.getElem?_cons_succ, List.getElem?_cons_zero, Option.some.injEq] at hx
      subst hx
      exact argAgg (c1 _ fun p hp => (.inl ⟨p, by simp [hp], rfl⟩))
    | i + 2 => simp at hx
  · rintro e W' ⟨x, S', rfl, hx, hb⟩
    have hxt := hx.c_inv
    subst hxt
    exact ⟨_, rfl, Av.post_of_below (pa := (p0 ++ (p1 ++ []))) (pv := []) hW' (fun _ _ _ => (trodAll_cons_mk (shut_bool Tryd.underlying4 _) trodAll_mk0))
      (fun sp hsp => args_kept kids full hb (by decide +kernel) hA2 (fun m hm => hsp m (by simpa using hm))) (fun _ _ => rfl) (by simp) hb (ok_one (by kernel_rfl) rfl (okWide_bool_mk Tryd.underlying4 _))⟩

theorem over : Rows.fnExactFaultTextRow.holds Tryd.pinned (OpenSpec.ofChange Rows.fnExactFaultTextSpec) :=
  OpenClaim.holds_of_wide 4 Tryd.f4 rfl rfl rfl rfl rfl rfl rfl ⟨rfl, rfl, rfl, rfl, rfl⟩ rfl rfl rfl rfl rfl (by kernel_rfl) Tryd.func4 (by kernel_rfl)
    (of_decide_eq_true (by kernel_rfl)) (by unfold Func.isWrapper; first | (rw [if_pos (by decide +kernel)]; kernel_rfl) | (rw [if_neg (by decide +kernel)]; exact ⟨rfl, rfl⟩))
    (fun os started H enc _ => lifted os started H enc)

/-- the statement -/
theorem proved : Rows.FnExactFaultTextCardSaid :=
  Claim7.holds_tied_plain_at .later [] [.data, .data, .data] true (true, "e6da80ebe643ef01f83ae00eba10d494152888c5d42c3afff91228c7aaeb0714") false
    over (fun _ h => by cases h) (by kernel_rfl) (fun _ h => by cases h) fnExactFaultText_row_tie rfl ⟨rfl, rfl⟩ (by kernel_rfl) rfl
    (fun f fn hf hfn => by
      obtain rfl : f = 4 := Option.some.inj ((show Tryd.prog.funcNamed "loop.example/g01543/laws.FnExactFaultText" = some 4 by kernel_rfl).symm.trans hf) |>.symm
      obtain rfl : fn = Tryd.f4 := (Option.some.inj (Tryd.func4.symm.trans hfn)).symm
      exact ⟨by kernel_rfl, fun j t ht => by
        rw [Tryd.params4] at ht
        have hm : t ∈ [9, 39] := by simpa using Array.mem_of_getElem? ht
        have hall : ([9, 39].all fun u => !Tryd.prog.wantsStandIn u) = true := by kernel_rfl
        exact (show Tryd.prog.wantsStandIn t = false by simpa using List.all_eq_true.1 hall t hm)⟩)
    (by kernel_rfl)
#print axioms proved
end Go.Proofs.YtdmegpnacdgeoaaDoor.fnExactFaultText
