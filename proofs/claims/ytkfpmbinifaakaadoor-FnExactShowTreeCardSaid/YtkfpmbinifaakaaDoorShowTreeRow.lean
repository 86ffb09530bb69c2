/-
  ExactShowTree: for all arguments the law returns true: the program's function returns what the reference's returns.
  The tables that the row lists are tied to the program's text.
-/
import Derived.Test.YtkfpmbinifaakaaDoorRows
import Derived.Test.YtkfpmbinifaakaaDoorCards
import Derived.Test.YtkfpmbinifaakaaDoorTie
import Derived.WalkKit
import Derived.ProofKit
import Derived.OpenShut
import Derived.Lay
import Derived.MakeChecks
import Derived.SevenTiedAt
import Derived.Test.YtkfpmbinifaakaaDoorW3
import Derived.Test.YtkfpmbinifaakaaDoorP3
import Derived.Test.YtkfpmbinifaakaaDoorCore5
namespace Go.Proofs.YtkfpmbinifaakaaDoor.fnExactShowTree
open Go.ChangeShapes Go.WideShapes Go.ChangeAt Go.RowKit Go.Av Go.Proofs.Tryd
set_option linter.unusedVariables false
set_option linter.unusedSimpArgs false
set_option maxRecDepth 100000

theorem own : ownKnob Tryd.prog.godebug = none := by kernel_rfl
theorem laidOut : laidOutB Tryd.prog = true := by kernel_rfl

/-- what is known of it -/
def ok58 (x : SNode) : Prop := ((Lit.int .i64 x.Kind).wf = true) ∧ ((Lit.int .i64 x.Op).wf = true) ∧ (x.Text.length ≤ maxLen) ∧ (x.Other.length ≤ maxLen) ∧ ((∀ z, z ∈ x.Kids → ((Lit.int .i64 z).wf = true)) ∧ x.Kids.length ≤ maxLen)

theorem read58 : Reader Tryd.prog 58 (encSNode false) ok58 := by
  intro H e w fuel cs x h
  obtain ⟨xs, n, rfl, rfl, hl, hxl, hf⟩ := DataW.trod_struct Tryd.underlying58 h
  have hl : cs.length = 5 := hl.trans (by kernel_rfl)
  have hxl : xs.length = 5 := hxl
  obtain ⟨y0, e0⟩ : ∃ y, xs[0]? = some y := ⟨_, List.getElem?_eq_getElem (by omega)⟩
  have h0 : DataW.trod e Tryd.prog w 0 (fun _ => true) true n 3 ((cs.drop 0).take (Tryd.prog.cellsOf 3)) = some y0 := (hf 0 _ rfl).trans e0
  have c0 : Tryd.prog.cellsOf 3 = 1 := by kernel_rfl
  rw [c0] at h0
  obtain ⟨a0, k0, r0⟩ := (Reader.i64 Tryd.underlying3) e w n _ _ h0
  obtain ⟨y1, e1⟩ : ∃ y, xs[1]? = some y := ⟨_, List.getElem?_eq_getElem (by omega)⟩
  have h1 : DataW.trod e Tryd.prog w 0 (fun _ => true) true n 3 ((cs.drop 1).take (Tryd.prog.cellsOf 3)) = some y1 := (hf 1 _ rfl).trans e1
  have c1 : Tryd.prog.cellsOf 3 = 1 := by kernel_rfl
  rw [c1] at h1
  obtain ⟨a1, k1, r1⟩ := (Reader.i64 Tryd.underlying3) e w n _ _ h1
  obtain ⟨y2, e2⟩ : ∃ y, xs[2]? = some y := ⟨_, List.getElem?_eq_getElem (by omega)⟩
  have h2 : DataW.trod e Tryd.prog w 0 (fun _ => true) true n 9 ((cs.drop 2).take (Tryd.prog.cellsOf 9)) = some y2 := (hf 2 _ rfl).trans e2
  have c2 : Tryd.prog.cellsOf 9 = 1 := by kernel_rfl
  rw [c2] at h2
  obtain ⟨a2, k2, r2⟩ := (Reader.str Tryd.underlying9) e w n _ _ h2
  obtain ⟨y3, e3⟩ : ∃ y, xs[3]? = some y := ⟨_, List.getElem?_eq_getElem (by omega)⟩
  have h3 : DataW.trod e Tryd.prog w 0 (fun _ => true) true n 9 ((cs.drop 3).take (Tryd.prog.cellsOf 9)) = some y3 := (hf 3 _ rfl).trans e3
  have c3 : Tryd.prog.cellsOf 9 = 1 := by kernel_rfl
  rw [c3] at h3
  obtain ⟨a3, k3, r3⟩ := (Reader.str Tryd.underlying9) e w n _ _ h3
  obtain ⟨y4, e4⟩ : ∃ y, xs[4]? = some y := ⟨_, List.getElem?_eq_getElem (by omega)⟩
  have h4 : DataW.trod e Tryd.prog w 0 (fun _ => true) true n 56 ((cs.drop 4).take (Tryd.prog.cellsOf 56)) = some y4 := (hf 4 _ rfl).trans e4
  have c4 : Tryd.prog.cellsOf 56 = 1 := by kernel_rfl
  rw [c4] at h4
  obtain ⟨a4, k4, r4⟩ := (Reader.slice Tryd.underlying56 (Reader.i64 Tryd.underlying3) 1 (by kernel_rfl) (by decide) (fun _ => rfl)) e w n _ _ h4
  refine ⟨⟨a0, a1, a2, a3, a4⟩, ⟨k0, k1, k2, k3, k4⟩, fun S hS => ?_⟩
  have hcs : cs = (cs.drop 0).take 1 ++ ((cs.drop 1).take 1 ++ ((cs.drop 2).take 1 ++ ((cs.drop 3).take 1 ++ ((cs.drop 4).take 1 ++ [])))) := by
    match cs, hl with
    | [x0, x1, x2, x3, x4], _ => rfl
  rw [hcs]
  exact CellsR.append (r0 S fun p hp => hS p (List.mem_flatMap.2 ⟨y0, List.mem_of_getElem? e0, hp⟩)) (CellsR.append (r1 S fun p hp => hS p (List.mem_flatMap.2 ⟨y1, List.mem_of_getElem? e1, hp⟩)) (CellsR.append (r2 S fun p hp => hS p (List.mem_flatMap.2 ⟨y2, List.mem_of_getElem? e2, hp⟩)) (CellsR.append (r3 S fun p hp => hS p (List.mem_flatMap.2 ⟨y3, List.mem_of_getElem? e3, hp⟩)) (CellsR.append (r4 S fun p hp => hS p (List.mem_flatMap.2 ⟨y4, List.mem_of_getElem? e4, hp⟩)) (CellsR.nil)))))

theorem and127 (n : Nat) (h : n < 562949953421312) : bits .and .i64 (n : Int) 127 = ((n % 128 : Nat) : Int) := by
  have e : (BitVec.ofInt 64 (n : Int) &&& BitVec.ofInt 64 127).toNat = n % 128 := by
    rw [BitVec.toNat_and, BitVec.ofInt_natCast, BitVec.toNat_ofNat, show BitVec.ofInt 64 127 = BitVec.ofNat 64 127 from rfl, BitVec.toNat_ofNat, Nat.mod_eq_of_lt (by omega : n < 2 ^ 64)]
    exact Nat.and_two_pow_sub_one_eq_mod n 7
  show IntKind.wrap .i64 (((BitVec.ofInt 64 (n : Int) &&& BitVec.ofInt 64 127).toNat : Nat) : Int) = _
  rw [e, wrap64 (by omega) (by omega)]

theorem or128 (m : Nat) (h : m < 128) : bits .or .i64 (m : Int) 128 = ((128 + m : Nat) : Int) := by
  have e : (BitVec.ofInt 64 (m : Int) ||| BitVec.ofInt 64 128).toNat = 128 + m := by
    rw [BitVec.toNat_or, BitVec.ofInt_natCast, BitVec.toNat_ofNat, show BitVec.ofInt 64 128 = BitVec.ofNat 64 128 from rfl, BitVec.toNat_ofNat, Nat.mod_eq_of_lt (by omega : m < 2 ^ 64)]
    have := Nat.two_pow_add_eq_or_of_lt (i := 7) (b := m) (by omega) 1
    rw [show (128 % 2 ^ 64 : Nat) = 2 ^ 7 * 1 from rfl, Nat.or_comm, ← this]
  show IntKind.wrap .i64 (((BitVec.ofInt 64 (m : Int) ||| BitVec.ofInt 64 128).toNat : Nat) : Int) = _
  rw [e, wrap64 (by omega) (by omega)]

theorem var_l (N : Nat) : ∀ (k f f' n : Nat) (acc : List UInt8), n < 128 ^ (k + 1) → n < 562949953421312 → k < f → k < f' → acc.length + k ≤ 1000 →
    ∃ s, m_spec_Var_l1 N f ((n : Int), acc) = some (acc ++ s) ∧ m_impl_Var_l1 N f' ((n : Int), acc) = some (acc ++ s) ∧ s.length ≤ k + 1 := by
  intro k
  induction k with
  | zero =>
    intro f f' n acc hn hb hf hf' ha
    obtain ⟨f, rfl⟩ : ∃ m, f = m + 1 := ⟨f - 1, by omega⟩
    obtain ⟨f', rfl⟩ : ∃ m, f' = m + 1 := ⟨f' - 1, by omega⟩
    have h1 : decide ((n : Int) ≥ 128) = false := by simp; omega
    have h2 : decide ((n : Int) > 127) = false := by simp; omega
    refine ⟨[bytI n], ?_, ?_, by simp⟩
    · rw [m_spec_Var_l1, h1, cond_false, app_some (by simp; omega)]; rfl
    · rw [m_impl_Var_l1, h2, cond_false, app_some (by simp; omega)]; rfl
  | succ k ih =>
    intro f f' n acc hn hb hf hf' ha
    obtain ⟨f, rfl⟩ : ∃ m, f = m + 1 := ⟨f - 1, by omega⟩
    obtain ⟨f', rfl⟩ : ∃ m, f' = m + 1 := ⟨f' - 1, by omega⟩
    by_cases hlt : n < 128
    · have h1 : decide ((n : Int) ≥ 128) = false := by simp; omega
      have h2 : decide ((n : Int) > 127) = false := by simp; omega
      refine ⟨[bytI n], ?_, ?_, by simp⟩
      · rw [m_spec_Var_l1, h1, cond_false, app_some (by simp; omega)]; rfl
      · rw [m_impl_Var_l1, h2, cond_false, app_some (by simp; omega)]; rfl
    · have h1 : decide ((n : Int) ≥ 128) = true := by simp; omega
      have h2 : decide ((n : Int) > 127) = true := by simp; omega
      have e1 : IntKind.wrap .i64 (Int.tdiv (n : Int) 128) = ((n / 128 : Nat) : Int) := by
        rw [show Int.tdiv (n : Int) 128 = ((n / 128 : Nat) : Int) from rfl, wrap64 (by omega) (by omega)]
      have e2 : Int.fdiv (n : Int) (2 ^ (min 7 64)) = ((n / 128 : Nat) : Int) := by
        rw [show ((2 : Int) ^ (min 7 64)) = 128 from rfl, Int.fdiv_eq_ediv_of_nonneg _ (by omega)]; rfl
      have e3 : IntKind.wrap .i64 (128 + Int.tmod (n : Int) 128) = ((128 + n % 128 : Nat) : Int) := by
        rw [show Int.tmod (n : Int) 128 = ((n % 128 : Nat) : Int) from rfl, wrap64 (by omega) (by omega)]; omega
      have e4 : bits .or .i64 (bits .and .i64 (n : Int) 127) 128 = ((128 + n % 128 : Nat) : Int) := by
        rw [and127 n hb, or128 _ (by omega)]
      obtain ⟨s, s1, s2, s3⟩ := ih f f' (n / 128) (acc ++ [bytI ((128 + n % 128 : Nat) : Int)]) (by rw [Nat.div_lt_iff_lt_mul (by omega)]; rw [Nat.pow_succ] at hn; exact hn) (by omega) (by omega) (by omega) (by simp; omega)
      refine ⟨bytI ((128 + n % 128 : Nat) : Int) :: s, ?_, ?_, by simp; omega⟩
      · rw [m_spec_Var_l1, h1, cond_true, e3, app_some (by simp; omega), Option.bind_some, e1, s1]; simp
      · rw [m_impl_Var_l1, h2, cond_true, e4, app_some (by simp; omega), Option.bind_some, e2, s2]; simp

theorem var_is (N : Nat) (hN : 100 < N) (n : Int) : ∃ s, m_spec_Var N n = some s ∧ m_impl_Var N n = some s ∧ s.length ≤ 8 := by
  unfold m_spec_Var m_impl_Var
  rw [l1In_is, within_is]
  by_cases h : 0 ≤ n ∧ n ≤ 562949953421311
  · obtain ⟨m, rfl⟩ := Int.eq_ofNat_of_zero_le h.1
    have d : (decide ((m : Int) ≥ 0) && decide ((m : Int) ≤ 562949953421311)) = true := by simp; omega
    obtain ⟨s, s1, s2, s3⟩ := var_l N 7 N N m [] (by omega) (by omega) (by omega) (by omega) (by simp)
    simp only [d, Option.bind_some, Bool.not_true, cond_false]
    exact ⟨s, s1, s2, s3⟩
  · have d : (decide (n ≥ 0) && decide (n ≤ 562949953421311)) = false := by
      cases hd : (decide (n ≥ 0) && decide (n ≤ 562949953421311)) with
      | false => rfl
      | true => simp only [Bool.and_eq_true, decide_eq_true_eq] at hd; omega
    simp only [d, Option.bind_some, Bool.not_false, cond_true]
    exact ⟨[], rfl, rfl, by simp⟩

theorem show_l (N : Nat) (hN : 100 < N) (a : List SNode) (hl : a.length ≤ 1048576) (hs : ∀ x, x ∈ a → smNode x) : ∀ (k i f f' : Nat) (acc : List UInt8), i + k = a.length → k < f → k < f' → acc.length ≤ 100 + i * 3000000 →
    ∃ s, m_spec_ShowTree_l1 N f (a, acc, (i : Int)) = some s ∧ m_impl_ShowTree_l1 N f' (a, acc, (i : Int)) = some s := by
  intro k
  induction k with
  | zero =>
    intro i f f' acc hi hf hf' ha
    obtain ⟨f, rfl⟩ : ∃ m, f = m + 1 := ⟨f - 1, by omega⟩
    obtain ⟨f', rfl⟩ : ∃ m, f' = m + 1 := ⟨f' - 1, by omega⟩
    have hlt : ¬ i < a.length := by omega
    exact ⟨acc, by rw [m_spec_ShowTree_l1, lt_false hlt, cond_false], by rw [m_impl_ShowTree_l1, lt_false hlt, cond_false]⟩
  | succ k ih =>
    intro i f f' acc hi hf hf' ha
    obtain ⟨f, rfl⟩ : ∃ m, f = m + 1 := ⟨f - 1, by omega⟩
    obtain ⟨f', rfl⟩ : ∃ m, f' = m + 1 := ⟨f' - 1, by omega⟩
    have hlt : i < a.length := by omega
    have hx := ix_nat hlt
    have hsm := hs a[i] (List.getElem_mem hlt)
    unfold smNode at hsm
    obtain ⟨s1, a1, b1, c1⟩ := var_is N hN a[i].Kind
    obtain ⟨s2, a2, b2, c2⟩ := var_is N hN a[i].Op
    obtain ⟨s3, a3, b3, c3⟩ := var_is N hN (a[i].Text.length : Int)
    obtain ⟨s4, a4, b4, c4⟩ := var_is N hN (a[i].Other.length : Int)
    obtain ⟨s5, a5, b5, c5⟩ := var_is N hN (a[i].Kids.length : Int)
    have hm : (9223372036854775807 : Nat) = maxLen := rfl
    have hstep : IntKind.wrap .i64 ((i : Int) + 1) = ((i + 1 : Nat) : Int) := by rw [wrap64 (by omega) (by omega)]; omega
    obtain ⟨s, d1, d2⟩ := ih (i + 1) f f' (acc ++ (s1 ++ (s2 ++ (s3 ++ (a[i].Text ++ (s4 ++ (a[i].Other ++ s5))))))) (by omega) (by omega) (by omega) (by simp only [List.length_append]; omega)
    refine ⟨s, ?_, ?_⟩
    · rw [m_spec_ShowTree_l1, lt_true hlt, cond_true]
      unfold m_spec_l43Text
      simp only [hx, Option.bind_some, a1, a2, a3, a4, a5]
      rw [cat_some (by omega), Option.bind_some, cat_some (by simp only [List.length_append]; omega), Option.bind_some, cat_some (by omega), Option.bind_some, Option.bind_some, cat_some (by simp only [List.length_append]; omega), Option.bind_some,
        cat_some (by omega), Option.bind_some, Option.bind_some, cat_some (by simp only [List.length_append]; omega), Option.bind_some, cat_some (by simp only [List.length_append]; omega), Option.bind_some, hstep]
      simpa only [List.append_assoc] using d1
    · rw [m_impl_ShowTree_l1, lt_true hlt, cond_true]
      simp only [hx, Option.bind_some, b1, b2, b3, b4, b5]
      rw [cat_some (by omega), Option.bind_some, cat_some (by simp only [List.length_append]; omega), Option.bind_some, cat_some (by simp only [List.length_append]; omega), Option.bind_some, cat_some (by simp only [List.length_append]; omega), Option.bind_some,
        cat_some (by simp only [List.length_append]; omega), Option.bind_some, cat_some (by simp only [List.length_append]; omega), Option.bind_some, cat_some (by simp only [List.length_append]; omega), Option.bind_some, hstep]
      simpa only [List.append_assoc] using d2

theorem show_is (N : Nat) (a : List SNode) (hN : 1048577 + 400 < N) (hl : a.length ≤ 1048576) (hs : ∀ x, x ∈ a → smNode x) : ∃ s, m_spec_ShowTree N a = some s ∧ m_impl_ShowTree N a = some s := by
  obtain ⟨b, b1, b2, _⟩ := treeOk_ex N a hN hs
  unfold m_spec_ShowTree m_impl_ShowTree
  rw [b1, b2]
  simp only [Option.bind_some]
  cases b with
  | false => exact ⟨[], rfl, rfl⟩
  | true =>
    obtain ⟨s, s1, s2, s3⟩ := var_is N (by omega) (a.length : Int)
    obtain ⟨r, r1, r2⟩ := show_l N (by omega) a hl hs a.length 0 N N s (by omega) (by omega) (by omega) (by omega)
    simp only [Bool.not_true, cond_false, s1, s2, Option.bind_some]
    exact ⟨r, r1, r2⟩

theorem plain (x : List SNode) (kx : (∀ z, z ∈ x → ok58 z) ∧ x.length ≤ maxLen) : ∃ N, m_laws_FnExactShowTree N x = some true := by
  obtain ⟨kz, kl⟩ := kx
  have ha : ∀ z, z ∈ x → okNode z := fun z hz => by obtain ⟨_, _, h1, h2, _, h3⟩ := kz z hz; exact ⟨h1, h2, h3⟩
  refine ⟨x.length + 1050578, ?_⟩
  obtain ⟨N, hN⟩ : ∃ N, N = x.length + 1050578 := ⟨_, rfl⟩
  rw [← hN]
  unfold m_laws_FnExactShowTree
  obtain ⟨r, hr, hc⟩ := szNodeS_is N x (by omega) kl ha 1048576 (by omega) (by omega)
  rw [hr, Option.bind_some]
  rcases hc with ⟨hc, _⟩ | ⟨hc, h0⟩
  · simp [hc]
  · have hs := smNode_of x (by omega)
    have hla : x.length ≤ 1048576 := by omega
    have hn : decide (r < 0) = false := by simp; omega
    have hto := toNodeS_is N x (by omega) hla hs
    have hea := eqNodeS_self N x (by omega) hla hs
    obtain ⟨s, s1, s2⟩ := show_is N x (by omega) hla hs
    have hss : (!(s == s)) = false := by simp
    simp only [hn, cond_false, hto, Option.bind_some, s1, s2, hea, hss, Bool.not_true]



theorem kids : Go.Kids Tryd.prog (· < Tryd.prog.types.size) := kids_rows (by kernel_rfl) (by kernel_rfl)
theorem full : ∀ t e, t < Tryd.prog.types.size → Tryd.prog.underlying t = some (.slice e) → 0 < Tryd.prog.cellsOf e := slices_full_of Tryd.prog (by kernel_rfl)

/-- what the row lists -/
def lay : List (String × DataW Unit) := [("loop.example/g01543/impl.keywords", Rows.laid_loop_example_g01543_impl_keywords), ("loop.example/g01543/impl.signs", Rows.laid_loop_example_g01543_impl_signs), ("loop.example/g01543/impl.builtins", Rows.laid_loop_example_g01543_impl_builtins)]

theorem tables {W : World} (h : laidMetH Tryd.prog lay W) : W.var? Tryd.prog "loop.example/g01543/impl.keywords" = some (strCells tab_keywords) ∧ W.var? Tryd.prog "loop.example/g01543/impl.signs" = some (strCells tab_signs) ∧ W.var? Tryd.prog "loop.example/g01543/impl.builtins" = some (strCells tab_builtins) := by
  rw [MakeChecks.laidMetH_plain _ _ _ (by kernel_rfl)] at h
  obtain ⟨ps, ⟨g0, t0, cs0, fuel0, p0, q0, hg0, ht0, hv0, hd0, r0, _⟩, _, _⟩ := h
  obtain ⟨g1, t1, cs1, fuel1, p1, q1, hg1, ht1, hv1, hd1, r1, _⟩ := r0
  obtain ⟨g2, t2, cs2, fuel2, p2, q2, hg2, ht2, hv2, hd2, r2, _⟩ := r1
  obtain rfl := Option.some.inj ((show Tryd.prog.globalNamed "loop.example/g01543/impl.keywords" = some 1 by kernel_rfl).symm.trans hg0)
  obtain rfl := Option.some.inj ((show (Tryd.prog.globals[1]?).map (·.type) = some 103 by kernel_rfl).symm.trans ht0)
  have e0 : cs0 = strCells tab_keywords := strs_of_trod (l := tab_keywords) (p := p0) (by rw [show (DataW.agg (tab_keywords.map fun s => .lit (.string s)) : DataW Unit) = Rows.laid_loop_example_g01543_impl_keywords by kernel_rfl]; exact hd0) Tryd.underlying103 Tryd.underlying9 (by kernel_rfl) (by kernel_rfl)
  rw [e0] at hv0
  obtain rfl := Option.some.inj ((show Tryd.prog.globalNamed "loop.example/g01543/impl.signs" = some 2 by kernel_rfl).symm.trans hg1)
  obtain rfl := Option.some.inj ((show (Tryd.prog.globals[2]?).map (·.type) = some 104 by kernel_rfl).symm.trans ht1)
  have e1 : cs1 = strCells tab_signs := strs_of_trod (l := tab_signs) (p := p1) (by rw [show (DataW.agg (tab_signs.map fun s => .lit (.string s)) : DataW Unit) = Rows.laid_loop_example_g01543_impl_signs by kernel_rfl]; exact hd1) Tryd.underlying104 Tryd.underlying9 (by kernel_rfl) (by kernel_rfl)
  rw [e1] at hv1
  obtain rfl := Option.some.inj ((show Tryd.prog.globalNamed "loop.example/g01543/impl.builtins" = some 0 by kernel_rfl).symm.trans hg2)
  obtain rfl := Option.some.inj ((show (Tryd.prog.globals[0]?).map (·.type) = some 102 by kernel_rfl).symm.trans ht2)
  have e2 : cs2 = strCells tab_builtins := strs_of_trod (l := tab_builtins) (p := p2) (by rw [show (DataW.agg (tab_builtins.map fun s => .lit (.string s)) : DataW Unit) = Rows.laid_loop_example_g01543_impl_builtins by kernel_rfl]; exact hd2) Tryd.underlying102 Tryd.underlying9 (by kernel_rfl) (by kernel_rfl)
  rw [e2] at hv2
  exact ⟨hv0, hv1, hv2⟩

theorem grel {W : World} {S : Nat → Prop} (h0 : W.var? Tryd.prog "loop.example/g01543/impl.keywords" = some (strCells tab_keywords)) (h1 : W.var? Tryd.prog "loop.example/g01543/impl.signs" = some (strCells tab_signs)) (h2 : W.var? Tryd.prog "loop.example/g01543/impl.builtins" = some (strCells tab_builtins)) (s0 : S 1) (s1 : S 2) (s2 : S 0) : GRel (GS [0, 1, 2]) S W := by
  intro g cs hg
  have hc : ([0, 1, 2] : List Nat).contains g = true := by
    cases h : ([0, 1, 2] : List Nat).contains g with
    | true => rfl
    | false => unfold GS at hg; rw [h] at hg; cases hg
  have hm := List.contains_iff_mem.1 hc
  simp only [List.mem_cons, List.mem_nil_iff, or_false] at hm
  rcases hm with rfl | rfl | rfl
  · obtain rfl := Option.some.inj ((show GS [0, 1, 2] 0 = some (tab_builtins.map V.str) by kernel_rfl).symm.trans hg)
    exact el_of_var (show Tryd.prog.globalNamed "loop.example/g01543/impl.builtins" = some 0 by kernel_rfl) h2 s2
  · obtain rfl := Option.some.inj ((show GS [0, 1, 2] 1 = some (tab_keywords.map V.str) by kernel_rfl).symm.trans hg)
    exact el_of_var (show Tryd.prog.globalNamed "loop.example/g01543/impl.keywords" = some 1 by kernel_rfl) h0 s0
  · obtain rfl := Option.some.inj ((show GS [0, 1, 2] 2 = some (tab_signs.map V.str) by kernel_rfl).symm.trans hg)
    exact el_of_var (show Tryd.prog.globalNamed "loop.example/g01543/impl.signs" = some 2 by kernel_rfl) h1 s1

theorem lifted (os : Os) (started : os.Started) (H : Type) (enc : TypeId × Value → H) :
    ReturnsInHanded {} Tryd.checked os 5 .any (fun w args => (Rows.fnExactShowTreeSpec.pre enc Tryd.prog Tryd.f5 Rows.fnExactShowTreeRow.domain false w args ∧ laidMetH Tryd.prog lay w) ∧ sizedMet enc Tryd.prog Tryd.f5 (OpenSpec.ofChange Rows.fnExactShowTreeSpec) false w args) (Rows.fnExactShowTreeSpec.post enc Tryd.prog Tryd.f5 false true false false) := by
  refine returnsInHanded_of_change_and (C := Tryd.checked) (X := fun w _ => laidMetH Tryd.prog lay w) (fun _ _ _ hh h => h.of_heap hh) own started (by kernel_rfl) Tryd.func5
    (ChangeSpec.witness_at (enc := enc) (C := Tryd.checked) (os := os) (X := fun w _ => laidMetH Tryd.prog lay w) false (World.laidAll Tryd.prog os lay) #[.slice none 0 0] 12 (World.laidAll_os _ _ _) (by kernel_rfl) (by kernel_rfl) (by kernel_rfl) (by kernel_rfl) (by kernel_rfl)
      (by rw [MakeChecks.laidMetH_plain _ _ _ (by kernel_rfl)]; exact laidMet_laidAll _ (by kernel_rfl) (by kernel_rfl))) ?_
  intro W base args ds gs before hval0 hW hcnd _ hL _
  have hval : ∀ (j : Nat) t v, Tryd.f5.params[j]? = some t → args[j]? = some v → Value.okWide Tryd.prog W .any base t v := hval0
  have hW' := hW
  obtain ⟨p, q, hA0, hV0, rfl, hfz, hnd⟩ := hW
  have hA : DataW.TrodAll enc Tryd.prog W 0 (fun _ => true) true Tryd.f5.params.toList args.toList ds p := hA0
  have hV : DataW.TrodVars enc Tryd.prog W (fun _ => true) ["loop.example/g01543/impl.keywords", "loop.example/g01543/impl.builtins", "loop.example/g01543/impl.signs"] gs q := hV0
  rw [Tryd.params5] at hA hval
  have hA1 := hA
  obtain ⟨v0, vs0, d0, ds0, p0, q0, hargs, rfl, rfl, h0, r0⟩ := trodAll_cons hA
  obtain ⟨rfl, rfl, rfl⟩ := trodAll_nil r0
  obtain rfl : args = #[v0] := by cases args; simp_all
  have hA2 : DataW.TrodAll enc Tryd.prog W 0 (fun _ => true) true [36] [v0] [d0] (p0 ++ []) := hA1
  have hgl := vars_len hV
  obtain ⟨y0, y1, y2, rfl⟩ : ∃ y0 y1 y2, gs = [y0, y1, y2] := by
    match gs, hgl with
    | [y0, y1, y2], _ => exact ⟨y0, y1, y2, rfl⟩
  obtain ⟨fu0, hf0⟩ := h0
  obtain ⟨a0, k0, c0⟩ := (Reader.slice Tryd.underlying36 read58 5 (by kernel_rfl) (by decide) (fun _ => rfl)) enc W fu0 _ _ hf0
  obtain ⟨s0, l0, m0, rfl⟩ := okWide_slice Tryd.underlying36 (hval 0 36 v0 rfl rfl)
  have htab := tables hL
  have tv0 := htab.1
  have tv1 := htab.2.1
  have tv2 := htab.2.2
  have hlt : ∀ b, (fun b => blocksOf (p0 ++ []) b ∨ b = 1 ∨ b = 2 ∨ b = 0) b → b < W.heap.size := by
    intro b hb
    rcases hb with ⟨m, hm, rfl⟩ | rfl | rfl | rfl
    · exact DataW.TrodAll.lt hA1 m (by simpa using hm)
    · exact var_lt (show Tryd.prog.globalNamed "loop.example/g01543/impl.keywords" = some 1 by kernel_rfl) tv0
    · exact var_lt (show Tryd.prog.globalNamed "loop.example/g01543/impl.signs" = some 2 by kernel_rfl) tv1
    · exact var_lt (show Tryd.prog.globalNamed "loop.example/g01543/impl.builtins" = some 0 by kernel_rfl) tv2
  obtain ⟨N, hN⟩ := plain a0 k0
  refine (AC.belowG (m_laws_FnExactShowTree_ok N a0 hN) (fun b => blocksOf (p0 ++ []) b ∨ b = 1 ∨ b = 2 ∨ b = 0) hlt (grel tv0 tv1 tv2 (.inr (.inl rfl)) (.inr (.inr (.inl rfl))) (.inr (.inr (.inr rfl)))) rfl fun i x hx => ?_).mono ?_
  · match i with
    | 0 =>
      simp only [List.getElem?_cons_succ, List.getElem?_cons_zero, Option.some.injEq] at hx
      subst hx
      exact argOne rfl (c0 _ fun p hp => (.inl ⟨p, by simp [hp], rfl⟩))
    | i + 1 => simp at hx
  · rintro e W' ⟨x, S', rfl, hx, hb⟩
    have hxt := hx.c_inv
    subst hxt
    exact ⟨_, rfl, Av.post_of_below (pa := (p0 ++ [])) (pv := q) hW' (fun _ _ _ => (trodAll_cons_mk (shut_bool Tryd.underlying4 _) trodAll_mk0))
      (fun sp hsp => args_kept kids full hb (by decide +kernel) hA2 (fun m hm => hsp m (by simp only [List.mem_append]; exact .inl (by simpa using hm)))) (fun sp hsp => vars_kept laidOut hb (by kernel_rfl) hV (fun m hm => hsp m (by simp [hm]))) (by simp) hb (ok_one (by kernel_rfl) rfl (okWide_bool_mk Tryd.underlying4 _))⟩

theorem over : Rows.fnExactShowTreeRow.holds Tryd.pinned (OpenSpec.ofChange Rows.fnExactShowTreeSpec) :=
  OpenClaim.holds_of_wide 5 Tryd.f5 rfl rfl rfl rfl rfl rfl rfl ⟨rfl, rfl, rfl, rfl, rfl⟩ rfl rfl rfl rfl rfl (by kernel_rfl) Tryd.func5 (by kernel_rfl)
    (of_decide_eq_true (by kernel_rfl)) (by unfold Func.isWrapper; first | (rw [if_pos (by decide +kernel)]; kernel_rfl) | (rw [if_neg (by decide +kernel)]; exact ⟨rfl, rfl⟩))
    (fun os started H enc _ => lifted os started H enc)

/-- the statement -/
theorem proved : Rows.FnExactShowTreeCardSaid :=
  Claim7.holds_tied_plain_at .later [] [.widerDeep, .data, .widerDeep] true (true, "54ffc266608cc2e6673446166ae6a79450c25bbdae543b3332354ff804283c13") false
    over (fun _ h => by cases h) (by kernel_rfl) (fun _ h => by cases h) fnExactShowTree_row_tie rfl ⟨rfl, rfl⟩ (by kernel_rfl) rfl
    (fun f fn hf hfn => by
      obtain rfl : f = 5 := Option.some.inj ((show Tryd.prog.funcNamed "loop.example/g01543/laws.FnExactShowTree" = some 5 by kernel_rfl).symm.trans hf) |>.symm
      obtain rfl : fn = Tryd.f5 := (Option.some.inj (Tryd.func5.symm.trans hfn)).symm
      exact ⟨by kernel_rfl, fun j t ht => by
        rw [Tryd.params5] at ht
        have hm : t ∈ [36] := by simpa using Array.mem_of_getElem? ht
        have hall : ([36].all fun u => !Tryd.prog.wantsStandIn u) = true := by kernel_rfl
        exact (show Tryd.prog.wantsStandIn t = false by simpa using List.all_eq_true.1 hall t hm)⟩)
    (by kernel_rfl)
#print axioms proved
end Go.Proofs.YtkfpmbinifaakaaDoor.fnExactShowTree
