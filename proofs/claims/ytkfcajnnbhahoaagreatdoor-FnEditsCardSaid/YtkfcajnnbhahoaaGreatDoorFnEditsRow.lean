/-
  Edits: for all arguments the law returns true: the program's function returns what the reference's returns.
  The tables that the row lists are tied to the program's text.
-/
import Derived.Test.YtkfcajnnbhahoaaGreatDoorRows
import Derived.Test.YtkfcajnnbhahoaaGreatDoorCards
import Derived.Test.YtkfcajnnbhahoaaGreatDoorTie
import Derived.WalkKit
import Derived.ProofKit
import Derived.OpenShut
import Derived.Lay
import Derived.MakeChecks
import Derived.SevenTiedAt
import Derived.Test.YtkfcajnnbhahoaaGreatDoorEdEW5
import Derived.Test.YtkfcajnnbhahoaaGreatDoorEdEP15
import Derived.Test.YtkfcajnnbhahoaaGreatDoorECore6
namespace Go.Proofs.YtkfcajnnbhahoaaGreatDoor.fnEdits
open Go.ChangeShapes Go.WideShapes Go.ChangeAt Go.RowKit Go.Av Go.Proofs.Tryz
set_option linter.unusedVariables false
set_option linter.unusedSimpArgs false
set_option maxRecDepth 100000

theorem own : ownKnob Tryz.prog.godebug = none := by kernel_rfl
theorem laidOut : laidOutB Tryz.prog = true := by kernel_rfl

/-! ### FnEdits -/
def SxP (x : LN) : Prop := SmS x ∧ x.length ≤ 3000
section
set_option linter.unusedSectionVars false
variable (b : LU) (hb : b.length ≤ 1048576) (N : Nat) (hN : 18446744073709551657 + 2097152 ≤ N)
include hb hN
theorem l31new_dr (i h : Int) (h0 : 0 ≤ i) (h1 : i ≤ (b.length : Int)) : Dr b SxP (ms_l31New N b i h) := by
  unfold ms_l31New
  refine Dr.bind (below_dr b hb 4 i h h0 h1) fun r i h _ h0 h1 => ?_
  dsimp only
  refine Dr.cond (fun _ => Dr.id3 ((stmt_dr b hb N hN 1 (by omega) i h h0 h1).imp ?_)) fun _ => Dr.cond (fun _ => Dr.id3 ((leaf_dr b hb i h h0 h1).imp fun L hL => ⟨hL.1, by have := hL.2.1; omega⟩)) fun _ => Dr.id3 ((expr_dr b hb N 2 (by omega) (by omega) 2 i h (by omega) (by omega) h0 h1).imp fun L hL => ⟨hL.1, Nat.le_trans hL.2.1 (by decide)⟩)
  rintro L ⟨t, rfl, ht⟩
  have := ht.1
  exact ⟨lst_smS ht (by omega), by rw [lst_len]; omega⟩
theorem l31node_ex (i h : Int) (h0 : 0 ≤ i) (h1 : i ≤ (b.length : Int)) : ∃ L q i' h', ms_l31Node N b i h = some (L, q, i', h') ∧ SpoP L ∧ 0 ≤ i' ∧ i' ≤ (b.length : Int) := by
  have k1 : ∀ (L : LN) (i h : Int), SpoP L → 0 ≤ i → i ≤ (b.length : Int) → ∃ L' q i' h', ms_l31Node_k1 N b (L, i, h) = some (L', q, i', h') ∧ SpoP L' ∧ 0 ≤ i' ∧ i' ≤ (b.length : Int) := fun L i h hL h0 h1 => by
    obtain ⟨r, i', h', e, _, g0, g1⟩ := below_dr b hb (IntKind.wrap .i64 ((L.length : Int) + 2)) i h h0 h1
    exact ⟨L, IntKind.wrap .i64 (r - 1), i', h', by unfold ms_l31Node_k1; dsimp only; rw [e]; rfl, hL, g0, g1⟩
  obtain ⟨L, i1, h1', e1, hA, g0, g1⟩ := any_dr b hb N hN i h h0 h1
  obtain ⟨o, i2, h2, e2, _, g0, g1⟩ := once_dr b hb 12 i1 h1' g0 g1
  cases o with
  | false =>
    have e : ms_l31Node N b i h = ms_l31Node_k1 N b (L, i2, h2) := by
      unfold ms_l31Node
      rw [e1, oBs]
      dsimp only
      rw [e2]; rfl
    rw [e]
    exact k1 L i2 h2 hA.spo.1 g0 g1
  | true =>
    obtain ⟨L', i3, h3, e3, hS, g0, g1⟩ := spoilt_dr b hb N hN i2 h2 g0 g1
    have e : ms_l31Node N b i h = ms_l31Node_k1 N b (L', i3, h3) := by
      unfold ms_l31Node
      rw [e1, oBs]
      dsimp only
      rw [e2, oBs]
      dsimp only
      rw [cond_true, e3]; rfl
    rw [e]
    exact k1 L' i3 h3 hS g0 g1
end
theorem edits_k1 (N : Nat) (a : LN) (q : Nat) (k0 : Int) (x : LN) (r8 : LN × Bool) (hN : 1048577 + 2000 < N) (hs : ∀ z, z ∈ a → smNode z) (hi : ∀ z, z ∈ a → i64N z) (h : ms_TreeOk N a = some true) (hq : q < a.length) : ml_FnEdits_k1 N ((a, (q : Int), k0, x), r8) = some true := by
  obtain ⟨t, ht, hat, hsh, hsz, l1, l2, hdo, hrt, htx, hok⟩ := ok_tree N a (by omega) hs h
  obtain ⟨C, u, hC, hqC⟩ := tree_at t 0 q (by omega) (by omega)
  rw [Nat.zero_add] at hqC
  obtain ⟨hql, hu⟩ := at_lt N a (by omega) hs h hat hC hqC
  have hp := partF N a (by omega) (by omega) hs hsh hu
  obtain ⟨p1, p2, p3⟩ := part_ok N (by omega) hC l2 hdo hrt htx
  obtain ⟨c, c1, c2⟩ := repF N a (by omega) hs h hat hC hqC p2 p3 p1 hC
  rw [← hat] at c1 c2
  rw [h] at c1
  cases c1
  rw [cond_true] at c2
  obtain ⟨rr, g1, g2, g3, g4⟩ := RemE.law_ex N a (q : Int) (by omega) (by omega) hs hi
  have sa := same_self N a (by omega) (by omega) hs
  have sr := same_self N rr.1 (by omega) g3 g4
  have d1 : decide ((q : Int) < 0) = false := decide_eq_false (by omega)
  have d2 : decide ((q : Int) ≥ (a.length : Int)) = false := decide_eq_false (by omega)
  have hpl := lst_len u 0
  have hlen : rr.2 = true → ((rr.1.length : Int) == (IntKind.wrap .i64 ((a.length : Int) - ((lst 0 u).length : Int)))) = true := fun hr => by
    have hz := fill_sz C [u]
    rw [hC, szTs, szTs, szTs, szTs] at hz
    rw [wrap64 (by omega) (by omega)]
    by_cases hne : C = []
    · exfalso
      subst hne
      rw [fillL] at hC
      have hC := (List.cons.inj hC).1
      subst hC
      rw [posC] at hqC
      have e1 : ((q : Int) == (a.length : Int) - 1) = true := by simp; omega
      unfold mi_Remove at g2
      rw [wrap64 (n := (a.length : Int) - 1) (by omega) (by omega), e1, cond_true, copyNodes_is N a (by omega) (by omega) hs, oBs] at g2
      have := Option.some.inj g2
      rw [← this] at hr
      cases hr
    · obtain ⟨t', ht'⟩ := fill_one [] hne
      obtain ⟨d, e1, e2⟩ := remF N a (by omega) hs h hat hC hqC hne ht'
      rw [g2] at e2
      have e2 := Option.some.inj e2
      cases d with
      | false => rw [e2] at hr; cases hr
      | true =>
        rw [e2]
        have hz := fill_szd C [u] []
        simp only [hC, ht', szTs] at hz
        have := lst_len t' 0
        simp only [cond_true, beq_iff_eq]
        omega
  unfold ml_FnEdits_k1
  simp only [h, oBs, Bool.not_true, cond_false, d1, d2, hp, c2, g1, g2, sa, sr, cond_true, beq_self_eq_true]
  cases hr : rr.2 with
  | false => rfl
  | true =>
    have := hlen hr
    simp only [Bool.not_true, cond_false, this, oBs]
theorem plain (b : LU) (kb : (∀ z, z ∈ b → True) ∧ b.length ≤ maxLen) : ∃ N, ml_FnEdits N b = some true := by
  refine ⟨18446744073709551657 + 2097152, ?_⟩
  obtain ⟨N, hN⟩ : ∃ N, N = 18446744073709551657 + 2097152 := ⟨_, rfl⟩
  rw [← hN]
  unfold ml_FnEdits ml_big
  rw [oBs]
  by_cases hb : b.length ≤ 1048576
  · have hd : decide ((b.length : Int) > 1048576) = false := by simp; omega
    rw [hd, cond_false]
    obtain ⟨h, e1⟩ := new_dr b hb N (by omega)
    unfold ms_DrawInsert
    rw [e1]
    simp only [oBs]
    obtain ⟨L, q0, i1, h1, e2, ⟨hL, hl, hLi⟩, g0, g1⟩ := l31node_ex b hb N (by omega) 0 h (by omega) (by omega)
    rw [e2]
    simp only [oBs]
    obtain ⟨k0, i2, h2, e3, hk0, g0, g1⟩ := below_dr b hb 4 i1 h1 g0 g1
    rw [e3]
    simp only [oBs]
    obtain ⟨x, i3, h3, e4, ⟨hx, hxl⟩, _, _⟩ := l31new_dr b hb N (by omega) i2 h2 g0 g1
    rw [e4]
    simp only [oBs]
    have hs := smS_sm hL
    have hxs := smS_sm hx
    obtain ⟨⟨y, is⟩, s1, s2, s3, s4⟩ := InsE.law_ex N L x q0 k0 (by omega) (by omega) hs hLi (by omega) hxs
    have sy := same_self N y (by omega) s3 s4
    have sL := same_self N L (by omega) (by omega) hs
    -- behind the inserting
    have last : is = false ∨ (∃ q : Nat, q0 = q ∧ q < L.length) ∧ ms_TreeOk N L = some true → ml_FnEdits_k1 N ((L, q0, k0, x), (y, is)) = some true := fun hcase => by
      obtain ⟨c, c1, c2, _⟩ := treeOk_ex N L (by omega) hs
      by_cases hin : c = true ∧ 0 ≤ q0 ∧ q0 < (L.length : Int)
      · obtain ⟨rfl, h0, h1⟩ := hin
        obtain ⟨q, rfl⟩ := Int.eq_ofNat_of_zero_le h0
        exact edits_k1 N L q k0 x (y, is) (by omega) hs hLi c1 (by omega)
      · have hf : is = false := by
          rcases hcase with h | ⟨⟨q, rfl, hq⟩, h2⟩
          · exact h
          · rw [c1] at h2
            have := Option.some.inj h2
            exact absurd ⟨this, by omega, by omega⟩ hin
        subst hf
        unfold ml_FnEdits_k1
        have : (Option.bind (ms_TreeOk N L) fun r80 => bif (!r80) then some true else (bif (decide (q0 < 0)) then some true else (some (decide (q0 ≥ (L.length : Int)))))) = some true := by
          rw [c1, oBs]
          cases c with
          | false => rfl
          | true =>
            rw [Bool.not_true, cond_false]
            by_cases h0 : q0 < 0
            · rw [decide_eq_true h0]; rfl
            · rw [decide_eq_false h0, cond_false, decide_eq_true (by
                refine Decidable.byContradiction fun g => hin ⟨rfl, by omega, by omega⟩)]
        simp only [this, oBs, cond_true, Bool.not_false]
    simp only [s1, s2, oBs, beq_self_eq_true, Bool.not_true, cond_false, sy]
    rcases ins_cases N L x q0 k0 (by omega) (by omega) hs hxs with hneg | ⟨q, k, n, rfl, rfl, hn, hk, hxo, hLo⟩
    · rw [s2] at hneg
      have hneg := Option.some.inj hneg
      obtain ⟨rfl, rfl⟩ := Prod.mk.inj hneg
      simp only [Bool.not_false, cond_true, sL, oBs, Bool.not_true, cond_false]
      exact last (.inl rfl)
    · have hql := (List.getElem?_eq_some_iff.1 hn).1
      cases is with
      | false =>
        obtain ⟨t, ht, hat, hsh, hsz, l1, l2, hdo, hrt, htx, hok⟩ := ok_tree N L (by omega) hs hLo
        obtain ⟨C, u, hC, hqC⟩ := tree_at t 0 q (by omega) (by omega)
        rw [Nat.zero_add] at hqC
        obtain ⟨_, hu⟩ := at_lt N L (by omega) hs hLo hat hC hqC
        obtain ⟨tx, htx', hxat, hxsh, hxsz, x1, x2, xdo, xrt, xtx, xok⟩ := ok_tree N x (by omega) hxs hxo
        obtain ⟨n', hn', _, _, _, _, _, hkl⟩ := hu.node
        rw [hn] at hn'
        cases hn'
        obtain ⟨t', ht'⟩ := fill_w C (insU k tx u)
        rw [hxat] at hxo
        obtain ⟨c, c1, c2⟩ := insF N L (by omega) hs hLo hat hC hqC (tx := tx) (by omega) xtx hxo (k := k) (by omega) ht'
        rw [← hxat, s2] at c2
        have c2 := Option.some.inj c2
        cases c with
        | true => cases c2
        | false =>
          obtain ⟨rfl, _⟩ := Prod.mk.inj c2
          simp only [Bool.not_false, cond_true, sL, oBs, Bool.not_true, cond_false]
          exact last (.inl rfl)
      | true =>
        obtain ⟨t, ht, hat, hsh, hsz, l1, l2, hdo, hrt, htx, hok⟩ := ok_tree N L (by omega) hs hLo
        obtain ⟨C, u, hC, hqC⟩ := tree_at t 0 q (by omega) (by omega)
        rw [Nat.zero_add] at hqC
        obtain ⟨_, hu⟩ := at_lt N L (by omega) hs hLo hat hC hqC
        obtain ⟨tx, htx', hxat, hxsh, hxsz, x1, x2, xdo, xrt, xtx, xok⟩ := ok_tree N x (by omega) hxs hxo
        obtain ⟨n', hn', _, _, _, _, _, hkl⟩ := hu.node
        rw [hn] at hn'
        cases hn'
        obtain ⟨t', ht'⟩ := fill_w C (insU k tx u)
        have hxo' := hxo
        rw [hxat] at hxo'
        obtain ⟨c, c1, c2⟩ := insF N L (by omega) hs hLo hat hC hqC (tx := tx) (by omega) xtx hxo' (k := k) (by omega) ht'
        rw [← hxat, s2] at c2
        have c2 := Option.some.inj c2
        cases c with
        | false => cases c2
        | true =>
          have hy : y = lst 0 t' := (Prod.mk.inj c2).1
          rw [← hy] at c1
          obtain ⟨t0, ht0, hat0, hsh0, hsz0, l10, l20, hdo0, hrt0, htx0, hok0⟩ := ok_tree N y (by omega) s4 c1
          -- the sizes
          have hz := fill_szd C [u] [insU k tx u]
          rw [hC, ht', szTs, szTs, szTs, szTs, szTs, szTs, szTs, szTs, insU_sz] at hz
          have hyl := lst_len t' 0
          rw [← hy] at hyl
          have hup := szT_pos u
          have hxp := szT_pos tx
          -- the node that was added to
          have hv := fill_ta ht'
          have hvp : posC C + szT (insU k tx u) - 1 = q + szT tx := by rw [insU_sz]; omega
          rw [← hy, hvp] at hv
          obtain ⟨m, hm, _, _, _, _, hmk, hml⟩ := hv.node
          have hkids : (insU k tx u).kids = u.kids.take k ++ tx :: u.kids.drop k := by unfold insU; simp
          have htl : (u.kids.take k).length = k := by rw [List.length_take]; omega
          have hml2 : m.Kids.length = n.Kids.length + 1 := by
            rw [← hml, hkids, List.length_append, List.length_cons, List.length_drop, htl]; omega
          have hpart := hmk.part.2.2.2
          have hmk2 : m.Kids[k]? = some (((posC C + szTs (u.kids.take k) + szT tx : Nat) : Int) - 1) := by
            have := endsT_at (u.kids.take k) tx (u.kids.drop k) (posC C)
            rw [htl] at this
            rw [hpart, hkids]
            exact this
          obtain ⟨e, he⟩ : ∃ e : Nat, e + 1 = posC C + szTs (u.kids.take k) + szT tx := ⟨posC C + szTs (u.kids.take k) + szT tx - 1, by omega⟩
          have hme : ix m.Kids (k : Int) = some (e : Int) := by
            refine ix_get (hmk2.trans ?_)
            rw [← he]; congr 1; omega
          -- the part that was added, in its place
          let c0 : Fr := ⟨u.kind, u.op, u.text, u.other, u.kids.take k, u.kids.drop k⟩
          have hD : fillL (C ++ [c0]) [tx] = [t'] := by
            rw [fillL_app, ← ht']; rfl
          have hD2 : fillL (C ++ [c0]) [] = [t] := by
            rw [fillL_app, ← hC]
            show fillL C [⟨u.kind, u.op, u.text, u.other, u.kids.take k ++ [] ++ u.kids.drop k⟩] = _
            rw [List.append_nil, List.take_append_drop]
            cases u; rfl
          have hDp : posC (C ++ [c0]) = posC C + szTs (u.kids.take k) := by
            rw [posC_app]; rfl
          have hDe : e + 1 = posC (C ++ [c0]) + szT tx := by rw [hDp]; omega
          obtain ⟨_, htxa⟩ := at_lt N y (by omega) s4 c1 hy hD hDe
          have hp := partF N y (by omega) (by omega) s4 hsh0 htxa
          rw [← hxat] at hp
          obtain ⟨c3, c4, c5⟩ := remF N y (by omega) s4 c1 hy hD hDe (by simp) hD2
          rw [← hat] at c4 c5
          rw [hLo] at c4
          cases c4
          rw [cond_true] at c5
          have w1 : IntKind.wrap .i64 ((q : Int) + (x.length : Int)) = ((q + szT tx : Nat) : Int) := by rw [wrap64 (by omega) (by omega)]; omega
          have d1 : decide (((q + szT tx : Nat) : Int) ≥ (y.length : Int)) = false := decide_eq_false (by omega)
          have d2 : ((y.length : Int) != (IntKind.wrap .i64 ((L.length : Int) + (x.length : Int)))) = false := by
            rw [wrap64 (by omega) (by omega)]; simp; omega
          have d3 : ((m.Kids.length : Int) != (IntKind.wrap .i64 ((n.Kids.length : Int) + 1))) = false := by
            have := hs n (List.mem_of_getElem? hn)
            unfold smNode at this
            rw [wrap64 (by omega) (by omega)]; simp; omega
          have sx := same_self N x (by omega) (by omega) hxs
          simp only [Bool.not_true, cond_false, cond_true, w1, d1, c1, oBs, d2, ix_get hm, ix_get hn, d3, hme, hp, sx, c5, sL]
          exact last (.inr ⟨⟨q, rfl, hql⟩, hLo⟩)
  · have hd : decide ((b.length : Int) > 1048576) = true := by simp; omega
    rw [hd]; rfl



theorem kids : Go.Kids Tryz.prog (· < Tryz.prog.types.size) := kids_rows (by kernel_rfl) (by kernel_rfl)
theorem full : ∀ t e, t < Tryz.prog.types.size → Tryz.prog.underlying t = some (.slice e) → 0 < Tryz.prog.cellsOf e := slices_full_of Tryz.prog (by kernel_rfl)

/-- what the row lists -/
def lay : List (String × DataW Unit) := [("loop.example/g01543/impl.keywords", Rows.laid_loop_example_g01543_impl_keywords), ("loop.example/g01543/impl.signs", Rows.laid_loop_example_g01543_impl_signs), ("loop.example/g01543/impl.builtins", Rows.laid_loop_example_g01543_impl_builtins)]

theorem tables {W : World} (h : laidMetH Tryz.prog lay W) : W.var? Tryz.prog "loop.example/g01543/impl.keywords" = some (strCells tab_keywords) ∧ W.var? Tryz.prog "loop.example/g01543/impl.signs" = some (strCells tab_signs) ∧ W.var? Tryz.prog "loop.example/g01543/impl.builtins" = some (strCells tab_builtins) := by
  rw [MakeChecks.laidMetH_plain _ _ _ (by kernel_rfl)] at h
  obtain ⟨ps, ⟨g0, t0, cs0, fuel0, p0, q0, hg0, ht0, hv0, hd0, r0, _⟩, _, _⟩ := h
  obtain ⟨g1, t1, cs1, fuel1, p1, q1, hg1, ht1, hv1, hd1, r1, _⟩ := r0
  obtain ⟨g2, t2, cs2, fuel2, p2, q2, hg2, ht2, hv2, hd2, r2, _⟩ := r1
  obtain rfl := Option.some.inj ((show Tryz.prog.globalNamed "loop.example/g01543/impl.keywords" = some 1 by kernel_rfl).symm.trans hg0)
  obtain rfl := Option.some.inj ((show (Tryz.prog.globals[1]?).map (·.type) = some 216 by kernel_rfl).symm.trans ht0)
  have e0 : cs0 = strCells tab_keywords := strs_of_trod (l := tab_keywords) (p := p0) (by rw [show (DataW.agg (tab_keywords.map fun s => .lit (.string s)) : DataW Unit) = Rows.laid_loop_example_g01543_impl_keywords by kernel_rfl]; exact hd0) Tryz.underlying216 Tryz.underlying9 (by kernel_rfl) (by kernel_rfl)
  rw [e0] at hv0
  obtain rfl := Option.some.inj ((show Tryz.prog.globalNamed "loop.example/g01543/impl.signs" = some 2 by kernel_rfl).symm.trans hg1)
  obtain rfl := Option.some.inj ((show (Tryz.prog.globals[2]?).map (·.type) = some 218 by kernel_rfl).symm.trans ht1)
  have e1 : cs1 = strCells tab_signs := strs_of_trod (l := tab_signs) (p := p1) (by rw [show (DataW.agg (tab_signs.map fun s => .lit (.string s)) : DataW Unit) = Rows.laid_loop_example_g01543_impl_signs by kernel_rfl]; exact hd1) Tryz.underlying218 Tryz.underlying9 (by kernel_rfl) (by kernel_rfl)
  rw [e1] at hv1
  obtain rfl := Option.some.inj ((show Tryz.prog.globalNamed "loop.example/g01543/impl.builtins" = some 0 by kernel_rfl).symm.trans hg2)
  obtain rfl := Option.some.inj ((show (Tryz.prog.globals[0]?).map (·.type) = some 206 by kernel_rfl).symm.trans ht2)
  have e2 : cs2 = strCells tab_builtins := strs_of_trod (l := tab_builtins) (p := p2) (by rw [show (DataW.agg (tab_builtins.map fun s => .lit (.string s)) : DataW Unit) = Rows.laid_loop_example_g01543_impl_builtins by kernel_rfl]; exact hd2) Tryz.underlying206 Tryz.underlying9 (by kernel_rfl) (by kernel_rfl)
  rw [e2] at hv2
  exact ⟨hv0, hv1, hv2⟩

theorem grel {W : World} {S : Nat → Prop} (h0 : W.var? Tryz.prog "loop.example/g01543/impl.keywords" = some (strCells tab_keywords)) (h1 : W.var? Tryz.prog "loop.example/g01543/impl.signs" = some (strCells tab_signs)) (h2 : W.var? Tryz.prog "loop.example/g01543/impl.builtins" = some (strCells tab_builtins)) (s0 : S 1) (s1 : S 2) (s2 : S 0) : GRel (GS [0, 1, 2]) S W := by
  intro g cs hg
  have hc : ([0, 1, 2] : List Nat).contains g = true := by
    cases h : ([0, 1, 2] : List Nat).contains g with
    | true => rfl
    | false => unfold GS at hg; rw [h] at hg; cases hg
  have hm := List.contains_iff_mem.1 hc
  simp only [List.mem_cons, List.mem_nil_iff, or_false] at hm
  rcases hm with rfl | rfl | rfl
  · obtain rfl := Option.some.inj ((show GS [0, 1, 2] 0 = some (tab_builtins.map V.s) by kernel_rfl).symm.trans hg)
    exact grel_strs (show Tryz.prog.globalNamed "loop.example/g01543/impl.builtins" = some 0 by kernel_rfl) h2 s2
  · obtain rfl := Option.some.inj ((show GS [0, 1, 2] 1 = some (tab_keywords.map V.s) by kernel_rfl).symm.trans hg)
    exact grel_strs (show Tryz.prog.globalNamed "loop.example/g01543/impl.keywords" = some 1 by kernel_rfl) h0 s0
  · obtain rfl := Option.some.inj ((show GS [0, 1, 2] 2 = some (tab_signs.map V.s) by kernel_rfl).symm.trans hg)
    exact grel_strs (show Tryz.prog.globalNamed "loop.example/g01543/impl.signs" = some 2 by kernel_rfl) h1 s1

theorem lifted (os : Os) (started : os.Started) (H : Type) (enc : TypeId × Value → H) :
    ReturnsInHanded {} Tryz.checked os 4 .any (fun w args => (Rows.fnEditsSpec.pre enc Tryz.prog Tryz.f4 Rows.fnEditsRow.domain false w args ∧ laidMetH Tryz.prog lay w) ∧ sizedMet enc Tryz.prog Tryz.f4 (OpenSpec.ofChange Rows.fnEditsSpec) false w args) (Rows.fnEditsSpec.post enc Tryz.prog Tryz.f4 false true false false) := by
  refine returnsInHanded_of_change_and (C := Tryz.checked) (X := fun w _ => laidMetH Tryz.prog lay w) (fun _ _ _ hh h => h.of_heap hh) own started (by kernel_rfl) Tryz.func4
    (ChangeSpec.witness_at (enc := enc) (C := Tryz.checked) (os := os) (X := fun w _ => laidMetH Tryz.prog lay w) false (World.laidAll Tryz.prog os lay) #[.slice none 0 0] 12 (World.laidAll_os _ _ _) (by kernel_rfl) (by kernel_rfl) (by kernel_rfl) (by kernel_rfl) (by kernel_rfl)
      (by rw [MakeChecks.laidMetH_plain _ _ _ (by kernel_rfl)]; exact laidMet_laidAll _ (by kernel_rfl) (by kernel_rfl))) ?_
  intro W base args ds gs before hval0 hW hcnd _ hL _
  have hval : ∀ (j : Nat) t v, Tryz.f4.params[j]? = some t → args[j]? = some v → Value.okWide Tryz.prog W .any base t v := hval0
  have hW' := hW
  obtain ⟨p, q, hA0, hV0, rfl, hfz, hnd⟩ := hW
  have hA : DataW.TrodAll enc Tryz.prog W 0 (fun _ => true) true Tryz.f4.params.toList args.toList ds p := hA0
  have hV : DataW.TrodVars enc Tryz.prog W (fun _ => true) ["loop.example/g01543/impl.keywords", "loop.example/g01543/impl.builtins", "loop.example/g01543/impl.signs"] gs q := hV0
  rw [Tryz.params4] at hA hval
  have hA1 := hA
  obtain ⟨v0, vs0, d0, ds0, p0, q0, hargs, rfl, rfl, h0, r0⟩ := trodAll_cons hA
  obtain ⟨rfl, rfl, rfl⟩ := trodAll_nil r0
  obtain rfl : args = #[v0] := by cases args; simp_all
  have hA2 : DataW.TrodAll enc Tryz.prog W 0 (fun _ => true) true [22] [v0] [d0] (p0 ++ []) := hA1
  have hgl := vars_len hV
  obtain ⟨y0, y1, y2, rfl⟩ : ∃ y0 y1 y2, gs = [y0, y1, y2] := by
    match gs, hgl with
    | [y0, y1, y2], _ => exact ⟨y0, y1, y2, rfl⟩
  obtain ⟨fu0, hf0⟩ := h0
  obtain ⟨a0, k0, c0⟩ := (Reader.slice Tryz.underlying22 (Reader.u8 Tryz.underlying5) 1 (by kernel_rfl) (by decide) (fun _ => rfl)) enc W fu0 _ _ hf0
  obtain ⟨s0, l0, m0, rfl⟩ := okWide_slice Tryz.underlying22 (hval 0 22 v0 rfl rfl)
  have htab := tables hL
  have tv0 := htab.1
  have tv1 := htab.2.1
  have tv2 := htab.2.2
  have hlt : ∀ b, (fun b => blocksOf (p0 ++ []) b ∨ b = 1 ∨ b = 2 ∨ b = 0) b → b < W.heap.size := by
    intro b hb
    rcases hb with ⟨m, hm, rfl⟩ | rfl | rfl | rfl
    · exact DataW.TrodAll.lt hA1 m (by simpa using hm)
    · exact var_lt (show Tryz.prog.globalNamed "loop.example/g01543/impl.keywords" = some 1 by kernel_rfl) tv0
    · exact var_lt (show Tryz.prog.globalNamed "loop.example/g01543/impl.signs" = some 2 by kernel_rfl) tv1
    · exact var_lt (show Tryz.prog.globalNamed "loop.example/g01543/impl.builtins" = some 0 by kernel_rfl) tv2
  obtain ⟨N, hN⟩ := plain a0 k0
  refine (AC.belowG (ml_FnEdits_ok N a0 hN) (fun b => blocksOf (p0 ++ []) b ∨ b = 1 ∨ b = 2 ∨ b = 0) hlt (grel tv0 tv1 tv2 (.inr (.inl rfl)) (.inr (.inr (.inl rfl))) (.inr (.inr (.inr rfl)))) rfl fun i x hx => ?_).mono ?_
  · match i with
    | 0 =>
      simp only [List.getElem?_cons_succ, List.getElem?_cons_zero, Option.some.injEq] at hx
      subst hx
      exact argOne rfl (c0 _ fun p hp => (.inl ⟨p, by simp [hp], rfl⟩))
    | i + 1 => simp at hx
  · rintro e W' ⟨x, S', rfl, hx, hb⟩
    have hxt := hx.c_inv
    subst hxt
    exact ⟨_, rfl, Av.post_of_below (pa := (p0 ++ [])) (pv := q) hW' (fun _ _ _ => (trodAll_cons_mk (shut_bool Tryz.underlying4 _) trodAll_mk0))
      (fun sp hsp => args_kept kids full hb (by decide +kernel) hA2 (fun m hm => hsp m (by simp only [List.mem_append]; exact .inl (by simpa using hm)))) (fun sp hsp => vars_kept laidOut hb (by kernel_rfl) hV (fun m hm => hsp m (by simp [hm]))) (by simp) hb (ok_one (by kernel_rfl) rfl (okWide_bool_mk Tryz.underlying4 _))⟩

theorem over : Rows.fnEditsRow.holds Tryz.pinned (OpenSpec.ofChange Rows.fnEditsSpec) :=
  OpenClaim.holds_of_wide 4 Tryz.f4 rfl rfl rfl rfl rfl rfl rfl ⟨rfl, rfl, rfl, rfl, rfl⟩ rfl rfl rfl rfl rfl (by kernel_rfl) Tryz.func4 (by kernel_rfl)
    (of_decide_eq_true (by kernel_rfl)) (by unfold Func.isWrapper; first | (rw [if_pos (by decide +kernel)]; kernel_rfl) | (rw [if_neg (by decide +kernel)]; exact ⟨rfl, rfl⟩))
    (fun os started H enc _ => lifted os started H enc)

/-- the statement -/
theorem proved : Rows.FnEditsCardSaid :=
  Claim7.holds_tied_plain_at .later [] [.widerDeep, .data, .widerDeep] true (true, "cdaebf4274e095591c84b06983aeafee5c7bc2ccbd4e8a7f7861ba714bf390d4") true
    over (fun _ h => by cases h) (by kernel_rfl) (fun _ h => by cases h) fnEdits_row_tie rfl ⟨rfl, rfl⟩ (by kernel_rfl) rfl
    (fun f fn hf hfn => by
      obtain rfl : f = 4 := Option.some.inj ((show Tryz.prog.funcNamed "loop.example/g01543/laws.FnEdits" = some 4 by kernel_rfl).symm.trans hf) |>.symm
      obtain rfl : fn = Tryz.f4 := (Option.some.inj (Tryz.func4.symm.trans hfn)).symm
      exact ⟨by kernel_rfl, fun j t ht => by
        rw [Tryz.params4] at ht
        have hm : t ∈ [22] := by simpa using Array.mem_of_getElem? ht
        have hall : ([22].all fun u => !Tryz.prog.wantsStandIn u) = true := by kernel_rfl
        exact (show Tryz.prog.wantsStandIn t = false by simpa using List.all_eq_true.1 hall t hm)⟩)
    (by kernel_rfl)
#print axioms proved
end Go.Proofs.YtkfcajnnbhahoaaGreatDoor.fnEdits
