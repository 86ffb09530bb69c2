/-
 Plain lemmas on the models, part 15.
-/
import Derived.Test.YtkfcajnnbhahoaaGreatDoorEdEP14
namespace Go.Proofs.Tryz
open Go.Av
set_option maxRecDepth 100000
set_option linter.unusedSimpArgs false
set_option linter.unusedVariables false

def SxP (x : List SNode) : Prop := SmS x ∧ x.length ≤ 3000
section
set_option linter.unusedSectionVars false
variable (b : List UInt8) (hb : b.length ≤ 1048576) (N : Nat) (hN : 18446744073709551657 + 2097152 ≤ N)
include hb hN
theorem l31new_dr (i h : Int) (h0 : 0 ≤ i) (h1 : i ≤ (b.length : Int)) : Dr b SxP (ms_l31New N b i h) := by
 unfold ms_l31New
 refine Dr.bind (below_dr b hb 4 i h h0 h1) fun r i h _ h0 h1 => ?_
 dsimp only
 refine Dr.cond (fun _ => Dr.id3 ((stmt_dr b hb N hN 1 (by omega) i h h0 h1).imp ?_)) fun _ => Dr.cond (fun _ => Dr.id3 ((leaf_dr b hb i h h0 h1).imp fun L hL => ⟨hL.1, by have := hL.2.1; omega⟩)) fun _ => Dr.id3 ((expr_dr b hb N 2 (by omega) (by omega) 2 i h (by omega) (by omega) h0 h1).imp fun L hL => ⟨hL.1, Nat.le_trans hL.2.1 (by decide)⟩)
 rintro L ⟨t, rfl, ht⟩
 have := ht.1
 exact ⟨lst_smS ht (by omega), by rw [lst_len]; omega⟩
theorem l31node_ex (i h : Int) (h0 : 0 ≤ i) (h1 : i ≤ (b.length : Int)) : ∃ L q i' h', ms_l31Node N b i h = some (L, q, i', h') ∧ SpoP L ∧ 0 ≤ i' ∧ i' ≤ (b.length : Int) := by
 have k1 : ∀ (L : List SNode) (i h : Int), SpoP L → 0 ≤ i → i ≤ (b.length : Int) → ∃ L' q i' h', ms_l31Node_k1 N b (L, i, h) = some (L', q, i', h') ∧ SpoP L' ∧ 0 ≤ i' ∧ i' ≤ (b.length : Int) := fun L i h hL h0 h1 => by
  obtain ⟨r, i', h', e, _, g0, g1⟩ := below_dr b hb (IntKind.wrap .i64 ((L.length : Int) + 2)) i h h0 h1
  exact ⟨L, IntKind.wrap .i64 (r - 1), i', h', by unfold ms_l31Node_k1; dsimp only; rw [e]; rfl, hL, g0, g1⟩
 obtain ⟨L, i1, h1', e1, hA, g0, g1⟩ := any_dr b hb N hN i h h0 h1
 obtain ⟨o, i2, h2, e2, _, g0, g1⟩ := once_dr b hb 12 i1 h1' g0 g1
 cases o with
 | false =>
  have e : ms_l31Node N b i h = ms_l31Node_k1 N b (L, i2, h2) := by
   unfold ms_l31Node
   rw [e1, oBs]
   dsimp only
   rw [e2]; rfl
  rw [e]
  exact k1 L i2 h2 hA.spo.1 g0 g1
 | true =>
  obtain ⟨L', i3, h3, e3, hS, g0, g1⟩ := spoilt_dr b hb N hN i2 h2 g0 g1
  have e : ms_l31Node N b i h = ms_l31Node_k1 N b (L', i3, h3) := by
   unfold ms_l31Node
   rw [e1, oBs]
   dsimp only
   rw [e2, oBs]
   dsimp only
   rw [cond_true, e3]; rfl
  rw [e]
  exact k1 L' i3 h3 hS g0 g1
end
theorem edits_k1 (N : Nat) (a : List SNode) (q : Nat) (k0 : Int) (x : List SNode) (r8 : List SNode × Bool) (hN : 1048577 + 2000 < N) (hs : ∀ z, z ∈ a → smNode z) (hi : ∀ z, z ∈ a → i64N z) (h : ms_TreeOk N a = some true) (hq : q < a.length) : ml_FnEdits_k1 N ((a, (q : Int), k0, x), r8) = some true := by
 obtain ⟨t, ht, hat, hsh, hsz, l1, l2, hdo, hrt, htx, hok⟩ := ok_tree N a (by omega) hs h
 obtain ⟨C, u, hC, hqC⟩ := tree_at t 0 q (by omega) (by omega)
 rw [Nat.zero_add] at hqC
 obtain ⟨hql, hu⟩ := at_lt N a (by omega) hs h hat hC hqC
 have hp := partF N a (by omega) (by omega) hs hsh hu
 obtain ⟨p1, p2, p3⟩ := part_ok N (by omega) hC l2 hdo hrt htx
 obtain ⟨c, c1, c2⟩ := repF N a (by omega) hs h hat hC hqC p2 p3 p1 hC
 rw [← hat] at c1 c2
 rw [h] at c1
 cases c1
 rw [cond_true] at c2
 obtain ⟨rr, g1, g2, g3, g4⟩ := RemE.law_ex N a (q : Int) (by omega) (by omega) hs hi
 have sa := same_self N a (by omega) (by omega) hs
 have sr := same_self N rr.1 (by omega) g3 g4
 have d1 : decide ((q : Int) < 0) = false := decide_eq_false (by omega)
 have d2 : decide ((q : Int) ≥ (a.length : Int)) = false := decide_eq_false (by omega)
 have hpl := lst_len u 0
 have hlen : rr.2 = true → ((rr.1.length : Int) == (IntKind.wrap .i64 ((a.length : Int) - ((lst 0 u).length : Int)))) = true := fun hr => by
  have hz := fill_sz C [u]
  rw [hC, szTs, szTs, szTs, szTs] at hz
  rw [wrap64 (by omega) (by omega)]
  by_cases hne : C = []
  ·exfalso
   subst hne
   rw [fillL] at hC
   have hC := (List.cons.inj hC).1
   subst hC
   rw [posC] at hqC
   have e1 : ((q : Int) == (a.length : Int) - 1) = true := by simp; omega
   unfold mi_Remove at g2
   rw [wrap64 (n := (a.length : Int) - 1) (by omega) (by omega), e1, cond_true, copyNodes_is N a (by omega) (by omega) hs, oBs] at g2
   have := Option.some.inj g2
   rw [← this] at hr
   cases hr
  ·obtain ⟨t', ht'⟩ := fill_one [] hne
   obtain ⟨d, e1, e2⟩ := remF N a (by omega) hs h hat hC hqC hne ht'
   rw [g2] at e2
   have e2 := Option.some.inj e2
   cases d with
   | false => rw [e2] at hr; cases hr
   | true =>
    rw [e2]
    have hz := fill_szd C [u] []
    simp only [hC, ht', szTs] at hz
    have := lst_len t' 0
    simp only [cond_true, beq_iff_eq]
    omega
 unfold ml_FnEdits_k1
 simp only [h, oBs, Bool.not_true, cond_false, d1, d2, hp, c2, g1, g2, sa, sr, cond_true, beq_self_eq_true]
 cases hr : rr.2 with
 | false => rfl
 | true =>
  have := hlen hr
  simp only [Bool.not_true, cond_false, this, oBs]
theorem plain (b : List UInt8) (kb : (∀ z, z ∈ b → True) ∧ b.length ≤ maxLen) : ∃ N, ml_FnEdits N b = some true := by
 refine ⟨18446744073709551657 + 2097152, ?_⟩
 obtain ⟨N, hN⟩ : ∃ N, N = 18446744073709551657 + 2097152 := ⟨_, rfl⟩
 rw [← hN]
 unfold ml_FnEdits ml_big
 rw [oBs]
 by_cases hb : b.length ≤ 1048576
 ·have hd : decide ((b.length : Int) > 1048576) = false := by simp; omega
  rw [hd, cond_false]
  obtain ⟨h, e1⟩ := new_dr b hb N (by omega)
  unfold ms_DrawInsert
  rw [e1]
  simp only [oBs]
  obtain ⟨L, q0, i1, h1, e2, ⟨hL, hl, hLi⟩, g0, g1⟩ := l31node_ex b hb N (by omega) 0 h (by omega) (by omega)
  rw [e2]
  simp only [oBs]
  obtain ⟨k0, i2, h2, e3, hk0, g0, g1⟩ := below_dr b hb 4 i1 h1 g0 g1
  rw [e3]
  simp only [oBs]
  obtain ⟨x, i3, h3, e4, ⟨hx, hxl⟩, _, _⟩ := l31new_dr b hb N (by omega) i2 h2 g0 g1
  rw [e4]
  simp only [oBs]
  have hs := smS_sm hL
  have hxs := smS_sm hx
  obtain ⟨⟨y, is⟩, s1, s2, s3, s4⟩ := InsE.law_ex N L x q0 k0 (by omega) (by omega) hs hLi (by omega) hxs
  have sy := same_self N y (by omega) s3 s4
  have sL := same_self N L (by omega) (by omega) hs
  -- behind the inserting
  have last : is = false ∨ (∃ q : Nat, q0 = q ∧ q < L.length) ∧ ms_TreeOk N L = some true → ml_FnEdits_k1 N ((L, q0, k0, x), (y, is)) = some true := fun hcase => by
   obtain ⟨c, c1, c2, _⟩ := treeOk_ex N L (by omega) hs
   by_cases hin : c = true ∧ 0 ≤ q0 ∧ q0 < (L.length : Int)
   ·obtain ⟨rfl, h0, h1⟩ := hin
    obtain ⟨q, rfl⟩ := Int.eq_ofNat_of_zero_le h0
    exact edits_k1 N L q k0 x (y, is) (by omega) hs hLi c1 (by omega)
   ·have hf : is = false := by
     rcases hcase with h | ⟨⟨q, rfl, hq⟩, h2⟩
     ·exact h
     ·rw [c1] at h2
      have := Option.some.inj h2
      exact absurd ⟨this, by omega, by omega⟩ hin
    subst hf
    unfold ml_FnEdits_k1
    have : ((ms_TreeOk N L).bind fun r80 => bif (!r80) then some true else (bif (decide (q0 < 0)) then some true else (some (decide (q0 ≥ (L.length : Int)))))) = some true := by
     rw [c1, oBs]
     cases c with
     | false => rfl
     | true =>
      rw [Bool.not_true, cond_false]
      by_cases h0 : q0 < 0
      ·rw [decide_eq_true h0]; rfl
      ·rw [decide_eq_false h0, cond_false, decide_eq_true (by
        refine Decidable.byContradiction fun g => hin ⟨rfl, by omega, by omega⟩)]
    simp only [this, oBs, cond_true, Bool.not_false]
  simp only [s1, s2, oBs, beq_self_eq_true, Bool.not_true, cond_false, sy]
  rcases ins_cases N L x q0 k0 (by omega) (by omega) hs hxs with hneg | ⟨q, k, n, rfl, rfl, hn, hk, hxo, hLo⟩
  ·rw [s2] at hneg
   have hneg := Option.some.inj hneg
   obtain ⟨rfl, rfl⟩ := Prod.mk.inj hneg
   simp only [Bool.not_false, cond_true, sL, oBs, Bool.not_true, cond_false]
   exact last (.inl rfl)
  ·have hql := (List.getElem?_eq_some_iff.1 hn).1
   cases is with
   | false =>
    obtain ⟨t, ht, hat, hsh, hsz, l1, l2, hdo, hrt, htx, hok⟩ := ok_tree N L (by omega) hs hLo
    obtain ⟨C, u, hC, hqC⟩ := tree_at t 0 q (by omega) (by omega)
    rw [Nat.zero_add] at hqC
    obtain ⟨_, hu⟩ := at_lt N L (by omega) hs hLo hat hC hqC
    obtain ⟨tx, htx', hxat, hxsh, hxsz, x1, x2, xdo, xrt, xtx, xok⟩ := ok_tree N x (by omega) hxs hxo
    obtain ⟨n', hn', _, _, _, _, _, hkl⟩ := hu.node
    rw [hn] at hn'
    cases hn'
    obtain ⟨t', ht'⟩ := fill_w C (insU k tx u)
    rw [hxat] at hxo
    obtain ⟨c, c1, c2⟩ := insF N L (by omega) hs hLo hat hC hqC (tx := tx) (by omega) xtx hxo (k := k) (by omega) ht'
    rw [← hxat, s2] at c2
    have c2 := Option.some.inj c2
    cases c with
    | true => cases c2
    | false =>
     obtain ⟨rfl, _⟩ := Prod.mk.inj c2
     simp only [Bool.not_false, cond_true, sL, oBs, Bool.not_true, cond_false]
     exact last (.inl rfl)
   | true =>
    obtain ⟨t, ht, hat, hsh, hsz, l1, l2, hdo, hrt, htx, hok⟩ := ok_tree N L (by omega) hs hLo
    obtain ⟨C, u, hC, hqC⟩ := tree_at t 0 q (by omega) (by omega)
    rw [Nat.zero_add] at hqC
    obtain ⟨_, hu⟩ := at_lt N L (by omega) hs hLo hat hC hqC
    obtain ⟨tx, htx', hxat, hxsh, hxsz, x1, x2, xdo, xrt, xtx, xok⟩ := ok_tree N x (by omega) hxs hxo
    obtain ⟨n', hn', _, _, _, _, _, hkl⟩ := hu.node
    rw [hn] at hn'
    cases hn'
    obtain ⟨t', ht'⟩ := fill_w C (insU k tx u)
    have hxo' := hxo
    rw [hxat] at hxo'
    obtain ⟨c, c1, c2⟩ := insF N L (by omega) hs hLo hat hC hqC (tx := tx) (by omega) xtx hxo' (k := k) (by omega) ht'
    rw [← hxat, s2] at c2
    have c2 := Option.some.inj c2
    cases c with
    | false => cases c2
    | true =>
     have hy : y = lst 0 t' := (Prod.mk.inj c2).1
     rw [← hy] at c1
     obtain ⟨t0, ht0, hat0, hsh0, hsz0, l10, l20, hdo0, hrt0, htx0, hok0⟩ := ok_tree N y (by omega) s4 c1
     -- the sizes
     have hz := fill_szd C [u] [insU k tx u]
     rw [hC, ht', szTs, szTs, szTs, szTs, szTs, szTs, szTs, szTs, insU_sz] at hz
     have hyl := lst_len t' 0
     rw [← hy] at hyl
     have hup := szT_pos u
     have hxp := szT_pos tx
     -- the node that was added to
     have hv := fill_ta ht'
     have hvp : posC C + szT (insU k tx u) - 1 = q + szT tx := by rw [insU_sz]; omega
     rw [← hy, hvp] at hv
     obtain ⟨m, hm, _, _, _, _, hmk, hml⟩ := hv.node
     have hkids : (insU k tx u).kids = u.kids.take k ++ tx :: u.kids.drop k := by unfold insU; simp
     have htl : (u.kids.take k).length = k := by rw [List.length_take]; omega
     have hml2 : m.Kids.length = n.Kids.length + 1 := by
      rw [← hml, hkids, List.length_append, List.length_cons, List.length_drop, htl]; omega
     have hpart := hmk.part.2.2.2
     have hmk2 : m.Kids[k]? = some (((posC C + szTs (u.kids.take k) + szT tx : Nat) : Int) - 1) := by
      have := endsT_at (u.kids.take k) tx (u.kids.drop k) (posC C)
      rw [htl] at this
      rw [hpart, hkids]
      exact this
     obtain ⟨e, he⟩ : ∃ e : Nat, e + 1 = posC C + szTs (u.kids.take k) + szT tx := ⟨posC C + szTs (u.kids.take k) + szT tx - 1, by omega⟩
     have hme : ix m.Kids (k : Int) = some (e : Int) := by
      refine ix_get (hmk2.trans ?_)
      rw [← he]; congr 1; omega
     -- the part that was added, in its place
     let c0 : Fr := ⟨u.kind, u.op, u.text, u.other, u.kids.take k, u.kids.drop k⟩
     have hD : fillL (C ++ [c0]) [tx] = [t'] := by
      rw [fillL_app, ← ht']; rfl
     have hD2 : fillL (C ++ [c0]) [] = [t] := by
      rw [fillL_app, ← hC]
      show fillL C [⟨u.kind, u.op, u.text, u.other, u.kids.take k ++ [] ++ u.kids.drop k⟩] = _
      rw [List.append_nil, List.take_append_drop]
      cases u; rfl
     have hDp : posC (C ++ [c0]) = posC C + szTs (u.kids.take k) := by
      rw [posC_app]; rfl
     have hDe : e + 1 = posC (C ++ [c0]) + szT tx := by rw [hDp]; omega
     obtain ⟨_, htxa⟩ := at_lt N y (by omega) s4 c1 hy hD hDe
     have hp := partF N y (by omega) (by omega) s4 hsh0 htxa
     rw [← hxat] at hp
     obtain ⟨c3, c4, c5⟩ := remF N y (by omega) s4 c1 hy hD hDe (by simp) hD2
     rw [← hat] at c4 c5
     rw [hLo] at c4
     cases c4
     rw [cond_true] at c5
     have w1 : IntKind.wrap .i64 ((q : Int) + (x.length : Int)) = ((q + szT tx : Nat) : Int) := by rw [wrap64 (by omega) (by omega)]; omega
     have d1 : decide (((q + szT tx : Nat) : Int) ≥ (y.length : Int)) = false := decide_eq_false (by omega)
     have d2 : ((y.length : Int) != (IntKind.wrap .i64 ((L.length : Int) + (x.length : Int)))) = false := by
      rw [wrap64 (by omega) (by omega)]; simp; omega
     have d3 : ((m.Kids.length : Int) != (IntKind.wrap .i64 ((n.Kids.length : Int) + 1))) = false := by
      have := hs n (List.mem_of_getElem? hn)
      unfold smNode at this
      rw [wrap64 (by omega) (by omega)]; simp; omega
     have sx := same_self N x (by omega) (by omega) hxs
     simp only [Bool.not_true, cond_false, cond_true, w1, d1, c1, oBs, d2, ix_get hm, ix_get hn, d3, hme, hp, sx, c5, sL]
     exact last (.inr ⟨⟨q, rfl, hql⟩, hLo⟩)
 ·have hd : decide ((b.length : Int) > 1048576) = true := by simp; omega
  rw [hd]; rfl

end Go.Proofs.Tryz
