/-
 Plain lemmas on the models, part 13.
-/
import Derived.Test.YtkfcajnnbhahoaaGreatDoorDdCP12
namespace Go.Proofs.Tryz
open Go.Av
set_option maxRecDepth 100000
set_option linter.unusedSimpArgs false
set_option linter.unusedVariables false

theorem kid33 {x : SNode} (h : x.Kind = 33) (q kd : Int) : ms_l7Kid x q kd = some (isS kd) := by
 obtain ⟨k, o, t, u, ks⟩ := x
 have h : k = 33 := h
 subst h
 rw [← isS_spec]
 unfold ms_l7Kid ms_l7Kid_k1 ms_l7Kid_k2
 show Option.bind (ms_IsStmt kd) (fun r => some r) = _
 cases ms_IsStmt kd <;> rfl
theorem dead_no (N : Nat) (a : List SNode) (hN : 1048577 + 400 < N) (ha : a.length ≤ 1048576) (hs : ∀ z, z ∈ a → smNode z) (h : mi_TreeOk N a = some false) : mi_DeadStmts N a = some [] ∧ mi_DropDead N a = some [] := by
 have d : mi_DeadStmts N a = some [] := by
  unfold mi_DeadStmts
  rw [h]; rfl
 refine ⟨d, ?_⟩
 unfold mi_DropDead mi_edit
 rw [d, h]
 simp only [Option.bind_some, Bool.not_false, cond_true, copyNodes_is N a (by omega) ha hs]
theorem drop_yes (N : Nat) (a : List SNode) (hN : 1048577 + 1000 < N) (hs : ∀ z, z ∈ a → smNode z) (h : ms_TreeOk N a = some true) : ∃ t, TA a t 0 (a.length - 1) ∧ a = lst 0 t ∧ shapeB a = true ∧ mi_DeadStmts N a = some (sortI (deadAll a a)) ∧ mi_DropDead N a = some (lst 0 (dropT t)) ∧ ms_TreeOk N (lst 0 (dropT t)) = some true ∧ (∀ z, z ∈ lst 0 (dropT t) → smNode z) ∧ szT t ≤ 400 := by
 obtain ⟨b, b1, b2, b3⟩ := treeOk_ex N a (by omega) hs
 rw [h] at b1
 cases b1
 obtain ⟨hsh, _⟩ := b3 rfl
 obtain ⟨D, d2, d3, d4⟩ := deadI_ex N a (by omega) hs
 have hD := d4 true b2 rfl
 obtain ⟨l1, l2, _, _, _, _, hT, t, ht⟩ := shape_of hsh
 have hpm : ∀ k, k ∈ D ↔ k ∈ deadAll a a := fun k => by rw [hD]; exact (sortI_perm _).mem_iff
 have hpt := ht.part
 have hsz : szT t ≤ 400 := by have := hpt.2.1; omega
 have hat : a = lst 0 t := by
  have := hpt.2.2
  rwa [show a.length - 1 + 1 = a.length by omega, part_all] at this
 have hrt := rt_of N a (by omega) hsh h ht
 have htx : AllT TxP t := TA.all (fun u s j hu => by
  obtain ⟨n, hn, e1, e2, e3, e4, hka, hkl⟩ := hu.node
  have := hs n (List.mem_of_getElem? hn)
  unfold smNode at this
  exact ⟨by rw [e3]; omega, by rw [e4]; omega⟩) t 0 _ ht
 have hz := (dropT_sz t).1
 have hsm := small_of (t := dropT t) (by omega) (txT_all _ (dropT_tx t htx)) 0
 have hdo : depT t ≤ 40 := by
  have h0 := h
  unfold ms_TreeOk at h0
  rw [shapeOk_spec N a (by omega) hs, hsh, depthOf_spec N a (by omega) hs hsh ht] at h0
  simp only [Option.bind_some, Bool.not_true, cond_false] at h0
  cases hg : decide ((depT t : Int) > 40) with
  | true => rw [hg] at h0; simp at h0
  | false => simp at hg; omega
 have hok := treeOk_lst N (dropT t) (by omega) (by omega) (by have := dropT_dep t; omega) hsm (dropT_rt N t hrt)
 refine ⟨t, ht, hat, hsh, by rw [d2, hD], ?_, hok, hsm, hsz⟩
 have r1 := dropI_is a hsh D (by omega) hpm t 0 (a.length - 1) N ht (by omega) hsz (by omega)
 have hroot : ((a.length - 1 : Nat) : Int) ∉ D := fun h => root_dead hsh ((hpm _).1 h)
 rw [if_neg hroot] at r1
 have hi : (a.length : Int) - 1 = ((a.length - 1 : Nat) : Int) := by omega
 have r1' : mi_edited N a ((a.length : Int) - 1) D = some [dropT t] := by rw [hi]; exact r1
 have hw : (decide ((0 : Int) ≥ 0) && decide ((0 : Int) ≤ (a.length : Int) - 1)) = true := by simp; omega
 have hli := list_is N (dropT t) (by omega) (by omega)
 obtain ⟨c, c1, c2, _⟩ := treeOk_ex N (lst 0 (dropT t)) (by omega) hsm
 rw [hok] at c1
 cases c1
 have hx0 : ix [dropT t] 0 = some (dropT t) := rfl
 have hne : ((([dropT t] : List STree).length : Int) != 1) = false := rfl
 unfold mi_DropDead mi_edit
 rw [d2, b2]
 simp only [Option.bind_some]
 rw [wrap64 (n := (a.length : Int) - 1) (by omega) (by omega), within_is]
 simp only [Bool.not_true, cond_false, hw, Option.bind_some, r1', hne, hx0, hli, c2]
theorem dead_at (N : Nat) (a : List SNode) (hN : 500 < N) (hsh : shapeB a = true) (h : ms_TreeOk N a = some true) : ∀ k, k ∈ deadAll a a → ∃ y, ix a k = some y ∧ isS y.Kind = true ∧ 0 ≤ k ∧ k < (a.length : Int) := fun k hk => by
 obtain ⟨x, hx, h33, hk⟩ := (deadAll_mem a a k).1 hk
 have hk := deadF_sub a _ _ k hk
 obtain ⟨q, hq, rfl⟩ := List.getElem_of_mem hk
 obtain ⟨_, hkd⟩ := treeOk_nodes N a hN hsh h x hx
 obtain ⟨y, hy, hy2⟩ := hkd q hq
 rw [kid33 h33] at hy2
 have := (shape_kids hsh x hx).2 _ hk
 exact ⟨y, hy, Option.some.inj hy2, this.1, this.2⟩
theorem law_l (N : Nat) (a x : List SNode) (d : List Int) (hd : d.length ≤ 1000000) (hm : ∀ k, k ∈ d → ∃ y, ix a k = some y ∧ isS y.Kind = true ∧ 0 ≤ k ∧ k < (a.length : Int)) (hs : d.Pairwise (· < ·)) : ∀ (n i : Nat), d.length - i < n → i ≤ d.length → ml_FnDead_l1 N n (a, d, x, (i : Int)) = ml_FnDead_l1 N 1 (a, d, x, (d.length : Int)) := by
 intro n
 induction n with
 | zero => intro i h; omega
 | succ n ih =>
  intro i hn hi
  by_cases hlt : i < d.length
  ·rw [ml_FnDead_l1]
   obtain ⟨y, h1, h2, h3, h4⟩ := hm d[i] (List.getElem_mem hlt)
   have c1 : decide (d[i] < 0) = false := decide_eq_false (by omega)
   have c2 : decide (d[i] ≥ (a.length : Int)) = false := decide_eq_false (by omega)
   have hprev : (bif decide ((i : Int) > 0) then (some d[i]).bind fun e183 => (ix d (IntKind.wrap .i64 ((i : Int) - 1))).bind fun e184 => some (decide (e183 ≤ e184)) else some false) = some false := by
    by_cases h0 : 0 < i
    ·have g : decide ((i : Int) > 0) = true := decide_eq_true (by omega)
     have hl : i - 1 < d.length := by omega
     rw [g, cond_true, Option.bind_some, wrap64 (by omega) (by omega), show (i : Int) - 1 = ((i - 1 : Nat) : Int) by omega, ix_nat hl, Option.bind_some]
     have := List.pairwise_iff_getElem.1 hs (i - 1) i hl hlt (by omega)
     rw [decide_eq_false (by omega)]
    ·have g : decide ((i : Int) > 0) = false := decide_eq_false (by omega)
     rw [g, cond_false]
   simp only [Option.bind_some] at hprev
   simp only [lt_true hlt, cond_true, ix_nat hlt, Option.bind_some, c1, c2, cond_false, h1, isS_spec, h2, Bool.not_true, hprev]
   rw [wrap64 (by omega) (by omega), show (i : Int) + 1 = ((i + 1 : Nat) : Int) by omega]
   exact ih (i + 1) (by omega) (by omega)
  ·obtain rfl : i = d.length := by omega
   rw [ml_FnDead_l1, ml_FnDead_l1]
   simp only [lt_false hlt, cond_false]
theorem plain (b : List UInt8) (kb : (∀ z, z ∈ b → True) ∧ b.length ≤ maxLen) : ∃ N, ml_FnDead N b = some true := by
 refine ⟨18446744073709551657 + 2097152, ?_⟩
 obtain ⟨N, hN⟩ : ∃ N, N = 18446744073709551657 + 2097152 := ⟨_, rfl⟩
 rw [← hN]
 unfold ml_FnDead ml_big
 rw [Option.bind_some]
 by_cases hb : b.length ≤ 1048576
 ·have hd : decide ((b.length : Int) > 1048576) = false := by simp; omega
  rw [hd, cond_false]
  obtain ⟨h, e1⟩ := new_dr b hb N (by omega)
  unfold ms_DrawDropDead
  rw [e1]
  simp only [Option.bind_some]
  obtain ⟨L, i1, h1, e2, ⟨hL, hl⟩, _, _⟩ := l40draw_dr b hb N (by omega) 0 h (by omega) (by omega)
  rw [e2]
  simp only [Option.bind_some]
  have hs := smS_sm hL
  obtain ⟨c, c1, c2, _⟩ := treeOk_ex N L (by omega) hs
  cases c with
  | false =>
   obtain ⟨g1, g2⟩ := dead_no N L (by omega) (by omega) hs c2
   simp only [g1, g2, c1, Option.bind_some]
   rfl
  | true =>
   obtain ⟨t, ht, hat, hsh, g1, g2, g3, g4, hsz⟩ := drop_yes N L (by omega) hs c1
   simp only [g1, g2, c1, Option.bind_some, Bool.not_true, cond_false]
   have hlen := deadAll_len L L fun x hx => (shape_kids hsh x hx).1
   have hll := lst_len t 0
   have hlx := lst_len (dropT t) 0
   have hz := dropT_sz t
   have hpw : (sortI (deadAll L L)).Pairwise (· < ·) := by
    rw [List.pairwise_iff_getElem]
    intro i j hi hj hij
    have a1 := List.pairwise_iff_getElem.1 (sortI_pw (deadAll L L)) i j hi hj hij
    have a2 := List.pairwise_iff_getElem.1 ((sortI_perm (deadAll L L)).nodup_iff.2 (deadAll_nodup hsh)) i j hi hj hij
    omega
   have hla : L.length = szT t := by rw [hat]; exact hll
   have hln : (sortI (deadAll L L)).length = (deadAll L L).length := sortI_len _
   have hm : 400 * L.length ≤ 160000 := by omega
   rw [show (0 : Int) = ((0 : Nat) : Int) from rfl, law_l N L (lst 0 (dropT t)) _ (by omega) (fun k hk => dead_at N L (by omega) hsh c1 k ((sortI_perm _).mem_iff.1 hk)) hpw N 0 (by omega) (by omega), ml_FnDead_l1]
   obtain ⟨t2, ht2, hat2, hsh2, f1, f2, f3, f4, hsz2⟩ := drop_yes N (lst 0 (dropT t)) (by omega) g4 g3
   obtain ⟨rfl, _⟩ := TA.uniq (TA_self (dropT t)) ht2
   have hnd := (deadAll_nd ht2).2 (dropT_nd t)
   rw [hnd, sortI_of List.Pairwise.nil] at f1
   rw [dropT_id _ (dropT_nd t)] at f2
   have s1 := same_self N (lst 0 (dropT t)) (by omega) (by omega) g4
   simp only [lt_false (Nat.lt_irrefl _), cond_false, g3, Option.bind_some, cond_true, f1, f2, s1]
   have e0 : ((([] : List Int).length : Int) == 0) = true := rfl
   rw [e0, cond_true]
   by_cases hall : AllT NdP t
   ·have hx := (deadAll_nd ht).2 hall
    have e3 : decide (((sortI (deadAll L L)).length : Int) > 0) = false := by rw [hln, hx]; rfl
    have e4 : decide (((lst 0 (dropT t)).length : Int) < (L.length : Int)) = false := by rw [dropT_id t hall, ← hat]; simp
    rw [e3, e4, dropT_id t hall, ← hat, same_self N L (by omega) (by omega) hs]
    rfl
   ·have hx : 0 < (deadAll L L).length := by
     cases hd : deadAll L L with
     | nil => exact absurd ((deadAll_nd ht).1 hd) hall
     | cons q qs => simp
    have hlt : szT (dropT t) < szT t := by
     cases Nat.lt_or_ge (szT (dropT t)) (szT t) with
     | inl h => exact h
     | inr h => exact absurd (hz.2 (by omega)) hall
    have e3 : decide (((sortI (deadAll L L)).length : Int) > 0) = true := decide_eq_true (by omega)
    have e4 : decide (((lst 0 (dropT t)).length : Int) < (L.length : Int)) = true := decide_eq_true (by omega)
    rw [e3, e4]
    rfl
 ·have hd : decide ((b.length : Int) > 1048576) = true := by simp; omega
  rw [hd]; rfl

end Go.Proofs.Tryz
