/-
 Plain lemmas on the models, part 14.
-/
import Derived.Test.YtkfcajnnbhahoaaGreatDoorEdEP13
namespace Go.Proofs.Tryz
open Go.Av
set_option maxRecDepth 100000
set_option linter.unusedSimpArgs false
set_option linter.unusedVariables false

def insU (k : Nat) (tx u : STree) : STree := ⟨u.kind, u.op, u.text, u.other, u.kids.take k ++ [tx] ++ u.kids.drop k⟩
def fIns (q k : Nat) (tx : STree) : Nat → STree → List STree := fun j t => if j = q then [insU k tx t] else [t]
def fRem (q : Nat) : Nat → STree → List STree := fun j t => if j = q then [] else [t]
def fRep (q : Nat) (tx : STree) : Nat → STree → List STree := fun j t => if j = q then [tx] else [t]
theorem fill_w (C : List Fr) (v : STree) : ∃ w, fillL C [v] = [w] := by
 cases C with
 | nil => exact ⟨v, rfl⟩
 | cons c C => exact ⟨_, rfl⟩
theorem insU_sz (k : Nat) (tx u : STree) : szT (insU k tx u) = szT u + szT tx := by
 have := congrArg szTs (List.take_append_drop k u.kids)
 rw [szTs_app] at this
 rw [insU, szT, szT_eq u, szTs_app, szTs_app, szTs, szTs]
 omega
theorem ok_tree (N : Nat) (a : List SNode) (hN : 1048577 + 1000 < N) (hs : ∀ z, z ∈ a → smNode z) (h : ms_TreeOk N a = some true) : ∃ t, TA a t 0 (a.length - 1) ∧ a = lst 0 t ∧ shapeB a = true ∧ szT t = a.length ∧ 1 ≤ a.length ∧ szT t ≤ 400 ∧ depT t ≤ 40 ∧ AllT (RT N) t ∧ AllT TxP t ∧ mi_TreeOk N a = some true := by
 obtain ⟨b, b1, b2, b3⟩ := treeOk_ex N a (by omega) hs
 rw [h] at b1
 cases b1
 obtain ⟨hsh, _⟩ := b3 rfl
 obtain ⟨l1, l2, _, _, _, _, hT, t, ht⟩ := shape_of hsh
 have hpt := ht.part
 have hsz : szT t = a.length := by have := hpt.2.1; omega
 have hat : a = lst 0 t := by
  have := hpt.2.2
  rwa [show a.length - 1 + 1 = a.length by omega, part_all] at this
 have hrt := rt_of N a (by omega) hsh h ht
 have htx : AllT TxP t := TA.all (fun u s j hu => by
  obtain ⟨n, hn, e1, e2, e3, e4, hka, hkl⟩ := hu.node
  have := hs n (List.mem_of_getElem? hn)
  unfold smNode at this
  exact ⟨by rw [e3]; omega, by rw [e4]; omega⟩) t 0 _ ht
 have hdo : depT t ≤ 40 := by
  have h0 := h
  unfold ms_TreeOk at h0
  rw [shapeOk_spec N a (by omega) hs, hsh, depthOf_spec N a (by omega) hs hsh ht] at h0
  simp only [oBs, Bool.not_true, cond_false] at h0
  cases hg : decide ((depT t : Int) > 40) with
  | true => rw [hg] at h0; simp at h0
  | false => simp at hg; omega
 exact ⟨t, ht, hat, hsh, hsz, l1, by omega, hdo, hrt, htx, b2⟩
theorem allT_one {P : STree → Prop} {t : STree} : AllTs P [t] ↔ AllT P t := by
 rw [AllTs, AllTs]; simp
theorem edT_fill {f : Nat → STree → List STree} {q : Nat} (hf : ∀ j t, j ≠ q → f j t = [t]) {C : List Fr} {u t : STree} (h : fillL C [u] = [t]) (hq : q + 1 = posC C + szT u) : edT f 0 t = fillL C (f q u) := by
 have := ed_fill hf C 0 u (by omega)
 rw [h, edTs_cons, edTs_nil, List.append_nil] at this
 exact this
section
set_option linter.unusedSectionVars false
variable (N : Nat) (a : List SNode) (hN : 1048577 + 1000 < N) (hs : ∀ z, z ∈ a → smNode z) (h : ms_TreeOk N a = some true) {C : List Fr} {u t : STree} (hat : a = lst 0 t) (hC : fillL C [u] = [t]) {q : Nat} (hq : q + 1 = posC C + szT u)
include hN hs h hat hC hq
theorem at_lt : q < a.length ∧ TA a u (posC C) q := by
 have h1 := fill_ta hC
 have hp := szT_pos u
 rw [← hat, show posC C + szT u - 1 = q by omega] at h1
 exact ⟨h1.lt, h1⟩
theorem remF (hne : C ≠ []) {t' : STree} (ht' : fillL C [] = [t']) : ∃ c, ms_TreeOk N (lst 0 t') = some c ∧ mi_Remove N a (q : Int) = some (bif c then (lst 0 t', true) else (a, false)) := by
 obtain ⟨t0, ht0, hat0, hsh, hsz, l1, l2, hdo, hrt, htx, hok⟩ := ok_tree N a hN hs h
 obtain ⟨hql, hu⟩ := at_lt N a hN hs h hat hC hq
 have hta := TA_self t
 rw [← hat] at hta
 obtain ⟨rfl, _⟩ := TA.uniq hta ht0
 have hz := fill_szd C [u] []
 rw [hC, ht', szTs, szTs, szTs, szTs, szTs, szTs] at hz
 have hlast : q ≠ a.length - 1 := fun hq2 => by
  obtain ⟨c, C, rfl⟩ := List.exists_cons_of_ne_nil hne
  have := fill_sz (c :: C) [u]
  rw [fillL] at hC
  have hC := (List.cons.inj hC).1
  have hs2 := fill_sz C [u]
  rw [← hC, szT, szTs_app, szTs_app] at hsz
  rw [posC] at hq
  rw [szTs, szTs] at hs2
  omega
 have r1 := ed_is_rem a (fRem q) q 0 (fun j t => by unfold fRem; split <;> simp) (.inr rfl) (fun M i t _ _ _ => RemE.do_is i q t) (fun z hz => (shape_kids hsh z hz).1) (fun e _ => by omega) t 0 (a.length - 1) N ht0 (by omega) (by omega) (by omega)
 rw [edT_fill (fun j t hj => by unfold fRem; rw [if_neg hj]) hC hq, show fRem q q u = [] by unfold fRem; rw [if_pos rfl], ht'] at r1
 have htx2 : AllT TxP t' := by
  have := fill_tx (C := C) (us := [u]) (vs := []) (by rw [hC]; exact allT_one.2 htx) (by rw [AllTs]; trivial)
  rw [ht'] at this
  exact allT_one.1 this
 obtain ⟨c, c1, c2⟩ := edit_rem N a q 0 hN hs hok hql (by omega) r1 (by omega) (txT_all _ htx2)
 refine ⟨c, c1, ?_⟩
 have e1 : ((q : Int) == (a.length : Int) - 1) = false := by simp; omega
 unfold mi_Remove
 rw [wrap64 (n := (a.length : Int) - 1) (by omega) (by omega), e1, cond_false, c2]
 rfl
theorem repF {tx : STree} (hxs : szT tx ≤ 400) (hxt : AllT TxP tx) (hx : ms_TreeOk N (lst 0 tx) = some true) {t' : STree} (ht' : fillL C [tx] = [t']) : ∃ c, ms_TreeOk N (lst 0 t') = some c ∧ mi_Replace N a (q : Int) (lst 0 tx) = some (bif c then (lst 0 t', true) else (a, false)) := by
 obtain ⟨t0, ht0, hat0, hsh, hsz, l1, l2, hdo, hrt, htx, hok⟩ := ok_tree N a hN hs h
 obtain ⟨hql, hu⟩ := at_lt N a hN hs h hat hC hq
 have hta := TA_self t
 rw [← hat] at hta
 obtain ⟨rfl, _⟩ := TA.uniq hta ht0
 have hz := fill_szd C [u] [tx]
 rw [hC, ht', szTs, szTs, szTs, szTs, szTs, szTs, szTs, szTs] at hz
 have hxl := lst_len tx 0
 have hxp := szT_pos tx
 have hroot : ∀ M, 1048577 < M → mi_rootOf M (lst 0 tx) = some tx := fun M hM => rootOf_is M (lst 0 tx) (by omega) (TA_self tx) (by omega) (by omega)
 have hdo2 : ∀ (M i : Nat) (t : STree), 1048577 < M → t.kids.length ≤ 400 → (i = q → 0 ≤ t.kids.length) → mi_Replace_1 M (i : Int) t (q : Int) (lst 0 tx) = some (fRep q tx i t) := fun M i t hM _ _ => by
  unfold mi_Replace_1 fRep
  by_cases h : i = q
  ·have e : ((i : Int) == (q : Int)) = true := by simp [h]
   rw [e, cond_true, hroot M hM, if_pos h]; rfl
  ·have e : ((i : Int) == (q : Int)) = false := by simp; omega
   rw [e, cond_false, if_neg h]
 have r1 := ed_is_rep a (fRep q tx) q 0 (fun j t => by unfold fRep; split <;> simp) (.inr rfl) (lst 0 tx) hdo2 (fun z hz => (shape_kids hsh z hz).1) (fun e _ => by omega) t 0 (a.length - 1) N ht0 (by omega) (by omega) (by omega)
 rw [edT_fill (fun j t hj => by unfold fRep; rw [if_neg hj]) hC hq, show fRep q tx q u = [tx] by unfold fRep; rw [if_pos rfl], ht'] at r1
 have htx2 : AllT TxP t' := by
  have := fill_tx (C := C) (us := [u]) (vs := [tx]) (by rw [hC]; exact allT_one.2 htx) (allT_one.2 hxt)
  rw [ht'] at this
  exact allT_one.1 this
 obtain ⟨c, c1, c2⟩ := edit_rep N a q 0 (lst 0 tx) hN hs hok hql (by omega) r1 (by omega) (txT_all _ htx2)
 refine ⟨c, c1, ?_⟩
 obtain ⟨d, d1, d2, _⟩ := treeOk_ex N (lst 0 tx) (by omega) (small_of (by omega) (txT_all _ hxt) 0)
 rw [hx] at d1
 cases d1
 unfold mi_Replace
 rw [d2, oBs, Bool.not_true, cond_false, c2]
 rfl
theorem insF {tx : STree} (hxs : szT tx ≤ 400) (hxt : AllT TxP tx) (hx : ms_TreeOk N (lst 0 tx) = some true) {k : Nat} (hk : k ≤ u.kids.length) {t' : STree} (ht' : fillL C [insU k tx u] = [t']) : ∃ c, ms_TreeOk N (lst 0 t') = some c ∧ mi_Insert N a (q : Int) (k : Int) (lst 0 tx) = some (bif c then (lst 0 t', true) else (a, false)) := by
 obtain ⟨t0, ht0, hat0, hsh, hsz, l1, l2, hdo, hrt, htx, hok⟩ := ok_tree N a hN hs h
 obtain ⟨hql, hu⟩ := at_lt N a hN hs h hat hC hq
 have hta := TA_self t
 rw [← hat] at hta
 obtain ⟨rfl, _⟩ := TA.uniq hta ht0
 have hz := fill_szd C [u] [insU k tx u]
 rw [hC, ht', szTs, szTs, szTs, szTs, szTs, szTs, szTs, szTs, insU_sz] at hz
 have hxl := lst_len tx 0
 have hxp := szT_pos tx
 obtain ⟨n, hn, _, _, _, _, _, hkl⟩ := hu.node
 have hroot : ∀ M, 1048577 < M → mi_rootOf M (lst 0 tx) = some tx := fun M hM => rootOf_is M (lst 0 tx) (by omega) (TA_self tx) (by omega) (by omega)
 have hdo2 : ∀ (M i : Nat) (t : STree), 1048577 < M → t.kids.length ≤ 400 → (i = q → k ≤ t.kids.length) → mi_Insert_1 M (i : Int) t (q : Int) (k : Int) (lst 0 tx) = some (fIns q k tx i t) := fun M i t hM h1 h2 => by
  rw [InsE.do_is M i q k t (lst 0 tx) (hroot M hM) h2 (by omega)]
  unfold InsE.put fIns insU
  by_cases h : i = q
  ·rw [if_pos h, if_pos h]
  ·rw [if_neg h, if_neg h]; cases t; rfl
 have r1 := ed_is_ins a (fIns q k tx) q k (fun j t => by unfold fIns; split <;> simp) (.inl fun j t => by unfold fIns; split <;> simp) (lst 0 tx) hdo2 (fun z hz => (shape_kids hsh z hz).1) (fun e he => by rw [hn] at he; cases he; omega) t 0 (a.length - 1) N ht0 (by omega) (by omega) (by omega)
 rw [edT_fill (fun j t hj => by unfold fIns; rw [if_neg hj]) hC hq, show fIns q k tx q u = [insU k tx u] by unfold fIns; rw [if_pos rfl], ht'] at r1
 have htx2 : AllT TxP t' := by
  have h0 : AllTs TxP (fillL C [u]) := by rw [hC]; exact allT_one.2 htx
  have hu2 := allT_one.1 (fill_all h0)
  obtain ⟨uk, uo, ux, uy, uks⟩ := u
  rw [AllT] at hu2
  have hi : AllT TxP (insU k tx ⟨uk, uo, ux, uy, uks⟩) := by
   unfold insU
   rw [AllT, allTs_app, allTs_app, allT_one]
   have h3 := hu2.2
   rw [← List.take_append_drop k uks, allTs_app] at h3
   exact ⟨hu2.1, ⟨h3.1, hxt⟩, h3.2⟩
  have := fill_tx h0 (allT_one.2 hi)
  rw [ht'] at this
  exact allT_one.1 this
 obtain ⟨c, c1, c2⟩ := edit_ins N a q k (lst 0 tx) hN hs hok hql (by omega) r1 (by omega) (txT_all _ htx2)
 refine ⟨c, c1, ?_⟩
 obtain ⟨d, d1, d2, _⟩ := treeOk_ex N (lst 0 tx) (by omega) (small_of (by omega) (txT_all _ hxt) 0)
 rw [hx] at d1
 cases d1
 have w1 : (decide ((q : Int) ≥ 0) && decide ((q : Int) ≤ (a.length : Int) - 1)) = true := by simp; omega
 have w2 : (decide ((k : Int) ≥ 0) && decide ((k : Int) ≤ (n.Kids.length : Int))) = true := by simp; omega
 unfold mi_Insert
 rw [d2, oBs, Bool.not_true, cond_false, wrap64 (n := (a.length : Int) - 1) (by omega) (by omega), within_is, oBs, w1, Bool.not_true, cond_false, ix_get hn, oBs, within_is, oBs, w2, oBs, Bool.not_true, cond_false, c2]
 rfl
end
theorem ins_cases (N : Nat) (a x : List SNode) (q0 k0 : Int) (hN : 1048577 + 1000 < N) (ha : a.length ≤ 1048576) (hs : ∀ z, z ∈ a → smNode z) (hxs : ∀ z, z ∈ x → smNode z) : mi_Insert N a q0 k0 x = some (a, false) ∨ ∃ (q k : Nat) (n : SNode), q0 = q ∧ k0 = k ∧ a[q]? = some n ∧ k ≤ n.Kids.length ∧ ms_TreeOk N x = some true ∧ ms_TreeOk N a = some true := by
 obtain ⟨b, b1, b2, b3⟩ := treeOk_ex N a (by omega) hs
 obtain ⟨c, c1, c2, c3⟩ := treeOk_ex N x (by omega) hxs
 have hc2 := copyNodes_is N a (by omega) ha hs
 unfold mi_Insert
 rw [c2, wrap64 (n := (a.length : Int) - 1) (by omega) (by omega)]
 simp only [oBs, within_is]
 cases c with
 | false =>
  left
  simp only [Bool.not_false, cond_true, oBs, hc2]
 | true =>
  simp only [Bool.not_true, cond_false]
  by_cases hin : 0 ≤ q0 ∧ q0 ≤ (a.length : Int) - 1
  ·have d1 := InsE.rng_true hin
   obtain ⟨q, rfl⟩ := Int.eq_ofNat_of_zero_le hin.1
   have hql : q < a.length := by omega
   simp only [d1, Bool.not_true, cond_false, ix_nat hql, oBs]
   by_cases hkk : 0 ≤ k0 ∧ k0 ≤ (a[q].Kids.length : Int)
   ·obtain ⟨k, rfl⟩ := Int.eq_ofNat_of_zero_le hkk.1
    cases b with
    | true => exact .inr ⟨q, k, a[q], rfl, rfl, List.getElem?_eq_getElem hql, by omega, c1, b1⟩
    | false =>
     left
     have d2 := InsE.rng_true hkk
     simp only [d2, Bool.not_true, cond_false]
     unfold mi_edit
     rw [b2]
     simp only [Bool.not_false, cond_true, oBs, hc2]
   ·left
    have d2 := InsE.rng_false hkk
    simp only [d2, Bool.not_false, cond_true, oBs, hc2]
  ·left
   have d1 := InsE.rng_false hin
   simp only [d1, Bool.not_false, cond_true, oBs, hc2]
theorem partF (N : Nat) (a : List SNode) (hN : 1048577 + 1000 < N) (ha : a.length ≤ 400) (hs : ∀ z, z ∈ a → smNode z) (hsh : shapeB a = true) {u : STree} {s q : Nat} (h : TA a u s q) : ms_Part N a (q : Int) = some (lst 0 u) := by
 have hql := h.lt
 have w1 : (decide ((q : Int) ≥ 0) && decide ((q : Int) ≤ (a.length : Int) - 1)) = true := by simp; omega
 unfold ms_Part
 rw [shapeOk_spec N a (by omega) hs, hsh]
 simp only [oBs, Bool.not_true, cond_false]
 rw [wrap64 (n := (a.length : Int) - 1) (by omega) (by omega), l1In_is]
 simp only [oBs, w1, Bool.not_true, cond_false, part_is N a (by omega) hs hsh h]
theorem part_ok (N : Nat) {C : List Fr} {u t : STree} (hN : 1048577 + 1000 < N) (hC : fillL C [u] = [t]) (hsz : szT t ≤ 400) (hdo : depT t ≤ 40) (hrt : AllT (RT N) t) (htx : AllT TxP t) : ms_TreeOk N (lst 0 u) = some true ∧ szT u ≤ 400 ∧ AllT TxP u := by
 have h1 := fill_sz C [u]
 have h2 := fill_dep C [u]
 rw [hC, szTs, szTs, szTs, szTs] at h1
 rw [hC, depTs, depTs, depTs, depTs] at h2
 have hu : AllT (RT N) u := allT_one.1 (fill_all (C := C) (by rw [hC]; exact allT_one.2 hrt))
 have hx : AllT TxP u := allT_one.1 (fill_all (C := C) (by rw [hC]; exact allT_one.2 htx))
 exact ⟨treeOk_lst N u (by omega) (by omega) (by omega) (small_of (by omega) (txT_all _ hx) 0) hu, by omega, hx⟩

end Go.Proofs.Tryz
