/-
 Plain lemmas on the models, part 17.
-/
import Derived.Test.YtkfcajnnbhahoaaGreatDoorLgFP16
namespace Go.Proofs.Tryz
open Go.Av
set_option maxRecDepth 100000
set_option linter.unusedSimpArgs false
set_option linter.unusedVariables false

theorem ints_l (N : Nat) (a b : List Int) (hl : a.length = b.length) (hm : a.length ≤ 1048576) : ∀ (n i : Nat), a.length - i < n → i ≤ a.length → ms_l6Ints_l1 N n (a, b, (i : Int)) = some (decide (a.drop i = b.drop i)) := by
 intro n
 induction n with
 | zero => intro i h; omega
 | succ n ih =>
  intro i hn hi
  rw [ms_l6Ints_l1]
  by_cases h : i < a.length
  ·have h' : i < b.length := by omega
   simp only [lt_true h, cond_true, ix_nat h, ix_nat h', oBs]
   rw [drop_cons h, drop_cons h']
   by_cases he : a[i] = b[i]
   ·have hb : (a[i] != b[i]) = false := by simpa using he
    rw [hb, cond_false, step64 h (by simp only [maxLen]; omega), ih (i + 1) (by omega) (by omega)]
    simp only [List.cons.injEq, he, true_and]
   ·have hb : (a[i] != b[i]) = true := by simpa using he
    rw [hb, cond_true]
    simp only [List.cons.injEq, he, false_and, decide_false]
  ·have h' : ¬ i < b.length := by omega
   simp only [lt_false h, cond_false]
   rw [drop_nil h, drop_nil h']
   simp

theorem ints_is (N : Nat) (a b : List Int) (hm : a.length ≤ 1048576) (hN : 1048577 < N) : ms_l6Ints N a b = some (decide (a = b)) := by
 unfold ms_l6Ints
 by_cases hl : a.length = b.length
 ·have e : ((a.length : Int) != (b.length : Int)) = false := by simp [hl]
  rw [e, cond_false]
  exact ints_l N a b hl hm N 0 (by omega) (by omega)
 ·have e : ((a.length : Int) != (b.length : Int)) = true := by simp; omega
  rw [e, cond_true]
  have : a ≠ b := fun h => hl (by rw [h])
  simp [this]

theorem sameN_l (N : Nat) (a b : List SNode) (hN : 1048577 < N) (hl : a.length = b.length) (hm : a.length ≤ 1048576) (hk : ∀ x, x ∈ a → x.Kids.length ≤ 1048576) : ∀ (n i : Nat), a.length - i < n → i ≤ a.length → ms_SameTree_l1 N n (a, b, (i : Int)) = some (decide (a.drop i = b.drop i)) := by
 intro n
 induction n with
 | zero => intro i h; omega
 | succ n ih =>
  intro i hn hi
  rw [ms_SameTree_l1]
  by_cases h : i < a.length
  ·have h' : i < b.length := by omega
   have hki := hk _ (List.getElem_mem h)
   simp only [lt_true h, cond_true, ix_nat h, ix_nat h', oBs]
   rw [drop_cons h, drop_cons h', step64 h (by simp only [maxLen]; omega), ih (i + 1) (by omega) (by omega)]
   generalize a[i] = x at hki
   generalize b[i] = y
   obtain ⟨k, o, t, p, ks⟩ := x
   obtain ⟨k', o', t', p', ks'⟩ := y
   simp only at hki
   simp only [ints_is N ks ks' hki hN, oBs]
   by_cases e1 : k = k'
   ·subst e1
    by_cases e2 : o = o'
    ·subst e2
     by_cases e3 : t = t'
     ·subst e3
      by_cases e4 : p = p'
      ·subst e4
       by_cases e5 : ks = ks'
       ·subst e5
        simp only [bne_self_eq_false, beq_self_eq_true, Bool.not_true, cond_false, decide_true, oBs, List.cons.injEq, true_and]
       ·simp only [bne_self_eq_false, beq_self_eq_true, Bool.not_true, Bool.not_false, cond_true, cond_false, e5, decide_false, oBs, List.cons.injEq, SNode.mk.injEq, true_and, false_and]
      ·have b4 : (p == p') = false := by simpa using e4
       simp only [bne_self_eq_false, beq_self_eq_true, Bool.not_true, Bool.not_false, b4, cond_true, cond_false, e4, decide_false, oBs, List.cons.injEq, SNode.mk.injEq, true_and, false_and]
     ·have b3 : (t == t') = false := by simpa using e3
      simp only [bne_self_eq_false, Bool.not_false, b3, cond_true, cond_false, e3, decide_false, oBs, List.cons.injEq, SNode.mk.injEq, true_and, false_and]
    ·have b2 : (o != o') = true := by simpa using e2
     simp only [bne_self_eq_false, b2, cond_true, cond_false, e2, decide_false, oBs, List.cons.injEq, SNode.mk.injEq, true_and, false_and]
   ·have b1 : (k != k') = true := by simpa using e1
    simp only [b1, cond_true, e1, decide_false, oBs, List.cons.injEq, SNode.mk.injEq, false_and]
  ·have h' : ¬ i < b.length := by omega
   simp only [lt_false h, cond_false]
   rw [drop_nil h, drop_nil h']
   simp

theorem sameN_is (N : Nat) (a b : List SNode) (hN : 1048577 < N) (hm : a.length ≤ 1048576) (hk : ∀ x, x ∈ a → x.Kids.length ≤ 1048576) : ms_SameTree N a b = some (decide (a = b)) := by
 unfold ms_SameTree
 by_cases hl : a.length = b.length
 ·have e : ((a.length : Int) != (b.length : Int)) = false := by simp [hl]
  rw [e, cond_false]
  exact sameN_l N a b hN hl hm hk N 0 (by omega) (by omega)
 ·have e : ((a.length : Int) != (b.length : Int)) = true := by simp; omega
  rw [e, cond_true]
  have : a ≠ b := fun h => hl (by rw [h])
  simp [this]


theorem ar_of (N : Nat) (a : List SNode) (hN : 1048577 + 1000 < N) (hs : ∀ z, z ∈ a → smNode z) (h : ms_TreeOk N a = some true) {t : STree} (ht : TA a t 0 (a.length - 1)) : AllT (TQ N) t := by
 obtain ⟨t0, ht0, hat, hsh, hsz, l1, l2, hdo, hrt, htx, hok⟩ := ok_tree N a hN hs h
 obtain ⟨b, b1, b2, b3⟩ := treeOk_ex N a (by omega) hs
 rw [h] at b1
 cases b1
 obtain ⟨_, hno⟩ := b3 rfl
 have har : AllT ArP t := TA.all (fun u s j hu => by
  obtain ⟨n, hn, e1, e2, e3, e4, hka, hkl⟩ := hu.node
  have hm := List.mem_of_getElem? hn
  obtain ⟨fk, _⟩ := hno n hm
  refine ⟨fun hk => ?_, fun hk => ?_, fun hk => ?_, fun hk => ?_⟩
  ·have := (fk.2.2.2.2.2.2.2 (by omega)).1
   omega
  ·have := (fk.2.2.2.2.2.2.1 (by omega)).1
   omega
  ·obtain ⟨hf, _⟩ := treeOk_nodes N a (by omega) hsh h n hm
   obtain ⟨nk, no, nx, ny, nks⟩ := n
   have e1 : u.kind = nk := e1
   have hk : nk = 14 := by omega
   subst hk
   have := fields_14 N no nx ny nks hf
   have hkl : u.kids.length = nks.length := hkl
   omega
  ·rw [e3, e4]
   rcases hk with hk | hk
   ·exact (fk.2.2.2.2.2.2.2 (by omega)).2
   ·exact (fk.2.2.2.2.2.2.1 (by omega)).2) t 0 _ ht
 obtain ⟨rfl, _⟩ := TA.uniq ht0 ht
 have comb : ∀ u : STree, AllT (RT N) u → AllT TxP u → AllT ArP u → AllT (TQ N) u := by
  refine STree.ind fun u ih => ?_
  obtain ⟨k, o, x, y, ts⟩ := u
  intro h1 h2 h3
  rw [AllT] at h1 h2 h3 ⊢
  exact ⟨⟨h2.1, h1.1, h3.1⟩, allTs_of fun v hv => ih v hv (h1.2.mem v hv) (h2.2.mem v hv) (h3.2.mem v hv)⟩
 exact comb _ hrt htx har
theorem allT_imp {P Q : STree → Prop} (h : ∀ t, P t → Q t) : ∀ t, AllT P t → AllT Q t := by
 refine STree.ind fun u ih => ?_
 obtain ⟨k, o, x, y, ts⟩ := u
 intro h1
 rw [AllT] at h1 ⊢
 exact ⟨h _ h1.1, allTs_of fun v hv => ih v hv (h1.2.mem v hv)⟩
theorem root_node {a : List SNode} {t : STree} (h1 : 1 ≤ a.length) (ht : TA a t 0 (a.length - 1)) (hl : a.length ≤ 100000) : ∃ n, ix a (IntKind.wrap .i64 ((a.length : Int) - 1)) = some n ∧ n.Kind = t.kind := by
 obtain ⟨n, hn, e1, _⟩ := ht.node
 refine ⟨n, ?_, e1.symm⟩
 rw [wrap64 (by omega) (by omega), show (a.length : Int) - 1 = ((a.length - 1 : Nat) : Int) by omega]
 exact ix_get hn
theorem exprS (N : Nat) (a : List SNode) (h : ms_TreeOk N a = some true) {t : STree} (h1 : 1 ≤ a.length) (hl : a.length ≤ 100000) (ht : TA a t 0 (a.length - 1)) : ms_ExprOk N a = some (isE t.kind) := by
 obtain ⟨n, hn, hk⟩ := root_node h1 ht hl
 unfold ms_ExprOk
 rw [h]
 simp only [oBs, cond_true, hn, isE_spec, hk]
theorem exprI (N : Nat) (a : List SNode) (h : mi_TreeOk N a = some true) {t : STree} (h1 : 1 ≤ a.length) (hl : a.length ≤ 100000) (ht : TA a t 0 (a.length - 1)) : mi_ExprOk N a = some (isE t.kind) := by
 obtain ⟨n, hn, hk⟩ := root_node h1 ht hl
 unfold mi_ExprOk
 rw [h]
 simp only [oBs, cond_true, hn, isE_impl, hk]
theorem evalL (N : Nat) (a : List SNode) (env : List SBind) (henv : env.length ≤ 100) (hN : 1048577 + 3000 < N) (hs : ∀ z, z ∈ a → smNode z) (h : ms_TreeOk N a = some true) {t : STree} (hat : a = lst 0 t) (hE : isE t.kind = true) : ms_Eval N a env = some (evT nm27 (vr27 env) t) := by
 obtain ⟨t0, ht0, _, hsh, hsz, l1, l2, hdo, hrt, htx, hok⟩ := ok_tree N a (by omega) hs h
 have hta := TA_self t
 rw [← hat] at hta
 obtain ⟨rfl, _⟩ := TA.uniq hta ht0
 have hq := ar_of N a (by omega) hs h ht0
 have har := allT_imp (Q := ArP) (fun t h => h.2.2) t hq
 unfold ms_Eval
 rw [exprS N a h l1 (by omega) ht0, hE]
 simp only [oBs, Bool.not_true, cond_false]
 rw [wrap64 (by omega) (by omega), show (a.length : Int) - 1 = ((a.length - 1 : Nat) : Int) by omega]
 have := at27 a env henv hs t har 0 (a.length - 1) N ht0 (by omega)
 have this' : ms_l27At N a ((a.length - 1 : Nat) : Int) env = _ := this
 rw [this', oBs]
theorem made (N : Nat) (a : List SNode) (hN : 1048577 + 3000 < N) (ha : a.length ≤ 400) (hs : ∀ z, z ∈ a → smNode z) (h : ms_TreeOk N a = some true) {t : STree} (ht : TA a t 0 (a.length - 1)) (h1 : 1 ≤ a.length) (hsz : szT t ≤ 400) (hok : mi_TreeOk N a = some true) :
  ∃ c, ms_TreeOk N (lst 0 (puT t)) = some c ∧ mi_PushNot N a = some (bif c then lst 0 (puT t) else a) ∧ (∀ z, z ∈ lst 0 (puT t) → smNode z) ∧ (isE t.kind = false → mi_Negate N a = some []) ∧ (isE t.kind = true → ∃ d, ms_TreeOk N (lst 0 (ngT t)) = some d ∧ mi_Negate N a = some (bif d then lst 0 (ngT t) else []) ∧ ∀ z, z ∈ lst 0 (ngT t) → smNode z) := by
 have hq := ar_of N a (by omega) hs h ht
 have har := allT_imp (Q := ArP) (fun t h => h.2.2) t hq
 have htx := pn_txt N t hq
 have hpz := pn_sz t har
 have hpi := pn_is t har hsz
 have hroot := rootOf_is N a (by omega) ht h1 ha
 have hsm := small_of (t := puT t) (by omega) (txT_all _ htx.1) 0
 obtain ⟨c, c1, c2, _⟩ := treeOk_ex N (lst 0 (puT t)) (by omega) hsm
 have hp1 : mi_tree__pushed N t = some (puT t) := hpi.1 N (by omega)
 have hp2 : mi_tree__negated N t = some (ngT t) := hpi.2 N (by omega)
 have hl1 := list_is N (puT t) (by omega) (by omega)
 refine ⟨c, c1, ?_, hsm, fun hE => ?_, fun hE => ?_⟩
 ·unfold mi_PushNot
  rw [hok]
  simp only [oBs, Bool.not_true, cond_false, hroot, hp1, hl1, c2]
  cases c with
  | true => rfl
  | false => rw [Bool.not_false, cond_true, copyNodes_is N a (by omega) (by omega) hs]; rfl
 ·unfold mi_Negate
  rw [exprI N a hok h1 (by omega) ht, hE]; rfl
 ·have hsm2 := small_of (t := ngT t) (by omega) (txT_all _ (htx.2 hE)) 0
  obtain ⟨d, d1, d2, _⟩ := treeOk_ex N (lst 0 (ngT t)) (by omega) hsm2
  have hl2 := list_is N (ngT t) (by omega) (by omega)
  refine ⟨d, d1, ?_, hsm2⟩
  unfold mi_Negate
  rw [exprI N a hok h1 (by omega) ht, hE]
  simp only [oBs, Bool.not_true, cond_false, hroot, hp2, hl2, d2]
  cases d <;> rfl
theorem logic_l (N : Nat) (a x y : List SNode) (v : Int × Bool) (p q r : Int) (hx : x.length ≤ 100000) (c : Bool) (hc : ms_SameTree N x a = some c)
  (hno : c = false → ∀ (i : Nat) (n : SNode), x[i]? = some n → n.Kind = 11 → n.Op = 61 → ∀ k : Int, n.Kids = [k] → 0 ≤ k → k < i → ∃ m, ix x k = some m ∧ (m.Kind == 12 && (m.Op == 45 || (m.Op == 44 || (m.Op == 63 || m.Op == 47)))) = false) :
  ∀ (n i : Nat), x.length - i < n → i ≤ x.length → ml_FnLogic_l1 N n (a, x, v, y, p, q, r, (i : Int)) = ml_FnLogic_l1 N 1 (a, x, v, y, p, q, r, (x.length : Int)) := by
 intro n
 induction n with
 | zero => intro i h; omega
 | succ n ih =>
  intro i hn hi
  have hend : (bif (decide ((x.length : Int) < (x.length : Int))) then (ms_SameTree N x a).bind fun r502 => some (!r502) else some false) = some false := by
   rw [lt_false (Nat.lt_irrefl _)]; rfl
  by_cases hlt : i < x.length
  ·cases c with
   | true =>
    rw [ml_FnLogic_l1, ml_FnLogic_l1, hend]
    have : (bif (decide ((i : Int) < (x.length : Int))) then (ms_SameTree N x a).bind fun r502 => some (!r502) else some false) = some false := by
     rw [lt_true hlt, cond_true, hc]; rfl
    rw [this]
    simp only [oBs, cond_false]
   | false =>
    have hne := hno rfl i x[i] (List.getElem?_eq_getElem hlt)
    have step : ml_FnLogic_k2 N (ml_FnLogic_l1 N n) (a, x, v, (i : Int), y, p, q, r) = ml_FnLogic_l1 N 1 (a, x, v, y, p, q, r, (x.length : Int)) := by
     unfold ml_FnLogic_k2
     dsimp only
     rw [wrap64 (by omega) (by omega), show (i : Int) + 1 = ((i + 1 : Nat) : Int) by omega]
     exact ih (i + 1) (by omega) (by omega)
    rw [ml_FnLogic_l1]
    have : (bif (decide ((i : Int) < (x.length : Int))) then (ms_SameTree N x a).bind fun r502 => some (!r502) else some false) = some true := by
     rw [lt_true hlt, cond_true, hc]; rfl
    rw [this]
    simp only [oBs, cond_true, ix_nat hlt]
    cases h11 : (x[i].Kind != 11) with
    | true => simp only [cond_true, oBs]; exact step
    | false =>
     cases h61 : (x[i].Op != 61) with
     | true => simp only [cond_true, cond_false, oBs]; exact step
     | false =>
      cases hk1 : ((x[i].Kids.length : Int) != 1) with
      | true => simp only [cond_true, cond_false, oBs]; exact step
      | false =>
       have h11 : x[i].Kind = 11 := by simpa using h11
       have h61 : x[i].Op = 61 := by simpa using h61
       have hk1 : x[i].Kids.length = 1 := by
        have : (x[i].Kids.length : Int) = 1 := by simpa using hk1
        omega
       obtain ⟨k, hk⟩ := List.length_eq_one_iff.1 hk1
       have hix : ix x[i].Kids 0 = some k := by rw [hk]; rfl
       simp only [cond_false, hix, oBs]
       by_cases h0 : k < 0
       ·simp only [decide_eq_true h0, cond_true, oBs]; exact step
       ·by_cases h2 : k ≥ (i : Int)
        ·simp only [decide_eq_false h0, decide_eq_true h2, cond_false, cond_true, oBs]; exact step
        ·obtain ⟨m, hm, hb⟩ := hne h11 h61 k hk (by omega) (by omega)
         have hor : (bif (m.Kind == 12) then bif (m.Op == 45) then some true else (bif (m.Op == 44) then some true else (bif (m.Op == 63) then some true else some (m.Op == 47))) else some false) = some (m.Kind == 12 && (m.Op == 45 || (m.Op == 44 || (m.Op == 63 || m.Op == 47)))) := by
          cases (m.Kind == 12) <;> cases (m.Op == 45) <;> cases (m.Op == 44) <;> cases (m.Op == 63) <;> rfl
         simp only [decide_eq_false h0, decide_eq_false h2, cond_false, oBs, hm, hor, hb]
         exact step
  ·obtain rfl : i = x.length := by omega
   rw [ml_FnLogic_l1, ml_FnLogic_l1, hend]
   simp only [oBs, cond_false]
theorem plain (b : List UInt8) (kb : (∀ z, z ∈ b → True) ∧ b.length ≤ maxLen) : ∃ N, ml_FnLogic N b = some true := by
 refine ⟨18446744073709551657 + 2097152, ?_⟩
 obtain ⟨N, hN⟩ : ∃ N, N = 18446744073709551657 + 2097152 := ⟨_, rfl⟩
 rw [← hN]
 unfold ml_FnLogic ml_big
 rw [oBs]
 by_cases hb : b.length ≤ 1048576
 ·have hd : decide ((b.length : Int) > 1048576) = false := by simp; omega
  rw [hd, cond_false]
  obtain ⟨h, e1⟩ := new_dr b hb N (by omega)
  unfold ms_DrawPushNot
  rw [e1]
  simp only [oBs]
  obtain ⟨L, i1, h1, e2, ⟨hL, hl⟩, _, _⟩ := l39draw_dr b hb N (by omega) 0 h (by omega) (by omega)
  rw [e2]
  simp only [oBs]
  have hs := smS_sm hL
  obtain ⟨c, c1, c2, _⟩ := treeOk_ex N L (by omega) hs
  cases c with
  | false =>
   have g1 : mi_PushNot N L = some [] := by unfold mi_PushNot; rw [c2]; rfl
   have g2 : mi_Negate N L = some [] := by unfold mi_Negate mi_ExprOk; rw [c2]; rfl
   have g3 : ms_ExprOk N L = some false := by unfold ms_ExprOk; rw [c1]; rfl
   have g4 : ms_TreeOk N [] = some false := by
    obtain ⟨z, z1, _, z3⟩ := treeOk_ex N [] (by omega) (fun _ h => by cases h)
    cases z with
    | false => exact z1
    | true =>
     obtain ⟨hsh, _⟩ := z3 rfl
     have := (shape_of hsh).1
     simp at this
   simp only [g1, g2, g3, g4, c1, oBs]
   rfl
  | true =>
   obtain ⟨t, ht, hat, hsh, hsz, l1, l2, hdo, hrt, htx, hok⟩ := ok_tree N L (by omega) hs c1
   have hq := ar_of N L (by omega) hs c1 ht
   have har := allT_imp (Q := ArP) (fun t h => h.2.2) t hq
   have hqp := allT_imp (Q := QP N) (fun t h => h.2) t hq
   have hpz := pn_sz t har
   have hpd := pn_dep t har
   obtain ⟨c, k1, k2, k3, k4, k5⟩ := made N L (by omega) (by omega) hs c1 ht l1 (by omega) hok
   have hex := exprS N L c1 l1 (by omega) ht
   have hxok : ms_TreeOk N (bif c then lst 0 (puT t) else L) = some true := by
    cases c with
    | true => exact k1
    | false => exact c1
   have hxs : ∀ z, z ∈ (bif c then lst 0 (puT t) else L) → smNode z := by
    cases c with
    | true => exact k3
    | false => exact hs
   cases hE : isE t.kind with
   | false =>
    rw [hE] at hex
    simp only [k2, k4 hE, hex, oBs, Bool.not_false, cond_true, hxok, c1]
    rfl
   | true =>
    rw [hE] at hex
    obtain ⟨d, d1, d2, d3⟩ := k5 hE
    obtain ⟨v2, a2, _, _⟩ := at_is b 2 (by omega) hb
    obtain ⟨v0, a0, _, _⟩ := at_is b 0 (by omega) hb
    obtain ⟨v1, a1, _, _⟩ := at_is b 1 (by omega) hb
    have a2 : ml_at b 2 = some v2 := a2
    have a0 : ml_at b 0 = some v0 := a0
    have a1 : ml_at b 1 = some v1 := a1
    obtain ⟨env, henv⟩ : ∃ env : List SBind, env = [(⟨[110], (Int.tmod v2 3)⟩ : SBind), (⟨[120], (IntKind.wrap .i64 (v0 - 100))⟩ : SBind), (⟨[121], (Int.tmod v1 4)⟩ : SBind)] := ⟨_, rfl⟩
    have hel : env.length ≤ 100 := by rw [henv]; show 3 ≤ 100; omega
    have ev1 := evalL N L env hel (by omega) hs c1 hat hE
    have hpe := pn_ev nm27 (vr27 env) t har
    have ev2 : ms_Eval N (bif c then lst 0 (puT t) else L) env = some (evT nm27 (vr27 env) t) := by
     cases c with
     | true =>
      rw [cond_true, evalL N _ env hel (by omega) k3 k1 rfl (isE_pu har hE), hpe.1]
     | false => exact ev1
    have hxl : (bif c then lst 0 (puT t) else L).length ≤ 100000 := by
     cases c with
     | true => rw [cond_true, lst_len]; omega
     | false => rw [cond_false]; omega
    obtain ⟨sc, hsc⟩ : ∃ sc, ms_SameTree N (bif c then lst 0 (puT t) else L) L = some sc := ⟨_, sameN_is N _ L (by omega) (by omega) fun x hx => by
     have := hxs x hx
     unfold smNode at this
     omega⟩
    have hno : sc = false → ∀ (i : Nat) (n : SNode), (bif c then lst 0 (puT t) else L)[i]? = some n → n.Kind = 11 → n.Op = 61 → ∀ k : Int, n.Kids = [k] → 0 ≤ k → k < i → ∃ m, ix (bif c then lst 0 (puT t) else L) k = some m ∧ (m.Kind == 12 && (m.Op == 45 || (m.Op == 44 || (m.Op == 63 || m.Op == 47)))) = false := fun hsf i n hn h11 h61 k hk h0 hki => by
     cases c with
     | false =>
      rw [cond_false, same_self N L (by omega) (by omega) hs] at hsc
      cases hsc; cases hsf
     | true =>
      rw [cond_true] at hn ⊢
      have hlt := (List.getElem?_eq_some_iff.1 hn).1
      obtain ⟨u, s', hu, _, hnp⟩ := TA.sub (TA_self (puT t)) (pn_no N t hqp).1 i (by omega) (by omega)
      obtain ⟨n', hn', f1, f2, f3, f4, hka, hkl⟩ := hu.node
      rw [hn] at hn'
      cases hn'
      obtain ⟨w, hw⟩ := List.length_eq_one_iff.1 (show u.kids.length = 1 by rw [hkl, hk]; rfl)
      rw [hw, hk] at hka
      simp only [KA] at hka
      obtain ⟨kk, ks', hd, _, _, hta, _⟩ := hka
      obtain ⟨m, hm, m1, m2, _⟩ := hta.node
      have hd := (List.cons.inj hd).1
      subst hd
      refine ⟨m, ix_get hm, ?_⟩
      have := hnp w (by omega) (by omega) hw
      rw [m1, m2] at this
      exact this
    obtain ⟨rn, n1, n2⟩ := nots_l N L (by omega) N 0 0 (by omega) (by omega) (by omega) (by omega)
    have n1 : ms_Nots N L = some rn := n1
    have n2 : mi_Nots N L = some rn := n2
    have q1 : ((evT nm27 (vr27 env) t).1 != (evT nm27 (vr27 env) t).1) = false := by simp
    have q2 : (!((evT nm27 (vr27 env) t).2 == (evT nm27 (vr27 env) t).2)) = false := by simp
    simp only [k2, d2, hex, a2, a0, a1, oBs, Bool.not_true, cond_false, ← henv, ev1, ev2, q1, q2]
    rw [show (0 : Int) = ((0 : Nat) : Int) from rfl, logic_l N L _ _ _ v2 v0 v1 hxl sc hsc hno N 0 (by omega) (by omega), ml_FnLogic_l1, lt_false (Nat.lt_irrefl _)]
    simp only [cond_false, oBs, ← henv]
    cases d with
    | false =>
     have hdep := depthOf_spec N L (by omega) hs hsh ht
     have hcase : (38 : Int) ≤ (depT t : Int) ∨ (L.length : Int) > 200 := by
      refine Decidable.byContradiction fun hn => ?_
      have hn : depT t < 38 ∧ L.length ≤ 200 := by omega
      have hr := (pn_rt N t hqp).2 hE
      have := treeOk_lst N (ngT t) (by omega) (by omega) (by omega) d3 hr
      rw [this] at d1
      cases d1
     simp only [cond_false, hdep, oBs]
     rw [show ((([] : List SNode).length : Int) == (0 : Int)) = true from rfl, cond_true]
     rcases hcase with h | h
     ·rw [decide_eq_true (show (depT t : Int) ≥ 38 from h)]; rfl
     ·rw [decide_eq_true h]
      cases decide ((depT t : Int) ≥ 38) <;> rfl
    | true =>
     have ev3 := evalL N (lst 0 (ngT t)) env hel (by omega) d3 d1 rfl (isE_ng har)
     rw [hpe.2] at ev3
     have hlp := szT_pos (ngT t)
     have hll := lst_len (ngT t) 0
     have hl0 : (((lst 0 (ngT t)).length : Int) == (0 : Int)) = false := by
      cases hh : (((lst 0 (ngT t)).length : Int) == (0 : Int)) with
      | false => rfl
      | true =>
       have : ((lst 0 (ngT t)).length : Int) = 0 := by simpa using hh
       omega
     simp only [cond_true, hl0, cond_false, ev3, oBs, n1, n2]
     generalize evT nm27 (vr27 env) t = v
     obtain ⟨vi, vc⟩ := v
     unfold no27
     cases vc with
     | false => simp
     | true =>
      cases hv : (vi == 0) with
      | true =>
       have : vi = 0 := by simpa using hv
       subst this
       simp [b2i]
      | false =>
       have : ¬ vi = 0 := by simpa using hv
       simp [b2i, this]
 ·have hd : decide ((b.length : Int) > 1048576) = true := by simp; omega
  rw [hd]; rfl

end Go.Proofs.Tryz
