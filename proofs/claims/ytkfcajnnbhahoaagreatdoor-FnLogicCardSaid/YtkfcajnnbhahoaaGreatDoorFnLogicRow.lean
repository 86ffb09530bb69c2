/-
  Logic: for all arguments the law returns true: the program's function returns what the reference's returns.
  The tables that the row lists are tied to the program's text.
-/
import Derived.Test.YtkfcajnnbhahoaaGreatDoorRows
import Derived.Test.YtkfcajnnbhahoaaGreatDoorCards
import Derived.Test.YtkfcajnnbhahoaaGreatDoorTie
import Derived.WalkKit
import Derived.ProofKit
import Derived.OpenShut
import Derived.Lay
import Derived.MakeChecks
import Derived.SevenTiedAt
import Derived.Test.YtkfcajnnbhahoaaGreatDoorLgFW5
import Derived.Test.YtkfcajnnbhahoaaGreatDoorLgFP17
import Derived.Test.YtkfcajnnbhahoaaGreatDoorFCore6
namespace Go.Proofs.YtkfcajnnbhahoaaGreatDoor.fnLogic
open Go.ChangeShapes Go.WideShapes Go.ChangeAt Go.RowKit Go.Av Go.Proofs.Tryz
set_option linter.unusedVariables false
set_option linter.unusedSimpArgs false
set_option maxRecDepth 100000

theorem own : ownKnob Tryz.prog.godebug = none := by kernel_rfl
theorem laidOut : laidOutB Tryz.prog = true := by kernel_rfl

/-! ### FnLogic -/
theorem ar_of (N : Nat) (a : LN) (hN : 1048577 + 1000 < N) (hs : ∀ z, z ∈ a → smNode z) (h : ms_TreeOk N a = some true) {t : STree} (ht : TA a t 0 (a.length - 1)) : AllT (TQ N) t := by
  obtain ⟨t0, ht0, hat, hsh, hsz, l1, l2, hdo, hrt, htx, hok⟩ := ok_tree N a hN hs h
  obtain ⟨b, b1, b2, b3⟩ := treeOk_ex N a (by omega) hs
  rw [h] at b1
  cases b1
  obtain ⟨_, hno⟩ := b3 rfl
  have har : AllT ArP t := TA.all (fun u s j hu => by
    obtain ⟨n, hn, e1, e2, e3, e4, hka, hkl⟩ := hu.node
    have hm := List.mem_of_getElem? hn
    obtain ⟨fk, _⟩ := hno n hm
    refine ⟨fun hk => ?_, fun hk => ?_, fun hk => ?_, fun hk => ?_⟩
    · have := (fk.2.2.2.2.2.2.2 (by omega)).1
      omega
    · have := (fk.2.2.2.2.2.2.1 (by omega)).1
      omega
    · obtain ⟨hf, _⟩ := treeOk_nodes N a (by omega) hsh h n hm
      obtain ⟨nk, no, nx, ny, nks⟩ := n
      have e1 : u.kind = nk := e1
      have hk : nk = 14 := by omega
      subst hk
      have := fields_14 N no nx ny nks hf
      have hkl : u.kids.length = nks.length := hkl
      omega
    · rw [e3, e4]
      rcases hk with hk | hk
      · exact (fk.2.2.2.2.2.2.2 (by omega)).2
      · exact (fk.2.2.2.2.2.2.1 (by omega)).2) t 0 _ ht
  obtain ⟨rfl, _⟩ := TA.uniq ht0 ht
  have comb : ∀ u : STree, AllT (RT N) u → AllT TxP u → AllT ArP u → AllT (TQ N) u := by
    refine STree.ind fun u ih => ?_
    obtain ⟨k, o, x, y, ts⟩ := u
    intro h1 h2 h3
    rw [AllT] at h1 h2 h3 ⊢
    exact ⟨⟨h2.1, h1.1, h3.1⟩, allTs_of fun v hv => ih v hv (h1.2.mem v hv) (h2.2.mem v hv) (h3.2.mem v hv)⟩
  exact comb _ hrt htx har
theorem allT_imp {P Q : STree → Prop} (h : ∀ t, P t → Q t) : ∀ t, AllT P t → AllT Q t := by
  refine STree.ind fun u ih => ?_
  obtain ⟨k, o, x, y, ts⟩ := u
  intro h1
  rw [AllT] at h1 ⊢
  exact ⟨h _ h1.1, allTs_of fun v hv => ih v hv (h1.2.mem v hv)⟩
theorem root_node {a : LN} {t : STree} (h1 : 1 ≤ a.length) (ht : TA a t 0 (a.length - 1)) (hl : a.length ≤ 100000) : ∃ n, ix a (IntKind.wrap .i64 ((a.length : Int) - 1)) = some n ∧ n.Kind = t.kind := by
  obtain ⟨n, hn, e1, _⟩ := ht.node
  refine ⟨n, ?_, e1.symm⟩
  rw [wrap64 (by omega) (by omega), show (a.length : Int) - 1 = ((a.length - 1 : Nat) : Int) by omega]
  exact ix_get hn
theorem exprS (N : Nat) (a : LN) (h : ms_TreeOk N a = some true) {t : STree} (h1 : 1 ≤ a.length) (hl : a.length ≤ 100000) (ht : TA a t 0 (a.length - 1)) : ms_ExprOk N a = some (isE t.kind) := by
  obtain ⟨n, hn, hk⟩ := root_node h1 ht hl
  unfold ms_ExprOk
  rw [h]
  simp only [oBs, cond_true, hn, isE_spec, hk]
theorem exprI (N : Nat) (a : LN) (h : mi_TreeOk N a = some true) {t : STree} (h1 : 1 ≤ a.length) (hl : a.length ≤ 100000) (ht : TA a t 0 (a.length - 1)) : mi_ExprOk N a = some (isE t.kind) := by
  obtain ⟨n, hn, hk⟩ := root_node h1 ht hl
  unfold mi_ExprOk
  rw [h]
  simp only [oBs, cond_true, hn, isE_impl, hk]
/-- the value of a right expression -/
theorem evalL (N : Nat) (a : LN) (env : List SBind) (henv : env.length ≤ 100) (hN : 1048577 + 3000 < N) (hs : ∀ z, z ∈ a → smNode z) (h : ms_TreeOk N a = some true) {t : STree} (hat : a = lst 0 t) (hE : isE t.kind = true) : ms_Eval N a env = some (evT nm27 (vr27 env) t) := by
  obtain ⟨t0, ht0, _, hsh, hsz, l1, l2, hdo, hrt, htx, hok⟩ := ok_tree N a (by omega) hs h
  have hta := TA_self t
  rw [← hat] at hta
  obtain ⟨rfl, _⟩ := TA.uniq hta ht0
  have hq := ar_of N a (by omega) hs h ht0
  have har := allT_imp (Q := ArP) (fun t h => h.2.2) t hq
  unfold ms_Eval
  rw [exprS N a h l1 (by omega) ht0, hE]
  simp only [oBs, Bool.not_true, cond_false]
  rw [wrap64 (by omega) (by omega), show (a.length : Int) - 1 = ((a.length - 1 : Nat) : Int) by omega]
  have := at27 a env henv hs t har 0 (a.length - 1) N ht0 (by omega)
  have this' : ms_l27At N a ((a.length - 1 : Nat) : Int) env = _ := this
  rw [this', oBs]
/-- what the code makes -/
theorem made (N : Nat) (a : LN) (hN : 1048577 + 3000 < N) (ha : a.length ≤ 400) (hs : ∀ z, z ∈ a → smNode z) (h : ms_TreeOk N a = some true) {t : STree} (ht : TA a t 0 (a.length - 1)) (h1 : 1 ≤ a.length) (hsz : szT t ≤ 400) (hok : mi_TreeOk N a = some true) :
    ∃ c, ms_TreeOk N (lst 0 (puT t)) = some c ∧ mi_PushNot N a = some (bif c then lst 0 (puT t) else a) ∧ (∀ z, z ∈ lst 0 (puT t) → smNode z) ∧ (isE t.kind = false → mi_Negate N a = some []) ∧ (isE t.kind = true → ∃ d, ms_TreeOk N (lst 0 (ngT t)) = some d ∧ mi_Negate N a = some (bif d then lst 0 (ngT t) else []) ∧ ∀ z, z ∈ lst 0 (ngT t) → smNode z) := by
  have hq := ar_of N a (by omega) hs h ht
  have har := allT_imp (Q := ArP) (fun t h => h.2.2) t hq
  have htx := pn_txt N t hq
  have hpz := pn_sz t har
  have hpi := pn_is t har hsz
  have hroot := rootOf_is N a (by omega) ht h1 ha
  have hsm := small_of (t := puT t) (by omega) (txT_all _ htx.1) 0
  obtain ⟨c, c1, c2, _⟩ := treeOk_ex N (lst 0 (puT t)) (by omega) hsm
  have hp1 : mi_tree__pushed N t = some (puT t) := hpi.1 N (by omega)
  have hp2 : mi_tree__negated N t = some (ngT t) := hpi.2 N (by omega)
  have hl1 := list_is N (puT t) (by omega) (by omega)
  refine ⟨c, c1, ?_, hsm, fun hE => ?_, fun hE => ?_⟩
  · unfold mi_PushNot
    rw [hok]
    simp only [oBs, Bool.not_true, cond_false, hroot, hp1, hl1, c2]
    cases c with
    | true => rfl
    | false => rw [Bool.not_false, cond_true, copyNodes_is N a (by omega) (by omega) hs]; rfl
  · unfold mi_Negate
    rw [exprI N a hok h1 (by omega) ht, hE]; rfl
  · have hsm2 := small_of (t := ngT t) (by omega) (txT_all _ (htx.2 hE)) 0
    obtain ⟨d, d1, d2, _⟩ := treeOk_ex N (lst 0 (ngT t)) (by omega) hsm2
    have hl2 := list_is N (ngT t) (by omega) (by omega)
    refine ⟨d, d1, ?_, hsm2⟩
    unfold mi_Negate
    rw [exprI N a hok h1 (by omega) ht, hE]
    simp only [oBs, Bool.not_true, cond_false, hroot, hp2, hl2, d2]
    cases d <;> rfl
/-- no node of what was pushed is one that the law forbids -/
theorem logic_l (N : Nat) (a x y : LN) (v : Int × Bool) (p q r : Int) (hx : x.length ≤ 100000) (c : Bool) (hc : ms_SameTree N x a = some c)
    (hno : c = false → ∀ (i : Nat) (n : SNode), x[i]? = some n → n.Kind = 11 → n.Op = 61 → ∀ k : Int, n.Kids = [k] → 0 ≤ k → k < i → ∃ m, ix x k = some m ∧ (m.Kind == 12 && (m.Op == 45 || (m.Op == 44 || (m.Op == 63 || m.Op == 47)))) = false) :
    ∀ (n i : Nat), x.length - i < n → i ≤ x.length → ml_FnLogic_l1 N n (a, x, v, y, p, q, r, (i : Int)) = ml_FnLogic_l1 N 1 (a, x, v, y, p, q, r, (x.length : Int)) := by
  intro n
  induction n with
  | zero => intro i h; omega
  | succ n ih =>
    intro i hn hi
    have hend : (bif (decide ((x.length : Int) < (x.length : Int))) then Option.bind (ms_SameTree N x a) fun r502 => some (!r502) else some false) = some false := by
      rw [lt_false (Nat.lt_irrefl _)]; rfl
    by_cases hlt : i < x.length
    · cases c with
      | true =>
        rw [ml_FnLogic_l1, ml_FnLogic_l1, hend]
        have : (bif (decide ((i : Int) < (x.length : Int))) then Option.bind (ms_SameTree N x a) fun r502 => some (!r502) else some false) = some false := by
          rw [lt_true hlt, cond_true, hc]; rfl
        rw [this]
        simp only [oBs, cond_false]
      | false =>
        have hne := hno rfl i x[i] (List.getElem?_eq_getElem hlt)
        have step : ml_FnLogic_k2 N (ml_FnLogic_l1 N n) (a, x, v, (i : Int), y, p, q, r) = ml_FnLogic_l1 N 1 (a, x, v, y, p, q, r, (x.length : Int)) := by
          unfold ml_FnLogic_k2
          dsimp only
          rw [wrap64 (by omega) (by omega), show (i : Int) + 1 = ((i + 1 : Nat) : Int) by omega]
          exact ih (i + 1) (by omega) (by omega)
        rw [ml_FnLogic_l1]
        have : (bif (decide ((i : Int) < (x.length : Int))) then Option.bind (ms_SameTree N x a) fun r502 => some (!r502) else some false) = some true := by
          rw [lt_true hlt, cond_true, hc]; rfl
        rw [this]
        simp only [oBs, cond_true, ix_nat hlt]
        cases h11 : (x[i].Kind != 11) with
        | true => simp only [cond_true, oBs]; exact step
        | false =>
          cases h61 : (x[i].Op != 61) with
          | true => simp only [cond_true, cond_false, oBs]; exact step
          | false =>
            cases hk1 : ((x[i].Kids.length : Int) != 1) with
            | true => simp only [cond_true, cond_false, oBs]; exact step
            | false =>
              have h11 : x[i].Kind = 11 := by simpa using h11
              have h61 : x[i].Op = 61 := by simpa using h61
              have hk1 : x[i].Kids.length = 1 := by
                have : (x[i].Kids.length : Int) = 1 := by simpa using hk1
                omega
              obtain ⟨k, hk⟩ := List.length_eq_one_iff.1 hk1
              have hix : ix x[i].Kids 0 = some k := by rw [hk]; rfl
              simp only [cond_false, hix, oBs]
              by_cases h0 : k < 0
              · simp only [decide_eq_true h0, cond_true, oBs]; exact step
              · by_cases h2 : k ≥ (i : Int)
                · simp only [decide_eq_false h0, decide_eq_true h2, cond_false, cond_true, oBs]; exact step
                · obtain ⟨m, hm, hb⟩ := hne h11 h61 k hk (by omega) (by omega)
                  have hor : (bif (m.Kind == 12) then bif (m.Op == 45) then some true else (bif (m.Op == 44) then some true else (bif (m.Op == 63) then some true else some (m.Op == 47))) else some false) = some (m.Kind == 12 && (m.Op == 45 || (m.Op == 44 || (m.Op == 63 || m.Op == 47)))) := by
                    cases (m.Kind == 12) <;> cases (m.Op == 45) <;> cases (m.Op == 44) <;> cases (m.Op == 63) <;> rfl
                  simp only [decide_eq_false h0, decide_eq_false h2, cond_false, oBs, hm, hor, hb]
                  exact step
    · obtain rfl : i = x.length := by omega
      rw [ml_FnLogic_l1, ml_FnLogic_l1, hend]
      simp only [oBs, cond_false]
theorem plain (b : LU) (kb : (∀ z, z ∈ b → True) ∧ b.length ≤ maxLen) : ∃ N, ml_FnLogic N b = some true := by
  refine ⟨18446744073709551657 + 2097152, ?_⟩
  obtain ⟨N, hN⟩ : ∃ N, N = 18446744073709551657 + 2097152 := ⟨_, rfl⟩
  rw [← hN]
  unfold ml_FnLogic ml_big
  rw [oBs]
  by_cases hb : b.length ≤ 1048576
  · have hd : decide ((b.length : Int) > 1048576) = false := by simp; omega
    rw [hd, cond_false]
    obtain ⟨h, e1⟩ := new_dr b hb N (by omega)
    unfold ms_DrawPushNot
    rw [e1]
    simp only [oBs]
    obtain ⟨L, i1, h1, e2, ⟨hL, hl⟩, _, _⟩ := l39draw_dr b hb N (by omega) 0 h (by omega) (by omega)
    rw [e2]
    simp only [oBs]
    have hs := smS_sm hL
    obtain ⟨c, c1, c2, _⟩ := treeOk_ex N L (by omega) hs
    cases c with
    | false =>
      have g1 : mi_PushNot N L = some [] := by unfold mi_PushNot; rw [c2]; rfl
      have g2 : mi_Negate N L = some [] := by unfold mi_Negate mi_ExprOk; rw [c2]; rfl
      have g3 : ms_ExprOk N L = some false := by unfold ms_ExprOk; rw [c1]; rfl
      have g4 : ms_TreeOk N [] = some false := by
        obtain ⟨z, z1, _, z3⟩ := treeOk_ex N [] (by omega) (fun _ h => by cases h)
        cases z with
        | false => exact z1
        | true =>
          obtain ⟨hsh, _⟩ := z3 rfl
          have := (shape_of hsh).1
          simp at this
      simp only [g1, g2, g3, g4, c1, oBs]
      rfl
    | true =>
      obtain ⟨t, ht, hat, hsh, hsz, l1, l2, hdo, hrt, htx, hok⟩ := ok_tree N L (by omega) hs c1
      have hq := ar_of N L (by omega) hs c1 ht
      have har := allT_imp (Q := ArP) (fun t h => h.2.2) t hq
      have hqp := allT_imp (Q := QP N) (fun t h => h.2) t hq
      have hpz := pn_sz t har
      have hpd := pn_dep t har
      obtain ⟨c, k1, k2, k3, k4, k5⟩ := made N L (by omega) (by omega) hs c1 ht l1 (by omega) hok
      have hex := exprS N L c1 l1 (by omega) ht
      have hxok : ms_TreeOk N (bif c then lst 0 (puT t) else L) = some true := by
        cases c with
        | true => exact k1
        | false => exact c1
      have hxs : ∀ z, z ∈ (bif c then lst 0 (puT t) else L) → smNode z := by
        cases c with
        | true => exact k3
        | false => exact hs
      cases hE : isE t.kind with
      | false =>
        rw [hE] at hex
        simp only [k2, k4 hE, hex, oBs, Bool.not_false, cond_true, hxok, c1]
        rfl
      | true =>
        rw [hE] at hex
        obtain ⟨d, d1, d2, d3⟩ := k5 hE
        obtain ⟨v2, a2, _, _⟩ := at_is b 2 (by omega) hb
        obtain ⟨v0, a0, _, _⟩ := at_is b 0 (by omega) hb
        obtain ⟨v1, a1, _, _⟩ := at_is b 1 (by omega) hb
        have a2 : ml_at b 2 = some v2 := a2
        have a0 : ml_at b 0 = some v0 := a0
        have a1 : ml_at b 1 = some v1 := a1
        obtain ⟨env, henv⟩ : ∃ env : List SBind, env = [(⟨[110], (Int.tmod v2 3)⟩ : SBind), (⟨[120], (IntKind.wrap .i64 (v0 - 100))⟩ : SBind), (⟨[121], (Int.tmod v1 4)⟩ : SBind)] := ⟨_, rfl⟩
        have hel : env.length ≤ 100 := by rw [henv]; show 3 ≤ 100; omega
        have ev1 := evalL N L env hel (by omega) hs c1 hat hE
        have hpe := pn_ev nm27 (vr27 env) t har
        have ev2 : ms_Eval N (bif c then lst 0 (puT t) else L) env = some (evT nm27 (vr27 env) t) := by
          cases c with
          | true =>
            rw [cond_true, evalL N _ env hel (by omega) k3 k1 rfl (isE_pu har hE), hpe.1]
          | false => exact ev1
        have hxl : (bif c then lst 0 (puT t) else L).length ≤ 100000 := by
          cases c with
          | true => rw [cond_true, lst_len]; omega
          | false => rw [cond_false]; omega
        obtain ⟨sc, hsc⟩ : ∃ sc, ms_SameTree N (bif c then lst 0 (puT t) else L) L = some sc := ⟨_, sameN_is N _ L (by omega) (by omega) fun x hx => by
          have := hxs x hx
          unfold smNode at this
          omega⟩
        have hno : sc = false → ∀ (i : Nat) (n : SNode), (bif c then lst 0 (puT t) else L)[i]? = some n → n.Kind = 11 → n.Op = 61 → ∀ k : Int, n.Kids = [k] → 0 ≤ k → k < i → ∃ m, ix (bif c then lst 0 (puT t) else L) k = some m ∧ (m.Kind == 12 && (m.Op == 45 || (m.Op == 44 || (m.Op == 63 || m.Op == 47)))) = false := fun hsf i n hn h11 h61 k hk h0 hki => by
          cases c with
          | false =>
            rw [cond_false, same_self N L (by omega) (by omega) hs] at hsc
            cases hsc; cases hsf
          | true =>
            rw [cond_true] at hn ⊢
            have hlt := (List.getElem?_eq_some_iff.1 hn).1
            obtain ⟨u, s', hu, _, hnp⟩ := TA.sub (TA_self (puT t)) (pn_no N t hqp).1 i (by omega) (by omega)
            obtain ⟨n', hn', f1, f2, f3, f4, hka, hkl⟩ := hu.node
            rw [hn] at hn'
            cases hn'
            obtain ⟨w, hw⟩ := List.length_eq_one_iff.1 (show u.kids.length = 1 by rw [hkl, hk]; rfl)
            rw [hw, hk] at hka
            simp only [KA] at hka
            obtain ⟨kk, ks', hd, _, _, hta, _⟩ := hka
            obtain ⟨m, hm, m1, m2, _⟩ := hta.node
            have hd := (List.cons.inj hd).1
            subst hd
            refine ⟨m, ix_get hm, ?_⟩
            have := hnp w (by omega) (by omega) hw
            rw [m1, m2] at this
            exact this
        obtain ⟨rn, n1, n2⟩ := nots_l N L (by omega) N 0 0 (by omega) (by omega) (by omega) (by omega)
        have n1 : ms_Nots N L = some rn := n1
        have n2 : mi_Nots N L = some rn := n2
        have q1 : ((evT nm27 (vr27 env) t).1 != (evT nm27 (vr27 env) t).1) = false := by simp
        have q2 : (!((evT nm27 (vr27 env) t).2 == (evT nm27 (vr27 env) t).2)) = false := by simp
        simp only [k2, d2, hex, a2, a0, a1, oBs, Bool.not_true, cond_false, ← henv, ev1, ev2, q1, q2]
        rw [show (0 : Int) = ((0 : Nat) : Int) from rfl, logic_l N L _ _ _ v2 v0 v1 hxl sc hsc hno N 0 (by omega) (by omega), ml_FnLogic_l1, lt_false (Nat.lt_irrefl _)]
        simp only [cond_false, oBs, ← henv]
        cases d with
        | false =>
          have hdep := depthOf_spec N L (by omega) hs hsh ht
          have hcase : (38 : Int) ≤ (depT t : Int) ∨ (L.length : Int) > 200 := by
            refine Decidable.byContradiction fun hn => ?_
            have hn : depT t < 38 ∧ L.length ≤ 200 := by omega
            have hr := (pn_rt N t hqp).2 hE
            have := treeOk_lst N (ngT t) (by omega) (by omega) (by omega) d3 hr
            rw [this] at d1
            cases d1
          simp only [cond_false, hdep, oBs]
          rw [show ((([] : LN).length : Int) == (0 : Int)) = true from rfl, cond_true]
          rcases hcase with h | h
          · rw [decide_eq_true (show (depT t : Int) ≥ 38 from h)]; rfl
          · rw [decide_eq_true h]
            cases decide ((depT t : Int) ≥ 38) <;> rfl
        | true =>
          have ev3 := evalL N (lst 0 (ngT t)) env hel (by omega) d3 d1 rfl (isE_ng har)
          rw [hpe.2] at ev3
          have hlp := szT_pos (ngT t)
          have hll := lst_len (ngT t) 0
          have hl0 : (((lst 0 (ngT t)).length : Int) == (0 : Int)) = false := by
            cases hh : (((lst 0 (ngT t)).length : Int) == (0 : Int)) with
            | false => rfl
            | true =>
              have : ((lst 0 (ngT t)).length : Int) = 0 := by simpa using hh
              omega
          simp only [cond_true, hl0, cond_false, ev3, oBs, n1, n2]
          generalize evT nm27 (vr27 env) t = v
          obtain ⟨vi, vc⟩ := v
          unfold no27
          cases vc with
          | false => simp
          | true =>
            cases hv : (vi == 0) with
            | true =>
              have : vi = 0 := by simpa using hv
              subst this
              simp [b2i]
            | false =>
              have : ¬ vi = 0 := by simpa using hv
              simp [b2i, this]
  · have hd : decide ((b.length : Int) > 1048576) = true := by simp; omega
    rw [hd]; rfl



theorem kids : Go.Kids Tryz.prog (· < Tryz.prog.types.size) := kids_rows (by kernel_rfl) (by kernel_rfl)
theorem full : ∀ t e, t < Tryz.prog.types.size → Tryz.prog.underlying t = some (.slice e) → 0 < Tryz.prog.cellsOf e := slices_full_of Tryz.prog (by kernel_rfl)

/-- what the row lists -/
def lay : List (String × DataW Unit) := [("loop.example/g01543/impl.keywords", Rows.laid_loop_example_g01543_impl_keywords), ("loop.example/g01543/impl.signs", Rows.laid_loop_example_g01543_impl_signs), ("loop.example/g01543/impl.builtins", Rows.laid_loop_example_g01543_impl_builtins)]

theorem tables {W : World} (h : laidMetH Tryz.prog lay W) : W.var? Tryz.prog "loop.example/g01543/impl.keywords" = some (strCells tab_keywords) ∧ W.var? Tryz.prog "loop.example/g01543/impl.signs" = some (strCells tab_signs) ∧ W.var? Tryz.prog "loop.example/g01543/impl.builtins" = some (strCells tab_builtins) := by
  rw [MakeChecks.laidMetH_plain _ _ _ (by kernel_rfl)] at h
  obtain ⟨ps, ⟨g0, t0, cs0, fuel0, p0, q0, hg0, ht0, hv0, hd0, r0, _⟩, _, _⟩ := h
  obtain ⟨g1, t1, cs1, fuel1, p1, q1, hg1, ht1, hv1, hd1, r1, _⟩ := r0
  obtain ⟨g2, t2, cs2, fuel2, p2, q2, hg2, ht2, hv2, hd2, r2, _⟩ := r1
  obtain rfl := Option.some.inj ((show Tryz.prog.globalNamed "loop.example/g01543/impl.keywords" = some 1 by kernel_rfl).symm.trans hg0)
  obtain rfl := Option.some.inj ((show (Tryz.prog.globals[1]?).map (·.type) = some 216 by kernel_rfl).symm.trans ht0)
  have e0 : cs0 = strCells tab_keywords := strs_of_trod (l := tab_keywords) (p := p0) (by rw [show (DataW.agg (tab_keywords.map fun s => .lit (.string s)) : DataW Unit) = Rows.laid_loop_example_g01543_impl_keywords by kernel_rfl]; exact hd0) Tryz.underlying216 Tryz.underlying9 (by kernel_rfl) (by kernel_rfl)
  rw [e0] at hv0
  obtain rfl := Option.some.inj ((show Tryz.prog.globalNamed "loop.example/g01543/impl.signs" = some 2 by kernel_rfl).symm.trans hg1)
  obtain rfl := Option.some.inj ((show (Tryz.prog.globals[2]?).map (·.type) = some 218 by kernel_rfl).symm.trans ht1)
  have e1 : cs1 = strCells tab_signs := strs_of_trod (l := tab_signs) (p := p1) (by rw [show (DataW.agg (tab_signs.map fun s => .lit (.string s)) : DataW Unit) = Rows.laid_loop_example_g01543_impl_signs by kernel_rfl]; exact hd1) Tryz.underlying218 Tryz.underlying9 (by kernel_rfl) (by kernel_rfl)
  rw [e1] at hv1
  obtain rfl := Option.some.inj ((show Tryz.prog.globalNamed "loop.example/g01543/impl.builtins" = some 0 by kernel_rfl).symm.trans hg2)
  obtain rfl := Option.some.inj ((show (Tryz.prog.globals[0]?).map (·.type) = some 206 by kernel_rfl).symm.trans ht2)
  have e2 : cs2 = strCells tab_builtins := strs_of_trod (l := tab_builtins) (p := p2) (by rw [show (DataW.agg (tab_builtins.map fun s => .lit (.string s)) : DataW Unit) = Rows.laid_loop_example_g01543_impl_builtins by kernel_rfl]; exact hd2) Tryz.underlying206 Tryz.underlying9 (by kernel_rfl) (by kernel_rfl)
  rw [e2] at hv2
  exact ⟨hv0, hv1, hv2⟩

theorem grel {W : World} {S : Nat → Prop} (h0 : W.var? Tryz.prog "loop.example/g01543/impl.keywords" = some (strCells tab_keywords)) (h1 : W.var? Tryz.prog "loop.example/g01543/impl.signs" = some (strCells tab_signs)) (h2 : W.var? Tryz.prog "loop.example/g01543/impl.builtins" = some (strCells tab_builtins)) (s0 : S 1) (s1 : S 2) (s2 : S 0) : GRel (GS [0, 1, 2]) S W := by
  intro g cs hg
  have hc : ([0, 1, 2] : List Nat).contains g = true := by
    cases h : ([0, 1, 2] : List Nat).contains g with
    | true => rfl
    | false => unfold GS at hg; rw [h] at hg; cases hg
  have hm := List.contains_iff_mem.1 hc
  simp only [List.mem_cons, List.mem_nil_iff, or_false] at hm
  rcases hm with rfl | rfl | rfl
  · obtain rfl := Option.some.inj ((show GS [0, 1, 2] 0 = some (tab_builtins.map V.s) by kernel_rfl).symm.trans hg)
    exact grel_strs (show Tryz.prog.globalNamed "loop.example/g01543/impl.builtins" = some 0 by kernel_rfl) h2 s2
  · obtain rfl := Option.some.inj ((show GS [0, 1, 2] 1 = some (tab_keywords.map V.s) by kernel_rfl).symm.trans hg)
    exact grel_strs (show Tryz.prog.globalNamed "loop.example/g01543/impl.keywords" = some 1 by kernel_rfl) h0 s0
  · obtain rfl := Option.some.inj ((show GS [0, 1, 2] 2 = some (tab_signs.map V.s) by kernel_rfl).symm.trans hg)
    exact grel_strs (show Tryz.prog.globalNamed "loop.example/g01543/impl.signs" = some 2 by kernel_rfl) h1 s1

theorem lifted (os : Os) (started : os.Started) (H : Type) (enc : TypeId × Value → H) :
    ReturnsInHanded {} Tryz.checked os 6 .any (fun w args => (Rows.fnLogicSpec.pre enc Tryz.prog Tryz.f6 Rows.fnLogicRow.domain false w args ∧ laidMetH Tryz.prog lay w) ∧ sizedMet enc Tryz.prog Tryz.f6 (OpenSpec.ofChange Rows.fnLogicSpec) false w args) (Rows.fnLogicSpec.post enc Tryz.prog Tryz.f6 false true false false) := by
  refine returnsInHanded_of_change_and (C := Tryz.checked) (X := fun w _ => laidMetH Tryz.prog lay w) (fun _ _ _ hh h => h.of_heap hh) own started (by kernel_rfl) Tryz.func6
    (ChangeSpec.witness_at (enc := enc) (C := Tryz.checked) (os := os) (X := fun w _ => laidMetH Tryz.prog lay w) false (World.laidAll Tryz.prog os lay) #[.slice none 0 0] 12 (World.laidAll_os _ _ _) (by kernel_rfl) (by kernel_rfl) (by kernel_rfl) (by kernel_rfl) (by kernel_rfl)
      (by rw [MakeChecks.laidMetH_plain _ _ _ (by kernel_rfl)]; exact laidMet_laidAll _ (by kernel_rfl) (by kernel_rfl))) ?_
  intro W base args ds gs before hval0 hW hcnd _ hL _
  have hval : ∀ (j : Nat) t v, Tryz.f6.params[j]? = some t → args[j]? = some v → Value.okWide Tryz.prog W .any base t v := hval0
  have hW' := hW
  obtain ⟨p, q, hA0, hV0, rfl, hfz, hnd⟩ := hW
  have hA : DataW.TrodAll enc Tryz.prog W 0 (fun _ => true) true Tryz.f6.params.toList args.toList ds p := hA0
  have hV : DataW.TrodVars enc Tryz.prog W (fun _ => true) ["loop.example/g01543/impl.keywords", "loop.example/g01543/impl.builtins", "loop.example/g01543/impl.signs"] gs q := hV0
  rw [Tryz.params6] at hA hval
  have hA1 := hA
  obtain ⟨v0, vs0, d0, ds0, p0, q0, hargs, rfl, rfl, h0, r0⟩ := trodAll_cons hA
  obtain ⟨rfl, rfl, rfl⟩ := trodAll_nil r0
  obtain rfl : args = #[v0] := by cases args; simp_all
  have hA2 : DataW.TrodAll enc Tryz.prog W 0 (fun _ => true) true [22] [v0] [d0] (p0 ++ []) := hA1
  have hgl := vars_len hV
  obtain ⟨y0, y1, y2, rfl⟩ : ∃ y0 y1 y2, gs = [y0, y1, y2] := by
    match gs, hgl with
    | [y0, y1, y2], _ => exact ⟨y0, y1, y2, rfl⟩
  obtain ⟨fu0, hf0⟩ := h0
  obtain ⟨a0, k0, c0⟩ := (Reader.slice Tryz.underlying22 (Reader.u8 Tryz.underlying5) 1 (by kernel_rfl) (by decide) (fun _ => rfl)) enc W fu0 _ _ hf0
  obtain ⟨s0, l0, m0, rfl⟩ := okWide_slice Tryz.underlying22 (hval 0 22 v0 rfl rfl)
  have htab := tables hL
  have tv0 := htab.1
  have tv1 := htab.2.1
  have tv2 := htab.2.2
  have hlt : ∀ b, (fun b => blocksOf (p0 ++ []) b ∨ b = 1 ∨ b = 2 ∨ b = 0) b → b < W.heap.size := by
    intro b hb
    rcases hb with ⟨m, hm, rfl⟩ | rfl | rfl | rfl
    · exact DataW.TrodAll.lt hA1 m (by simpa using hm)
    · exact var_lt (show Tryz.prog.globalNamed "loop.example/g01543/impl.keywords" = some 1 by kernel_rfl) tv0
    · exact var_lt (show Tryz.prog.globalNamed "loop.example/g01543/impl.signs" = some 2 by kernel_rfl) tv1
    · exact var_lt (show Tryz.prog.globalNamed "loop.example/g01543/impl.builtins" = some 0 by kernel_rfl) tv2
  obtain ⟨N, hN⟩ := plain a0 k0
  refine (AC.belowG (ml_FnLogic_ok N a0 hN) (fun b => blocksOf (p0 ++ []) b ∨ b = 1 ∨ b = 2 ∨ b = 0) hlt (grel tv0 tv1 tv2 (.inr (.inl rfl)) (.inr (.inr (.inl rfl))) (.inr (.inr (.inr rfl)))) rfl fun i x hx => ?_).mono ?_
  · match i with
    | 0 =>
      simp only [List.getElem?_cons_succ, List.getElem?_cons_zero, Option.some.injEq] at hx
      subst hx
      exact argOne rfl (c0 _ fun p hp => (.inl ⟨p, by simp [hp], rfl⟩))
    | i + 1 => simp at hx
  · rintro e W' ⟨x, S', rfl, hx, hb⟩
    have hxt := hx.c_inv
    subst hxt
    exact ⟨_, rfl, Av.post_of_below (pa := (p0 ++ [])) (pv := q) hW' (fun _ _ _ => (trodAll_cons_mk (shut_bool Tryz.underlying4 _) trodAll_mk0))
      (fun sp hsp => args_kept kids full hb (by decide +kernel) hA2 (fun m hm => hsp m (by simp only [List.mem_append]; exact .inl (by simpa using hm)))) (fun sp hsp => vars_kept laidOut hb (by kernel_rfl) hV (fun m hm => hsp m (by simp [hm]))) (by simp) hb (ok_one (by kernel_rfl) rfl (okWide_bool_mk Tryz.underlying4 _))⟩

theorem over : Rows.fnLogicRow.holds Tryz.pinned (OpenSpec.ofChange Rows.fnLogicSpec) :=
  OpenClaim.holds_of_wide 6 Tryz.f6 rfl rfl rfl rfl rfl rfl rfl ⟨rfl, rfl, rfl, rfl, rfl⟩ rfl rfl rfl rfl rfl (by kernel_rfl) Tryz.func6 (by kernel_rfl)
    (of_decide_eq_true (by kernel_rfl)) (by unfold Func.isWrapper; first | (rw [if_pos (by decide +kernel)]; kernel_rfl) | (rw [if_neg (by decide +kernel)]; exact ⟨rfl, rfl⟩))
    (fun os started H enc _ => lifted os started H enc)

/-- the statement -/
theorem proved : Rows.FnLogicCardSaid :=
  Claim7.holds_tied_plain_at .later [] [.widerDeep, .data, .widerDeep] true (true, "cdaebf4274e095591c84b06983aeafee5c7bc2ccbd4e8a7f7861ba714bf390d4") true
    over (fun _ h => by cases h) (by kernel_rfl) (fun _ h => by cases h) fnLogic_row_tie rfl ⟨rfl, rfl⟩ (by kernel_rfl) rfl
    (fun f fn hf hfn => by
      obtain rfl : f = 6 := Option.some.inj ((show Tryz.prog.funcNamed "loop.example/g01543/laws.FnLogic" = some 6 by kernel_rfl).symm.trans hf) |>.symm
      obtain rfl : fn = Tryz.f6 := (Option.some.inj (Tryz.func6.symm.trans hfn)).symm
      exact ⟨by kernel_rfl, fun j t ht => by
        rw [Tryz.params6] at ht
        have hm : t ∈ [22] := by simpa using Array.mem_of_getElem? ht
        have hall : ([22].all fun u => !Tryz.prog.wantsStandIn u) = true := by kernel_rfl
        exact (show Tryz.prog.wantsStandIn t = false by simpa using List.all_eq_true.1 hall t hm)⟩)
    (by kernel_rfl)
#print axioms proved
end Go.Proofs.YtkfcajnnbhahoaaGreatDoor.fnLogic
