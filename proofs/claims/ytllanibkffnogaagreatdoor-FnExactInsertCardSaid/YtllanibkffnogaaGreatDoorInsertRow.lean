/-
  ExactInsert: for all arguments the law returns true: the program's function returns what the reference's returns.
  The tables that the row lists are tied to the program's text.
-/
import Derived.Test.YtllanibkffnogaaGreatDoorRows
import Derived.Test.YtllanibkffnogaaGreatDoorCards
import Derived.Test.YtllanibkffnogaaGreatDoorTie
import Derived.WalkKit
import Derived.ProofKit
import Derived.OpenShut
import Derived.Lay
import Derived.MakeChecks
import Derived.SevenTiedAt
import Derived.Test.YtllanibkffnogaaGreatDoorInYW4
import Derived.Test.YtllanibkffnogaaGreatDoorInYP4
import Derived.Test.YtllanibkffnogaaGreatDoorYCore6
namespace Go.Proofs.YtllanibkffnogaaGreatDoor.fnExactInsert
open Go.ChangeShapes Go.WideShapes Go.ChangeAt Go.RowKit Go.Av Go.Proofs.Tryz
set_option linter.unusedVariables false
set_option linter.unusedSimpArgs false
set_option maxRecDepth 100000

theorem own : ownKnob Tryz.prog.godebug = none := by kernel_rfl
theorem laidOut : laidOutB Tryz.prog = true := by kernel_rfl

/-- what is known of it -/
def ok63 (x : SNode) : Prop := ((Lit.int .i64 x.Kind).wf = true) ∧ ((Lit.int .i64 x.Op).wf = true) ∧ (x.Text.length ≤ maxLen) ∧ (x.Other.length ≤ maxLen) ∧ ((∀ z, z ∈ x.Kids → ((Lit.int .i64 z).wf = true)) ∧ x.Kids.length ≤ maxLen)

theorem read63 : Reader Tryz.prog 63 (eSN false) ok63 := by
  intro H e w fuel cs x h
  obtain ⟨xs, n, rfl, rfl, hl, hxl, hf⟩ := DataW.trod_struct Tryz.underlying63 h
  have hl : cs.length = 5 := hl.trans (by kernel_rfl)
  have hxl : xs.length = 5 := hxl
  obtain ⟨y0, e0⟩ : ∃ y, xs[0]? = some y := ⟨_, List.getElem?_eq_getElem (by omega)⟩
  have h0 : DataW.trod e Tryz.prog w 0 (fun _ => true) true n 3 ((cs.drop 0).take (Tryz.prog.cellsOf 3)) = some y0 := (hf 0 _ rfl).trans e0
  have c0 : Tryz.prog.cellsOf 3 = 1 := by kernel_rfl
  rw [c0] at h0
  obtain ⟨a0, k0, r0⟩ := (Reader.i64 Tryz.underlying3) e w n _ _ h0
  obtain ⟨y1, e1⟩ : ∃ y, xs[1]? = some y := ⟨_, List.getElem?_eq_getElem (by omega)⟩
  have h1 : DataW.trod e Tryz.prog w 0 (fun _ => true) true n 3 ((cs.drop 1).take (Tryz.prog.cellsOf 3)) = some y1 := (hf 1 _ rfl).trans e1
  have c1 : Tryz.prog.cellsOf 3 = 1 := by kernel_rfl
  rw [c1] at h1
  obtain ⟨a1, k1, r1⟩ := (Reader.i64 Tryz.underlying3) e w n _ _ h1
  obtain ⟨y2, e2⟩ : ∃ y, xs[2]? = some y := ⟨_, List.getElem?_eq_getElem (by omega)⟩
  have h2 : DataW.trod e Tryz.prog w 0 (fun _ => true) true n 9 ((cs.drop 2).take (Tryz.prog.cellsOf 9)) = some y2 := (hf 2 _ rfl).trans e2
  have c2 : Tryz.prog.cellsOf 9 = 1 := by kernel_rfl
  rw [c2] at h2
  obtain ⟨a2, k2, r2⟩ := (Reader.str Tryz.underlying9) e w n _ _ h2
  obtain ⟨y3, e3⟩ : ∃ y, xs[3]? = some y := ⟨_, List.getElem?_eq_getElem (by omega)⟩
  have h3 : DataW.trod e Tryz.prog w 0 (fun _ => true) true n 9 ((cs.drop 3).take (Tryz.prog.cellsOf 9)) = some y3 := (hf 3 _ rfl).trans e3
  have c3 : Tryz.prog.cellsOf 9 = 1 := by kernel_rfl
  rw [c3] at h3
  obtain ⟨a3, k3, r3⟩ := (Reader.str Tryz.underlying9) e w n _ _ h3
  obtain ⟨y4, e4⟩ : ∃ y, xs[4]? = some y := ⟨_, List.getElem?_eq_getElem (by omega)⟩
  have h4 : DataW.trod e Tryz.prog w 0 (fun _ => true) true n 30 ((cs.drop 4).take (Tryz.prog.cellsOf 30)) = some y4 := (hf 4 _ rfl).trans e4
  have c4 : Tryz.prog.cellsOf 30 = 1 := by kernel_rfl
  rw [c4] at h4
  obtain ⟨a4, k4, r4⟩ := (Reader.slice Tryz.underlying30 (Reader.i64 Tryz.underlying3) 1 (by kernel_rfl) (by decide) (fun _ => rfl)) e w n _ _ h4
  refine ⟨⟨a0, a1, a2, a3, a4⟩, ⟨k0, k1, k2, k3, k4⟩, fun S hS => ?_⟩
  have hcs : cs = (cs.drop 0).take 1 ++ ((cs.drop 1).take 1 ++ ((cs.drop 2).take 1 ++ ((cs.drop 3).take 1 ++ ((cs.drop 4).take 1 ++ [])))) := by
    match cs, hl with
    | [x0, x1, x2, x3, x4], _ => rfl
  rw [hcs]
  exact CellsR.append (r0 S fun p hp => hS p (List.mem_flatMap.2 ⟨y0, List.mem_of_getElem? e0, hp⟩)) (CellsR.append (r1 S fun p hp => hS p (List.mem_flatMap.2 ⟨y1, List.mem_of_getElem? e1, hp⟩)) (CellsR.append (r2 S fun p hp => hS p (List.mem_flatMap.2 ⟨y2, List.mem_of_getElem? e2, hp⟩)) (CellsR.append (r3 S fun p hp => hS p (List.mem_flatMap.2 ⟨y3, List.mem_of_getElem? e3, hp⟩)) (CellsR.append (r4 S fun p hp => hS p (List.mem_flatMap.2 ⟨y4, List.mem_of_getElem? e4, hp⟩)) (CellsR.nil)))))

/-! ### a node's tree with another put among some node's kids -/
def put (i q k : Nat) (tx : STree) (acc : List STree) : List STree := if i = q then acc.take k ++ [tx] ++ acc.drop k else acc
def pre (i q k : Nat) (tx : STree) (j : Nat) (acc : List STree) : List STree := if i = q ∧ k < j then acc.take k ++ [tx] ++ acc.drop k else acc

theorem pre_step (i q k j : Nat) (tx r : STree) (acc : List STree) (h : acc.length = j) :
    pre i q k tx (j + 1) (acc ++ [r]) = (if i = q ∧ j = k then pre i q k tx j acc ++ [tx] else pre i q k tx j acc) ++ [r] := by
  unfold pre
  by_cases hq : i = q
  · by_cases h1 : j = k
    · subst h1
      rw [if_pos ⟨hq, by omega⟩, if_pos ⟨hq, rfl⟩, if_neg (by omega), ← h]
      simp
    · rw [if_neg (c := i = q ∧ j = k) (fun c => h1 c.2)]
      by_cases h2 : k < j
      · rw [if_pos ⟨hq, by omega⟩, if_pos ⟨hq, h2⟩, List.take_append_of_le_length (by omega), List.drop_append_of_le_length (by omega)]
        simp only [List.append_assoc]
      · rw [if_neg (by omega), if_neg (by omega)]
  · rw [if_neg (c := i = q ∧ j = k) (fun c => hq c.1), if_neg (fun c => hq c.1), if_neg (fun c => hq c.1)]

theorem put_sz (i q k : Nat) (tx : STree) (acc : List STree) : szTs (put i q k tx acc) ≤ szTs acc + szT tx := by
  unfold put
  split
  · rw [szTs_app, szTs_app, szTs, szTs]
    have : szTs acc = szTs (acc.take k) + szTs (acc.drop k) := by rw [← szTs_app, List.take_append_drop]
    omega
  · omega

theorem put_mem {i q k : Nat} {tx : STree} {acc : List STree} {p : STree} (h : p ∈ put i q k tx acc) : p = tx ∨ p ∈ acc := by
  unfold put at h
  split at h
  · simp only [List.mem_append, List.mem_singleton] at h
    rcases h with (h | h) | h
    · exact .inr (List.mem_of_mem_take h)
    · exact .inl h
    · exact .inr (List.mem_of_mem_drop h)
  · exact .inr h

theorem insO_is {α : Type} {bytes : Nat} {i : Int} {l m : List α} (h1 : 0 ≤ i) (h2 : i.toNat ≤ l.length) (h3 : 0 < m.length) (h4 : (l.length + m.length) * bytes ≤ 140737488355328) :
    insO bytes i l m = some (l.take i.toNat ++ m ++ l.drop i.toNat) := by
  unfold insO
  rw [if_pos ⟨h1, h2, h3, h4⟩]; rfl

theorem do_is (M i q k : Nat) (t : STree) (x : List SNode) {tx : STree} (hx : mi_rootOf M x = some tx) (hk : i = q → k ≤ t.kids.length) (hl : t.kids.length ≤ 1000000) :
    mi_Insert_1 M (i : Int) t (q : Int) (k : Int) x = some [⟨t.kind, t.op, t.text, t.other, put i q k tx t.kids⟩] := by
  unfold mi_Insert_1 put
  by_cases h : i = q
  · have e : ((i : Int) == (q : Int)) = true := by simp [h]
    have h1 := hk h
    rw [e, if_pos h, cond_true]
    unfold m_slices_Clone_tree m_slices_Insert_tree
    rw [app_some (by simp; omega), Option.bind_some, Option.bind_some, hx, Option.bind_some, List.nil_append, insO_is (by omega) (by simpa using h1) (by simp) (by simp; omega), Option.bind_some]
    rfl
  · have e : ((i : Int) == (q : Int)) = false := by simp; omega
    rw [e, if_neg h]; rfl

theorem put_l (a x : List SNode) (tx : STree) (q k M i : Nat) (e : SNode) (he : a[i]? = some e) (hM : 1048577 < M) (hek : e.Kids.length ≤ 400) (hk : i = q → k ≤ e.Kids.length) (hx : x = lst 0 tx) (hxs : szT tx ≤ 400) : ∀ (ts : List STree) (j n n' s : Nat) (acc : List STree),
    (∀ t, t ∈ ts → ∀ s k' : Nat, TA a t s k' → k' < i → ∃ r, (scc4 M).mi_edited a (k' : Int) (q : Int) (k : Int) x = some [r] ∧ (scc1 M).ms_l31Put a (k' : Int) (q : Int) (k : Int) x = some (lst 0 r) ∧ szT r ≤ 401 * szT t ∧ txT r) → KA a ts (e.Kids.drop j) s i → acc.length = j → j ≤ e.Kids.length → ts.length < n → ts.length < n' →
    szTs acc + 401 * szTs ts ≤ 800000 → (∀ p, p ∈ acc → txT p) →
    ∃ res, mi_edited_l1 M (scc4 M) (q : Int) (k : Int) x n (a, (i : Int), e, (j : Int), acc) = Option.bind (mi_Insert_1 M (i : Int) ⟨e.Kind, e.Op, e.Text, e.Other, acc ++ res⟩ (q : Int) (k : Int) x) (fun r => some r) ∧
      ms_l31Put_l1 M (scc1 M) n' (a, (i : Int), (q : Int), (k : Int), x, (j : Int), (pre i q k tx j acc).map (lst 0)) = some (lst 0 ⟨e.Kind, e.Op, e.Text, e.Other, put i q k tx (acc ++ res)⟩) ∧ szTs res ≤ 401 * szTs ts ∧ (∀ p, p ∈ acc ++ res → txT p) ∧ (acc ++ res).length = e.Kids.length
  | [], j, n, n', s, acc, ih, h, ha, hj, hn, hn', hsz, htx => by
    simp only [KA] at h
    obtain ⟨n, rfl⟩ : ∃ m, n = m + 1 := ⟨n - 1, by simp at hn; omega⟩
    obtain ⟨n', rfl⟩ : ∃ m, n' = m + 1 := ⟨n' - 1, by simp at hn'; omega⟩
    have hlt : ¬ j < e.Kids.length := by
      intro hlt
      rw [drop_cons hlt] at h
      cases h.1
    have hps := put_sz i q k tx acc
    have hm := make_is M e (put i q k tx acc) hM (by rw [szTs] at hsz; omega)
    refine ⟨[], ?_, ?_, by simp [szTs], by simpa using htx, by simp; omega⟩
    · rw [mi_edited_l1]
      simp only [lt_false hlt, cond_false, List.append_nil]
    · rw [ms_l31Put_l1]
      simp only [ix_get he, Option.bind_some, lt_false hlt, cond_false, List.append_nil]
      by_cases hq : i = q
      · have e1 : ((i : Int) == (q : Int)) = true := by simp [hq]
        have h1 := hk hq
        rw [e1, cond_true, Option.bind_some]
        by_cases h2 : k = e.Kids.length
        · have e2 : ((k : Int) == (e.Kids.length : Int)) = true := by simp [h2]
          rw [e2, cond_true, app_some (by
            have := szTs_len (pre i q k tx j acc)
            have h3 : (pre i q k tx j acc).length ≤ acc.length + 1 := by unfold pre; split <;> simp <;> omega
            simp; omega), Option.bind_some, ms_l31Put_k3, ix_get he, Option.bind_some]
          have h4 : (pre i q k tx j acc).map (lst 0) ++ [x] = (put i q k tx acc).map (lst 0) := by
            unfold pre put
            rw [if_neg (by omega), if_pos hq, List.take_of_length_le (by omega), List.drop_of_length_le (by omega), hx]
            simp
          rw [h4, hm, Option.bind_some]
        · have e2 : ((k : Int) == (e.Kids.length : Int)) = false := by simp; omega
          rw [e2, cond_false, ms_l31Put_k3, ix_get he, Option.bind_some]
          have h4 : pre i q k tx j acc = put i q k tx acc := by
            unfold pre put
            rw [if_pos ⟨hq, by omega⟩, if_pos hq]
          rw [h4, hm, Option.bind_some]
      · have e1 : ((i : Int) == (q : Int)) = false := by simp; omega
        rw [e1, cond_false, Option.bind_some, cond_false, ms_l31Put_k3, ix_get he, Option.bind_some]
        have h4 : pre i q k tx j acc = put i q k tx acc := by
          unfold pre put
          rw [if_neg (fun c => hq c.1), if_neg hq]
        rw [h4, hm, Option.bind_some]
  | t :: ts, j, n, n', s, acc, ih, h, ha, hj, hn, hn', hsz, htx => by
    simp only [KA] at h
    obtain ⟨k', ks', hd, h1, h2, hta, hka⟩ := h
    simp only [List.length_cons] at hn hn'
    rw [szTs] at hsz
    obtain ⟨n, rfl⟩ : ∃ m, n = m + 1 := ⟨n - 1, by omega⟩
    obtain ⟨n', rfl⟩ : ∃ m, n' = m + 1 := ⟨n' - 1, by omega⟩
    have hlt : j < e.Kids.length := by
      cases Nat.lt_or_ge j e.Kids.length with
      | inl h => exact h
      | inr h => rw [List.drop_of_length_le h] at hd; cases hd
    rw [drop_cons hlt] at hd
    injection hd with hd1 hd2
    obtain ⟨r, r1, r2, r4, r5⟩ := ih t (by simp) s k' hta h2
    have hstep : IntKind.wrap .i64 ((j : Int) + 1) = ((j + 1 : Nat) : Int) := by rw [wrap64 (by omega) (by omega)]; omega
    have htx' : ∀ p, p ∈ acc ++ [r] → txT p := fun p hp => (List.mem_append.1 hp).elim (htx p) (fun h => by rw [List.mem_singleton.1 h]; exact r5)
    obtain ⟨res, e1, e2, e3, e4, e5⟩ := put_l a x tx q k M i e he hM hek hk hx hxs ts (j + 1) n n' (k' + 1) (acc ++ [r]) (fun t' h' => ih t' (by simp [h'])) (hd2 ▸ hka) (by rw [List.length_append]; simp; omega) (by omega) (by omega) (by omega) (by rw [szTs_app, szTs, szTs]; omega) htx'
    have hpl : (pre i q k tx j acc).length ≤ acc.length + 1 := by unfold pre; split <;> simp <;> omega
    refine ⟨[r] ++ res, ?_, ?_, by rw [szTs_app, szTs, szTs, szTs]; omega, by rw [← List.append_assoc]; exact e4, by rw [← List.append_assoc]; exact e5⟩
    · rw [mi_edited_l1]
      simp only [lt_true hlt, cond_true, ix_nat hlt, hd1, Option.bind_some, r1]
      rw [app_some (by simp; omega), Option.bind_some, hstep, e1, List.append_assoc]
    · rw [pre_step i q k j tx r acc ha, List.append_assoc] at e2
      rw [ms_l31Put_l1]
      simp only [ix_get he, Option.bind_some, lt_true hlt, cond_true]
      by_cases hq : i = q
      · have e6 : ((i : Int) == (q : Int)) = true := by simp [hq]
        rw [e6, cond_true, Option.bind_some]
        by_cases h3 : j = k
        · have e7 : ((j : Int) == (k : Int)) = true := by simp [h3]
          rw [e7, cond_true, app_some (by simp; omega), Option.bind_some, ms_l31Put_k2]
          simp only [ix_get he, ix_nat hlt, hd1, Option.bind_some, r2]
          rw [app_some (by simp; omega), Option.bind_some, hstep]
          rw [if_pos ⟨hq, h3⟩] at e2
          rw [hx] at e2 ⊢
          simpa using e2
        · have e7 : ((j : Int) == (k : Int)) = false := by simp; omega
          rw [e7, cond_false, ms_l31Put_k2]
          simp only [ix_get he, ix_nat hlt, hd1, Option.bind_some, r2]
          rw [app_some (by simp; omega), Option.bind_some, hstep]
          rw [if_neg (fun c => h3 c.2)] at e2
          simpa using e2
      · have e6 : ((i : Int) == (q : Int)) = false := by simp; omega
        rw [e6, cond_false, Option.bind_some, cond_false, ms_l31Put_k2]
        simp only [ix_get he, ix_nat hlt, hd1, Option.bind_some, r2]
        rw [app_some (by simp; omega), Option.bind_some, hstep]
        rw [if_neg (fun c => hq c.1)] at e2
        simpa using e2

theorem put_is (a x : List SNode) {tx : STree} (q k : Nat) (hx : ∀ M, 1048577 < M → mi_rootOf M x = some tx) (hxl : x = lst 0 tx) (hxs : szT tx ≤ 400) (hxt : txT tx) (hs : ∀ z, z ∈ a → smNode z) (hk : ∀ z, z ∈ a → z.Kids.length ≤ 400)
    (hqk : ∀ e, a[q]? = some e → k ≤ e.Kids.length) :
    ∀ (t : STree) (s i M : Nat), TA a t s i → i ≤ 1000 → szT t ≤ 400 → 1048578 + szT t ≤ M → ∃ r, (scc4 M).mi_edited a (i : Int) (q : Int) (k : Int) x = some [r] ∧ (scc1 M).ms_l31Put a (i : Int) (q : Int) (k : Int) x = some (lst 0 r) ∧ szT r ≤ 401 * szT t ∧ txT r := by
  intro t
  induction t using STree.ind with
  | h t ih =>
    intro s i M h hi hsz hM
    obtain ⟨M, rfl⟩ : ∃ m, M = m + 1 := ⟨M - 1, by omega⟩
    have hse := szT_eq t
    obtain ⟨n, hn, e1, e2, e3, e4, hka, hkl⟩ := h.node
    have hnm := List.mem_of_getElem? hn
    have hnk := hk n hnm
    have hlen := szTs_len t.kids
    have hki : i = q → k ≤ n.Kids.length := fun hq => hqk n (by rw [← hq]; exact hn)
    obtain ⟨res, g1, g2, g3, g4, g5⟩ := put_l a x tx q k M i n hn (by omega) hnk hki hxl hxs t.kids 0 M M s [] (fun t' ht' s' k' hta hki' => ih t' ht' s' k' M hta (by omega) (by have := szTs_mem ht'; omega) (by have := szTs_mem ht'; omega)) (by simpa using hka) (by simp) (by omega) (by omega) (by omega) (by rw [szTs]; omega) (fun p hp => by cases hp)
    rw [List.nil_append] at g1 g2 g4 g5
    have hpre : pre i q k tx 0 [] = [] := by unfold pre; rw [if_neg (by omega)]
    rw [hpre] at g2
    have hxn := hs n hnm
    unfold smNode at hxn
    have hps := put_sz i q k tx res
    refine ⟨⟨n.Kind, n.Op, n.Text, n.Other, put i q k tx res⟩, ?_, ?_, by rw [szT]; omega, ?_⟩
    · show mi_edited_F M (scc4 M) a (i : Int) (q : Int) (k : Int) x = _
      unfold mi_edited_F
      rw [ix_get hn, Option.bind_some]
      refine Eq.trans g1 ?_
      rw [do_is M i q k _ x (hx M (by omega)) (fun hq => by have := hki hq; show k ≤ res.length; omega) (by show res.length ≤ 1000000; omega)]
      rfl
    · show ms_l31Put_F M (scc1 M) a (i : Int) (q : Int) (k : Int) x = _
      unfold ms_l31Put_F
      exact g2
    · exact txT_mk (fun p hp => (put_mem hp).elim (fun h => h ▸ hxt) (g4 p)) (by omega) (by omega)

theorem rng_false {x lo hi : Int} (h : ¬ (lo ≤ x ∧ x ≤ hi)) : (decide (x ≥ lo) && decide (x ≤ hi)) = false := by
  cases h' : (decide (x ≥ lo) && decide (x ≤ hi)) with
  | false => rfl
  | true => simp only [Bool.and_eq_true, decide_eq_true_eq] at h'; omega

theorem rng_true {x lo hi : Int} (h : lo ≤ x ∧ x ≤ hi) : (decide (x ≥ lo) && decide (x ≤ hi)) = true := by simp; omega

theorem law_ex (N : Nat) (a x : List SNode) (q0 k0 : Int) (hN : 1048577 + 1000 < N) (ha : a.length ≤ 1048576) (hs : ∀ x, x ∈ a → smNode x) (hi : ∀ x, x ∈ a → i64N x) (hxl : x.length ≤ 1048576) (hxs : ∀ z, z ∈ x → smNode z) :
    ∃ b, ms_Insert N a q0 k0 x = some b ∧ mi_Insert N a q0 k0 x = some b ∧ b.1.length ≤ 1048576 ∧ ∀ x, x ∈ b.1 → smNode x := by
  obtain ⟨b, b1, b2, b3⟩ := treeOk_ex N a (by omega) hs
  obtain ⟨c, c1, c2, c3⟩ := treeOk_ex N x (by omega) hxs
  have hc1 := copy_is N a (by omega) ha hs hi
  have hc2 := copyNodes_is N a (by omega) ha hs
  unfold ms_Insert mi_Insert
  rw [b1, c1, c2]
  simp only [Option.bind_some]
  rw [wrap64 (n := (a.length : Int) - 1) (by omega) (by omega), l1In_is, within_is]
  cases c with
  | false =>
    simp only [Bool.not_false, cond_true, Option.bind_some, hc2]
    cases b <;> simp only [Bool.not_false, Bool.not_true, cond_true, cond_false, Option.bind_some, hc1] <;> exact ⟨_, rfl, rfl, ha, hs⟩
  | true =>
    simp only [Bool.not_true, cond_false, Option.bind_some]
    by_cases hin : 0 ≤ q0 ∧ q0 ≤ (a.length : Int) - 1
    · have d1 := rng_true hin
      obtain ⟨q, rfl⟩ := Int.eq_ofNat_of_zero_le hin.1
      have hql : q < a.length := by omega
      simp only [d1, Bool.not_true, cond_false, ix_nat hql, Option.bind_some, l1In_is, within_is]
      by_cases hkk : 0 ≤ k0 ∧ k0 ≤ (a[q].Kids.length : Int)
      · have d2 := rng_true hkk
        obtain ⟨k, rfl⟩ := Int.eq_ofNat_of_zero_le hkk.1
        simp only [d2, Bool.not_true, cond_false]
        unfold mi_edit
        rw [b2, wrap64 (n := (a.length : Int) - 1) (by omega) (by omega)]
        simp only [Option.bind_some, within_is, d1]
        cases b with
        | false =>
          simp only [Bool.not_false, cond_true, Option.bind_some, hc1, hc2]
          exact ⟨_, rfl, rfl, ha, hs⟩
        | true =>
          simp only [Bool.not_true, cond_false, Option.bind_some]
          obtain ⟨hsh, hnk⟩ := b3 rfl
          obtain ⟨l1, l2, _, _, _, _, _, t, ht⟩ := shape_of hsh
          obtain ⟨hxsh, _⟩ := c3 rfl
          obtain ⟨x1, x2, _, _, _, _, _, tx, htx⟩ := shape_of hxsh
          have hsz := ht.part.2.1
          obtain ⟨_, xsz, xpt⟩ := htx.part
          rw [show x.length - 1 + 1 = x.length by omega, part_all] at xpt
          obtain ⟨t', r1, r2, r4, r5⟩ := put_is a x q k (fun M hM => rootOf_is M x (by omega) htx x1 x2) xpt (by omega) (txT_of hxs htx) hs (fun z hz => (shape_kids hsh z hz).1)
            (fun e he => by rw [List.getElem?_eq_getElem hql] at he; cases he; omega) t 0 (a.length - 1) N ht (by omega) (by omega) (by omega)
          have r1' : mi_edited N a ((a.length : Int) - 1) (q : Int) (k : Int) x = some [t'] := by rw [show (a.length : Int) - 1 = ((a.length - 1 : Nat) : Int) by omega]; exact r1
          have r2' : ms_l31Put N a ((a.length : Int) - 1) (q : Int) (k : Int) x = some (lst 0 t') := by rw [show (a.length : Int) - 1 = ((a.length - 1 : Nat) : Int) by omega]; exact r2
          have hli := list_is N t' (by omega) (by omega)
          have hsm := small_of (by omega) r5 0
          obtain ⟨c, c1, c2, _⟩ := treeOk_ex N (lst 0 t') (by omega) hsm
          have hx0 : ix [t'] 0 = some t' := rfl
          have hne : ((([t'] : List STree).length : Int) != 1) = false := rfl
          unfold ms_l31Told
          simp only [Option.bind_some, r1', r2', hne, cond_false, hx0, hli, c1, c2]
          cases c with
          | false =>
            simp only [Bool.not_false, cond_true, Option.bind_some, hc1, hc2]
            exact ⟨_, rfl, rfl, ha, hs⟩
          | true =>
            simp only [Bool.not_true, cond_false, Option.bind_some]
            exact ⟨_, rfl, rfl, by simp only [lst_len]; omega, hsm⟩
      · have d2 := rng_false hkk
        simp only [d2, Bool.not_false, cond_true, Option.bind_some, hc2]
        cases b <;> simp only [Bool.not_false, Bool.not_true, cond_true, cond_false, Option.bind_some, hc1] <;> exact ⟨_, rfl, rfl, ha, hs⟩
    · have d1 := rng_false hin
      simp only [d1, Bool.not_false, cond_true, Option.bind_some, hc2]
      cases b <;> simp only [Bool.not_false, Bool.not_true, cond_true, cond_false, Option.bind_some, hc1] <;> exact ⟨_, rfl, rfl, ha, hs⟩

theorem plain (a : List SNode) (q k : Int) (x : List SNode) (ka : (∀ z, z ∈ a → ok63 z) ∧ a.length ≤ maxLen) (kq : (Go.Lit.int .i64 q).wf = true) (kk : (Go.Lit.int .i64 k).wf = true) (kx : (∀ z, z ∈ x → ok63 z) ∧ x.length ≤ maxLen) : ∃ N, ml_FnExactInsert N a q k x = some true := by
  obtain ⟨kz, kl⟩ := ka
  obtain ⟨kz2, kl2⟩ := kx
  have hoa : ∀ z, z ∈ a → okNode z := fun z hz => by obtain ⟨_, _, h1, h2, _, h3⟩ := kz z hz; exact ⟨h1, h2, h3⟩
  have hox : ∀ z, z ∈ x → okNode z := fun z hz => by obtain ⟨_, _, h1, h2, _, h3⟩ := kz2 z hz; exact ⟨h1, h2, h3⟩
  have hi : ∀ z, z ∈ a → i64N z := fun z hz k hk => by
    obtain ⟨_, _, _, _, h4, _⟩ := kz z hz
    have := h4 k hk
    simpa [Lit.wf, IntKind.min, IntKind.max, IntKind.signed, IntKind.bits] using this
  obtain ⟨N, hN⟩ : ∃ N, N = a.length + x.length + 1050578 := ⟨_, rfl⟩
  refine ⟨N, ?_⟩
  obtain ⟨r, hr, hc⟩ := szNodeS_is N a (by omega) kl hoa 1048576 (by omega) (by omega)
  unfold ml_FnExactInsert
  rw [hr, Option.bind_some]
  rcases hc with ⟨hc, _⟩ | ⟨hc, h0⟩
  · simp [hc]
  · have hn : decide (r < 0) = false := by simp; omega
    rw [hn, cond_false]
    obtain ⟨r2, hr2, hc2⟩ := szNodeS_is N x (by omega) kl2 hox r h0 (by omega)
    rw [hr2, Option.bind_some]
    rcases hc2 with ⟨hc2, _⟩ | ⟨hc2, h02⟩
    · simp [hc2]
    · have hn2 : decide (r2 < 0) = false := by simp; omega
      have hs := smNode_of a (by omega)
      have hsx := smNode_of x (by omega)
      have hla : a.length ≤ 1048576 := by omega
      have hlx : x.length ≤ 1048576 := by omega
      obtain ⟨b, b1, b2, b3, b4⟩ := law_ex N a x q k (by omega) hla hs hi hlx hsx
      have hta := toNodeS_is N a (by omega) hla hs
      have htx := toNodeS_is N x (by omega) hlx hsx
      have hea := eqNodeS_self N a (by omega) hla hs
      have hex := eqNodeS_self N x (by omega) hlx hsx
      have heb := eqNodeS_self N b.1 (by omega) b3 b4
      obtain ⟨k1, a1, m1, m2, m3, m4⟩ := markN_of N 1 a (by omega) hla hs (by omega) (by omega)
      obtain ⟨k3, a3, p1, p2, p3, p4⟩ := markN_of N k1 x (by omega) hlx hsx (by omega) (by omega)
      obtain ⟨k2, b5, n1, n2, n3, n4⟩ := markN_of N 1 b.1 (by omega) b3 b4 (by omega) (by omega)
      have d1 : decide (k3 < 0) = false := by simp; omega
      have d2 : decide (k2 < 0) = false := by simp; omega
      have d3 : (!(b.2 == b.2)) = false := by simp
      simp only [hn2, cond_false, hta, htx, Option.bind_some, b1, b2, heb, hea, hex, Bool.not_true, m1, p1, n1, n4, d1, d2, d3, bne_self_eq_false]




theorem kids : Go.Kids Tryz.prog (· < Tryz.prog.types.size) := kids_rows (by kernel_rfl) (by kernel_rfl)
theorem full : ∀ t e, t < Tryz.prog.types.size → Tryz.prog.underlying t = some (.slice e) → 0 < Tryz.prog.cellsOf e := slices_full_of Tryz.prog (by kernel_rfl)

/-- what the row lists -/
def lay : List (String × DataW Unit) := [("loop.example/g01543/impl.keywords", Rows.laid_loop_example_g01543_impl_keywords), ("loop.example/g01543/impl.signs", Rows.laid_loop_example_g01543_impl_signs), ("loop.example/g01543/impl.builtins", Rows.laid_loop_example_g01543_impl_builtins)]

theorem tables {W : World} (h : laidMetH Tryz.prog lay W) : W.var? Tryz.prog "loop.example/g01543/impl.keywords" = some (strCells tab_keywords) ∧ W.var? Tryz.prog "loop.example/g01543/impl.signs" = some (strCells tab_signs) ∧ W.var? Tryz.prog "loop.example/g01543/impl.builtins" = some (strCells tab_builtins) := by
  rw [MakeChecks.laidMetH_plain _ _ _ (by kernel_rfl)] at h
  obtain ⟨ps, ⟨g0, t0, cs0, fuel0, p0, q0, hg0, ht0, hv0, hd0, r0, _⟩, _, _⟩ := h
  obtain ⟨g1, t1, cs1, fuel1, p1, q1, hg1, ht1, hv1, hd1, r1, _⟩ := r0
  obtain ⟨g2, t2, cs2, fuel2, p2, q2, hg2, ht2, hv2, hd2, r2, _⟩ := r1
  obtain rfl := Option.some.inj ((show Tryz.prog.globalNamed "loop.example/g01543/impl.keywords" = some 1 by kernel_rfl).symm.trans hg0)
  obtain rfl := Option.some.inj ((show (Tryz.prog.globals[1]?).map (·.type) = some 137 by kernel_rfl).symm.trans ht0)
  have e0 : cs0 = strCells tab_keywords := strs_of_trod (l := tab_keywords) (p := p0) (by rw [show (DataW.agg (tab_keywords.map fun s => .lit (.string s)) : DataW Unit) = Rows.laid_loop_example_g01543_impl_keywords by kernel_rfl]; exact hd0) Tryz.underlying137 Tryz.underlying9 (by kernel_rfl) (by kernel_rfl)
  rw [e0] at hv0
  obtain rfl := Option.some.inj ((show Tryz.prog.globalNamed "loop.example/g01543/impl.signs" = some 2 by kernel_rfl).symm.trans hg1)
  obtain rfl := Option.some.inj ((show (Tryz.prog.globals[2]?).map (·.type) = some 139 by kernel_rfl).symm.trans ht1)
  have e1 : cs1 = strCells tab_signs := strs_of_trod (l := tab_signs) (p := p1) (by rw [show (DataW.agg (tab_signs.map fun s => .lit (.string s)) : DataW Unit) = Rows.laid_loop_example_g01543_impl_signs by kernel_rfl]; exact hd1) Tryz.underlying139 Tryz.underlying9 (by kernel_rfl) (by kernel_rfl)
  rw [e1] at hv1
  obtain rfl := Option.some.inj ((show Tryz.prog.globalNamed "loop.example/g01543/impl.builtins" = some 0 by kernel_rfl).symm.trans hg2)
  obtain rfl := Option.some.inj ((show (Tryz.prog.globals[0]?).map (·.type) = some 135 by kernel_rfl).symm.trans ht2)
  have e2 : cs2 = strCells tab_builtins := strs_of_trod (l := tab_builtins) (p := p2) (by rw [show (DataW.agg (tab_builtins.map fun s => .lit (.string s)) : DataW Unit) = Rows.laid_loop_example_g01543_impl_builtins by kernel_rfl]; exact hd2) Tryz.underlying135 Tryz.underlying9 (by kernel_rfl) (by kernel_rfl)
  rw [e2] at hv2
  exact ⟨hv0, hv1, hv2⟩

theorem grel {W : World} {S : Nat → Prop} (h0 : W.var? Tryz.prog "loop.example/g01543/impl.keywords" = some (strCells tab_keywords)) (h1 : W.var? Tryz.prog "loop.example/g01543/impl.signs" = some (strCells tab_signs)) (h2 : W.var? Tryz.prog "loop.example/g01543/impl.builtins" = some (strCells tab_builtins)) (s0 : S 1) (s1 : S 2) (s2 : S 0) : GRel (GS [0, 1, 2]) S W := by
  intro g cs hg
  have hc : ([0, 1, 2] : List Nat).contains g = true := by
    cases h : ([0, 1, 2] : List Nat).contains g with
    | true => rfl
    | false => unfold GS at hg; rw [h] at hg; cases hg
  have hm := List.contains_iff_mem.1 hc
  simp only [List.mem_cons, List.mem_nil_iff, or_false] at hm
  rcases hm with rfl | rfl | rfl
  · obtain rfl := Option.some.inj ((show GS [0, 1, 2] 0 = some (tab_builtins.map V.s) by kernel_rfl).symm.trans hg)
    exact el_of_var (show Tryz.prog.globalNamed "loop.example/g01543/impl.builtins" = some 0 by kernel_rfl) h2 s2
  · obtain rfl := Option.some.inj ((show GS [0, 1, 2] 1 = some (tab_keywords.map V.s) by kernel_rfl).symm.trans hg)
    exact el_of_var (show Tryz.prog.globalNamed "loop.example/g01543/impl.keywords" = some 1 by kernel_rfl) h0 s0
  · obtain rfl := Option.some.inj ((show GS [0, 1, 2] 2 = some (tab_signs.map V.s) by kernel_rfl).symm.trans hg)
    exact el_of_var (show Tryz.prog.globalNamed "loop.example/g01543/impl.signs" = some 2 by kernel_rfl) h1 s1

theorem lifted (os : Os) (started : os.Started) (H : Type) (enc : TypeId × Value → H) :
    ReturnsInHanded {} Tryz.checked os 6 .any (fun w args => (Rows.fnExactInsertSpec.pre enc Tryz.prog Tryz.f6 Rows.fnExactInsertRow.domain false w args ∧ laidMetH Tryz.prog lay w) ∧ sizedMet enc Tryz.prog Tryz.f6 (OpenSpec.ofChange Rows.fnExactInsertSpec) false w args) (Rows.fnExactInsertSpec.post enc Tryz.prog Tryz.f6 false true false false) := by
  refine returnsInHanded_of_change_and (C := Tryz.checked) (X := fun w _ => laidMetH Tryz.prog lay w) (fun _ _ _ hh h => h.of_heap hh) own started (by kernel_rfl) Tryz.func6
    (ChangeSpec.witness_at (enc := enc) (C := Tryz.checked) (os := os) (X := fun w _ => laidMetH Tryz.prog lay w) false (World.laidAll Tryz.prog os lay) #[.slice none 0 0, .int .i64 0, .int .i64 0, .slice none 0 0] 12 (World.laidAll_os _ _ _) (by kernel_rfl) (by kernel_rfl) (by kernel_rfl) (by kernel_rfl) (by kernel_rfl)
      (by rw [MakeChecks.laidMetH_plain _ _ _ (by kernel_rfl)]; exact laidMet_laidAll _ (by kernel_rfl) (by kernel_rfl))) ?_
  intro W base args ds gs before hval0 hW hcnd _ hL _
  have hval : ∀ (j : Nat) t v, Tryz.f6.params[j]? = some t → args[j]? = some v → Value.okWide Tryz.prog W .any base t v := hval0
  have hW' := hW
  obtain ⟨p, q, hA0, hV0, rfl, hfz, hnd⟩ := hW
  have hA : DataW.TrodAll enc Tryz.prog W 0 (fun _ => true) true Tryz.f6.params.toList args.toList ds p := hA0
  have hV : DataW.TrodVars enc Tryz.prog W (fun _ => true) ["loop.example/g01543/impl.keywords", "loop.example/g01543/impl.builtins", "loop.example/g01543/impl.signs"] gs q := hV0
  rw [Tryz.params6] at hA hval
  have hA1 := hA
  obtain ⟨v0, vs0, d0, ds0, p0, q0, hargs, rfl, rfl, h0, r0⟩ := trodAll_cons hA
  obtain ⟨v1, vs1, d1, ds1, p1, q1, rfl, rfl, rfl, h1, r1⟩ := trodAll_cons r0
  obtain ⟨v2, vs2, d2, ds2, p2, q2, rfl, rfl, rfl, h2, r2⟩ := trodAll_cons r1
  obtain ⟨v3, vs3, d3, ds3, p3, q3, rfl, rfl, rfl, h3, r3⟩ := trodAll_cons r2
  obtain ⟨rfl, rfl, rfl⟩ := trodAll_nil r3
  obtain rfl : args = #[v0, v1, v2, v3] := by cases args; simp_all
  have hA2 : DataW.TrodAll enc Tryz.prog W 0 (fun _ => true) true [28, 3, 3, 28] [v0, v1, v2, v3] [d0, d1, d2, d3] (p0 ++ (p1 ++ (p2 ++ (p3 ++ [])))) := hA1
  have hgl := vars_len hV
  obtain ⟨y0, y1, y2, rfl⟩ : ∃ y0 y1 y2, gs = [y0, y1, y2] := by
    match gs, hgl with
    | [y0, y1, y2], _ => exact ⟨y0, y1, y2, rfl⟩
  obtain ⟨fu0, hf0⟩ := h0
  obtain ⟨a0, k0, c0⟩ := (Reader.slice Tryz.underlying28 read63 5 (by kernel_rfl) (by decide) (fun _ => rfl)) enc W fu0 _ _ hf0
  obtain ⟨s0, l0, m0, rfl⟩ := okWide_slice Tryz.underlying28 (hval 0 28 v0 rfl rfl)
  obtain ⟨fu1, hf1⟩ := h1
  obtain ⟨a1, k1, c1⟩ := (Reader.i64 Tryz.underlying3) enc W fu1 _ _ hf1
  obtain ⟨n1, rfl⟩ := okWide_int Tryz.underlying3 (hval 1 3 v1 rfl rfl)
  obtain ⟨fu2, hf2⟩ := h2
  obtain ⟨a2, k2, c2⟩ := (Reader.i64 Tryz.underlying3) enc W fu2 _ _ hf2
  obtain ⟨n2, rfl⟩ := okWide_int Tryz.underlying3 (hval 2 3 v2 rfl rfl)
  obtain ⟨fu3, hf3⟩ := h3
  obtain ⟨a3, k3, c3⟩ := (Reader.slice Tryz.underlying28 read63 5 (by kernel_rfl) (by decide) (fun _ => rfl)) enc W fu3 _ _ hf3
  obtain ⟨s3, l3, m3, rfl⟩ := okWide_slice Tryz.underlying28 (hval 3 28 v3 rfl rfl)
  have htab := tables hL
  have tv0 := htab.1
  have tv1 := htab.2.1
  have tv2 := htab.2.2
  have hlt : ∀ b, (fun b => blocksOf (p0 ++ (p1 ++ (p2 ++ (p3 ++ [])))) b ∨ b = 1 ∨ b = 2 ∨ b = 0) b → b < W.heap.size := by
    intro b hb
    rcases hb with ⟨m, hm, rfl⟩ | rfl | rfl | rfl
    · exact DataW.TrodAll.lt hA1 m (by simpa using hm)
    · exact var_lt (show Tryz.prog.globalNamed "loop.example/g01543/impl.keywords" = some 1 by kernel_rfl) tv0
    · exact var_lt (show Tryz.prog.globalNamed "loop.example/g01543/impl.signs" = some 2 by kernel_rfl) tv1
    · exact var_lt (show Tryz.prog.globalNamed "loop.example/g01543/impl.builtins" = some 0 by kernel_rfl) tv2
  obtain ⟨N, hN⟩ := plain a0 a1 a2 a3 k0 k1 k2 k3
  refine (AC.belowG (ml_FnExactInsert_ok N a0 a1 a2 a3 hN) (fun b => blocksOf (p0 ++ (p1 ++ (p2 ++ (p3 ++ [])))) b ∨ b = 1 ∨ b = 2 ∨ b = 0) hlt (grel tv0 tv1 tv2 (.inr (.inl rfl)) (.inr (.inr (.inl rfl))) (.inr (.inr (.inr rfl)))) rfl fun i x hx => ?_).mono ?_
  · match i with
    | 0 =>
      simp only [List.getElem?_cons_succ, List.getElem?_cons_zero, Option.some.injEq] at hx
      subst hx
      exact argOne rfl (c0 _ fun p hp => (.inl ⟨p, by simp [hp], rfl⟩))
    | 1 =>
      simp only [List.getElem?_cons_succ, List.getElem?_cons_zero, Option.some.injEq] at hx
      subst hx
      exact argOne rfl (c1 _ fun p hp => (.inl ⟨p, by simp [hp], rfl⟩))
    | 2 =>
      simp only [List.getElem?_cons_succ, List.getElem?_cons_zero, Option.some.injEq] at hx
      subst hx
      exact argOne rfl (c2 _ fun p hp => (.inl ⟨p, by simp [hp], rfl⟩))
    | 3 =>
      simp only [List.getElem?_cons_succ, List.getElem?_cons_zero, Option.some.injEq] at hx
      subst hx
      exact argOne rfl (c3 _ fun p hp => (.inl ⟨p, by simp [hp], rfl⟩))
    | i + 4 => simp at hx
  · rintro e W' ⟨x, S', rfl, hx, hb⟩
    have hxt := hx.c_inv
    subst hxt
    exact ⟨_, rfl, Av.post_of_below (pa := (p0 ++ (p1 ++ (p2 ++ (p3 ++ []))))) (pv := q) hW' (fun _ _ _ => (trodAll_cons_mk (shut_bool Tryz.underlying4 _) trodAll_mk0))
      (fun sp hsp => args_kept kids full hb (by decide +kernel) hA2 (fun m hm => hsp m (by simp only [List.mem_append]; exact .inl (by simpa using hm)))) (fun sp hsp => vars_kept laidOut hb (by kernel_rfl) hV (fun m hm => hsp m (by simp [hm]))) (by simp) hb (ok_one (by kernel_rfl) rfl (okWide_bool_mk Tryz.underlying4 _))⟩

theorem over : Rows.fnExactInsertRow.holds Tryz.pinned (OpenSpec.ofChange Rows.fnExactInsertSpec) :=
  OpenClaim.holds_of_wide 6 Tryz.f6 rfl rfl rfl rfl rfl rfl rfl ⟨rfl, rfl, rfl, rfl, rfl⟩ rfl rfl rfl rfl rfl (by kernel_rfl) Tryz.func6 (by kernel_rfl)
    (of_decide_eq_true (by kernel_rfl)) (by unfold Func.isWrapper; first | (rw [if_pos (by decide +kernel)]; kernel_rfl) | (rw [if_neg (by decide +kernel)]; exact ⟨rfl, rfl⟩))
    (fun os started H enc _ => lifted os started H enc)

/-- the statement -/
theorem proved : Rows.FnExactInsertCardSaid :=
  Claim7.holds_tied_plain_at .later [] [.widerDeep, .data, .widerDeep] true (true, "ef8a1205a7b9ff090898b265bc3b829ec6e7d3564ce2b53f0d5a610a0b663c7a") false
    over (fun _ h => by cases h) (by kernel_rfl) (fun _ h => by cases h) fnExactInsert_row_tie rfl ⟨rfl, rfl⟩ (by kernel_rfl) rfl
    (fun f fn hf hfn => by
      obtain rfl : f = 6 := Option.some.inj ((show Tryz.prog.funcNamed "loop.example/g01543/laws.FnExactInsert" = some 6 by kernel_rfl).symm.trans hf) |>.symm
      obtain rfl : fn = Tryz.f6 := (Option.some.inj (Tryz.func6.symm.trans hfn)).symm
      exact ⟨by kernel_rfl, fun j t ht => by
        rw [Tryz.params6] at ht
        have hm : t ∈ [28, 3, 3, 28] := by simpa using Array.mem_of_getElem? ht
        have hall : ([28, 3, 3, 28].all fun u => !Tryz.prog.wantsStandIn u) = true := by kernel_rfl
        exact (show Tryz.prog.wantsStandIn t = false by simpa using List.all_eq_true.1 hall t hm)⟩)
    (by kernel_rfl)
#print axioms proved
end Go.Proofs.YtllanibkffnogaaGreatDoor.fnExactInsert
