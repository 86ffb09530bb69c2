/-
  ExactReplace: for all arguments the law returns true: the program's function returns what the reference's returns.
  The tables that the row lists are tied to the program's text.
-/
import Derived.Test.YtkfpmbinifaakaaGreatDoorRows
import Derived.Test.YtkfpmbinifaakaaGreatDoorCards
import Derived.Test.YtkfpmbinifaakaaGreatDoorTie
import Derived.WalkKit
import Derived.ProofKit
import Derived.OpenShut
import Derived.Lay
import Derived.MakeChecks
import Derived.SevenTiedAt
import Derived.Test.YtkfpmbinifaakaaGreatDoorRpW4
import Derived.Test.YtkfpmbinifaakaaGreatDoorRpP3
import Derived.Test.YtkfpmbinifaakaaGreatDoorCore5
namespace Go.Proofs.YtkfpmbinifaakaaGreatDoor.fnExactReplace
open Go.ChangeShapes Go.WideShapes Go.ChangeAt Go.RowKit Go.Av Go.Proofs.Tryz
set_option linter.unusedVariables false
set_option linter.unusedSimpArgs false
set_option maxRecDepth 100000

theorem own : ownKnob Tryz.prog.godebug = none := by kernel_rfl
theorem laidOut : laidOutB Tryz.prog = true := by kernel_rfl

/-- what is known of it -/
def ok68 (x : SNode) : Prop := ((Lit.int .i64 x.Kind).wf = true) ∧ ((Lit.int .i64 x.Op).wf = true) ∧ (x.Text.length ≤ maxLen) ∧ (x.Other.length ≤ maxLen) ∧ ((∀ z, z ∈ x.Kids → ((Lit.int .i64 z).wf = true)) ∧ x.Kids.length ≤ maxLen)

theorem read68 : Reader Tryz.prog 68 (encSNode false) ok68 := by
  intro H e w fuel cs x h
  obtain ⟨xs, n, rfl, rfl, hl, hxl, hf⟩ := DataW.trod_struct Tryz.underlying68 h
  have hl : cs.length = 5 := hl.trans (by kernel_rfl)
  have hxl : xs.length = 5 := hxl
  obtain ⟨y0, e0⟩ : ∃ y, xs[0]? = some y := ⟨_, List.getElem?_eq_getElem (by omega)⟩
  have h0 : DataW.trod e Tryz.prog w 0 (fun _ => true) true n 3 ((cs.drop 0).take (Tryz.prog.cellsOf 3)) = some y0 := (hf 0 _ rfl).trans e0
  have c0 : Tryz.prog.cellsOf 3 = 1 := by kernel_rfl
  rw [c0] at h0
  obtain ⟨a0, k0, r0⟩ := (Reader.i64 Tryz.underlying3) e w n _ _ h0
  obtain ⟨y1, e1⟩ : ∃ y, xs[1]? = some y := ⟨_, List.getElem?_eq_getElem (by omega)⟩
  have h1 : DataW.trod e Tryz.prog w 0 (fun _ => true) true n 3 ((cs.drop 1).take (Tryz.prog.cellsOf 3)) = some y1 := (hf 1 _ rfl).trans e1
  have c1 : Tryz.prog.cellsOf 3 = 1 := by kernel_rfl
  rw [c1] at h1
  obtain ⟨a1, k1, r1⟩ := (Reader.i64 Tryz.underlying3) e w n _ _ h1
  obtain ⟨y2, e2⟩ : ∃ y, xs[2]? = some y := ⟨_, List.getElem?_eq_getElem (by omega)⟩
  have h2 : DataW.trod e Tryz.prog w 0 (fun _ => true) true n 9 ((cs.drop 2).take (Tryz.prog.cellsOf 9)) = some y2 := (hf 2 _ rfl).trans e2
  have c2 : Tryz.prog.cellsOf 9 = 1 := by kernel_rfl
  rw [c2] at h2
  obtain ⟨a2, k2, r2⟩ := (Reader.str Tryz.underlying9) e w n _ _ h2
  obtain ⟨y3, e3⟩ : ∃ y, xs[3]? = some y := ⟨_, List.getElem?_eq_getElem (by omega)⟩
  have h3 : DataW.trod e Tryz.prog w 0 (fun _ => true) true n 9 ((cs.drop 3).take (Tryz.prog.cellsOf 9)) = some y3 := (hf 3 _ rfl).trans e3
  have c3 : Tryz.prog.cellsOf 9 = 1 := by kernel_rfl
  rw [c3] at h3
  obtain ⟨a3, k3, r3⟩ := (Reader.str Tryz.underlying9) e w n _ _ h3
  obtain ⟨y4, e4⟩ : ∃ y, xs[4]? = some y := ⟨_, List.getElem?_eq_getElem (by omega)⟩
  have h4 : DataW.trod e Tryz.prog w 0 (fun _ => true) true n 37 ((cs.drop 4).take (Tryz.prog.cellsOf 37)) = some y4 := (hf 4 _ rfl).trans e4
  have c4 : Tryz.prog.cellsOf 37 = 1 := by kernel_rfl
  rw [c4] at h4
  obtain ⟨a4, k4, r4⟩ := (Reader.slice Tryz.underlying37 (Reader.i64 Tryz.underlying3) 1 (by kernel_rfl) (by decide) (fun _ => rfl)) e w n _ _ h4
  refine ⟨⟨a0, a1, a2, a3, a4⟩, ⟨k0, k1, k2, k3, k4⟩, fun S hS => ?_⟩
  have hcs : cs = (cs.drop 0).take 1 ++ ((cs.drop 1).take 1 ++ ((cs.drop 2).take 1 ++ ((cs.drop 3).take 1 ++ ((cs.drop 4).take 1 ++ [])))) := by
    match cs, hl with
    | [x0, x1, x2, x3, x4], _ => rfl
  rw [hcs]
  exact CellsR.append (r0 S fun p hp => hS p (List.mem_flatMap.2 ⟨y0, List.mem_of_getElem? e0, hp⟩)) (CellsR.append (r1 S fun p hp => hS p (List.mem_flatMap.2 ⟨y1, List.mem_of_getElem? e1, hp⟩)) (CellsR.append (r2 S fun p hp => hS p (List.mem_flatMap.2 ⟨y2, List.mem_of_getElem? e2, hp⟩)) (CellsR.append (r3 S fun p hp => hS p (List.mem_flatMap.2 ⟨y3, List.mem_of_getElem? e3, hp⟩)) (CellsR.append (r4 S fun p hp => hS p (List.mem_flatMap.2 ⟨y4, List.mem_of_getElem? e4, hp⟩)) (CellsR.nil)))))

/-! ### a node's tree with another in some node's place -/
def Res (a : List SNode) (rx : List STree) (q : Nat) (t : STree) (k : Nat) (r : List STree) : Prop :=
  r.length ≤ 1 ∧ (k = q → r = rx) ∧ (k ≠ q → ∃ t', r = [t']) ∧ szTs r ≤ 401 * szT t ∧ ∀ p, p ∈ r → txT p

theorem with_l (a x : List SNode) (rx : List STree) (q M i : Nat) (e : SNode) (he : a[i]? = some e) (hM : 1048577 < M) (hek : e.Kids.length ≤ 400) : ∀ (ts : List STree) (j n n' s : Nat) (acc : List STree),
    (∀ t, t ∈ ts → ∀ s k : Nat, TA a t s k → k < i → ∃ r, (scc4 M).m_impl_edited a (k : Int) (q : Int) x = some r ∧ (scc1 M).m_spec_l31With a (k : Int) (q : Int) x = some (lsts 0 r) ∧ Res a rx q t k r) → KA a ts (e.Kids.drop j) s i → acc.length ≤ j → j ≤ e.Kids.length → ts.length < n → ts.length < n' →
    szTs acc + 401 * szTs ts ≤ 900000 → (∀ p, p ∈ acc → txT p) →
    ∃ res, m_impl_edited_l1 M (scc4 M) (q : Int) x n (a, (i : Int), e, (j : Int), acc) = Option.bind (m_impl_Replace_1 M (i : Int) ⟨e.Kind, e.Op, e.Text, e.Other, acc ++ res⟩ (q : Int) x) (fun r => some r) ∧
      m_spec_l31With_l1 M (scc1 M) n' (a, (i : Int), (q : Int), x, (j : Int), acc.map (lst 0)) = some (lst 0 ⟨e.Kind, e.Op, e.Text, e.Other, acc ++ res⟩) ∧ szTs res ≤ 401 * szTs ts ∧ ∀ p, p ∈ acc ++ res → txT p
  | [], j, n, n', s, acc, ih, h, ha, hj, hn, hn', hsz, htx => by
    simp only [KA] at h
    obtain ⟨n, rfl⟩ : ∃ m, n = m + 1 := ⟨n - 1, by simp at hn; omega⟩
    obtain ⟨n', rfl⟩ : ∃ m, n' = m + 1 := ⟨n' - 1, by simp at hn'; omega⟩
    have hlt : ¬ j < e.Kids.length := by
      intro hlt
      rw [drop_cons hlt] at h
      cases h.1
    have hm := make_is M e acc hM (by rw [szTs] at hsz; omega)
    refine ⟨[], ?_, ?_, by simp [szTs], by simpa using htx⟩
    · rw [m_impl_edited_l1]
      simp only [lt_false hlt, cond_false, List.append_nil]
    · rw [m_spec_l31With_l1]
      simp only [ix_get he, Option.bind_some, lt_false hlt, cond_false, List.append_nil, hm]
  | t :: ts, j, n, n', s, acc, ih, h, ha, hj, hn, hn', hsz, htx => by
    simp only [KA] at h
    obtain ⟨k, ks', hd, h1, h2, hta, hka⟩ := h
    simp only [List.length_cons] at hn hn'
    rw [szTs] at hsz
    obtain ⟨n, rfl⟩ : ∃ m, n = m + 1 := ⟨n - 1, by omega⟩
    obtain ⟨n', rfl⟩ : ∃ m, n' = m + 1 := ⟨n' - 1, by omega⟩
    have hlt : j < e.Kids.length := by
      cases Nat.lt_or_ge j e.Kids.length with
      | inl h => exact h
      | inr h => rw [List.drop_of_length_le h] at hd; cases hd
    rw [drop_cons hlt] at hd
    injection hd with hd1 hd2
    obtain ⟨r, r1, r2, r3, _, _, r4, r5⟩ := ih t (by simp) s k hta h2
    have hstep : IntKind.wrap .i64 ((j : Int) + 1) = ((j + 1 : Nat) : Int) := by rw [wrap64 (by omega) (by omega)]; omega
    have htx' : ∀ p, p ∈ acc ++ r → txT p := fun p hp => (List.mem_append.1 hp).elim (htx p) (r5 p)
    obtain ⟨res, e1, e2, e3, e4⟩ := with_l a x rx q M i e he hM hek ts (j + 1) n n' (k + 1) (acc ++ r) (fun t' h' => ih t' (by simp [h'])) (hd2 ▸ hka) (by rw [List.length_append]; omega) (by omega) (by omega) (by omega) (by rw [szTs_app]; omega) htx'
    refine ⟨r ++ res, ?_, ?_, by rw [szTs_app, szTs]; omega, by rw [← List.append_assoc]; exact e4⟩
    · rw [m_impl_edited_l1]
      simp only [lt_true hlt, cond_true, ix_nat hlt, hd1, Option.bind_some, r1]
      rw [app_some (by omega), Option.bind_some, hstep, e1, List.append_assoc]
    · rw [m_spec_l31With_l1]
      simp only [ix_get he, Option.bind_some, lt_true hlt, cond_true, ix_nat hlt, hd1, r2]
      rw [List.append_assoc] at e2
      match r, r3 with
      | [], _ =>
        have : decide (((lsts 0 ([] : List STree)).length : Int) > 0) = false := by rw [lsts]; rfl
        simp only [this, cond_false, m_spec_l31With_k2, hstep]
        simpa using e2
      | [t'], _ =>
        have hp := szT_pos t'
        have hl : lsts 0 [t'] = lst 0 t' := by rw [lsts, lsts, List.append_nil]
        have : decide (((lst 0 t').length : Int) > 0) = true := by rw [lst_len]; simp; omega
        rw [hl]
        simp only [this, cond_true]
        rw [app_some (by rw [List.length_map]; simp; omega), Option.bind_some, m_spec_l31With_k2, hstep]
        simpa using e2

theorem do_is (M k q : Nat) (t : STree) (x : List SNode) {tx : STree} (hx : m_impl_rootOf M x = some tx) : m_impl_Replace_1 M (k : Int) t (q : Int) x = some (if k = q then [tx] else [t]) := by
  unfold m_impl_Replace_1
  by_cases h : k = q
  · have : ((k : Int) == (q : Int)) = true := by simp [h]
    rw [this, if_pos h, cond_true, hx]; rfl
  · have : ((k : Int) == (q : Int)) = false := by simp; omega
    rw [this, if_neg h]; rfl

theorem with_is (a x : List SNode) {tx : STree} (q : Nat) (hx : ∀ M, 1048577 < M → m_impl_rootOf M x = some tx) (hcx : ∀ M, 1048577 < M → m_spec_l6Copy M x = some (lsts 0 [tx])) (hxs : szTs [tx] ≤ 400) (hxt : ∀ p, p ∈ ([tx] : List STree) → txT p) (hs : ∀ z, z ∈ a → smNode z) (hk : ∀ z, z ∈ a → z.Kids.length ≤ 400) :
    ∀ (t : STree) (s i M : Nat), TA a t s i → i ≤ 1000 → szT t ≤ 400 → 1048578 + szT t ≤ M → ∃ r, (scc4 M).m_impl_edited a (i : Int) (q : Int) x = some r ∧ (scc1 M).m_spec_l31With a (i : Int) (q : Int) x = some (lsts 0 r) ∧ Res a [tx] q t i r := by
  intro t
  induction t using STree.ind with
  | h t ih =>
    intro s i M h hi hsz hM
    obtain ⟨M, rfl⟩ : ∃ m, M = m + 1 := ⟨M - 1, by omega⟩
    have hse := szT_eq t
    obtain ⟨n, hn, e1, e2, e3, e4, hka, hkl⟩ := h.node
    have hnm := List.mem_of_getElem? hn
    have hnk := hk n hnm
    have hlen := szTs_len t.kids
    obtain ⟨res, g1, g2, g3, g4⟩ := with_l a x [tx] q M i n hn (by omega) hnk t.kids 0 M M s [] (fun t' ht' s' k hta hki => ih t' ht' s' k M hta (by omega) (by have := szTs_mem ht'; omega) (by have := szTs_mem ht'; omega)) (by simpa using hka) (by simp) (by omega) (by omega) (by omega) (by rw [szTs]; omega) (fun p hp => by cases hp)
    rw [List.nil_append] at g1 g2 g4
    have hxn := hs n hnm
    unfold smNode at hxn
    refine ⟨if i = q then [tx] else [⟨n.Kind, n.Op, n.Text, n.Other, res⟩], ?_, ?_, ?_⟩
    · show m_impl_edited_F M (scc4 M) a (i : Int) (q : Int) x = _
      unfold m_impl_edited_F
      rw [ix_get hn, Option.bind_some]
      refine Eq.trans g1 ?_
      rw [do_is M i q _ x (hx M (by omega))]
      rfl
    · show m_spec_l31With_F M (scc1 M) a (i : Int) (q : Int) x = _
      unfold m_spec_l31With_F
      by_cases hq : i = q
      · have : ((i : Int) == (q : Int)) = true := by simp [hq]
        rw [this, cond_true, hcx M (by omega), if_pos hq]
        rfl
      · have : ((i : Int) == (q : Int)) = false := by simp; omega
        rw [this, cond_false, if_neg hq]
        refine Eq.trans g2 ?_
        rw [lsts, lsts, List.append_nil]
    · by_cases hq : i = q
      · rw [if_pos hq]
        refine ⟨by simp, fun _ => rfl, fun h => absurd hq h, by have := szT_pos t; omega, hxt⟩
      · rw [if_neg hq]
        refine ⟨by simp, fun h => absurd h hq, fun _ => ⟨_, rfl⟩, by rw [szTs, szTs, szT]; omega, fun p hp => ?_⟩
        rw [List.mem_singleton.1 hp]
        exact txT_mk g4 (by omega) (by omega)

theorem law_ex (N : Nat) (a x : List SNode) (q0 : Int) (hN : 1048577 + 1000 < N) (ha : a.length ≤ 1048576) (hs : ∀ x, x ∈ a → smNode x) (hi : ∀ x, x ∈ a → i64N x) (hxl : x.length ≤ 1048576) (hxs : ∀ z, z ∈ x → smNode z) :
    ∃ b, m_spec_Replace N a q0 x = some b ∧ m_impl_Replace N a q0 x = some b ∧ b.1.length ≤ 1048576 ∧ ∀ x, x ∈ b.1 → smNode x := by
  obtain ⟨b, b1, b2, b3⟩ := treeOk_ex N a (by omega) hs
  obtain ⟨c, c1, c2, c3⟩ := treeOk_ex N x (by omega) hxs
  have hc1 := copy_is N a (by omega) ha hs hi
  have hc2 := copyNodes_is N a (by omega) ha hs
  unfold m_spec_Replace m_impl_Replace
  rw [b1, c1, c2]
  simp only [Option.bind_some]
  rw [wrap64 (n := (a.length : Int) - 1) (by omega) (by omega), l1In_is]
  cases c with
  | false =>
    simp only [Bool.not_false, cond_true, Option.bind_some, hc2]
    cases b <;> simp only [Bool.not_false, Bool.not_true, cond_true, cond_false, Option.bind_some, hc1] <;> exact ⟨_, rfl, rfl, ha, hs⟩
  | true =>
    unfold m_impl_edit
    rw [b2]
    simp only [Option.bind_some]
    rw [wrap64 (n := (a.length : Int) - 1) (by omega) (by omega), within_is]
    cases b with
    | false =>
      simp only [Bool.not_false, Bool.not_true, cond_true, cond_false, Option.bind_some, hc1, hc2]
      exact ⟨_, rfl, rfl, ha, hs⟩
    | true =>
      obtain ⟨hsh, hnk⟩ := b3 rfl
      obtain ⟨l1, l2, _, _, _, _, _, t, ht⟩ := shape_of hsh
      obtain ⟨hxsh, _⟩ := c3 rfl
      obtain ⟨x1, x2, _, _, _, _, _, tx, htx⟩ := shape_of hxsh
      by_cases hin : 0 ≤ q0 ∧ q0 ≤ (a.length : Int) - 1
      · have d2 : (decide (q0 ≥ 0) && decide (q0 ≤ (a.length : Int) - 1)) = true := by simp; omega
        obtain ⟨q, rfl⟩ := Int.eq_ofNat_of_zero_le hin.1
        have hsz := ht.part.2.1
        obtain ⟨_, xsz, xpt⟩ := htx.part
        rw [show x.length - 1 + 1 = x.length by omega, part_all] at xpt
        have hl2 : lsts 0 [tx] = lst 0 tx := by rw [lsts, lsts, List.append_nil]
        have hk0 : ∀ M, 1048577 < M → m_spec_l6Copy M x = some (lsts 0 [tx]) := fun M hM => by
          rw [copy_is M x hM (by omega) hxs (fun z hz k hk => by have := (shape_kids hxsh z hz).2 k hk; omega), hl2, ← xpt]
        obtain ⟨rr, r1, r2, r0, rq, r3, r4, r5⟩ := with_is a x q (fun M hM => rootOf_is M x (by omega) htx x1 x2) hk0 (by rw [szTs, szTs]; omega) (fun p hp => by rw [List.mem_singleton.1 hp]; exact txT_of hxs htx) hs (fun z hz => (shape_kids hsh z hz).1) t 0 (a.length - 1) N ht (by omega) (by omega) (by omega)
        obtain ⟨t', rfl⟩ : ∃ t', rr = [t'] := by
          by_cases h : a.length - 1 = q
          · exact ⟨tx, rq h⟩
          · exact r3 h
        have hl : lsts 0 [t'] = lst 0 t' := by rw [lsts, lsts, List.append_nil]
        rw [hl] at r2
        rw [szTs, szTs] at r4
        have r1' : m_impl_edited N a ((a.length : Int) - 1) (q : Int) x = some [t'] := by rw [show (a.length : Int) - 1 = ((a.length - 1 : Nat) : Int) by omega]; exact r1
        have r2' : m_spec_l31With N a ((a.length : Int) - 1) (q : Int) x = some (lst 0 t') := by rw [show (a.length : Int) - 1 = ((a.length - 1 : Nat) : Int) by omega]; exact r2
        have hli := list_is N t' (by omega) (by omega)
        have hsm := small_of (by omega) (r5 t' (by simp)) 0
        obtain ⟨c, c1, c2, _⟩ := treeOk_ex N (lst 0 t') (by omega) hsm
        have hx0 : ix [t'] 0 = some t' := rfl
        have hne : ((([t'] : List STree).length : Int) != 1) = false := rfl
        unfold m_spec_l31Told
        simp only [d2, Bool.not_true, cond_false, Option.bind_some, r1', r2', hne, hx0, hli, c1, c2]
        cases c with
        | false =>
          simp only [Bool.not_false, cond_true, Option.bind_some, hc1, hc2]
          exact ⟨_, rfl, rfl, ha, hs⟩
        | true =>
          simp only [Bool.not_true, cond_false, Option.bind_some]
          exact ⟨_, rfl, rfl, by simp only [lst_len]; omega, hsm⟩
      · have d2 : (decide (q0 ≥ 0) && decide (q0 ≤ (a.length : Int) - 1)) = false := by
          cases h : (decide (q0 ≥ 0) && decide (q0 ≤ (a.length : Int) - 1)) with
          | false => rfl
          | true => simp only [Bool.and_eq_true, decide_eq_true_eq] at h; omega
        simp only [d2, Bool.not_true, Bool.not_false, cond_true, cond_false, Option.bind_some, hc1, hc2]
        exact ⟨_, rfl, rfl, ha, hs⟩

theorem plain (a : List SNode) (q : Int) (x : List SNode) (ka : (∀ z, z ∈ a → ok68 z) ∧ a.length ≤ maxLen) (kq : (Go.Lit.int .i64 q).wf = true) (kx : (∀ z, z ∈ x → ok68 z) ∧ x.length ≤ maxLen) : ∃ N, m_laws_FnExactReplace N a q x = some true := by
  obtain ⟨kz, kl⟩ := ka
  obtain ⟨kz2, kl2⟩ := kx
  have hoa : ∀ z, z ∈ a → okNode z := fun z hz => by obtain ⟨_, _, h1, h2, _, h3⟩ := kz z hz; exact ⟨h1, h2, h3⟩
  have hox : ∀ z, z ∈ x → okNode z := fun z hz => by obtain ⟨_, _, h1, h2, _, h3⟩ := kz2 z hz; exact ⟨h1, h2, h3⟩
  have hi : ∀ z, z ∈ a → i64N z := fun z hz k hk => by
    obtain ⟨_, _, _, _, h4, _⟩ := kz z hz
    have := h4 k hk
    simpa [Lit.wf, IntKind.min, IntKind.max, IntKind.signed, IntKind.bits] using this
  obtain ⟨N, hN⟩ : ∃ N, N = a.length + x.length + 1050578 := ⟨_, rfl⟩
  refine ⟨N, ?_⟩
  obtain ⟨r, hr, hc⟩ := szNodeS_is N a (by omega) kl hoa 1048576 (by omega) (by omega)
  unfold m_laws_FnExactReplace
  rw [hr, Option.bind_some]
  rcases hc with ⟨hc, _⟩ | ⟨hc, h0⟩
  · simp [hc]
  · have hn : decide (r < 0) = false := by simp; omega
    rw [hn, cond_false]
    obtain ⟨r2, hr2, hc2⟩ := szNodeS_is N x (by omega) kl2 hox r h0 (by omega)
    rw [hr2, Option.bind_some]
    rcases hc2 with ⟨hc2, _⟩ | ⟨hc2, h02⟩
    · simp [hc2]
    · have hn2 : decide (r2 < 0) = false := by simp; omega
      have hs := smNode_of a (by omega)
      have hsx := smNode_of x (by omega)
      have hla : a.length ≤ 1048576 := by omega
      have hlx : x.length ≤ 1048576 := by omega
      obtain ⟨b, b1, b2, b3, b4⟩ := law_ex N a x q (by omega) hla hs hi hlx hsx
      have hta := toNodeS_is N a (by omega) hla hs
      have htx := toNodeS_is N x (by omega) hlx hsx
      have hea := eqNodeS_self N a (by omega) hla hs
      have hex := eqNodeS_self N x (by omega) hlx hsx
      have heb := eqNodeS_self N b.1 (by omega) b3 b4
      obtain ⟨k1, a1, m1, m2, m3, m4⟩ := markN_of N 1 a (by omega) hla hs (by omega) (by omega)
      obtain ⟨k3, a3, p1, p2, p3, p4⟩ := markN_of N k1 x (by omega) hlx hsx (by omega) (by omega)
      obtain ⟨k2, b5, n1, n2, n3, n4⟩ := markN_of N 1 b.1 (by omega) b3 b4 (by omega) (by omega)
      have d1 : decide (k3 < 0) = false := by simp; omega
      have d2 : decide (k2 < 0) = false := by simp; omega
      have d3 : (!(b.2 == b.2)) = false := by simp
      simp only [hn2, cond_false, hta, htx, Option.bind_some, b1, b2, heb, hea, hex, Bool.not_true, m1, p1, n1, n4, d1, d2, d3, bne_self_eq_false]




theorem kids : Go.Kids Tryz.prog (· < Tryz.prog.types.size) := kids_rows (by kernel_rfl) (by kernel_rfl)
theorem full : ∀ t e, t < Tryz.prog.types.size → Tryz.prog.underlying t = some (.slice e) → 0 < Tryz.prog.cellsOf e := slices_full_of Tryz.prog (by kernel_rfl)

/-- what the row lists -/
def lay : List (String × DataW Unit) := [("loop.example/g01543/impl.keywords", Rows.laid_loop_example_g01543_impl_keywords), ("loop.example/g01543/impl.signs", Rows.laid_loop_example_g01543_impl_signs), ("loop.example/g01543/impl.builtins", Rows.laid_loop_example_g01543_impl_builtins)]

theorem tables {W : World} (h : laidMetH Tryz.prog lay W) : W.var? Tryz.prog "loop.example/g01543/impl.keywords" = some (strCells tab_keywords) ∧ W.var? Tryz.prog "loop.example/g01543/impl.signs" = some (strCells tab_signs) ∧ W.var? Tryz.prog "loop.example/g01543/impl.builtins" = some (strCells tab_builtins) := by
  rw [MakeChecks.laidMetH_plain _ _ _ (by kernel_rfl)] at h
  obtain ⟨ps, ⟨g0, t0, cs0, fuel0, p0, q0, hg0, ht0, hv0, hd0, r0, _⟩, _, _⟩ := h
  obtain ⟨g1, t1, cs1, fuel1, p1, q1, hg1, ht1, hv1, hd1, r1, _⟩ := r0
  obtain ⟨g2, t2, cs2, fuel2, p2, q2, hg2, ht2, hv2, hd2, r2, _⟩ := r1
  obtain rfl := Option.some.inj ((show Tryz.prog.globalNamed "loop.example/g01543/impl.keywords" = some 1 by kernel_rfl).symm.trans hg0)
  obtain rfl := Option.some.inj ((show (Tryz.prog.globals[1]?).map (·.type) = some 141 by kernel_rfl).symm.trans ht0)
  have e0 : cs0 = strCells tab_keywords := strs_of_trod (l := tab_keywords) (p := p0) (by rw [show (DataW.agg (tab_keywords.map fun s => .lit (.string s)) : DataW Unit) = Rows.laid_loop_example_g01543_impl_keywords by kernel_rfl]; exact hd0) Tryz.underlying141 Tryz.underlying9 (by kernel_rfl) (by kernel_rfl)
  rw [e0] at hv0
  obtain rfl := Option.some.inj ((show Tryz.prog.globalNamed "loop.example/g01543/impl.signs" = some 2 by kernel_rfl).symm.trans hg1)
  obtain rfl := Option.some.inj ((show (Tryz.prog.globals[2]?).map (·.type) = some 143 by kernel_rfl).symm.trans ht1)
  have e1 : cs1 = strCells tab_signs := strs_of_trod (l := tab_signs) (p := p1) (by rw [show (DataW.agg (tab_signs.map fun s => .lit (.string s)) : DataW Unit) = Rows.laid_loop_example_g01543_impl_signs by kernel_rfl]; exact hd1) Tryz.underlying143 Tryz.underlying9 (by kernel_rfl) (by kernel_rfl)
  rw [e1] at hv1
  obtain rfl := Option.some.inj ((show Tryz.prog.globalNamed "loop.example/g01543/impl.builtins" = some 0 by kernel_rfl).symm.trans hg2)
  obtain rfl := Option.some.inj ((show (Tryz.prog.globals[0]?).map (·.type) = some 139 by kernel_rfl).symm.trans ht2)
  have e2 : cs2 = strCells tab_builtins := strs_of_trod (l := tab_builtins) (p := p2) (by rw [show (DataW.agg (tab_builtins.map fun s => .lit (.string s)) : DataW Unit) = Rows.laid_loop_example_g01543_impl_builtins by kernel_rfl]; exact hd2) Tryz.underlying139 Tryz.underlying9 (by kernel_rfl) (by kernel_rfl)
  rw [e2] at hv2
  exact ⟨hv0, hv1, hv2⟩

theorem grel {W : World} {S : Nat → Prop} (h0 : W.var? Tryz.prog "loop.example/g01543/impl.keywords" = some (strCells tab_keywords)) (h1 : W.var? Tryz.prog "loop.example/g01543/impl.signs" = some (strCells tab_signs)) (h2 : W.var? Tryz.prog "loop.example/g01543/impl.builtins" = some (strCells tab_builtins)) (s0 : S 1) (s1 : S 2) (s2 : S 0) : GRel (GS [0, 1, 2]) S W := by
  intro g cs hg
  have hc : ([0, 1, 2] : List Nat).contains g = true := by
    cases h : ([0, 1, 2] : List Nat).contains g with
    | true => rfl
    | false => unfold GS at hg; rw [h] at hg; cases hg
  have hm := List.contains_iff_mem.1 hc
  simp only [List.mem_cons, List.mem_nil_iff, or_false] at hm
  rcases hm with rfl | rfl | rfl
  · obtain rfl := Option.some.inj ((show GS [0, 1, 2] 0 = some (tab_builtins.map V.str) by kernel_rfl).symm.trans hg)
    exact el_of_var (show Tryz.prog.globalNamed "loop.example/g01543/impl.builtins" = some 0 by kernel_rfl) h2 s2
  · obtain rfl := Option.some.inj ((show GS [0, 1, 2] 1 = some (tab_keywords.map V.str) by kernel_rfl).symm.trans hg)
    exact el_of_var (show Tryz.prog.globalNamed "loop.example/g01543/impl.keywords" = some 1 by kernel_rfl) h0 s0
  · obtain rfl := Option.some.inj ((show GS [0, 1, 2] 2 = some (tab_signs.map V.str) by kernel_rfl).symm.trans hg)
    exact el_of_var (show Tryz.prog.globalNamed "loop.example/g01543/impl.signs" = some 2 by kernel_rfl) h1 s1

theorem lifted (os : Os) (started : os.Started) (H : Type) (enc : TypeId × Value → H) :
    ReturnsInHanded {} Tryz.checked os 6 .any (fun w args => (Rows.fnExactReplaceSpec.pre enc Tryz.prog Tryz.f6 Rows.fnExactReplaceRow.domain false w args ∧ laidMetH Tryz.prog lay w) ∧ sizedMet enc Tryz.prog Tryz.f6 (OpenSpec.ofChange Rows.fnExactReplaceSpec) false w args) (Rows.fnExactReplaceSpec.post enc Tryz.prog Tryz.f6 false true false false) := by
  refine returnsInHanded_of_change_and (C := Tryz.checked) (X := fun w _ => laidMetH Tryz.prog lay w) (fun _ _ _ hh h => h.of_heap hh) own started (by kernel_rfl) Tryz.func6
    (ChangeSpec.witness_at (enc := enc) (C := Tryz.checked) (os := os) (X := fun w _ => laidMetH Tryz.prog lay w) false (World.laidAll Tryz.prog os lay) #[.slice none 0 0, .int .i64 0, .slice none 0 0] 12 (World.laidAll_os _ _ _) (by kernel_rfl) (by kernel_rfl) (by kernel_rfl) (by kernel_rfl) (by kernel_rfl)
      (by rw [MakeChecks.laidMetH_plain _ _ _ (by kernel_rfl)]; exact laidMet_laidAll _ (by kernel_rfl) (by kernel_rfl))) ?_
  intro W base args ds gs before hval0 hW hcnd _ hL _
  have hval : ∀ (j : Nat) t v, Tryz.f6.params[j]? = some t → args[j]? = some v → Value.okWide Tryz.prog W .any base t v := hval0
  have hW' := hW
  obtain ⟨p, q, hA0, hV0, rfl, hfz, hnd⟩ := hW
  have hA : DataW.TrodAll enc Tryz.prog W 0 (fun _ => true) true Tryz.f6.params.toList args.toList ds p := hA0
  have hV : DataW.TrodVars enc Tryz.prog W (fun _ => true) ["loop.example/g01543/impl.keywords", "loop.example/g01543/impl.builtins", "loop.example/g01543/impl.signs"] gs q := hV0
  rw [Tryz.params6] at hA hval
  have hA1 := hA
  obtain ⟨v0, vs0, d0, ds0, p0, q0, hargs, rfl, rfl, h0, r0⟩ := trodAll_cons hA
  obtain ⟨v1, vs1, d1, ds1, p1, q1, rfl, rfl, rfl, h1, r1⟩ := trodAll_cons r0
  obtain ⟨v2, vs2, d2, ds2, p2, q2, rfl, rfl, rfl, h2, r2⟩ := trodAll_cons r1
  obtain ⟨rfl, rfl, rfl⟩ := trodAll_nil r2
  obtain rfl : args = #[v0, v1, v2] := by cases args; simp_all
  have hA2 : DataW.TrodAll enc Tryz.prog W 0 (fun _ => true) true [28, 3, 28] [v0, v1, v2] [d0, d1, d2] (p0 ++ (p1 ++ (p2 ++ []))) := hA1
  have hgl := vars_len hV
  obtain ⟨y0, y1, y2, rfl⟩ : ∃ y0 y1 y2, gs = [y0, y1, y2] := by
    match gs, hgl with
    | [y0, y1, y2], _ => exact ⟨y0, y1, y2, rfl⟩
  obtain ⟨fu0, hf0⟩ := h0
  obtain ⟨a0, k0, c0⟩ := (Reader.slice Tryz.underlying28 read68 5 (by kernel_rfl) (by decide) (fun _ => rfl)) enc W fu0 _ _ hf0
  obtain ⟨s0, l0, m0, rfl⟩ := okWide_slice Tryz.underlying28 (hval 0 28 v0 rfl rfl)
  obtain ⟨fu1, hf1⟩ := h1
  obtain ⟨a1, k1, c1⟩ := (Reader.i64 Tryz.underlying3) enc W fu1 _ _ hf1
  obtain ⟨n1, rfl⟩ := okWide_int Tryz.underlying3 (hval 1 3 v1 rfl rfl)
  obtain ⟨fu2, hf2⟩ := h2
  obtain ⟨a2, k2, c2⟩ := (Reader.slice Tryz.underlying28 read68 5 (by kernel_rfl) (by decide) (fun _ => rfl)) enc W fu2 _ _ hf2
  obtain ⟨s2, l2, m2, rfl⟩ := okWide_slice Tryz.underlying28 (hval 2 28 v2 rfl rfl)
  have htab := tables hL
  have tv0 := htab.1
  have tv1 := htab.2.1
  have tv2 := htab.2.2
  have hlt : ∀ b, (fun b => blocksOf (p0 ++ (p1 ++ (p2 ++ []))) b ∨ b = 1 ∨ b = 2 ∨ b = 0) b → b < W.heap.size := by
    intro b hb
    rcases hb with ⟨m, hm, rfl⟩ | rfl | rfl | rfl
    · exact DataW.TrodAll.lt hA1 m (by simpa using hm)
    · exact var_lt (show Tryz.prog.globalNamed "loop.example/g01543/impl.keywords" = some 1 by kernel_rfl) tv0
    · exact var_lt (show Tryz.prog.globalNamed "loop.example/g01543/impl.signs" = some 2 by kernel_rfl) tv1
    · exact var_lt (show Tryz.prog.globalNamed "loop.example/g01543/impl.builtins" = some 0 by kernel_rfl) tv2
  obtain ⟨N, hN⟩ := plain a0 a1 a2 k0 k1 k2
  refine (AC.belowG (m_laws_FnExactReplace_ok N a0 a1 a2 hN) (fun b => blocksOf (p0 ++ (p1 ++ (p2 ++ []))) b ∨ b = 1 ∨ b = 2 ∨ b = 0) hlt (grel tv0 tv1 tv2 (.inr (.inl rfl)) (.inr (.inr (.inl rfl))) (.inr (.inr (.inr rfl)))) rfl fun i x hx => ?_).mono ?_
  · match i with
    | 0 =>
      simp only [List.getElem?_cons_succ, List.getElem?_cons_zero, Option.some.injEq] at hx
      subst hx
      exact argOne rfl (c0 _ fun p hp => (.inl ⟨p, by simp [hp], rfl⟩))
    | 1 =>
      simp only [List.getElem?_cons_succ, List.getElem?_cons_zero, Option.some.injEq] at hx
      subst hx
      exact argOne rfl (c1 _ fun p hp => (.inl ⟨p, by simp [hp], rfl⟩))
    | 2 =>
      simp only [List.getElem?_cons_succ, List.getElem?_cons_zero, Option.some.injEq] at hx
      subst hx
      exact argOne rfl (c2 _ fun p hp => (.inl ⟨p, by simp [hp], rfl⟩))
    | i + 3 => simp at hx
  · rintro e W' ⟨x, S', rfl, hx, hb⟩
    have hxt := hx.c_inv
    subst hxt
    exact ⟨_, rfl, Av.post_of_below (pa := (p0 ++ (p1 ++ (p2 ++ [])))) (pv := q) hW' (fun _ _ _ => (trodAll_cons_mk (shut_bool Tryz.underlying4 _) trodAll_mk0))
      (fun sp hsp => args_kept kids full hb (by decide +kernel) hA2 (fun m hm => hsp m (by simp only [List.mem_append]; exact .inl (by simpa using hm)))) (fun sp hsp => vars_kept laidOut hb (by kernel_rfl) hV (fun m hm => hsp m (by simp [hm]))) (by simp) hb (ok_one (by kernel_rfl) rfl (okWide_bool_mk Tryz.underlying4 _))⟩

theorem over : Rows.fnExactReplaceRow.holds Tryz.pinned (OpenSpec.ofChange Rows.fnExactReplaceSpec) :=
  OpenClaim.holds_of_wide 6 Tryz.f6 rfl rfl rfl rfl rfl rfl rfl ⟨rfl, rfl, rfl, rfl, rfl⟩ rfl rfl rfl rfl rfl (by kernel_rfl) Tryz.func6 (by kernel_rfl)
    (of_decide_eq_true (by kernel_rfl)) (by unfold Func.isWrapper; first | (rw [if_pos (by decide +kernel)]; kernel_rfl) | (rw [if_neg (by decide +kernel)]; exact ⟨rfl, rfl⟩))
    (fun os started H enc _ => lifted os started H enc)

/-- the statement -/
theorem proved : Rows.FnExactReplaceCardSaid :=
  Claim7.holds_tied_plain_at .later [] [.widerDeep, .data, .widerDeep] true (true, "eab3a0d7134bf4612cfb1c97e08315ef20c0f79de4c44aa8b68f085a2b6e9ce2") false
    over (fun _ h => by cases h) (by kernel_rfl) (fun _ h => by cases h) fnExactReplace_row_tie rfl ⟨rfl, rfl⟩ (by kernel_rfl) rfl
    (fun f fn hf hfn => by
      obtain rfl : f = 6 := Option.some.inj ((show Tryz.prog.funcNamed "loop.example/g01543/laws.FnExactReplace" = some 6 by kernel_rfl).symm.trans hf) |>.symm
      obtain rfl : fn = Tryz.f6 := (Option.some.inj (Tryz.func6.symm.trans hfn)).symm
      exact ⟨by kernel_rfl, fun j t ht => by
        rw [Tryz.params6] at ht
        have hm : t ∈ [28, 3, 28] := by simpa using Array.mem_of_getElem? ht
        have hall : ([28, 3, 28].all fun u => !Tryz.prog.wantsStandIn u) = true := by kernel_rfl
        exact (show Tryz.prog.wantsStandIn t = false by simpa using List.all_eq_true.1 hall t hm)⟩)
    (by kernel_rfl)
#print axioms proved
end Go.Proofs.YtkfpmbinifaakaaGreatDoor.fnExactReplace
