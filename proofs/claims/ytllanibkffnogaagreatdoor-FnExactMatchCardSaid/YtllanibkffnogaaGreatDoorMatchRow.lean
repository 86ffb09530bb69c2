/-
  ExactMatch: for all arguments the law returns true: the program's function returns what the reference's returns.
  The tables that the row lists are tied to the program's text.
-/
import Derived.Test.YtllanibkffnogaaGreatDoorRows
import Derived.Test.YtllanibkffnogaaGreatDoorCards
import Derived.Test.YtllanibkffnogaaGreatDoorTie
import Derived.WalkKit
import Derived.ProofKit
import Derived.OpenShut
import Derived.Lay
import Derived.MakeChecks
import Derived.SevenTiedAt
import Derived.Test.YtllanibkffnogaaGreatDoorMaQW4
import Derived.Test.YtllanibkffnogaaGreatDoorMaQP4
import Derived.Test.YtllanibkffnogaaGreatDoorQCore5
namespace Go.Proofs.YtllanibkffnogaaGreatDoor.fnExactMatch
open Go.ChangeShapes Go.WideShapes Go.ChangeAt Go.RowKit Go.Av Go.Proofs.Tryz
set_option linter.unusedVariables false
set_option linter.unusedSimpArgs false
set_option maxRecDepth 100000

theorem own : ownKnob Tryz.prog.godebug = none := by kernel_rfl
theorem laidOut : laidOutB Tryz.prog = true := by kernel_rfl

/-- what is known of it -/
def ok63 (x : SNode) : Prop := ((Lit.int .i64 x.Kind).wf = true) ∧ ((Lit.int .i64 x.Op).wf = true) ∧ (x.Text.length ≤ maxLen) ∧ (x.Other.length ≤ maxLen) ∧ ((∀ z, z ∈ x.Kids → ((Lit.int .i64 z).wf = true)) ∧ x.Kids.length ≤ maxLen)

theorem read63 : Reader Tryz.prog 63 (eSN false) ok63 := by
  intro H e w fuel cs x h
  obtain ⟨xs, n, rfl, rfl, hl, hxl, hf⟩ := DataW.trod_struct Tryz.underlying63 h
  have hl : cs.length = 5 := hl.trans (by kernel_rfl)
  have hxl : xs.length = 5 := hxl
  obtain ⟨y0, e0⟩ : ∃ y, xs[0]? = some y := ⟨_, List.getElem?_eq_getElem (by omega)⟩
  have h0 : DataW.trod e Tryz.prog w 0 (fun _ => true) true n 3 ((cs.drop 0).take (Tryz.prog.cellsOf 3)) = some y0 := (hf 0 _ rfl).trans e0
  have c0 : Tryz.prog.cellsOf 3 = 1 := by kernel_rfl
  rw [c0] at h0
  obtain ⟨a0, k0, r0⟩ := (Reader.i64 Tryz.underlying3) e w n _ _ h0
  obtain ⟨y1, e1⟩ : ∃ y, xs[1]? = some y := ⟨_, List.getElem?_eq_getElem (by omega)⟩
  have h1 : DataW.trod e Tryz.prog w 0 (fun _ => true) true n 3 ((cs.drop 1).take (Tryz.prog.cellsOf 3)) = some y1 := (hf 1 _ rfl).trans e1
  have c1 : Tryz.prog.cellsOf 3 = 1 := by kernel_rfl
  rw [c1] at h1
  obtain ⟨a1, k1, r1⟩ := (Reader.i64 Tryz.underlying3) e w n _ _ h1
  obtain ⟨y2, e2⟩ : ∃ y, xs[2]? = some y := ⟨_, List.getElem?_eq_getElem (by omega)⟩
  have h2 : DataW.trod e Tryz.prog w 0 (fun _ => true) true n 9 ((cs.drop 2).take (Tryz.prog.cellsOf 9)) = some y2 := (hf 2 _ rfl).trans e2
  have c2 : Tryz.prog.cellsOf 9 = 1 := by kernel_rfl
  rw [c2] at h2
  obtain ⟨a2, k2, r2⟩ := (Reader.str Tryz.underlying9) e w n _ _ h2
  obtain ⟨y3, e3⟩ : ∃ y, xs[3]? = some y := ⟨_, List.getElem?_eq_getElem (by omega)⟩
  have h3 : DataW.trod e Tryz.prog w 0 (fun _ => true) true n 9 ((cs.drop 3).take (Tryz.prog.cellsOf 9)) = some y3 := (hf 3 _ rfl).trans e3
  have c3 : Tryz.prog.cellsOf 9 = 1 := by kernel_rfl
  rw [c3] at h3
  obtain ⟨a3, k3, r3⟩ := (Reader.str Tryz.underlying9) e w n _ _ h3
  obtain ⟨y4, e4⟩ : ∃ y, xs[4]? = some y := ⟨_, List.getElem?_eq_getElem (by omega)⟩
  have h4 : DataW.trod e Tryz.prog w 0 (fun _ => true) true n 30 ((cs.drop 4).take (Tryz.prog.cellsOf 30)) = some y4 := (hf 4 _ rfl).trans e4
  have c4 : Tryz.prog.cellsOf 30 = 1 := by kernel_rfl
  rw [c4] at h4
  obtain ⟨a4, k4, r4⟩ := (Reader.slice Tryz.underlying30 (Reader.i64 Tryz.underlying3) 1 (by kernel_rfl) (by decide) (fun _ => rfl)) e w n _ _ h4
  refine ⟨⟨a0, a1, a2, a3, a4⟩, ⟨k0, k1, k2, k3, k4⟩, fun S hS => ?_⟩
  have hcs : cs = (cs.drop 0).take 1 ++ ((cs.drop 1).take 1 ++ ((cs.drop 2).take 1 ++ ((cs.drop 3).take 1 ++ ((cs.drop 4).take 1 ++ [])))) := by
    match cs, hl with
    | [x0, x1, x2, x3, x4], _ => rfl
  rw [hcs]
  exact CellsR.append (r0 S fun p hp => hS p (List.mem_flatMap.2 ⟨y0, List.mem_of_getElem? e0, hp⟩)) (CellsR.append (r1 S fun p hp => hS p (List.mem_flatMap.2 ⟨y1, List.mem_of_getElem? e1, hp⟩)) (CellsR.append (r2 S fun p hp => hS p (List.mem_flatMap.2 ⟨y2, List.mem_of_getElem? e2, hp⟩)) (CellsR.append (r3 S fun p hp => hS p (List.mem_flatMap.2 ⟨y3, List.mem_of_getElem? e3, hp⟩)) (CellsR.append (r4 S fun p hp => hS p (List.mem_flatMap.2 ⟨y4, List.mem_of_getElem? e4, hp⟩)) (CellsR.nil)))))

/-! ### the laws' helpers over holes -/
def smHole (h : SHole) : Prop := h.Name.length ≤ 1048576 ∧ h.Part.length ≤ 1048576 ∧ ∀ x, x ∈ h.Part → smNode x
theorem eqHole_self (N : Nat) (h : SHole) (hN : 1048576 < N) (hh : smHole h) : ml_eqHole N h h = some true := by
  unfold ml_eqHole
  rw [eqNodeS_self N _ hN hh.2.1 hh.2.2]
  simp

theorem eqHoleS_self (N : Nat) (a : List SHole) (hN : 1048576 < N) (hl : a.length ≤ 1048576) (ha : ∀ x, x ∈ a → smHole x) : ml_eqHoleS N a a = some true := by
  have hloop : ∀ n s, ml_eqHoleS_l1 N n s = eqL (ml_eqHole N) n s := by
    intro n
    induction n with
    | zero => intro s; rfl
    | succ n ih => intro ⟨a, b, i⟩; rw [ml_eqHoleS_l1, eqL]; simp only [ih]
  unfold ml_eqHoleS
  simp only [bne_self_eq_false, cond_false, hloop]
  exact eqL_self _ a (fun x hx => eqHole_self N x hN (ha x hx)) (by simp only [maxLen]; omega) N 0 (by omega) (by omega)

def mkHole (N : Nat) (x : SHole) (k : Int) : SHole × Int := (⟨mT N k, (mkAll (mkNode N) x.Part (k + 1)).1⟩, (mkAll (mkNode N) x.Part (k + 1)).2)
def costHole (x : SHole) : Nat := 1 + sumN costNode x.Part
theorem mkHole_le (N : Nat) (x : SHole) (k : Int) (h0 : 0 ≤ k) : k ≤ (mkHole N x k).2 ∧ (mkHole N x k).2 ≤ k + costHole x := by
  have := mkAll_le (mkNode_le N) x.Part (k + 1) (by omega)
  simp only [mkHole, costHole]
  omega

theorem markHoleS_is (N : Nat) (k : Int) (a : List SHole) (hN : 1048576 < N) (hl : a.length ≤ 1048576) (ha : ∀ x, x ∈ a → smHole x) (h0 : 0 ≤ k) (h1 : k + sumN costHole a ≤ 4611686018427387904) :
    ml_markHoleS N k a = some ((mkAll (mkHole N) a k).2, (mkAll (mkHole N) a k).1) := by
  have := markLoop (M := ml_markHoleS_l1 N) (mk := mkHole N) (cost := costHole) (ok := smHole) (mkHole_le N) (fun n k i y e hs h0 h1 hl hy => by
      have hi : i < y.length := (List.getElem?_eq_some_iff.1 hy).1
      have he : y[i] = e := (List.getElem?_eq_some_iff.1 hy).2
      unfold costHole at h1
      obtain ⟨s1, s2, s3⟩ := hs
      have w1 : IntKind.wrap .i64 (k + 1) = k + 1 := wrap64 (by omega) (by omega)
      have t0 := mT_is N k (by omega) (by omega) (by omega)
      have t1 := markNodeS_is N (k + 1) e.Part hN s2 s3 (by omega) (by omega)
      rw [ml_markHoleS_l1]
      simp only [lt_true hi, cond_true, ix_nat, upd_nat, List.length_set, hi, List.getElem_set_self, List.set_set, he, Option.bind_some, step64 hi hl, w1, t0, t1]
      rfl) (fun n k i y hi => by
      rw [ml_markHoleS_l1]
      simp only [lt_false hi, cond_false]) a [] k N ha h0 h1 (by omega) (by simp [maxLen]; omega)
  unfold ml_markHoleS
  simpa using this

theorem heldHoleS_is (N : Nat) (k : Int) (a : List SHole) (hN : 1048576 < N) (hl : a.length ≤ 1048576) (ha : ∀ x, x ∈ a → smHole x) (h0 : 0 ≤ k) (h1 : k + sumN costHole a ≤ 4611686018427387904) :
    ml_heldHoleS N (mkAll (mkHole N) a k).1 k = some (mkAll (mkHole N) a k).2 := by
  have := heldLoop (L := ml_heldHoleS_l1 N) (mk := mkHole N) (cost := costHole) (ok := smHole) (mkHole_le N) (fun n k i y e hs h0 h1 hl hy => by
      have hi : i < y.length := (List.getElem?_eq_some_iff.1 hy).1
      unfold costHole at h1
      obtain ⟨s1, s2, s3⟩ := hs
      have w1 : IntKind.wrap .i64 (k + 1) = k + 1 := wrap64 (by omega) (by omega)
      have t0 := mT_is N k (by omega) (by omega) (by omega)
      have t1 := heldNodeS_is N (k + 1) e.Part hN s2 s3 (by omega) (by omega)
      have hle := mkAll_le (mkNode_le N) e.Part (k + 1) (by omega)
      have hn : decide ((mkAll (mkNode N) e.Part (k + 1)).2 < 0) = false := by simp; omega
      rw [ml_heldHoleS_l1]
      simp only [lt_true hi, cond_true, ix_get hy, Option.bind_some, step64 hi hl, mkHole, w1, t0, t1, beq_self_eq_true, Bool.not_true, cond_false, hn]) (fun n k i y hi => by
      rw [ml_heldHoleS_l1]
      simp only [lt_false hi, cond_false]) a [] k N ha h0 h1 (by omega) (by simp [maxLen]; omega)
  unfold ml_heldHoleS
  simpa using this

theorem costHole_le (a : List SHole) (ha : ∀ x, x ∈ a → smHole x) : sumN costHole a ≤ 4398050705409 * a.length := by
  induction a with
  | nil => simp [sumN]
  | cons x l ih =>
    have h1 := ih fun y hy => ha y (by simp [hy])
    obtain ⟨_, s2, s3⟩ := ha x (by simp)
    have h2 := costNode_le x.Part s3 s2
    simp only [sumN, List.map_cons, List.sum_cons, List.length_cons, costHole] at h1 h2 ⊢
    omega

/-! ### the pattern's holes -/
theorem holesM_l (N : Nat) (g : List SFilling) (b : Bool) (hN : 3000 < N) (hm : g.length ≤ 1000) (hs : ∀ f, f ∈ g → szT f.tree ≤ 400) : ∀ (n i : Nat), g.length - i < n → i ≤ g.length → mi_Match_l1 N n ((g, b), (i : Int), (HF g).take i) = some (HF g, b) := by
  intro n
  induction n with
  | zero => intro i h; omega
  | succ n ih =>
    intro i hn hi
    have hHl : (HF g).length = g.length := by simp [HF]
    rw [mi_Match_l1]
    by_cases h : i < g.length
    · have hf := hs _ (List.getElem_mem h)
      have h' : i < (HF g).length := by omega
      have hx : (HF g)[i] = (⟨g[i].name, lst 0 g[i].tree⟩ : SHole) := by simp [HF]
      simp only [lt_true h, cond_true, ix_nat h, Option.bind_some, list_is N g[i].tree (by omega) (by omega)]
      rw [app_some (by simp; omega), Option.bind_some, step64 h (by simp only [maxLen]; omega)]
      have e : (HF g).take i ++ [(⟨g[i].name, lst 0 g[i].tree⟩ : SHole)] = (HF g).take (i + 1) := by
        rw [List.take_add_one, List.getElem?_eq_getElem h', hx]
        rfl
      rw [e]
      exact ih (i + 1) (by omega) (by omega)
    · simp only [lt_false h, cond_false]
      rw [List.take_of_length_le (by omega)]

theorem l2_false (M : Nat) (R : Rec5) (t x : STree) : ∀ (r : Nat) (q : Int) (g g' : List SFilling), mi_tree__matches_l2 M R r (t, x, q, g) = some (g', false) → g' = [] := by
  intro r
  induction r with
  | zero => intro q g g' h; rw [mi_tree__matches_l2] at h; cases h
  | succ r ih =>
    intro q g g' h
    rw [mi_tree__matches_l2] at h
    cases hc : decide (q < (t.kids.length : Int)) with
    | false =>
      rw [hc, cond_false] at h
      cases h
    | true =>
      rw [hc, cond_true] at h
      obtain ⟨e1, _, h⟩ := Option.bind_eq_some_iff.1 h
      obtain ⟨e2, _, h⟩ := Option.bind_eq_some_iff.1 h
      obtain ⟨⟨a, b⟩, _, h⟩ := Option.bind_eq_some_iff.1 h
      cases b with
      | false =>
        simp only [Bool.not_false, cond_true, Option.some.injEq, Prod.mk.injEq] at h
        exact h.1.symm
      | true => exact ih _ _ _ h

theorem topM_false (N : Nat) (t x : STree) (g : List SFilling) (h : mi_tree__matches (N + 2) t x [] = some (g, false)) : g = [] := by
  have h : mi_tree__matches_F (N + 1) (scc5 (N + 1)) t x [] = some (g, false) := h
  unfold mi_tree__matches_F at h
  rw [isHoleT] at h
  simp only [Option.bind_some, isE_impl, alike_is] at h
  cases hh : hB t.kind t.text with
  | true =>
    rw [hh] at h
    simp only [cond_true] at h
    cases he : isE x.kind with
    | false =>
      rw [he] at h
      simp only [Bool.not_false, cond_true, Option.some.injEq, Prod.mk.injEq] at h
      exact h.1.symm
    | true =>
      rw [he] at h
      have := got_l (N + 1) [] t x (by simp) (fun f hf => by cases hf) (N + 1) 0 (by simp) (by simp)
      simp only [Bool.not_true, cond_false] at h
      have e : mi_tree__matches_l1 (N + 1) (scc5 (N + 1)) (N + 1) ([], t, x, 0) = some ([⟨t.text, x⟩], true) := this
      rw [e] at h
      cases h
  | false =>
    rw [hh] at h
    simp only [cond_false] at h
    cases ha : alikeB t x with
    | false =>
      rw [ha] at h
      simp only [Bool.not_false, cond_true, Option.some.injEq, Prod.mk.injEq] at h
      exact h.1.symm
    | true =>
      rw [ha] at h
      simp only [Bool.not_true, cond_false] at h
      exact l2_false _ _ _ _ _ _ _ _ h

theorem matchM_ex (N : Nat) (p l : List SNode) (hN : 1048577 + 3000 < N) (hsp : ∀ z, z ∈ p → smNode z) (hs : ∀ z, z ∈ l → smNode z) :
    ∃ r, ms_Match N p l = some r ∧ mi_Match N p l = some r ∧ r.1.length ≤ 1000 ∧ ∀ h, h ∈ r.1 → smHole h := by
  obtain ⟨b, b1, b2, b3⟩ := exprOk_ex N p (by omega) hsp
  obtain ⟨c, c1, c2, c3⟩ := exprOk_ex N l (by omega) hs
  unfold ms_Match mi_Match
  rw [b1, b2, c1, c2]
  simp only [Option.bind_some]
  cases b with
  | false => exact ⟨([], false), rfl, rfl, by simp, fun h hh => by cases hh⟩
  | true =>
    cases c with
    | false => exact ⟨([], false), rfl, rfl, by simp, fun h hh => by cases hh⟩
    | true =>
      obtain ⟨hsp2, _⟩ := b3 rfl
      obtain ⟨hsh, _⟩ := c3 rfl
      obtain ⟨p1, p2, _, _, _, _, _, tp, htp⟩ := shape_of hsp2
      obtain ⟨l1, l2, _, _, _, _, _, tx, htx⟩ := shape_of hsh
      have hsz : szT tp ≤ 400 := by have := htp.part.2.1; omega
      obtain ⟨g, b, hh, d1, d2, d3⟩ := match_ex p l hs hsh tp tx 0 (p.length - 1) 0 (l.length - 1) N [] htp htx (fun f hf => by cases hf) (by simp; omega) (by omega) hsz
      have e1 : mi_tree__matches N tp tx [] = some (g, b) := d1
      have e2 : ms_l32At N p (IntKind.wrap .i64 ((p.length : Int) - 1)) l (IntKind.wrap .i64 ((l.length : Int) - 1)) [] = some (hh, b) := by
        rw [wrap64 (by omega) (by omega), wrap64 (by omega) (by omega), show (p.length : Int) - 1 = ((p.length - 1 : Nat) : Int) by omega, show (l.length : Int) - 1 = ((l.length - 1 : Nat) : Int) by omega]
        exact d2
      simp only [Bool.not_true, cond_false, rootOf_is N p (by omega) htp p1 p2, rootOf_is N l (by omega) htx l1 l2, Option.bind_some, e1, e2]
      cases b with
      | false =>
        have hg : g = [] := by
          obtain ⟨M, rfl⟩ : ∃ M, N = M + 2 := ⟨N - 2, by omega⟩
          exact topM_false M tp tx g e1
        subst hg
        have := holesM_l N [] false (by omega) (by simp) (fun f hf => by cases hf) N 0 (by simp; omega) (by simp)
        exact ⟨([], false), rfl, this, by simp, fun h hh => by cases hh⟩
      | true =>
        obtain ⟨f1, f2, f3⟩ := d3 rfl
        subst f1
        have hgl : g.length ≤ 400 := by simpa using Nat.le_trans f3 (by simpa using hsz)
        have hgs : ∀ f, f ∈ g → szT f.tree ≤ 400 := fun f hf => by
          obtain ⟨_, ⟨s, k, hk⟩, _⟩ := f2 f hf
          have := hk.part.2.1
          have := hk.lt
          omega
        have := holesM_l N g true (by omega) (by omega) hgs N 0 (by omega) (by omega)
        refine ⟨(HF g, true), rfl, this, by simp [HF]; omega, fun h hh => ?_⟩
        obtain ⟨f, hf, rfl⟩ := List.mem_map.1 hh
        obtain ⟨_, ⟨s, k, hk⟩, hn⟩ := f2 f hf
        have := hgs f hf
        refine ⟨by simp only; omega, by simp only [lst_len]; omega, small_of (by omega) (txT_of hs hk) 0⟩

theorem plain (a c : List SNode) (ka : (∀ z, z ∈ a → ok63 z) ∧ a.length ≤ maxLen) (kc : (∀ z, z ∈ c → ok63 z) ∧ c.length ≤ maxLen) : ∃ N, ml_FnExactMatch N a c = some true := by
  obtain ⟨za, la⟩ := ka
  obtain ⟨zc, lc⟩ := kc
  refine ⟨a.length + c.length + 1053578, ?_⟩
  obtain ⟨N, hN⟩ : ∃ N, N = a.length + c.length + 1053578 := ⟨_, rfl⟩
  rw [← hN]
  unfold ml_FnExactMatch
  obtain ⟨r, r1, r2⟩ := two_sz N a c (by omega) la lc (fun z hz => by obtain ⟨_, _, h1, h2, _, h3⟩ := za z hz; exact ⟨h1, h2, h3⟩) (fun z hz => by obtain ⟨_, _, h1, h2, _, h3⟩ := zc z hz; exact ⟨h1, h2, h3⟩)
  rw [r1, Option.bind_some]
  rcases r2 with r2 | ⟨r0, q, q1, q2⟩
  · have : decide (r < 0) = true := by simpa using r2
    rw [this]; rfl
  · have d0 : decide (r < 0) = false := by simp; omega
    rw [d0, cond_false, q1, Option.bind_some]
    rcases q2 with q2 | ⟨q0, ha, hsa, hc, hsc⟩
    · have : decide (q < 0) = true := by simpa using q2
      rw [this]; rfl
    · have d1 : decide (q < 0) = false := by simp; omega
      obtain ⟨⟨b, bb⟩, b1, b2, b3, b4⟩ := matchM_ex N a c (by omega) hsa hsc
      simp only at b3 b4
      have ta := toNodeS_is N a (by omega) ha hsa
      have tc := toNodeS_is N c (by omega) hc hsc
      have ea := eqNodeS_self N a (by omega) ha hsa
      have ec := eqNodeS_self N c (by omega) hc hsc
      have eb := eqHoleS_self N b (by omega) (by omega) b4
      obtain ⟨k1, a1, m1, m2, m3⟩ := markN_up N 1 a (by omega) ha hsa (by omega) (by omega)
      obtain ⟨k2, c2, n1, n2, n3⟩ := markN_up N k1 c (by omega) hc hsc (by omega) (by omega)
      have hco := costHole_le b b4
      have i1 := markHoleS_is N 1 b (by omega) (by omega) b4 (by omega) (by omega)
      have i2 := heldHoleS_is N 1 b (by omega) (by omega) b4 (by omega) (by omega)
      have i3 := mkAll_le (mkHole_le N) b 1 (by omega)
      have d2 : decide (k2 < 0) = false := by simp; omega
      have d3 : decide ((mkAll (mkHole N) b 1).2 < 0) = false := by simp; omega
      simp only [d1, cond_false, ta, tc, Option.bind_some, b1, b2, eb, ea, ec, Bool.not_true, m1, n1, d2, i1, i2, d3, bne_self_eq_false, beq_self_eq_true]



theorem kids : Go.Kids Tryz.prog (· < Tryz.prog.types.size) := kids_rows (by kernel_rfl) (by kernel_rfl)
theorem full : ∀ t e, t < Tryz.prog.types.size → Tryz.prog.underlying t = some (.slice e) → 0 < Tryz.prog.cellsOf e := slices_full_of Tryz.prog (by kernel_rfl)

/-- what the row lists -/
def lay : List (String × DataW Unit) := [("loop.example/g01543/impl.keywords", Rows.laid_loop_example_g01543_impl_keywords), ("loop.example/g01543/impl.signs", Rows.laid_loop_example_g01543_impl_signs), ("loop.example/g01543/impl.builtins", Rows.laid_loop_example_g01543_impl_builtins)]

theorem tables {W : World} (h : laidMetH Tryz.prog lay W) : W.var? Tryz.prog "loop.example/g01543/impl.keywords" = some (strCells tab_keywords) ∧ W.var? Tryz.prog "loop.example/g01543/impl.signs" = some (strCells tab_signs) ∧ W.var? Tryz.prog "loop.example/g01543/impl.builtins" = some (strCells tab_builtins) := by
  rw [MakeChecks.laidMetH_plain _ _ _ (by kernel_rfl)] at h
  obtain ⟨ps, ⟨g0, t0, cs0, fuel0, p0, q0, hg0, ht0, hv0, hd0, r0, _⟩, _, _⟩ := h
  obtain ⟨g1, t1, cs1, fuel1, p1, q1, hg1, ht1, hv1, hd1, r1, _⟩ := r0
  obtain ⟨g2, t2, cs2, fuel2, p2, q2, hg2, ht2, hv2, hd2, r2, _⟩ := r1
  obtain rfl := Option.some.inj ((show Tryz.prog.globalNamed "loop.example/g01543/impl.keywords" = some 1 by kernel_rfl).symm.trans hg0)
  obtain rfl := Option.some.inj ((show (Tryz.prog.globals[1]?).map (·.type) = some 137 by kernel_rfl).symm.trans ht0)
  have e0 : cs0 = strCells tab_keywords := strs_of_trod (l := tab_keywords) (p := p0) (by rw [show (DataW.agg (tab_keywords.map fun s => .lit (.string s)) : DataW Unit) = Rows.laid_loop_example_g01543_impl_keywords by kernel_rfl]; exact hd0) Tryz.underlying137 Tryz.underlying9 (by kernel_rfl) (by kernel_rfl)
  rw [e0] at hv0
  obtain rfl := Option.some.inj ((show Tryz.prog.globalNamed "loop.example/g01543/impl.signs" = some 2 by kernel_rfl).symm.trans hg1)
  obtain rfl := Option.some.inj ((show (Tryz.prog.globals[2]?).map (·.type) = some 139 by kernel_rfl).symm.trans ht1)
  have e1 : cs1 = strCells tab_signs := strs_of_trod (l := tab_signs) (p := p1) (by rw [show (DataW.agg (tab_signs.map fun s => .lit (.string s)) : DataW Unit) = Rows.laid_loop_example_g01543_impl_signs by kernel_rfl]; exact hd1) Tryz.underlying139 Tryz.underlying9 (by kernel_rfl) (by kernel_rfl)
  rw [e1] at hv1
  obtain rfl := Option.some.inj ((show Tryz.prog.globalNamed "loop.example/g01543/impl.builtins" = some 0 by kernel_rfl).symm.trans hg2)
  obtain rfl := Option.some.inj ((show (Tryz.prog.globals[0]?).map (·.type) = some 135 by kernel_rfl).symm.trans ht2)
  have e2 : cs2 = strCells tab_builtins := strs_of_trod (l := tab_builtins) (p := p2) (by rw [show (DataW.agg (tab_builtins.map fun s => .lit (.string s)) : DataW Unit) = Rows.laid_loop_example_g01543_impl_builtins by kernel_rfl]; exact hd2) Tryz.underlying135 Tryz.underlying9 (by kernel_rfl) (by kernel_rfl)
  rw [e2] at hv2
  exact ⟨hv0, hv1, hv2⟩

theorem grel {W : World} {S : Nat → Prop} (h0 : W.var? Tryz.prog "loop.example/g01543/impl.keywords" = some (strCells tab_keywords)) (h1 : W.var? Tryz.prog "loop.example/g01543/impl.signs" = some (strCells tab_signs)) (h2 : W.var? Tryz.prog "loop.example/g01543/impl.builtins" = some (strCells tab_builtins)) (s0 : S 1) (s1 : S 2) (s2 : S 0) : GRel (GS [0, 1, 2]) S W := by
  intro g cs hg
  have hc : ([0, 1, 2] : List Nat).contains g = true := by
    cases h : ([0, 1, 2] : List Nat).contains g with
    | true => rfl
    | false => unfold GS at hg; rw [h] at hg; cases hg
  have hm := List.contains_iff_mem.1 hc
  simp only [List.mem_cons, List.mem_nil_iff, or_false] at hm
  rcases hm with rfl | rfl | rfl
  · obtain rfl := Option.some.inj ((show GS [0, 1, 2] 0 = some (tab_builtins.map V.s) by kernel_rfl).symm.trans hg)
    exact el_of_var (show Tryz.prog.globalNamed "loop.example/g01543/impl.builtins" = some 0 by kernel_rfl) h2 s2
  · obtain rfl := Option.some.inj ((show GS [0, 1, 2] 1 = some (tab_keywords.map V.s) by kernel_rfl).symm.trans hg)
    exact el_of_var (show Tryz.prog.globalNamed "loop.example/g01543/impl.keywords" = some 1 by kernel_rfl) h0 s0
  · obtain rfl := Option.some.inj ((show GS [0, 1, 2] 2 = some (tab_signs.map V.s) by kernel_rfl).symm.trans hg)
    exact el_of_var (show Tryz.prog.globalNamed "loop.example/g01543/impl.signs" = some 2 by kernel_rfl) h1 s1

theorem lifted (os : Os) (started : os.Started) (H : Type) (enc : TypeId × Value → H) :
    ReturnsInHanded {} Tryz.checked os 5 .any (fun w args => (Rows.fnExactMatchSpec.pre enc Tryz.prog Tryz.f5 Rows.fnExactMatchRow.domain false w args ∧ laidMetH Tryz.prog lay w) ∧ sizedMet enc Tryz.prog Tryz.f5 (OpenSpec.ofChange Rows.fnExactMatchSpec) false w args) (Rows.fnExactMatchSpec.post enc Tryz.prog Tryz.f5 false true false false) := by
  refine returnsInHanded_of_change_and (C := Tryz.checked) (X := fun w _ => laidMetH Tryz.prog lay w) (fun _ _ _ hh h => h.of_heap hh) own started (by kernel_rfl) Tryz.func5
    (ChangeSpec.witness_at (enc := enc) (C := Tryz.checked) (os := os) (X := fun w _ => laidMetH Tryz.prog lay w) false (World.laidAll Tryz.prog os lay) #[.slice none 0 0, .slice none 0 0] 12 (World.laidAll_os _ _ _) (by kernel_rfl) (by kernel_rfl) (by kernel_rfl) (by kernel_rfl) (by kernel_rfl)
      (by rw [MakeChecks.laidMetH_plain _ _ _ (by kernel_rfl)]; exact laidMet_laidAll _ (by kernel_rfl) (by kernel_rfl))) ?_
  intro W base args ds gs before hval0 hW hcnd _ hL _
  have hval : ∀ (j : Nat) t v, Tryz.f5.params[j]? = some t → args[j]? = some v → Value.okWide Tryz.prog W .any base t v := hval0
  have hW' := hW
  obtain ⟨p, q, hA0, hV0, rfl, hfz, hnd⟩ := hW
  have hA : DataW.TrodAll enc Tryz.prog W 0 (fun _ => true) true Tryz.f5.params.toList args.toList ds p := hA0
  have hV : DataW.TrodVars enc Tryz.prog W (fun _ => true) ["loop.example/g01543/impl.keywords", "loop.example/g01543/impl.builtins", "loop.example/g01543/impl.signs"] gs q := hV0
  rw [Tryz.params5] at hA hval
  have hA1 := hA
  obtain ⟨v0, vs0, d0, ds0, p0, q0, hargs, rfl, rfl, h0, r0⟩ := trodAll_cons hA
  obtain ⟨v1, vs1, d1, ds1, p1, q1, rfl, rfl, rfl, h1, r1⟩ := trodAll_cons r0
  obtain ⟨rfl, rfl, rfl⟩ := trodAll_nil r1
  obtain rfl : args = #[v0, v1] := by cases args; simp_all
  have hA2 : DataW.TrodAll enc Tryz.prog W 0 (fun _ => true) true [28, 28] [v0, v1] [d0, d1] (p0 ++ (p1 ++ [])) := hA1
  have hgl := vars_len hV
  obtain ⟨y0, y1, y2, rfl⟩ : ∃ y0 y1 y2, gs = [y0, y1, y2] := by
    match gs, hgl with
    | [y0, y1, y2], _ => exact ⟨y0, y1, y2, rfl⟩
  obtain ⟨fu0, hf0⟩ := h0
  obtain ⟨a0, k0, c0⟩ := (Reader.slice Tryz.underlying28 read63 5 (by kernel_rfl) (by decide) (fun _ => rfl)) enc W fu0 _ _ hf0
  obtain ⟨s0, l0, m0, rfl⟩ := okWide_slice Tryz.underlying28 (hval 0 28 v0 rfl rfl)
  obtain ⟨fu1, hf1⟩ := h1
  obtain ⟨a1, k1, c1⟩ := (Reader.slice Tryz.underlying28 read63 5 (by kernel_rfl) (by decide) (fun _ => rfl)) enc W fu1 _ _ hf1
  obtain ⟨s1, l1, m1, rfl⟩ := okWide_slice Tryz.underlying28 (hval 1 28 v1 rfl rfl)
  have htab := tables hL
  have tv0 := htab.1
  have tv1 := htab.2.1
  have tv2 := htab.2.2
  have hlt : ∀ b, (fun b => blocksOf (p0 ++ (p1 ++ [])) b ∨ b = 1 ∨ b = 2 ∨ b = 0) b → b < W.heap.size := by
    intro b hb
    rcases hb with ⟨m, hm, rfl⟩ | rfl | rfl | rfl
    · exact DataW.TrodAll.lt hA1 m (by simpa using hm)
    · exact var_lt (show Tryz.prog.globalNamed "loop.example/g01543/impl.keywords" = some 1 by kernel_rfl) tv0
    · exact var_lt (show Tryz.prog.globalNamed "loop.example/g01543/impl.signs" = some 2 by kernel_rfl) tv1
    · exact var_lt (show Tryz.prog.globalNamed "loop.example/g01543/impl.builtins" = some 0 by kernel_rfl) tv2
  obtain ⟨N, hN⟩ := plain a0 a1 k0 k1
  refine (AC.belowG (ml_FnExactMatch_ok N a0 a1 hN) (fun b => blocksOf (p0 ++ (p1 ++ [])) b ∨ b = 1 ∨ b = 2 ∨ b = 0) hlt (grel tv0 tv1 tv2 (.inr (.inl rfl)) (.inr (.inr (.inl rfl))) (.inr (.inr (.inr rfl)))) rfl fun i x hx => ?_).mono ?_
  · match i with
    | 0 =>
      simp only [List.getElem?_cons_succ, List.getElem?_cons_zero, Option.some.injEq] at hx
      subst hx
      exact argOne rfl (c0 _ fun p hp => (.inl ⟨p, by simp [hp], rfl⟩))
    | 1 =>
      simp only [List.getElem?_cons_succ, List.getElem?_cons_zero, Option.some.injEq] at hx
      subst hx
      exact argOne rfl (c1 _ fun p hp => (.inl ⟨p, by simp [hp], rfl⟩))
    | i + 2 => simp at hx
  · rintro e W' ⟨x, S', rfl, hx, hb⟩
    have hxt := hx.c_inv
    subst hxt
    exact ⟨_, rfl, Av.post_of_below (pa := (p0 ++ (p1 ++ []))) (pv := q) hW' (fun _ _ _ => (trodAll_cons_mk (shut_bool Tryz.underlying4 _) trodAll_mk0))
      (fun sp hsp => args_kept kids full hb (by decide +kernel) hA2 (fun m hm => hsp m (by simp only [List.mem_append]; exact .inl (by simpa using hm)))) (fun sp hsp => vars_kept laidOut hb (by kernel_rfl) hV (fun m hm => hsp m (by simp [hm]))) (by simp) hb (ok_one (by kernel_rfl) rfl (okWide_bool_mk Tryz.underlying4 _))⟩

theorem over : Rows.fnExactMatchRow.holds Tryz.pinned (OpenSpec.ofChange Rows.fnExactMatchSpec) :=
  OpenClaim.holds_of_wide 5 Tryz.f5 rfl rfl rfl rfl rfl rfl rfl ⟨rfl, rfl, rfl, rfl, rfl⟩ rfl rfl rfl rfl rfl (by kernel_rfl) Tryz.func5 (by kernel_rfl)
    (of_decide_eq_true (by kernel_rfl)) (by unfold Func.isWrapper; first | (rw [if_pos (by decide +kernel)]; kernel_rfl) | (rw [if_neg (by decide +kernel)]; exact ⟨rfl, rfl⟩))
    (fun os started H enc _ => lifted os started H enc)

/-- the statement -/
theorem proved : Rows.FnExactMatchCardSaid :=
  Claim7.holds_tied_plain_at .later [] [.widerDeep, .data, .widerDeep] true (true, "ef8a1205a7b9ff090898b265bc3b829ec6e7d3564ce2b53f0d5a610a0b663c7a") false
    over (fun _ h => by cases h) (by kernel_rfl) (fun _ h => by cases h) fnExactMatch_row_tie rfl ⟨rfl, rfl⟩ (by kernel_rfl) rfl
    (fun f fn hf hfn => by
      obtain rfl : f = 5 := Option.some.inj ((show Tryz.prog.funcNamed "loop.example/g01543/laws.FnExactMatch" = some 5 by kernel_rfl).symm.trans hf) |>.symm
      obtain rfl : fn = Tryz.f5 := (Option.some.inj (Tryz.func5.symm.trans hfn)).symm
      exact ⟨by kernel_rfl, fun j t ht => by
        rw [Tryz.params5] at ht
        have hm : t ∈ [28, 28] := by simpa using Array.mem_of_getElem? ht
        have hall : ([28, 28].all fun u => !Tryz.prog.wantsStandIn u) = true := by kernel_rfl
        exact (show Tryz.prog.wantsStandIn t = false by simpa using List.all_eq_true.1 hall t hm)⟩)
    (by kernel_rfl)
#print axioms proved
end Go.Proofs.YtllanibkffnogaaGreatDoor.fnExactMatch
