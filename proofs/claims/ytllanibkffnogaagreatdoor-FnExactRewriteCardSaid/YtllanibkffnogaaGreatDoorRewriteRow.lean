/-
  ExactRewrite: for all arguments the law returns true: the program's function returns what the reference's returns.
  The tables that the row lists are tied to the program's text.
-/
import Derived.Test.YtllanibkffnogaaGreatDoorRows
import Derived.Test.YtllanibkffnogaaGreatDoorCards
import Derived.Test.YtllanibkffnogaaGreatDoorTie
import Derived.WalkKit
import Derived.ProofKit
import Derived.OpenShut
import Derived.Lay
import Derived.MakeChecks
import Derived.SevenTiedAt
import Derived.Test.YtllanibkffnogaaGreatDoorRwXW4
import Derived.Test.YtllanibkffnogaaGreatDoorRwXP5
import Derived.Test.YtllanibkffnogaaGreatDoorXCore5
namespace Go.Proofs.YtllanibkffnogaaGreatDoor.fnExactRewrite
open Go.ChangeShapes Go.WideShapes Go.ChangeAt Go.RowKit Go.Av Go.Proofs.Tryz
set_option linter.unusedVariables false
set_option linter.unusedSimpArgs false
set_option maxRecDepth 100000

theorem own : ownKnob Tryz.prog.godebug = none := by kernel_rfl
theorem laidOut : laidOutB Tryz.prog = true := by kernel_rfl

/-- what is known of it -/
def ok63 (x : SNode) : Prop := ((Lit.int .i64 x.Kind).wf = true) ∧ ((Lit.int .i64 x.Op).wf = true) ∧ (x.Text.length ≤ maxLen) ∧ (x.Other.length ≤ maxLen) ∧ ((∀ z, z ∈ x.Kids → ((Lit.int .i64 z).wf = true)) ∧ x.Kids.length ≤ maxLen)

theorem read63 : Reader Tryz.prog 63 (eSN false) ok63 := by
  intro H e w fuel cs x h
  obtain ⟨xs, n, rfl, rfl, hl, hxl, hf⟩ := DataW.trod_struct Tryz.underlying63 h
  have hl : cs.length = 5 := hl.trans (by kernel_rfl)
  have hxl : xs.length = 5 := hxl
  obtain ⟨y0, e0⟩ : ∃ y, xs[0]? = some y := ⟨_, List.getElem?_eq_getElem (by omega)⟩
  have h0 : DataW.trod e Tryz.prog w 0 (fun _ => true) true n 3 ((cs.drop 0).take (Tryz.prog.cellsOf 3)) = some y0 := (hf 0 _ rfl).trans e0
  have c0 : Tryz.prog.cellsOf 3 = 1 := by kernel_rfl
  rw [c0] at h0
  obtain ⟨a0, k0, r0⟩ := (Reader.i64 Tryz.underlying3) e w n _ _ h0
  obtain ⟨y1, e1⟩ : ∃ y, xs[1]? = some y := ⟨_, List.getElem?_eq_getElem (by omega)⟩
  have h1 : DataW.trod e Tryz.prog w 0 (fun _ => true) true n 3 ((cs.drop 1).take (Tryz.prog.cellsOf 3)) = some y1 := (hf 1 _ rfl).trans e1
  have c1 : Tryz.prog.cellsOf 3 = 1 := by kernel_rfl
  rw [c1] at h1
  obtain ⟨a1, k1, r1⟩ := (Reader.i64 Tryz.underlying3) e w n _ _ h1
  obtain ⟨y2, e2⟩ : ∃ y, xs[2]? = some y := ⟨_, List.getElem?_eq_getElem (by omega)⟩
  have h2 : DataW.trod e Tryz.prog w 0 (fun _ => true) true n 9 ((cs.drop 2).take (Tryz.prog.cellsOf 9)) = some y2 := (hf 2 _ rfl).trans e2
  have c2 : Tryz.prog.cellsOf 9 = 1 := by kernel_rfl
  rw [c2] at h2
  obtain ⟨a2, k2, r2⟩ := (Reader.str Tryz.underlying9) e w n _ _ h2
  obtain ⟨y3, e3⟩ : ∃ y, xs[3]? = some y := ⟨_, List.getElem?_eq_getElem (by omega)⟩
  have h3 : DataW.trod e Tryz.prog w 0 (fun _ => true) true n 9 ((cs.drop 3).take (Tryz.prog.cellsOf 9)) = some y3 := (hf 3 _ rfl).trans e3
  have c3 : Tryz.prog.cellsOf 9 = 1 := by kernel_rfl
  rw [c3] at h3
  obtain ⟨a3, k3, r3⟩ := (Reader.str Tryz.underlying9) e w n _ _ h3
  obtain ⟨y4, e4⟩ : ∃ y, xs[4]? = some y := ⟨_, List.getElem?_eq_getElem (by omega)⟩
  have h4 : DataW.trod e Tryz.prog w 0 (fun _ => true) true n 30 ((cs.drop 4).take (Tryz.prog.cellsOf 30)) = some y4 := (hf 4 _ rfl).trans e4
  have c4 : Tryz.prog.cellsOf 30 = 1 := by kernel_rfl
  rw [c4] at h4
  obtain ⟨a4, k4, r4⟩ := (Reader.slice Tryz.underlying30 (Reader.i64 Tryz.underlying3) 1 (by kernel_rfl) (by decide) (fun _ => rfl)) e w n _ _ h4
  refine ⟨⟨a0, a1, a2, a3, a4⟩, ⟨k0, k1, k2, k3, k4⟩, fun S hS => ?_⟩
  have hcs : cs = (cs.drop 0).take 1 ++ ((cs.drop 1).take 1 ++ ((cs.drop 2).take 1 ++ ((cs.drop 3).take 1 ++ ((cs.drop 4).take 1 ++ [])))) := by
    match cs, hl with
    | [x0, x1, x2, x3, x4], _ => rfl
  rw [hcs]
  exact CellsR.append (r0 S fun p hp => hS p (List.mem_flatMap.2 ⟨y0, List.mem_of_getElem? e0, hp⟩)) (CellsR.append (r1 S fun p hp => hS p (List.mem_flatMap.2 ⟨y1, List.mem_of_getElem? e1, hp⟩)) (CellsR.append (r2 S fun p hp => hS p (List.mem_flatMap.2 ⟨y2, List.mem_of_getElem? e2, hp⟩)) (CellsR.append (r3 S fun p hp => hS p (List.mem_flatMap.2 ⟨y3, List.mem_of_getElem? e3, hp⟩)) (CellsR.append (r4 S fun p hp => hS p (List.mem_flatMap.2 ⟨y4, List.mem_of_getElem? e4, hp⟩)) (CellsR.nil)))))

/-! ### a tree with its holes filled -/
mutual
def fillT (g : List SFilling) : STree → STree
  | ⟨k, o, x, y, ks⟩ => if hB k x = true then (match g.find? (fun f => f.name == x) with | some f => f.tree | none => ⟨k, o, x, y, ks⟩) else ⟨k, o, x, y, fillTs g ks⟩
def fillTs (g : List SFilling) : List STree → List STree
  | [] => []
  | t :: ts => fillT g t :: fillTs g ts
end
theorem fillTs_len (g : List SFilling) : ∀ ts : List STree, (fillTs g ts).length = ts.length
  | [] => rfl
  | t :: ts => by rw [fillTs, List.length_cons, fillTs_len g ts, List.length_cons]
mutual
theorem szT_fill (g : List SFilling) (hg : ∀ f, f ∈ g → szT f.tree ≤ 400) : ∀ t : STree, szT (fillT g t) ≤ 400 * szT t
  | ⟨k, o, x, y, ks⟩ => by
    rw [fillT]
    have hs : szT ⟨k, o, x, y, ks⟩ = szTs ks + 1 := szT_eq _
    split
    · split
      · rename_i f hf
        have := hg f (List.mem_of_find?_eq_some hf)
        omega
      · omega
    · have := szTs_fill g hg ks
      rw [szT_eq]
      simp only
      omega
theorem szTs_fill (g : List SFilling) (hg : ∀ f, f ∈ g → szT f.tree ≤ 400) : ∀ ts : List STree, szTs (fillTs g ts) ≤ 400 * szTs ts
  | [] => by simp [fillTs, szTs]
  | t :: ts => by
    rw [fillTs, szTs, szTs]
    have := szT_fill g hg t
    have := szTs_fill g hg ts
    omega
end
theorem txT_parts {k o : Int} {x y : List UInt8} {ks : List STree} (h : txT ⟨k, o, x, y, ks⟩) : (∀ t, t ∈ ks → txT t) ∧ x.length ≤ 1048576 ∧ y.length ≤ 1048576 := by
  have hk : ∀ (ts : List STree) (b : Nat), (∀ z, z ∈ lsts b ts → tx z) → ∀ t, t ∈ ts → txT t := by
    intro ts
    induction ts with
    | nil => intro b _ t ht; cases ht
    | cons u ts ih =>
      intro b hz t ht
      rw [lsts] at hz
      rcases List.mem_cons.1 ht with rfl | ht
      · intro z hzz
        have e := lst_sh t 0 b
        rw [Nat.zero_add] at e
        have := hz (shN (b : Int) z) (List.mem_append.2 (.inl (by rw [e]; exact List.mem_map_of_mem hzz)))
        exact this
      · exact ih _ (fun z hzz => hz z (List.mem_append.2 (.inr hzz))) t ht
  have hall : ∀ z, z ∈ lsts 0 ks ++ [(⟨k, o, x, y, endsT 0 ks⟩ : SNode)] → tx z := fun z hz => h z (by rw [lst]; exact hz)
  have hlast := hall ⟨k, o, x, y, endsT 0 ks⟩ (by simp)
  exact ⟨hk ks 0 fun z hz => hall z (List.mem_append.2 (.inl hz)), hlast.1, hlast.2⟩
mutual
theorem txT_fill (g : List SFilling) (hg : ∀ f, f ∈ g → txT f.tree) : ∀ t : STree, txT t → txT (fillT g t)
  | ⟨k, o, x, y, ks⟩, h => by
    rw [fillT]
    split
    · split
      · rename_i f hf
        exact hg f (List.mem_of_find?_eq_some hf)
      · exact h
    · obtain ⟨h1, h2, h3⟩ := txT_parts h
      exact txT_mk (txTs_fill g hg ks h1) h2 h3
theorem txTs_fill (g : List SFilling) (hg : ∀ f, f ∈ g → txT f.tree) : ∀ ts : List STree, (∀ t, t ∈ ts → txT t) → ∀ t, t ∈ fillTs g ts → txT t
  | [], _, t, ht => by rw [fillTs] at ht; cases ht
  | u :: ts, h, t, ht => by
    rw [fillTs] at ht
    rcases List.mem_cons.1 ht with rfl | ht
    · exact txT_fill g hg u (h u (by simp))
    · exact txTs_fill g hg ts (fun v hv => h v (by simp [hv])) t ht
end

theorem filled_l1 (M : Nat) (g : List SFilling) (t : STree) (hm : g.length ≤ 1048576) : ∀ (n i : Nat), g.length - i < n → i ≤ g.length →
    mi_tree__filled_l1 M (scc9 M) n (g, t, (i : Int)) = some (match (g.drop i).find? (fun f => f.name == t.text) with
      | some f => f.tree
      | none => t) := by
  intro n
  induction n with
  | zero => intro i h; omega
  | succ n ih =>
    intro i hn hi
    rw [mi_tree__filled_l1]
    by_cases h : i < g.length
    · simp only [lt_true h, cond_true, ix_nat h, Option.bind_some]
      rw [drop_cons h, List.find?_cons, step64 h (by simp only [maxLen]; omega)]
      cases (g[i].name == t.text) with
      | true => rfl
      | false =>
        simp only [cond_false]
        exact ih (i + 1) (by omega) (by omega)
    · simp only [lt_false h, cond_false]
      rw [drop_nil h]
      rfl

theorem filled_l2 (M : Nat) (g : List SFilling) (t : STree) (ht : t.kids.length ≤ 100000) (ih : ∀ k, k ∈ t.kids → (scc9 M).mi_tree__filled k g = some (fillT g k)) : ∀ (ts : List STree) (n j : Nat) (acc : List STree), t.kids.drop j = ts → ts.length < n → acc.length ≤ j → j ≤ t.kids.length →
    mi_tree__filled_l2 M (scc9 M) n (g, t, (j : Int), acc) = some ⟨t.kind, t.op, t.text, t.other, acc ++ fillTs g ts⟩
  | [], n, j, acc, hd, hn, ha, hj => by
    obtain ⟨n, rfl⟩ : ∃ m, n = m + 1 := ⟨n - 1, by simp at hn; omega⟩
    have hlt : ¬ j < t.kids.length := by
      intro h
      rw [drop_cons h] at hd
      cases hd
    rw [mi_tree__filled_l2]
    simp only [lt_false hlt, cond_false, mi_tree__with, Option.bind_some, fillTs, List.append_nil]
  | k :: ts, n, j, acc, hd, hn, ha, hj => by
    simp only [List.length_cons] at hn
    obtain ⟨n, rfl⟩ : ∃ m, n = m + 1 := ⟨n - 1, by omega⟩
    have hlt : j < t.kids.length := by
      cases Nat.lt_or_ge j t.kids.length with
      | inl h => exact h
      | inr h => rw [List.drop_of_length_le h] at hd; cases hd
    rw [drop_cons hlt] at hd
    injection hd with hd1 hd2
    rw [mi_tree__filled_l2]
    simp only [lt_true hlt, cond_true, ix_nat hlt, Option.bind_some, ih _ (List.getElem_mem hlt)]
    rw [app_some (by simp; omega), Option.bind_some, step64 hlt (by simp only [maxLen]; omega)]
    have := filled_l2 M g t ht ih ts n (j + 1) (acc ++ [fillT g t.kids[j]]) hd2 (by omega) (by simp; omega) (by omega)
    refine Eq.trans this ?_
    rw [← hd1, fillTs, List.append_assoc]
    rfl

theorem filled_is (g : List SFilling) (hm : g.length ≤ 1000) : ∀ (t : STree) (N : Nat), 2 * szT t + 2 + 1000 ≤ N → szT t ≤ 100000 → (scc9 N).mi_tree__filled t g = some (fillT g t) := by
  intro t
  induction t using STree.ind with
  | h t ih =>
    intro N hN hsz
    obtain ⟨M, rfl⟩ : ∃ M, N = M + 1 := ⟨N - 1, by omega⟩
    have hs := szT_eq t
    have htl := szTs_len t.kids
    show mi_tree__filled_F M (scc9 M) t g = _
    unfold mi_tree__filled_F
    rw [isHoleT, Option.bind_some]
    have h1 := filled_l1 M g t (by omega) M 0 (by omega) (by omega)
    have h2 := filled_l2 M g t (by omega) (fun k hk => ih k hk M (by have := szTs_mem hk; omega) (by have := szTs_mem hk; omega)) t.kids M 0 [] rfl (by omega) (by simp) (by omega)
    obtain ⟨k, o, x, y, ks⟩ := t
    rw [fillT]
    simp only at h1 h2 ⊢
    cases hh : hB k x with
    | true =>
      rw [cond_true, if_pos rfl]
      refine Eq.trans h1 ?_
      rw [List.drop_zero]
    | false =>
      rw [cond_false, if_neg (by simp)]
      exact h2

theorem i64_lst (t : STree) (h : szT t ≤ 1000000) : ∀ x, x ∈ lst 0 t → i64N x := fun x hx k hk => by
  have := lst_range t 0 x hx k hk
  omega

theorem fillS_l2 (M : Nat) (r : List SNode) (g : List SFilling) (t : STree) (n : SNode) (i : Nat) (hr : r[i]? = some n) {s e : Nat} (hk : KA r t.kids n.Kids s e) (hM : 1048577 < M) (hl : t.kids.length ≤ 100000) (hsz : szTs (fillTs g t.kids) ≤ 900000)
    (ih : ∀ k, k ∈ t.kids → ∀ s' i' : Nat, TA r k s' i' → (scc2 M).ms_l32Fill r (i' : Int) (HF g) = some (lst 0 (fillT g k))) : ∀ (ts : List STree) (f j : Nat) (acc : List STree), t.kids.drop j = ts → ts.length < f → acc.length ≤ j → j ≤ t.kids.length → acc ++ fillTs g ts = fillTs g t.kids →
    ms_l32Fill_l2 M (scc2 M) (HF g) f (r, (i : Int), (j : Int), acc.map (lst 0)) = some (lst 0 ⟨n.Kind, n.Op, n.Text, n.Other, fillTs g t.kids⟩)
  | [], f, j, acc, hd, hf, ha, hj, he => by
    obtain ⟨f, rfl⟩ : ∃ m, f = m + 1 := ⟨f - 1, by simp at hf; omega⟩
    have hkl : n.Kids.length = t.kids.length := by rw [hk.part.2.2.2, endsT_len]
    have hlt : ¬ j < n.Kids.length := by
      intro h
      rw [drop_cons (by omega)] at hd
      cases hd
    rw [fillTs, List.append_nil] at he
    subst he
    rw [ms_l32Fill_l2]
    simp only [ix_get hr, Option.bind_some, lt_false hlt, cond_false, make_is M n _ hM hsz]
  | k :: ts, f, j, acc, hd, hf, ha, hj, he => by
    simp only [List.length_cons] at hf
    obtain ⟨f, rfl⟩ : ∃ m, f = m + 1 := ⟨f - 1, by omega⟩
    have hlt : j < t.kids.length := by
      cases Nat.lt_or_ge j t.kids.length with
      | inl h => exact h
      | inr h => rw [List.drop_of_length_le h] at hd; cases hd
    have hkl : n.Kids.length = t.kids.length := by rw [hk.part.2.2.2, endsT_len]
    have hlt2 : j < n.Kids.length := by omega
    rw [drop_cons hlt] at hd
    injection hd with hd1 hd2
    obtain ⟨i', s', e1, ta, _⟩ := hk.get j t.kids[j] (List.getElem?_eq_getElem hlt)
    rw [ms_l32Fill_l2]
    simp only [ix_get hr, Option.bind_some, lt_true hlt2, cond_true, ix_get e1, ih _ (List.getElem_mem hlt) s' i' ta]
    rw [app_some (by simp; omega), Option.bind_some, step64 hlt2 (by simp only [maxLen]; omega)]
    have e : acc.map (lst 0) ++ [lst 0 (fillT g t.kids[j])] = (acc ++ [fillT g t.kids[j]]).map (lst 0) := by simp
    rw [e]
    refine fillS_l2 M r g t n i hr hk hM hl hsz ih ts f (j + 1) _ hd2 (by omega) (by simp; omega) (by omega) ?_
    rw [← he, ← hd1, fillTs, List.append_assoc]
    rfl

theorem fillS_is (r : List SNode) (g : List SFilling) (hm : g.length ≤ 1000) (hg : ∀ f, f ∈ g → szT f.tree ≤ 400 ∧ txT f.tree) (hnk : ∀ x, x ∈ r → x.Kind = 1 → x.Kids = []) : ∀ (t : STree) (s i N : Nat), TA r t s i → szT t ≤ 400 → 1048577 + 1000 + 2 * szT t ≤ N →
    (scc2 N).ms_l32Fill r (i : Int) (HF g) = some (lst 0 (fillT g t)) := by
  intro t
  induction t using STree.ind with
  | h t ih =>
    intro s i N hp hsz hN
    obtain ⟨M, rfl⟩ : ∃ M, N = M + 1 := ⟨N - 1, by omega⟩
    have hs := szT_eq t
    have htl := szTs_len t.kids
    obtain ⟨n, hn, n1, n2, n3, n4, nk, nkl⟩ := hp.node
    have hf := szTs_fill g (fun f hf => (hg f hf).1) t.kids
    have hloop := fillS_l2 M r g t n i hn nk (by omega) (by omega) (by omega) (fun k hk s' i' ta => ih k hk s' i' M ta (by have := szTs_mem hk; omega) (by have := szTs_mem hk; omega)) t.kids M 0 [] rfl (by omega) (by simp) (by omega) rfl
    show ms_l32Fill_F M (scc2 M) r (i : Int) (HF g) = _
    unfold ms_l32Fill_F ms_l32Fill_k1
    rw [ix_get hn]
    simp only [Option.bind_some, isHole_spec]
    obtain ⟨k, o, x, y, ks⟩ := t
    simp only at n1 n2 n3 n4 nk nkl hloop
    subst n1 n2 n3 n4
    rw [fillT]
    cases hh : hB n.Kind n.Text with
    | true =>
      simp only [cond_true, of_is M g n.Text (by omega) (by omega), Option.bind_some, if_pos]
      cases hfd : g.find? (fun f => f.name == n.Text) with
      | some f =>
        obtain ⟨f1, f2⟩ := hg f (List.mem_of_find?_eq_some hfd)
        have hp1 := szT_pos f.tree
        have hlen : decide (((lst 0 f.tree).length : Int) > 0) = true := by rw [lst_len]; simp; omega
        simp only [cond_true, Option.bind_some, hlen]
        rw [copy_is M _ (by omega) (by rw [lst_len]; omega) (small_of (by omega) f2 0) (i64_lst _ (by omega)), Option.bind_some]
      | none =>
        simp only [cond_false, Option.bind_some]
        have hk1 : n.Kind = 1 := by
          unfold hB at hh
          simp only [Bool.and_eq_true, beq_iff_eq] at hh
          exact hh.1
        have hk0 : ks = [] := by
          have := hnk n (List.mem_of_getElem? hn) hk1
          rw [this] at nkl
          exact List.length_eq_zero_iff.1 nkl
        subst hk0
        rw [fillTs] at hloop
        exact hloop
    | false =>
      rw [cond_false, if_neg (by simp)]
      exact hloop

theorem size_l (G : Nat) (t : STree) (ht : szT t ≤ 1000000) (ih : ∀ k, k ∈ t.kids → (scc6 G).mi_tree__size k = some (szT k : Int)) : ∀ (ts : List STree) (n j m : Nat), t.kids.drop j = ts → ts.length < n → j ≤ t.kids.length → m + szTs ts ≤ 1000000 →
    mi_tree__size_l1 G (scc6 G) n (t, (m : Int), (j : Int)) = some ((m + szTs ts : Nat) : Int)
  | [], n, j, m, hd, hn, hj, hm => by
    obtain ⟨n, rfl⟩ : ∃ q, n = q + 1 := ⟨n - 1, by simp at hn; omega⟩
    have hlt : ¬ j < t.kids.length := by
      intro h
      rw [drop_cons h] at hd
      cases hd
    rw [mi_tree__size_l1]
    simp only [lt_false hlt, cond_false, szTs, Nat.add_zero]
  | k :: ts, n, j, m, hd, hn, hj, hm => by
    simp only [List.length_cons] at hn
    rw [szTs] at hm
    obtain ⟨n, rfl⟩ : ∃ q, n = q + 1 := ⟨n - 1, by omega⟩
    have hlt : j < t.kids.length := by
      cases Nat.lt_or_ge j t.kids.length with
      | inl h => exact h
      | inr h => rw [List.drop_of_length_le h] at hd; cases hd
    have htl := szTs_len t.kids
    have hs := szT_eq t
    rw [drop_cons hlt] at hd
    injection hd with hd1 hd2
    rw [mi_tree__size_l1]
    simp only [lt_true hlt, cond_true, ix_nat hlt, Option.bind_some, hd1, ih k (by rw [← hd1]; exact List.getElem_mem hlt)]
    rw [wrap64 (n := (m : Int) + (szT k : Int)) (by omega) (by omega), step64 hlt (by simp only [maxLen]; omega)]
    have := size_l G t ht ih ts n (j + 1) (m + szT k) hd2 (by omega) (by omega) (by omega)
    refine Eq.trans this ?_
    rw [szTs, Nat.add_assoc]

theorem size_is : ∀ (t : STree) (N : Nat), 2 * szT t + 2 ≤ N → szT t ≤ 1000000 → (scc6 N).mi_tree__size t = some (szT t : Int) := by
  intro t
  induction t using STree.ind with
  | h t ih =>
    intro N hN hsz
    obtain ⟨M, rfl⟩ : ∃ M, N = M + 1 := ⟨N - 1, by omega⟩
    have hs := szT_eq t
    have htl := szTs_len t.kids
    have := size_l M t hsz (fun k hk => ih k hk M (by have := szTs_mem hk; omega) (by have := szTs_mem hk; omega)) t.kids M 0 1 rfl (by omega) (by omega) (by omega)
    refine Eq.trans this ?_
    rw [hs, Nat.add_comm]

/-! ### a node turned -/
abbrev edR (M : Nat) (a : List SNode) (k : Int) (f : Bool) (p r : STree) : Option (List STree × Bool) :=
  (scc10 M).mi_edited a k f p.kind p.op p.text p.other p.kids r.kind r.op r.text r.other r.kids
abbrev doR (M : Nat) (k : Int) (t : STree) (f : Bool) (p r : STree) : Option (List STree × Bool) :=
  mi_Rewrite_1 M k t f p.kind p.op p.text p.other p.kids r.kind r.op r.text r.other r.kids
/-- what the reference makes of a node over its parts -/
def restS (N : Nat) (p r x : List SNode) : Option (List SNode) :=
  Option.bind (ms_l32At N p (IntKind.wrap .i64 ((p.length : Int) - 1)) x (IntKind.wrap .i64 ((x.length : Int) - 1)) []) fun q => bif q.2 then Option.bind (ms_l32Fill N r (IntKind.wrap .i64 ((r.length : Int) - 1)) q.1) fun y => (bif (decide ((y.length : Int) > 400)) then some [] else (some y)) else (bif (decide ((x.length : Int) > 400)) then some [] else (some x))

/-- what is known of the pattern and of what comes in its place -/
structure PRk (p r : List SNode) (tp tr : STree) : Prop where
  htp : TA p tp 0 (p.length - 1)
  p1 : 1 ≤ p.length
  p2 : p.length ≤ 400
  htr : TA r tr 0 (r.length - 1)
  r1 : 1 ≤ r.length
  r2 : r.length ≤ 400
  rx : txT tr
  nk : ∀ x, x ∈ r → x.Kind = 1 → x.Kids = []

theorem eta_tree (t : STree) : (⟨t.kind, t.op, t.text, t.other, t.kids⟩ : STree) = t := by cases t; rfl

theorem doR_ex {p r : List SNode} {tp tr : STree} (h : PRk p r tp tr) (N : Nat) (k : Int) (t : STree) (f : Bool) (hN : 1048577 + 3000 < N) (hsz : szT t ≤ 500000) (htx : txT t) :
    ∃ u f', doR N k t f tp tr = some ([u], f') ∧ (f' = true → f = true ∧ szT u ≤ 400 ∧ szT t ≤ 400) ∧ (f = true → szT t ≤ 400 → restS N p r (lst 0 t) = some (if f' = true then lst 0 u else [])) ∧ (f = false → u = t) ∧ (szT t > 400 → u = t) ∧ szT u ≤ szT t + 160000 ∧ txT u := by
  obtain ⟨h1, p1, p2, h2, r1, r2, rx, nk⟩ := h
  have hp : szT tp ≤ 400 := by have := h1.part.2.1; omega
  have hr : szT tr ≤ 400 := by have := h2.part.2.1; omega
  unfold doR mi_Rewrite_1
  cases f with
  | false =>
    simp only [cond_false, Option.bind_some, Bool.not_false, cond_true]
    exact ⟨t, false, rfl, (fun h => by cases h), (fun h => by cases h), fun _ => rfl, fun _ => rfl, by omega, htx⟩
  | true =>
    have hsi : mi_tree__size N t = some (szT t : Int) := size_is t N (by omega) (by omega)
    simp only [cond_true, hsi, Option.bind_some]
    by_cases hc : szT t ≤ 400
    · have d : decide ((szT t : Int) ≤ 400) = true := by simp; omega
      rw [d]
      simp only [Bool.not_true, cond_false]
      have hsm := small_of (t := t) (by omega) htx 0
      obtain ⟨g, b, hh, c1, c2, c3⟩ := match_ex p (lst 0 t) hsm (shapeB_lst t hc) tp t 0 (p.length - 1) 0 ((lst 0 t).length - 1) N [] h1 (TA_self t) (fun f hf => by cases hf) (by simp; omega) (by omega) hp
      have d1 : mi_tree__matches N tp t [] = some (g, b) := c1
      have hl := szT_pos t
      have d2 : ms_l32At N p (IntKind.wrap .i64 ((p.length : Int) - 1)) (lst 0 t) (IntKind.wrap .i64 (((lst 0 t).length : Int) - 1)) [] = some (hh, b) := by
        rw [lst_len] at c2 ⊢
        rw [wrap64 (by omega) (by omega), wrap64 (by omega) (by omega), show (p.length : Int) - 1 = ((p.length - 1 : Nat) : Int) by omega, show (szT t : Int) - 1 = ((szT t - 1 : Nat) : Int) by omega]
        exact c2
      unfold restS
      rw [d2]
      have d1' : mi_tree__matches N ⟨tp.kind, tp.op, tp.text, tp.other, tp.kids⟩ t [] = some (g, b) := by rw [eta_tree]; exact d1
      rw [d1']
      simp only [Option.bind_some]
      cases b with
      | false =>
        have d3 : decide (((lst 0 t).length : Int) > 400) = false := by rw [lst_len]; simp; omega
        simp only [Bool.not_false, cond_true, cond_false, d3]
        exact ⟨t, true, rfl, fun _ => ⟨by trivial, hc, hc⟩, fun _ _ => (by rw [if_pos rfl]), fun _ => rfl, fun _ => rfl, by omega, htx⟩
      | true =>
        obtain ⟨rfl, gi, gl⟩ := c3 rfl
        have hg : ∀ f, f ∈ g → szT f.tree ≤ 400 ∧ txT f.tree := fun f hf => by
          obtain ⟨_, ⟨s, q, hq⟩, _⟩ := gi f hf
          have h3 := hq.part.2.1
          have h4 := hq.lt
          rw [lst_len] at h4
          exact ⟨by omega, txT_of hsm hq⟩
        have hgl : g.length ≤ 1000 := by simp at gl; omega
        have e1 : mi_tree__filled N tr g = some (fillT g tr) := filled_is g hgl tr N (by omega) (by omega)
        have e1' : mi_tree__filled N ⟨tr.kind, tr.op, tr.text, tr.other, tr.kids⟩ g = some (fillT g tr) := by rw [eta_tree]; exact e1
        have e2 : ms_l32Fill N r (IntKind.wrap .i64 ((r.length : Int) - 1)) (HF g) = some (lst 0 (fillT g tr)) := by
          rw [wrap64 (by omega) (by omega), show (r.length : Int) - 1 = ((r.length - 1 : Nat) : Int) by omega]
          exact fillS_is r g hgl hg nk tr 0 (r.length - 1) N h2 hr (by omega)
        have hfs := szT_fill g (fun f hf => (hg f hf).1) tr
        have e3 : mi_tree__size N (fillT g tr) = some (szT (fillT g tr) : Int) := size_is _ N (by omega) (by omega)
        simp only [Bool.not_true, cond_false, cond_true, e1', e2, e3, Option.bind_some, lst_len]
        refine ⟨fillT g tr, decide ((szT (fillT g tr) : Int) ≤ 400), rfl, fun hf => ⟨by trivial, (by have := of_decide_eq_true hf; omega), hc⟩, fun _ _ => ?_, (fun h => by cases h), (fun h => by omega), by omega, txT_fill g (fun f hf => (hg f hf).2) tr rx⟩
        by_cases hle : szT (fillT g tr) ≤ 400
        · have d4 : decide ((szT (fillT g tr) : Int) ≤ 400) = true := by simp; omega
          have d5 : decide ((szT (fillT g tr) : Int) > 400) = false := by simp; omega
          rw [d4, d5, cond_false, if_pos rfl]
        · have d4 : decide ((szT (fillT g tr) : Int) ≤ 400) = false := by simp; omega
          have d5 : decide ((szT (fillT g tr) : Int) > 400) = true := by simp; omega
          rw [d4, d5, cond_true, if_neg (by simp)]
    · have d : decide ((szT t : Int) ≤ 400) = false := by simp; omega
      rw [d]
      simp only [Bool.not_false, cond_true]
      exact ⟨t, false, rfl, (fun h => by cases h), (fun _ h => by omega), fun _ => rfl, fun _ => rfl, by omega, htx⟩

def Bd (f f' : Bool) : Nat := if f = true ∧ f' = false then 160400 else 0

theorem turn_l {p r : List SNode} {tp tr : STree} (f0 : Bool) (a : List SNode) (M i : Nat) (e : SNode) (he : a[i]? = some e) (hM : 1048577 < M) (hek : e.Kids.length ≤ 400) : ∀ (ts : List STree) (j n n' s : Nat) (acc : List STree) (f : Bool),
    (∀ t, t ∈ ts → ∀ (s k : Nat) (f : Bool), TA a t s k → k < i → ∃ u f', edR M a (k : Int) f tp tr = some ([u], f') ∧ (f' = true → f = true ∧ szT u ≤ 400) ∧ (f = true → (scc3 M).ms_l32Turn a (k : Int) p r = some (if f' = true then lst 0 u else [])) ∧ szT u ≤ 401 * szT t + Bd f f' ∧ txT u) →
    KA a ts (e.Kids.drop j) s i → acc.length ≤ j → j ≤ e.Kids.length → ts.length < n → ts.length < n' → (∀ q, q ∈ acc → txT q) → szTs ts ≤ 400 →
    ∃ res fe, mi_edited_l1 M (scc10 M) f0 tp.kind tp.op tp.text tp.other tp.kids tr.kind tr.op tr.text tr.other tr.kids n (a, (i : Int), e, (j : Int), f, acc) = Option.bind (doR M (i : Int) ⟨e.Kind, e.Op, e.Text, e.Other, acc ++ res⟩ fe tp tr) (fun q => some (q.1, q.2)) ∧
      (fe = true → f = true) ∧ szTs res ≤ 401 * szTs ts + Bd f fe ∧ (∀ q, q ∈ acc ++ res → txT q) ∧
      (f = true → 1 + szTs acc ≤ 400 → ms_l32Turn_l1 M (scc3 M) n' (a, (i : Int), p, r, ((1 + szTs acc : Nat) : Int), (j : Int), acc.map (lst 0)) = if fe = true ∧ 1 + szTs (acc ++ res) ≤ 400 then restS M p r (lst 0 ⟨e.Kind, e.Op, e.Text, e.Other, acc ++ res⟩) else some [])
  | [], j, n, n', s, acc, f, ih, h, ha, hj, hn, hn', htx, hts => by
    simp only [KA] at h
    obtain ⟨n, rfl⟩ : ∃ m, n = m + 1 := ⟨n - 1, by simp at hn; omega⟩
    obtain ⟨n', rfl⟩ : ∃ m, n' = m + 1 := ⟨n' - 1, by simp at hn'; omega⟩
    have hlt : ¬ j < e.Kids.length := by
      intro hlt
      rw [drop_cons hlt] at h
      cases h.1
    refine ⟨[], f, ?_, id, by simp [szTs], by simpa using htx, fun hf hsz => ?_⟩
    · rw [mi_edited_l1]
      simp only [lt_false hlt, cond_false, List.append_nil]
    · rw [ms_l32Turn_l1, List.append_nil, if_pos ⟨hf, hsz⟩]
      simp only [ix_get he, Option.bind_some, lt_false hlt, cond_false, make_is M e acc hM (by omega)]
      rfl
  | t :: ts, j, n, n', s, acc, f, ih, h, ha, hj, hn, hn', htx, hts => by
    simp only [KA] at h
    obtain ⟨k, ks', hd, h1, h2, hta, hka⟩ := h
    simp only [List.length_cons] at hn hn'
    rw [szTs] at hts
    obtain ⟨n, rfl⟩ : ∃ m, n = m + 1 := ⟨n - 1, by omega⟩
    obtain ⟨n', rfl⟩ : ∃ m, n' = m + 1 := ⟨n' - 1, by omega⟩
    have hlt : j < e.Kids.length := by
      cases Nat.lt_or_ge j e.Kids.length with
      | inl h => exact h
      | inr h => rw [List.drop_of_length_le h] at hd; cases hd
    rw [drop_cons hlt] at hd
    injection hd with hd1 hd2
    obtain ⟨u, f1, u1, u2, u3, u4, u5⟩ := ih t (by simp) s k f hta h2
    have hx : ix e.Kids (j : Int) = some (k : Int) := by rw [ix_nat hlt, hd1]
    obtain ⟨res, fe, v1, v2, v3, v4, v5⟩ := turn_l f0 a M i e he hM hek ts (j + 1) n n' (k + 1) (acc ++ [u]) f1 (fun t' h' => ih t' (by simp [h'])) (hd2 ▸ hka) (by simp; omega) (by omega) (by omega) (by omega) (fun q hq => (List.mem_append.1 hq).elim (htx q) fun h => by rw [List.mem_singleton.1 h]; exact u5) (by omega)
    have eu : acc ++ [u] ++ res = acc ++ (u :: res) := by simp
    rw [eu] at v1 v4 v5
    have hpu := szT_pos u
    refine ⟨u :: res, fe, ?_, fun h => (u2 (v2 h)).1, ?_, v4, fun hf hsz => ?_⟩
    · rw [mi_edited_l1]
      simp only [lt_true hlt, cond_true, hx, Option.bind_some]
      have u1' : (scc10 M).mi_edited a (k : Int) f tp.kind tp.op tp.text tp.other tp.kids tr.kind tr.op tr.text tr.other tr.kids = some ([u], f1) := u1
      rw [u1', Option.bind_some, app_some (by simp; omega), Option.bind_some, step64 hlt (by simp only [maxLen]; omega)]
      exact v1
    · rw [szTs, szTs]
      unfold Bd at u4 v3 ⊢
      cases f <;> cases f1 <;> cases fe <;> simp_all <;> omega
    · rw [ms_l32Turn_l1]
      simp only [ix_get he, Option.bind_some, lt_true hlt, cond_true, hx]
      rw [u3 hf, Option.bind_some]
      have hsz2 : szTs (acc ++ [u]) = szTs acc + szT u := by rw [szTs_app, szTs, szTs]; omega
      have htot : szTs (acc ++ (u :: res)) = szTs acc + szT u + szTs res := by rw [szTs_app, szTs]; omega
      cases f1 with
      | false =>
        rw [if_neg (by simp)]
        have hne : ¬ (fe = true ∧ 1 + szTs (acc ++ (u :: res)) ≤ 400) := fun hh => by have := v2 hh.1; cases this
        rw [if_neg hne]
        rfl
      | true =>
        have hu4 := (u2 rfl).2
        rw [if_pos rfl, lst_len]
        have hz : ((szT u : Int) == 0) = false := by simp; omega
        rw [hz, cond_false, Option.bind_some, wrap64 (n := ((1 + szTs acc : Nat) : Int) + (szT u : Int)) (by omega) (by omega)]
        by_cases hg : 1 + szTs acc + szT u > 400
        · have d : decide (((1 + szTs acc : Nat) : Int) + (szT u : Int) > 400) = true := by simp; omega
          have hne : ¬ (fe = true ∧ 1 + szTs (acc ++ (u :: res)) ≤ 400) := fun hh => by omega
          rw [d, cond_true, if_neg hne]
        · have d : decide (((1 + szTs acc : Nat) : Int) + (szT u : Int) > 400) = false := by simp; omega
          have hml : (acc.map (lst 0)).length ≤ 400 := by simp; omega
          rw [d, cond_false, app_some (by simp; omega), Option.bind_some, step64 hlt (by simp only [maxLen]; omega)]
          have := v5 rfl (by omega)
          rw [hsz2, List.map_append, List.map_cons, List.map_nil, show 1 + (szTs acc + szT u) = 1 + szTs acc + szT u by omega] at this
          exact this

theorem turn_ex {p r : List SNode} {tp tr : STree} (hpr : PRk p r tp tr) (a : List SNode) (hs : ∀ z, z ∈ a → smNode z) (hk : ∀ z, z ∈ a → z.Kids.length ≤ 400) : ∀ (t : STree) (s i N : Nat) (f : Bool), TA a t s i → szT t ≤ 400 → 1048577 + 3000 + 2 * szT t + 2 ≤ N →
    ∃ u f', edR N a (i : Int) f tp tr = some ([u], f') ∧ (f' = true → f = true ∧ szT u ≤ 400) ∧ (f = true → (scc3 N).ms_l32Turn a (i : Int) p r = some (if f' = true then lst 0 u else [])) ∧ szT u ≤ 401 * szT t + Bd f f' ∧ txT u := by
  intro t
  induction t using STree.ind with
  | h t ih =>
    intro s i N f hta hsz hN
    obtain ⟨M, rfl⟩ : ∃ M, N = M + 1 := ⟨N - 1, by omega⟩
    have hst := szT_eq t
    have htl := szTs_len t.kids
    obtain ⟨e, he, n1, n2, n3, n4, nk, nkl⟩ := hta.node
    have hea := List.mem_of_getElem? he
    have hsm := hs e hea
    unfold smNode at hsm
    obtain ⟨res, fe, v1, v2, v3, v4, v5⟩ := turn_l (p := p) (r := r) (tp := tp) (tr := tr) f a M i e he (by omega) (hk e hea) t.kids 0 M M s [] f
      (fun k hk' s' k' f' ta _ => ih k hk' s' k' M f' ta (by have := szTs_mem hk'; omega) (by have := szTs_mem hk'; omega)) (by rw [List.drop_zero]; exact nk) (by simp) (by omega) (by omega) (by omega) (fun q hq => by cases hq) (by omega)
    rw [List.nil_append] at v1 v4 v5
    have hbd : Bd f fe ≤ 160400 := by unfold Bd; split <;> omega
    have htn : txT ⟨e.Kind, e.Op, e.Text, e.Other, res⟩ := txT_mk v4 hsm.1 hsm.2.1
    have hszn : szT ⟨e.Kind, e.Op, e.Text, e.Other, res⟩ = szTs res + 1 := szT_eq _
    obtain ⟨u, f', w1, w2, w3, w4, w5, w6, w7⟩ := doR_ex hpr M (i : Int) ⟨e.Kind, e.Op, e.Text, e.Other, res⟩ fe (by omega) (by omega) htn
    refine ⟨u, f', ?_, fun h => ⟨v2 (w2 h).1, (w2 h).2.1⟩, fun hf => ?_, ?_, w7⟩
    · show mi_edited_F M (scc10 M) a (i : Int) f tp.kind tp.op tp.text tp.other tp.kids tr.kind tr.op tr.text tr.other tr.kids = _
      unfold mi_edited_F
      rw [ix_get he, Option.bind_some]
      refine Eq.trans v1 ?_
      rw [w1]
      rfl
    · show ms_l32Turn_F M (scc3 M) a (i : Int) p r = _
      unfold ms_l32Turn_F
      refine Eq.trans (v5 hf (by simp [szTs])) ?_
      by_cases hc : fe = true ∧ 1 + szTs res ≤ 400
      · rw [if_pos hc]
        exact w3 hc.1 (by omega)
      · rw [if_neg hc]
        cases f' with
        | false => rw [if_neg (by simp)]
        | true =>
          have := w2 rfl
          exact absurd ⟨this.1, by omega⟩ hc
    · unfold Bd at v3 ⊢
      by_cases hff : fe = false ∨ szTs res + 1 > 400
      · have hu : u = ⟨e.Kind, e.Op, e.Text, e.Other, res⟩ := by
          rcases hff with h | h
          · exact w4 h
          · exact w5 (by omega)
        rw [hu, hszn]
        cases f <;> cases f' <;> cases fe <;> simp_all <;> omega
      · have hfe : fe = true := by
          cases fe with
          | true => rfl
          | false => exact absurd (.inl rfl) hff
        have hf := v2 hfe
        subst hfe hf
        cases f' with
        | true => have := (w2 rfl).2.1; simp; omega
        | false => simp; omega

theorem rewrite_ex (N : Nat) (a p r : List SNode) (hN : 1048577 + 10000 < N) (ha : a.length ≤ 1048576) (hs : ∀ x, x ∈ a → smNode x) (hi : ∀ x, x ∈ a → i64N x) (hsp : ∀ x, x ∈ p → smNode x) (hsr : ∀ x, x ∈ r → smNode x) :
    ∃ b, ms_Rewrite N a p r = some b ∧ mi_Rewrite N a p r = some b ∧ b.1.length ≤ 1048576 ∧ ∀ x, x ∈ b.1 → smNode x := by
  obtain ⟨b, b1, b2, b3⟩ := treeOk_ex N a (by omega) hs
  obtain ⟨c, c1, c2, c3⟩ := exprOk_ex N p (by omega) hsp
  obtain ⟨d, d1, d2, d3⟩ := exprOk_ex N r (by omega) hsr
  have hc1 := copy_is N a (by omega) ha hs hi
  have hc2 := copyNodes_is N a (by omega) ha hs
  unfold ms_Rewrite mi_Rewrite mi_edit
  rw [b1, b2, c1, c2, d1, d2]
  simp only [Option.bind_some]
  cases b with
  | false =>
    simp only [Bool.not_false, cond_true, Option.bind_some, hc1, hc2]
    exact ⟨_, rfl, rfl, ha, hs⟩
  | true =>
    cases c with
    | false =>
      simp only [Bool.not_true, Bool.not_false, cond_true, cond_false, Option.bind_some, hc1, hc2]
      exact ⟨_, rfl, rfl, ha, hs⟩
    | true =>
      cases d with
      | false =>
        simp only [Bool.not_true, Bool.not_false, cond_true, cond_false, Option.bind_some, hc1, hc2]
        exact ⟨_, rfl, rfl, ha, hs⟩
      | true =>
        obtain ⟨hsh, _⟩ := b3 rfl
        obtain ⟨hshp, _⟩ := c3 rfl
        obtain ⟨hshr, _⟩ := d3 rfl
        obtain ⟨l1, l2, _, _, _, _, _, t, ht⟩ := shape_of hsh
        obtain ⟨p1, p2, _, _, _, _, _, tp, htp⟩ := shape_of hshp
        obtain ⟨r1, r2, _, _, _, _, _, tr, htr⟩ := shape_of hshr
        have hlt : p.length - 1 < p.length := by omega
        have hx : ix p (IntKind.wrap .i64 ((p.length : Int) - 1)) = some p[p.length - 1] := by
          rw [wrap64 (by omega) (by omega), show (p.length : Int) - 1 = ((p.length - 1 : Nat) : Int) by omega, ix_nat hlt]
        simp only [Bool.not_true, cond_false, hx, Option.bind_some, isHole_spec, isHole_impl]
        cases hB p[p.length - 1].Kind p[p.length - 1].Text with
        | true =>
          simp only [cond_true, Option.bind_some, hc1, hc2]
          exact ⟨_, rfl, rfl, ha, hs⟩
        | false =>
          have htr1 : ms_TreeOk N r = some true := by
            unfold ms_ExprOk at d1
            obtain ⟨q, hq, hd⟩ := Option.bind_eq_some_iff.1 d1
            obtain ⟨q', hq', hd'⟩ := Option.bind_eq_some_iff.1 hq
            cases q' with
            | true => exact hq'
            | false =>
              simp only [cond_false, Option.some.injEq] at hd'
              subst hd'
              simp only [Option.some.injEq] at hd
              cases hd
          have hpr : PRk p r tp tr := ⟨htp, p1, p2, htr, r1, r2, txT_of hsr htr, treeOk_names N r (by omega) hshr htr1⟩
          have hsz : szT t ≤ 400 := by have := ht.part.2.1; omega
          obtain ⟨u, f', u1, u2, u3, u4, u5⟩ := turn_ex hpr a hs (fun z hz => (shape_kids hsh z hz).1) t 0 (a.length - 1) N true ht hsz (by omega)
          have u3 := u3 rfl
          have hbd : Bd true f' ≤ 160400 := by unfold Bd; split <;> omega
          have hw : IntKind.wrap .i64 ((a.length : Int) - 1) = ((a.length - 1 : Nat) : Int) := by
            rw [wrap64 (by omega) (by omega)]; omega
          have e1 : mi_edited N a ((a.length - 1 : Nat) : Int) true tp.kind tp.op tp.text tp.other tp.kids tr.kind tr.op tr.text tr.other tr.kids = some ([u], f') := u1
          have e2 : ms_l32Turn N a ((a.length - 1 : Nat) : Int) p r = some (if f' = true then lst 0 u else []) := u3
          have hwi : (decide ((0 : Int) ≥ 0) && decide ((0 : Int) ≤ ((a.length - 1 : Nat) : Int))) = true := by simp
          have hx0 : ix [u] 0 = some u := rfl
          have hne : ((([u] : List STree).length : Int) != 1) = false := rfl
          have hli := list_is N u (by omega) (by omega)
          have hsm := small_of (t := u) (by omega) u5 0
          obtain ⟨q, q1, q2, _⟩ := treeOk_ex N (lst 0 u) (by omega) hsm
          simp only [cond_false, Option.bind_some, rootOf_is N p (by omega) htp p1 p2, rootOf_is N r (by omega) htr r1 r2, hw, within_is, hwi, Bool.not_true, e1, e2, hne, hx0, hli, q2]
          unfold ms_l31Told
          cases f' with
          | false =>
            have q0 : ms_TreeOk N [] = some false := by
              unfold ms_TreeOk
              rw [shapeOk_spec N [] (by omega) (fun x hx => by cases hx)]
              rfl
            rw [if_neg (by simp), q0]
            simp only [Option.bind_some, Bool.not_false, cond_true, hc1]
            cases q <;> simp only [Bool.not_true, Bool.not_false, cond_true, cond_false, Option.bind_some, hc2] <;> exact ⟨_, rfl, rfl, ha, hs⟩
          | true =>
            rw [if_pos rfl, q1]
            have hu := (u2 rfl).2
            cases q with
            | false =>
              simp only [Bool.not_true, Bool.not_false, cond_true, cond_false, Option.bind_some, hc1, hc2]
              exact ⟨_, rfl, rfl, ha, hs⟩
            | true =>
              simp only [Bool.not_true, cond_true, cond_false, Option.bind_some]
              exact ⟨_, rfl, rfl, by simp only [lst_len]; omega, hsm⟩

theorem three_sz (N : Nat) (a c d : List SNode) (hN : a.length + c.length + d.length < N) (hla : a.length ≤ maxLen) (hlc : c.length ≤ maxLen) (hld : d.length ≤ maxLen) (ha : ∀ x, x ∈ a → okNode x) (hc : ∀ x, x ∈ c → okNode x) (hd : ∀ x, x ∈ d → okNode x) :
    ∃ r, ml_szNodeS N a 1048576 = some r ∧ (r < 0 ∨ 0 ≤ r ∧ ∃ q, ml_szNodeS N c r = some q ∧ (q < 0 ∨ 0 ≤ q ∧ ∃ o, ml_szNodeS N d q = some o ∧ (o < 0 ∨ 0 ≤ o ∧ a.length ≤ 1048576 ∧ (∀ x, x ∈ a → smNode x) ∧ c.length ≤ 1048576 ∧ (∀ x, x ∈ c → smNode x) ∧ d.length ≤ 1048576 ∧ ∀ x, x ∈ d → smNode x))) := by
  obtain ⟨r, hr, h⟩ := szNodeS_is N a (by omega) hla ha 1048576 (by omega) (by omega)
  refine ⟨r, hr, ?_⟩
  rcases h with ⟨h, _⟩ | ⟨h, h0⟩
  · exact .inl h
  · refine .inr ⟨h0, ?_⟩
    obtain ⟨q, hq, h2⟩ := szNodeS_is N c (by omega) hlc hc r h0 (by omega)
    refine ⟨q, hq, ?_⟩
    rcases h2 with ⟨h2, _⟩ | ⟨h2, h3⟩
    · exact .inl h2
    · refine .inr ⟨h3, ?_⟩
      obtain ⟨o, ho, h4⟩ := szNodeS_is N d (by omega) hld hd q h3 (by omega)
      refine ⟨o, ho, ?_⟩
      rcases h4 with ⟨h4, _⟩ | ⟨h4, h5⟩
      · exact .inl h4
      · exact .inr ⟨h5, by omega, smNode_of a (by omega), by omega, smNode_of c (by omega), by omega, smNode_of d (by omega)⟩

theorem plain (a c d : List SNode) (ka : (∀ z, z ∈ a → ok63 z) ∧ a.length ≤ maxLen) (kc : (∀ z, z ∈ c → ok63 z) ∧ c.length ≤ maxLen) (kd : (∀ z, z ∈ d → ok63 z) ∧ d.length ≤ maxLen) : ∃ N, ml_FnExactRewrite N a c d = some true := by
  obtain ⟨za, la⟩ := ka
  obtain ⟨zc, lc⟩ := kc
  obtain ⟨zd, ld⟩ := kd
  refine ⟨a.length + c.length + d.length + 1063578, ?_⟩
  obtain ⟨N, hN⟩ : ∃ N, N = a.length + c.length + d.length + 1063578 := ⟨_, rfl⟩
  rw [← hN]
  unfold ml_FnExactRewrite
  obtain ⟨r, r1, r2⟩ := three_sz N a c d (by omega) la lc ld (fun z hz => by obtain ⟨_, _, h1, h2, _, h3⟩ := za z hz; exact ⟨h1, h2, h3⟩) (fun z hz => by obtain ⟨_, _, h1, h2, _, h3⟩ := zc z hz; exact ⟨h1, h2, h3⟩) (fun z hz => by obtain ⟨_, _, h1, h2, _, h3⟩ := zd z hz; exact ⟨h1, h2, h3⟩)
  rw [r1, Option.bind_some]
  rcases r2 with r2 | ⟨r0, q, q1, q2⟩
  · have : decide (r < 0) = true := by simpa using r2
    rw [this]; rfl
  · have d0 : decide (r < 0) = false := by simp; omega
    rw [d0, cond_false, q1, Option.bind_some]
    rcases q2 with q2 | ⟨q0, o, o1, o2⟩
    · have : decide (q < 0) = true := by simpa using q2
      rw [this]; rfl
    · have d1 : decide (q < 0) = false := by simp; omega
      rw [d1, cond_false, o1, Option.bind_some]
      rcases o2 with o2 | ⟨o0, ha, hsa, hc, hsc, hd, hsd⟩
      · have : decide (o < 0) = true := by simpa using o2
        rw [this]; rfl
      · have d2 : decide (o < 0) = false := by simp; omega
        have hi : ∀ x, x ∈ a → i64N x := fun z hz k hk => by
          obtain ⟨_, _, _, _, h4, _⟩ := za z hz
          have := h4 k hk
          simpa [Lit.wf, IntKind.min, IntKind.max, IntKind.signed, IntKind.bits] using this
        obtain ⟨⟨b, bb⟩, b1, b2, b3, b4⟩ := rewrite_ex N a c d (by omega) ha hsa hi hsc hsd
        simp only at b3 b4
        have ta := toNodeS_is N a (by omega) ha hsa
        have tc := toNodeS_is N c (by omega) hc hsc
        have td := toNodeS_is N d (by omega) hd hsd
        have ea := eqNodeS_self N a (by omega) ha hsa
        have ec := eqNodeS_self N c (by omega) hc hsc
        have ed := eqNodeS_self N d (by omega) hd hsd
        have eb := eqNodeS_self N b (by omega) b3 b4
        obtain ⟨k1, a1, m1, m2, m3, m4⟩ := markN_of N 1 a (by omega) ha hsa (by omega) (by omega)
        obtain ⟨k2, c2, n1, n2, n3, n4⟩ := markN_of N k1 c (by omega) hc hsc (by omega) (by omega)
        obtain ⟨k3, c3, p1, p2, p3, p4⟩ := markN_of N k2 d (by omega) hd hsd (by omega) (by omega)
        obtain ⟨k4, c4, s1, s2, s3, s4⟩ := markN_of N 1 b (by omega) b3 b4 (by omega) (by omega)
        have d3 : decide (k3 < 0) = false := by simp; omega
        have d4 : decide (k4 < 0) = false := by simp; omega
        simp only [d2, cond_false, ta, tc, td, Option.bind_some, b1, b2, eb, ea, ec, ed, Bool.not_true, m1, n1, p1, d3, s1, s4, d4, bne_self_eq_false, beq_self_eq_true]



theorem kids : Go.Kids Tryz.prog (· < Tryz.prog.types.size) := kids_rows (by kernel_rfl) (by kernel_rfl)
theorem full : ∀ t e, t < Tryz.prog.types.size → Tryz.prog.underlying t = some (.slice e) → 0 < Tryz.prog.cellsOf e := slices_full_of Tryz.prog (by kernel_rfl)

/-- what the row lists -/
def lay : List (String × DataW Unit) := [("loop.example/g01543/impl.keywords", Rows.laid_loop_example_g01543_impl_keywords), ("loop.example/g01543/impl.signs", Rows.laid_loop_example_g01543_impl_signs), ("loop.example/g01543/impl.builtins", Rows.laid_loop_example_g01543_impl_builtins)]

theorem tables {W : World} (h : laidMetH Tryz.prog lay W) : W.var? Tryz.prog "loop.example/g01543/impl.keywords" = some (strCells tab_keywords) ∧ W.var? Tryz.prog "loop.example/g01543/impl.signs" = some (strCells tab_signs) ∧ W.var? Tryz.prog "loop.example/g01543/impl.builtins" = some (strCells tab_builtins) := by
  rw [MakeChecks.laidMetH_plain _ _ _ (by kernel_rfl)] at h
  obtain ⟨ps, ⟨g0, t0, cs0, fuel0, p0, q0, hg0, ht0, hv0, hd0, r0, _⟩, _, _⟩ := h
  obtain ⟨g1, t1, cs1, fuel1, p1, q1, hg1, ht1, hv1, hd1, r1, _⟩ := r0
  obtain ⟨g2, t2, cs2, fuel2, p2, q2, hg2, ht2, hv2, hd2, r2, _⟩ := r1
  obtain rfl := Option.some.inj ((show Tryz.prog.globalNamed "loop.example/g01543/impl.keywords" = some 1 by kernel_rfl).symm.trans hg0)
  obtain rfl := Option.some.inj ((show (Tryz.prog.globals[1]?).map (·.type) = some 137 by kernel_rfl).symm.trans ht0)
  have e0 : cs0 = strCells tab_keywords := strs_of_trod (l := tab_keywords) (p := p0) (by rw [show (DataW.agg (tab_keywords.map fun s => .lit (.string s)) : DataW Unit) = Rows.laid_loop_example_g01543_impl_keywords by kernel_rfl]; exact hd0) Tryz.underlying137 Tryz.underlying9 (by kernel_rfl) (by kernel_rfl)
  rw [e0] at hv0
  obtain rfl := Option.some.inj ((show Tryz.prog.globalNamed "loop.example/g01543/impl.signs" = some 2 by kernel_rfl).symm.trans hg1)
  obtain rfl := Option.some.inj ((show (Tryz.prog.globals[2]?).map (·.type) = some 139 by kernel_rfl).symm.trans ht1)
  have e1 : cs1 = strCells tab_signs := strs_of_trod (l := tab_signs) (p := p1) (by rw [show (DataW.agg (tab_signs.map fun s => .lit (.string s)) : DataW Unit) = Rows.laid_loop_example_g01543_impl_signs by kernel_rfl]; exact hd1) Tryz.underlying139 Tryz.underlying9 (by kernel_rfl) (by kernel_rfl)
  rw [e1] at hv1
  obtain rfl := Option.some.inj ((show Tryz.prog.globalNamed "loop.example/g01543/impl.builtins" = some 0 by kernel_rfl).symm.trans hg2)
  obtain rfl := Option.some.inj ((show (Tryz.prog.globals[0]?).map (·.type) = some 135 by kernel_rfl).symm.trans ht2)
  have e2 : cs2 = strCells tab_builtins := strs_of_trod (l := tab_builtins) (p := p2) (by rw [show (DataW.agg (tab_builtins.map fun s => .lit (.string s)) : DataW Unit) = Rows.laid_loop_example_g01543_impl_builtins by kernel_rfl]; exact hd2) Tryz.underlying135 Tryz.underlying9 (by kernel_rfl) (by kernel_rfl)
  rw [e2] at hv2
  exact ⟨hv0, hv1, hv2⟩

theorem grel {W : World} {S : Nat → Prop} (h0 : W.var? Tryz.prog "loop.example/g01543/impl.keywords" = some (strCells tab_keywords)) (h1 : W.var? Tryz.prog "loop.example/g01543/impl.signs" = some (strCells tab_signs)) (h2 : W.var? Tryz.prog "loop.example/g01543/impl.builtins" = some (strCells tab_builtins)) (s0 : S 1) (s1 : S 2) (s2 : S 0) : GRel (GS [0, 1, 2]) S W := by
  intro g cs hg
  have hc : ([0, 1, 2] : List Nat).contains g = true := by
    cases h : ([0, 1, 2] : List Nat).contains g with
    | true => rfl
    | false => unfold GS at hg; rw [h] at hg; cases hg
  have hm := List.contains_iff_mem.1 hc
  simp only [List.mem_cons, List.mem_nil_iff, or_false] at hm
  rcases hm with rfl | rfl | rfl
  · obtain rfl := Option.some.inj ((show GS [0, 1, 2] 0 = some (tab_builtins.map V.s) by kernel_rfl).symm.trans hg)
    exact el_of_var (show Tryz.prog.globalNamed "loop.example/g01543/impl.builtins" = some 0 by kernel_rfl) h2 s2
  · obtain rfl := Option.some.inj ((show GS [0, 1, 2] 1 = some (tab_keywords.map V.s) by kernel_rfl).symm.trans hg)
    exact el_of_var (show Tryz.prog.globalNamed "loop.example/g01543/impl.keywords" = some 1 by kernel_rfl) h0 s0
  · obtain rfl := Option.some.inj ((show GS [0, 1, 2] 2 = some (tab_signs.map V.s) by kernel_rfl).symm.trans hg)
    exact el_of_var (show Tryz.prog.globalNamed "loop.example/g01543/impl.signs" = some 2 by kernel_rfl) h1 s1

theorem lifted (os : Os) (started : os.Started) (H : Type) (enc : TypeId × Value → H) :
    ReturnsInHanded {} Tryz.checked os 7 .any (fun w args => (Rows.fnExactRewriteSpec.pre enc Tryz.prog Tryz.f7 Rows.fnExactRewriteRow.domain false w args ∧ laidMetH Tryz.prog lay w) ∧ sizedMet enc Tryz.prog Tryz.f7 (OpenSpec.ofChange Rows.fnExactRewriteSpec) false w args) (Rows.fnExactRewriteSpec.post enc Tryz.prog Tryz.f7 false true false false) := by
  refine returnsInHanded_of_change_and (C := Tryz.checked) (X := fun w _ => laidMetH Tryz.prog lay w) (fun _ _ _ hh h => h.of_heap hh) own started (by kernel_rfl) Tryz.func7
    (ChangeSpec.witness_at (enc := enc) (C := Tryz.checked) (os := os) (X := fun w _ => laidMetH Tryz.prog lay w) false (World.laidAll Tryz.prog os lay) #[.slice none 0 0, .slice none 0 0, .slice none 0 0] 12 (World.laidAll_os _ _ _) (by kernel_rfl) (by kernel_rfl) (by kernel_rfl) (by kernel_rfl) (by kernel_rfl)
      (by rw [MakeChecks.laidMetH_plain _ _ _ (by kernel_rfl)]; exact laidMet_laidAll _ (by kernel_rfl) (by kernel_rfl))) ?_
  intro W base args ds gs before hval0 hW hcnd _ hL _
  have hval : ∀ (j : Nat) t v, Tryz.f7.params[j]? = some t → args[j]? = some v → Value.okWide Tryz.prog W .any base t v := hval0
  have hW' := hW
  obtain ⟨p, q, hA0, hV0, rfl, hfz, hnd⟩ := hW
  have hA : DataW.TrodAll enc Tryz.prog W 0 (fun _ => true) true Tryz.f7.params.toList args.toList ds p := hA0
  have hV : DataW.TrodVars enc Tryz.prog W (fun _ => true) ["loop.example/g01543/impl.keywords", "loop.example/g01543/impl.builtins", "loop.example/g01543/impl.signs"] gs q := hV0
  rw [Tryz.params7] at hA hval
  have hA1 := hA
  obtain ⟨v0, vs0, d0, ds0, p0, q0, hargs, rfl, rfl, h0, r0⟩ := trodAll_cons hA
  obtain ⟨v1, vs1, d1, ds1, p1, q1, rfl, rfl, rfl, h1, r1⟩ := trodAll_cons r0
  obtain ⟨v2, vs2, d2, ds2, p2, q2, rfl, rfl, rfl, h2, r2⟩ := trodAll_cons r1
  obtain ⟨rfl, rfl, rfl⟩ := trodAll_nil r2
  obtain rfl : args = #[v0, v1, v2] := by cases args; simp_all
  have hA2 : DataW.TrodAll enc Tryz.prog W 0 (fun _ => true) true [28, 28, 28] [v0, v1, v2] [d0, d1, d2] (p0 ++ (p1 ++ (p2 ++ []))) := hA1
  have hgl := vars_len hV
  obtain ⟨y0, y1, y2, rfl⟩ : ∃ y0 y1 y2, gs = [y0, y1, y2] := by
    match gs, hgl with
    | [y0, y1, y2], _ => exact ⟨y0, y1, y2, rfl⟩
  obtain ⟨fu0, hf0⟩ := h0
  obtain ⟨a0, k0, c0⟩ := (Reader.slice Tryz.underlying28 read63 5 (by kernel_rfl) (by decide) (fun _ => rfl)) enc W fu0 _ _ hf0
  obtain ⟨s0, l0, m0, rfl⟩ := okWide_slice Tryz.underlying28 (hval 0 28 v0 rfl rfl)
  obtain ⟨fu1, hf1⟩ := h1
  obtain ⟨a1, k1, c1⟩ := (Reader.slice Tryz.underlying28 read63 5 (by kernel_rfl) (by decide) (fun _ => rfl)) enc W fu1 _ _ hf1
  obtain ⟨s1, l1, m1, rfl⟩ := okWide_slice Tryz.underlying28 (hval 1 28 v1 rfl rfl)
  obtain ⟨fu2, hf2⟩ := h2
  obtain ⟨a2, k2, c2⟩ := (Reader.slice Tryz.underlying28 read63 5 (by kernel_rfl) (by decide) (fun _ => rfl)) enc W fu2 _ _ hf2
  obtain ⟨s2, l2, m2, rfl⟩ := okWide_slice Tryz.underlying28 (hval 2 28 v2 rfl rfl)
  have htab := tables hL
  have tv0 := htab.1
  have tv1 := htab.2.1
  have tv2 := htab.2.2
  have hlt : ∀ b, (fun b => blocksOf (p0 ++ (p1 ++ (p2 ++ []))) b ∨ b = 1 ∨ b = 2 ∨ b = 0) b → b < W.heap.size := by
    intro b hb
    rcases hb with ⟨m, hm, rfl⟩ | rfl | rfl | rfl
    · exact DataW.TrodAll.lt hA1 m (by simpa using hm)
    · exact var_lt (show Tryz.prog.globalNamed "loop.example/g01543/impl.keywords" = some 1 by kernel_rfl) tv0
    · exact var_lt (show Tryz.prog.globalNamed "loop.example/g01543/impl.signs" = some 2 by kernel_rfl) tv1
    · exact var_lt (show Tryz.prog.globalNamed "loop.example/g01543/impl.builtins" = some 0 by kernel_rfl) tv2
  obtain ⟨N, hN⟩ := plain a0 a1 a2 k0 k1 k2
  refine (AC.belowG (ml_FnExactRewrite_ok N a0 a1 a2 hN) (fun b => blocksOf (p0 ++ (p1 ++ (p2 ++ []))) b ∨ b = 1 ∨ b = 2 ∨ b = 0) hlt (grel tv0 tv1 tv2 (.inr (.inl rfl)) (.inr (.inr (.inl rfl))) (.inr (.inr (.inr rfl)))) rfl fun i x hx => ?_).mono ?_
  · match i with
    | 0 =>
      simp only [List.getElem?_cons_succ, List.getElem?_cons_zero, Option.some.injEq] at hx
      subst hx
      exact argOne rfl (c0 _ fun p hp => (.inl ⟨p, by simp [hp], rfl⟩))
    | 1 =>
      simp only [List.getElem?_cons_succ, List.getElem?_cons_zero, Option.some.injEq] at hx
      subst hx
      exact argOne rfl (c1 _ fun p hp => (.inl ⟨p, by simp [hp], rfl⟩))
    | 2 =>
      simp only [List.getElem?_cons_succ, List.getElem?_cons_zero, Option.some.injEq] at hx
      subst hx
      exact argOne rfl (c2 _ fun p hp => (.inl ⟨p, by simp [hp], rfl⟩))
    | i + 3 => simp at hx
  · rintro e W' ⟨x, S', rfl, hx, hb⟩
    have hxt := hx.c_inv
    subst hxt
    exact ⟨_, rfl, Av.post_of_below (pa := (p0 ++ (p1 ++ (p2 ++ [])))) (pv := q) hW' (fun _ _ _ => (trodAll_cons_mk (shut_bool Tryz.underlying4 _) trodAll_mk0))
      (fun sp hsp => args_kept kids full hb (by decide +kernel) hA2 (fun m hm => hsp m (by simp only [List.mem_append]; exact .inl (by simpa using hm)))) (fun sp hsp => vars_kept laidOut hb (by kernel_rfl) hV (fun m hm => hsp m (by simp [hm]))) (by simp) hb (ok_one (by kernel_rfl) rfl (okWide_bool_mk Tryz.underlying4 _))⟩

theorem over : Rows.fnExactRewriteRow.holds Tryz.pinned (OpenSpec.ofChange Rows.fnExactRewriteSpec) :=
  OpenClaim.holds_of_wide 7 Tryz.f7 rfl rfl rfl rfl rfl rfl rfl ⟨rfl, rfl, rfl, rfl, rfl⟩ rfl rfl rfl rfl rfl (by kernel_rfl) Tryz.func7 (by kernel_rfl)
    (of_decide_eq_true (by kernel_rfl)) (by unfold Func.isWrapper; first | (rw [if_pos (by decide +kernel)]; kernel_rfl) | (rw [if_neg (by decide +kernel)]; exact ⟨rfl, rfl⟩))
    (fun os started H enc _ => lifted os started H enc)

/-- the statement -/
theorem proved : Rows.FnExactRewriteCardSaid :=
  Claim7.holds_tied_plain_at .later [] [.widerDeep, .data, .widerDeep] true (true, "ef8a1205a7b9ff090898b265bc3b829ec6e7d3564ce2b53f0d5a610a0b663c7a") false
    over (fun _ h => by cases h) (by kernel_rfl) (fun _ h => by cases h) fnExactRewrite_row_tie rfl ⟨rfl, rfl⟩ (by kernel_rfl) rfl
    (fun f fn hf hfn => by
      obtain rfl : f = 7 := Option.some.inj ((show Tryz.prog.funcNamed "loop.example/g01543/laws.FnExactRewrite" = some 7 by kernel_rfl).symm.trans hf) |>.symm
      obtain rfl : fn = Tryz.f7 := (Option.some.inj (Tryz.func7.symm.trans hfn)).symm
      exact ⟨by kernel_rfl, fun j t ht => by
        rw [Tryz.params7] at ht
        have hm : t ∈ [28, 28, 28] := by simpa using Array.mem_of_getElem? ht
        have hall : ([28, 28, 28].all fun u => !Tryz.prog.wantsStandIn u) = true := by kernel_rfl
        exact (show Tryz.prog.wantsStandIn t = false by simpa using List.all_eq_true.1 hall t hm)⟩)
    (by kernel_rfl)
#print axioms proved
end Go.Proofs.YtllanibkffnogaaGreatDoor.fnExactRewrite
