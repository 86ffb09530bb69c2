/-
 Plain lemmas on the models, part 6.
-/
import Derived.Test.YtjlakgfgicjffaaGreatDoorFiSP5
namespace Go.Proofs.Tryz
open Go.Av
set_option maxRecDepth 100000
set_option linter.unusedSimpArgs false
set_option linter.unusedVariables false

theorem index_l (N : Nat) (l : List (List UInt8)) (x : List UInt8) (hl : l.length ≤ 1048576) : ∀ (n i : Nat), l.length - i < n → i ≤ l.length → ∃ r : Int, m_slices_Index_string_l1 N n (l, x, (i : Int)) = some r ∧ decide (r ≥ 0) = decide (x ∈ l.drop i) := by
 intro n
 induction n with
 | zero => intro i h; omega
 | succ n ih =>
  intro i hn hi
  rw [m_slices_Index_string_l1]
  by_cases h : i < l.length
  ·simp only [lt_true h, cond_true, ix_nat h, Option.bind_some, step64 h (by simp only [maxLen]; omega)]
   rw [drop_cons h]
   cases he : (x == l[i]) with
   | true =>
    refine ⟨_, rfl, ?_⟩
    rw [beq_iff_eq] at he
    rw [decide_eq_true (by omega), decide_eq_true (by rw [he]; exact List.mem_cons_self ..)]
   | false =>
    obtain ⟨r, r1, r2⟩ := ih (i + 1) (by omega) (by omega)
    refine ⟨r, r1, ?_⟩
    rw [r2]
    have hne : x ≠ l[i] := fun e => by rw [e] at he; simp at he
    refine decide_eq_decide.2 ⟨fun h => List.mem_cons_of_mem _ h, fun h => ?_⟩
    rcases List.mem_cons.1 h with h | h
    ·exact absurd h hne
    ·exact h
  ·simp only [lt_false h, cond_false]
   refine ⟨-1, rfl, ?_⟩
   rw [drop_nil h]
   simp
theorem containsW_is (N : Nat) (l : List (List UInt8)) (x : List UInt8) (hl : l.length ≤ 1048576) (hN : 1048577 < N) : m_slices_Contains_string N l x = some (decide (x ∈ l)) := by
 obtain ⟨r, r1, r2⟩ := index_l N l x hl N 0 (by omega) (by omega)
 unfold m_slices_Contains_string m_slices_Index_string
 rw [List.drop_zero] at r2
 rw [show (0 : Int) = ((0 : Nat) : Int) from rfl, r1, Option.bind_some]
 exact congrArg some r2

def HH (a : List SNode) (x : List UInt8) : Prop := ∃ n, n ∈ a ∧ hB n.Kind n.Text = true ∧ n.Text = x
theorem hasHole_l (N : Nat) (a : List SNode) (x : List UInt8) (hl : a.length ≤ 1048576) : ∀ (n i : Nat), a.length - i < n → i ≤ a.length → ∃ r : Int, m_slices_IndexFunc_Node_l1 N x n (a, (i : Int)) = some r ∧ (0 ≤ r ↔ HH (a.drop i) x) := by
 intro n
 induction n with
 | zero => intro i h; omega
 | succ n ih =>
  intro i hn hi
  rw [m_slices_IndexFunc_Node_l1]
  by_cases h : i < a.length
  ·have e1 : mi_hasHole_1 a[i] x = some (hB a[i].Kind a[i].Text && (a[i].Text == x)) := by
    unfold mi_hasHole_1
    rw [isHole_impl]
    cases hB a[i].Kind a[i].Text <;> rfl
   simp only [lt_true h, cond_true, ix_nat h, Option.bind_some, e1, step64 h (by simp only [maxLen]; omega)]
   rw [drop_cons h]
   cases he : (hB a[i].Kind a[i].Text && (a[i].Text == x)) with
   | true =>
    refine ⟨_, rfl, ?_⟩
    rw [Bool.and_eq_true, beq_iff_eq] at he
    exact ⟨fun _ => ⟨_, List.mem_cons_self .., he.1, he.2⟩, fun _ => by omega⟩
   | false =>
    obtain ⟨r, r1, r2⟩ := ih (i + 1) (by omega) (by omega)
    refine ⟨r, r1, ?_⟩
    rw [r2]
    constructor
    ·rintro ⟨z, z1, z2, z3⟩
     exact ⟨z, List.mem_cons_of_mem _ z1, z2, z3⟩
    ·rintro ⟨z, z1, z2, z3⟩
     rcases List.mem_cons.1 z1 with rfl | z1
     ·rw [z2, z3] at he; simp at he
     ·exact ⟨z, z1, z2, z3⟩
  ·simp only [lt_false h, cond_false]
   refine ⟨-1, rfl, ?_⟩
   rw [drop_nil h]
   constructor
   ·intro h; omega
   ·rintro ⟨z, z1, _⟩; cases z1
theorem hasHole_is (N : Nat) (a : List SNode) (x : List UInt8) (hl : a.length ≤ 1048576) (hN : 1048577 < N) : ∃ b : Bool, mi_hasHole N a x = some b ∧ (b = true ↔ HH a x) := by
 obtain ⟨r, r1, r2⟩ := hasHole_l N a x hl N 0 (by omega) (by omega)
 unfold mi_hasHole m_slices_ContainsFunc_Node m_slices_IndexFunc_Node
 rw [show (0 : Int) = ((0 : Nat) : Int) from rfl, r1]
 refine ⟨_, rfl, ?_⟩
 rw [List.drop_zero] at r2
 rw [← r2]
 simp

structure Inv (a : List SNode) (h : List SHole) (i : Nat) (g : List SFilling) (met : List (List UInt8)) : Prop where
 ml : met.length ≤ i
 gl : g.length ≤ i
 mem : ∀ x, x ∈ met ↔ ∃ f, f ∈ h.take i ∧ f.Name = x
 gm : ∀ e, e ∈ g → e.name ∈ met
 rel : ∀ x, HH a x → RelX g (h.take i) x
 sz : ∀ e, e ∈ g → szT e.tree ≤ 400

theorem take_one {α : Type} {l : List α} {i : Nat} (h : i < l.length) : l.take (i + 1) = l.take i ++ [l[i]] := by
 rw [List.take_add_one, List.getElem?_eq_getElem h]; rfl

theorem find_met {h : List SHole} {i : Nat} {met : List (List UInt8)} {x : List UInt8} (mem : ∀ x, x ∈ met ↔ ∃ f, f ∈ h.take i ∧ f.Name = x) (hx : x ∉ met) : (h.take i).find? (fun f => f.Name == x) = none := by
 rw [List.find?_eq_none]
 intro f hf he
 rw [beq_iff_eq] at he
 exact hx ((mem x).2 ⟨f, hf, he⟩)

theorem RelX.next {g : List SFilling} {h : List SHole} {i : Nat} {x : List UInt8} (hi : i < h.length) (hr : RelX g (h.take i) x) (hf : (h.take i).find? (fun f => f.Name == x) ≠ none ∨ h[i].Name ≠ x) : RelX g (h.take (i + 1)) x := by
 unfold RelX at hr ⊢
 rw [take_one hi, List.find?_append]
 cases he : (h.take i).find? (fun f => f.Name == x) with
 | some f => rw [he] at hr; exact hr
 | none =>
  rw [he] at hr hf
  rcases hf with hf | hf
  ·exact absurd rfl hf
  ·have hne : (h[i].Name == x) = false := by simpa using hf
   simp only [List.find?_cons, hne, List.find?_nil, Option.or_none]
   exact hr

theorem find_app {g : List SFilling} {e : SFilling} {x : List UInt8} (hx : e.name ≠ x) : (g ++ [e]).find? (fun f => f.name == x) = g.find? (fun f => f.name == x) := by
 have hne : (e.name == x) = false := by simpa using hx
 rw [List.find?_append]
 simp only [List.find?_cons, hne, List.find?_nil, Option.or_none]

def endF (N : Nat) (a : List SNode) (g : List SFilling) : Option (List SNode) :=
 Option.bind (mi_rootOf N a) fun r394 => Option.bind (mi_tree__filled N r394 g) fun r395 => Option.bind (mi_tree__list N r395) fun r396 => Option.bind (mi_TreeOk N r396) fun r400 => bif (!r400) then some [] else (some r396)

def BadX (a : List SNode) (h : List SHole) : Prop := ∃ x f, HH a x ∧ h.find? (fun f => f.Name == x) = some f ∧ f.Part.length ≠ 0 ∧ shapeB f.Part = false

theorem find_first {h : List SHole} {i : Nat} (hi : i < h.length) {x : List UInt8} (hx : (h.take i).find? (fun f => f.Name == x) = none) (he : h[i].Name = x) : h.find? (fun f => f.Name == x) = some h[i] ∧ (h.take (i + 1)).find? (fun f => f.Name == x) = some h[i] := by
 have hb : (h[i].Name == x) = true := by simpa using he
 constructor
 ·conv => lhs; rw [← List.take_append_drop i h]
  rw [List.find?_append, hx, drop_cons hi]
  simp only [List.find?_cons, hb, Option.none_or]
 ·rw [take_one hi, List.find?_append, hx]
  simp only [List.find?_cons, hb, Option.none_or]

theorem fillI_l (N : Nat) (a : List SNode) (h : List SHole) (used : List (List UInt8)) (hN : 1073741825 < N) (ha : a.length ≤ 400) (hh : h.length ≤ 1048576) (hu : used.length ≤ 1048576) (hus : ∀ x, HH a x → x ∈ used) : ∀ (n i : Nat) (g : List SFilling) (met : List (List UInt8)), h.length - i < n → i ≤ h.length → Inv a h i g met →
  (∃ g' met', Inv a h h.length g' met' ∧ mi_FillIn_l1 N n (a, h, used, (i : Int), g, met) = endF N a g') ∨ (mi_FillIn_l1 N n (a, h, used, (i : Int), g, met) = some [] ∧ BadX a h) := by
 intro n
 induction n with
 | zero => intro i g met h; omega
 | succ n ih =>
  intro i g met hn hi hv
  have hml := hv.ml
  have hgl := hv.gl
  by_cases hlt : i < h.length
  · -- the next round
   have next : ∀ (g' : List SFilling) (met' : List (List UInt8)), Inv a h (i + 1) g' met' →
     (∃ g'' met'', Inv a h h.length g'' met'' ∧ mi_FillIn_k2 N (mi_FillIn_l1 N n) (a, h, (i : Int), used, g', met') = endF N a g'') ∨ (mi_FillIn_k2 N (mi_FillIn_l1 N n) (a, h, (i : Int), used, g', met') = some [] ∧ BadX a h) := fun g' met' hv' => by
    have e : mi_FillIn_k2 N (mi_FillIn_l1 N n) (a, h, (i : Int), used, g', met') = mi_FillIn_l1 N n (a, h, used, ((i + 1 : Nat) : Int), g', met') := by
     unfold mi_FillIn_k2
     simp only [step64 hlt (by simp only [maxLen]; omega)]
    rw [e]
    exact ih (i + 1) g' met' (by omega) (by omega) hv'
   rw [mi_FillIn_l1]
   simp only [lt_true hlt, cond_true, ix_nat hlt, Option.bind_some, containsW_is N met h[i].Name (by omega) (by omega)]
   by_cases hm : h[i].Name ∈ met
   ·rw [decide_eq_true hm, cond_true]
    refine next g met ⟨by omega, by omega, fun x => ?_, hv.gm, fun x hx => ?_, hv.sz⟩
    ·rw [hv.mem, take_one hlt]
     constructor
     ·rintro ⟨f, f1, f2⟩; exact ⟨f, List.mem_append_left _ f1, f2⟩
     ·rintro ⟨f, f1, f2⟩
      rcases List.mem_append.1 f1 with f1 | f1
      ·exact ⟨f, f1, f2⟩
      ·rw [List.mem_singleton.1 f1] at f2
       rw [← f2]
       exact (hv.mem _).1 hm
    ·refine (hv.rel x hx).next hlt ?_
     by_cases he : h[i].Name = x
     ·left
      rw [he] at hm
      obtain ⟨f, f1, f2⟩ := (hv.mem x).1 hm
      intro hf
      rw [List.find?_eq_none] at hf
      exact hf f f1 (by simpa using f2)
     ·exact .inr he
   ·rw [decide_eq_false hm, cond_false, app_some (by simp; omega), Option.bind_some]
    have hnone := find_met hv.mem hm
    have hgn : g.find? (fun f => f.name == h[i].Name) = none := by
     rw [List.find?_eq_none]
     intro e he hx
     rw [beq_iff_eq] at hx
     exact hm (hx ▸ hv.gm e he)
    have hmem : ∀ x, x ∈ met ++ [h[i].Name] ↔ ∃ f, f ∈ h.take (i + 1) ∧ f.Name = x := fun x => by
     rw [take_one hlt, List.mem_append, hv.mem]
     constructor
     ·rintro (⟨f, f1, f2⟩ | h1)
      ·exact ⟨f, List.mem_append_left _ f1, f2⟩
      ·exact ⟨h[i], List.mem_append_right _ (List.mem_singleton.2 rfl), (List.mem_singleton.1 h1).symm⟩
     ·rintro ⟨f, f1, f2⟩
      rcases List.mem_append.1 f1 with f1 | f1
      ·exact .inl ⟨f, f1, f2⟩
      ·rw [List.mem_singleton.1 f1] at f2
       exact .inr (by simp [f2])
    have hoth : ∀ x, HH a x → h[i].Name ≠ x → RelX g (h.take (i + 1)) x := fun x hx he => (hv.rel x hx).next hlt (.inr he)
    have hskip : (∀ x, HH a x → h[i].Name = x → RelX g (h.take (i + 1)) x) → Inv a h (i + 1) g (met ++ [h[i].Name]) := fun hs => by
     refine ⟨by simp; omega, by omega, hmem, fun e he => List.mem_append_left _ (hv.gm e he), fun x hx => ?_, hv.sz⟩
     by_cases he : h[i].Name = x
     ·exact hs x hx he
     ·exact hoth x hx he
    by_cases hp : h[i].Part.length = 0
    ·have d1 : ((h[i].Part.length : Int) == 0) = true := by rw [hp]; rfl
     simp only [d1, cond_true, Option.bind_some]
     refine next g _ (hskip fun x _ he => ?_)
     subst he
     unfold RelX
     rw [(find_first hlt hnone rfl).2]
     simp only [if_pos hp]
     exact hgn
    ·have d1 : ((h[i].Part.length : Int) == 0) = false := by
      rw [beq_eq_false_iff_ne]; omega
     simp only [d1, cond_false, containsW_is N used h[i].Name hu (by omega), Option.bind_some]
     by_cases hin : h[i].Name ∈ used
     ·simp only [decide_eq_true hin, Bool.not_true, cond_false, shapeOk_impl N h[i].Part (by omega), Option.bind_some]
      cases hsh : shapeB h[i].Part with
      | false =>
       obtain ⟨b, b1, b2⟩ := hasHole_is N a h[i].Name (by omega) (by omega)
       simp only [Bool.not_false, cond_true, b1, Option.bind_some]
       cases b with
       | true =>
        simp only [cond_true]
        exact .inr ⟨trivial, h[i].Name, h[i], b2.1 rfl, (find_first hlt hnone rfl).1, hp, hsh⟩
       | false =>
        simp only [cond_false]
        refine next g _ (hskip fun x hx he => ?_)
        rw [← he] at hx
        exact absurd (b2.2 hx) (by decide)
      | true =>
       obtain ⟨p1, p2, _, _, _, _, _, tp, htp⟩ := shape_of hsh
       have hpart : h[i].Part = lst 0 tp := by
        have := htp.part.2.2
        rw [show h[i].Part.length - 1 + 1 = h[i].Part.length by omega, part_all] at this
        exact this
       have hsz : szT tp ≤ 400 := by have := htp.part.2.1; omega
       simp only [Bool.not_true, cond_false, rootOf_is N h[i].Part (by omega) htp p1 p2, Option.bind_some]
       rw [app_some (by simp; omega), Option.bind_some]
       refine next _ _ ⟨by simp; omega, by simp; omega, hmem, fun e he => ?_, fun x hx => ?_, fun e he => ?_⟩
       ·rcases List.mem_append.1 he with he | he
        ·exact List.mem_append_left _ (hv.gm e he)
        ·rw [List.mem_singleton.1 he]; simp
       ·by_cases he : h[i].Name = x
        ·subst he
         unfold RelX
         rw [(find_first hlt hnone rfl).2]
         simp only [if_neg hp]
         refine ⟨⟨h[i].Name, tp⟩, ?_, hpart⟩
         rw [List.find?_append, hgn]
         simp
        ·have := hoth x hx he
         unfold RelX at this ⊢
         simp only [find_app (e := (⟨h[i].Name, tp⟩ : SFilling)) he]
         exact this
       ·rcases List.mem_append.1 he with he | he
        ·exact hv.sz e he
        ·rw [List.mem_singleton.1 he]; exact hsz
     ·simp only [decide_eq_false hin, Bool.not_false, cond_true]
      refine next g _ (hskip fun x hx he => ?_)
      rw [← he] at hx
      exact absurd (hus _ hx) hin
  ·have hie : i = h.length := by omega
   subst hie
   rw [mi_FillIn_l1]
   simp only [lt_false hlt, cond_false]
   exact .inl ⟨g, met, hv, rfl⟩

theorem exprOk_ex2 (N : Nat) (a : List SNode) (hN : 1048577 + 400 < N) (hs : ∀ x, x ∈ a → smNode x) : ∃ b : Bool, ms_ExprOk N a = some b ∧ mi_ExprOk N a = some b ∧ (b = true → shapeB a = true ∧ ∀ x, x ∈ a → x.Kind = 1 → x.Kids = []) := by
 obtain ⟨b, b1, b2, b3⟩ := treeOk_ex N a hN hs
 unfold ms_ExprOk mi_ExprOk
 rw [b1, b2]
 simp only [Option.bind_some]
 cases b with
 | false => exact ⟨false, rfl, rfl, fun h => by cases h⟩
 | true =>
  obtain ⟨h1, h2⟩ := b3 rfl
  obtain ⟨l1, l2, _⟩ := shape_of h1
  have hlt : a.length - 1 < a.length := by omega
  have hx := ix_nat hlt
  rw [wrap64 (by omega) (by omega), show (a.length : Int) - 1 = ((a.length - 1 : Nat) : Int) by omega, hx]
  simp only [cond_true, Option.bind_some, isE_spec, isE_impl]
  exact ⟨_, rfl, rfl, fun _ => ⟨h1, treeOk_names N a (by omega) h1 b1⟩⟩

theorem fillIn_ex (N : Nat) (a : List SNode) (h : List SHole) (hN : 1073741825 + 10000 < N) (hs : ∀ x, x ∈ a → smNode x) (hh : h.length ≤ 1048576) (hg : PtOk h) :
  ∃ r, ms_FillIn N a h = some r ∧ mi_FillIn N a h = some r ∧ r.length ≤ 400 ∧ ∀ x, x ∈ r → smNode x := by
 obtain ⟨b, b1, b2, b3⟩ := exprOk_ex2 N a (by omega) hs
 unfold ms_FillIn mi_FillIn
 rw [b1, b2]
 simp only [Option.bind_some]
 cases b with
 | false => exact ⟨[], rfl, rfl, by simp, fun x hx => by cases hx⟩
 | true =>
  obtain ⟨hsh, hnk⟩ := b3 rfl
  obtain ⟨p1, p2, _, _, _, _, _, t, ht⟩ := shape_of hsh
  have hsz : szT t ≤ 400 := by have := ht.part.2.1; omega
  have htx := txT_of hs ht
  obtain ⟨used, u1, _, u3, u4⟩ := names_l N a p2 N 0 [] (by omega) (by omega) (by simp)
  rw [List.drop_zero] at u3
  have hus : ∀ x, HH a x → x ∈ used := by
   rintro x ⟨n, n1, n2, rfl⟩
   unfold hB at n2
   simp only [Bool.and_eq_true, beq_iff_eq] at n2
   exact u3 n n1 n2.1
  have hfill : ms_l32Fill N a (IntKind.wrap .i64 ((a.length : Int) - 1)) h = some (fillL h t) := by
   rw [wrap64 (by omega) (by omega), show (a.length : Int) - 1 = ((a.length - 1 : Nat) : Int) by omega]
   exact fillW_is a h hh hg hs t 0 (a.length - 1) N ht hsz (by omega)
  have hfl := fillL_len h hg t
  have hfs := fillL_sm h hg t htx (by omega)
  obtain ⟨c, c1, c2, c3⟩ := treeOk_ex N (fillL h t) (by omega) hfs
  simp only [Bool.not_true, cond_false, hfill, Option.bind_some, c1]
  have hleaf : ∀ (u : STree) (s i : Nat), TA a u s i → hB u.kind u.text = true → u.kids = [] := fun u s i hu hb => by
   obtain ⟨n, n1, n2, n3, n4, n5, n6, n7⟩ := hu.node
   rw [n2, n4] at hb
   unfold hB at hb
   simp only [Bool.and_eq_true, beq_iff_eq] at hb
   have := hnk n (List.mem_of_getElem? n1) hb.1
   rw [this] at n7
   exact List.length_eq_zero_iff.1 n7
  have hhole : ∀ (u : STree) (s i : Nat), TA a u s i → hB u.kind u.text = true → HH a u.text := fun u s i hu hb => by
   obtain ⟨n, n1, n2, n3, n4, n5, n6, n7⟩ := hu.node
   exact ⟨n, List.mem_of_getElem? n1, by rw [← n2, ← n4]; exact hb, n4.symm⟩
  have hlf := allT_of hleaf t 0 (a.length - 1) ht
  have u1' : mi_NamesOf N a = some used := u1
  simp only [u1', Option.bind_some]
  have hinv : Inv a h 0 [] [] := ⟨by simp, by simp, (fun x => by simp), (fun e he => by cases he), (fun x _ => by unfold RelX; simp), (fun e he => by cases he)⟩
  rcases fillI_l N a h used (by omega) p2 hh u4 hus N 0 [] [] (by omega) (by omega) hinv with ⟨g, met, hv, e⟩ | ⟨e, hbad⟩
  ·have e' : mi_FillIn_l1 N N (a, h, used, 0, [], []) = endF N a g := e
   rw [e']
   have hrel : ∀ x, HH a x → RelX g h x := fun x hx => by
    have := hv.rel x hx
    rwa [List.take_length] at this
   have hgl := hv.gl
   have hfb := szT_fill g hv.sz t
   have hall : allT (fun t => hB t.kind t.text = true → RelX g h t.text ∧ t.kids = []) t := allT_of (fun u s i hu hb => ⟨hrel _ (hhole u s i hu hb), hleaf u s i hu hb⟩) t 0 (a.length - 1) ht
   have heq := fillL_lst g h hv.sz t hsz hall
   have e1 : mi_tree__filled N t g = some (fillT g t) := filled_is g (by omega) t N (by omega) (by omega)
   unfold endF
   rw [rootOf_is N a (by omega) ht p1 p2, Option.bind_some, e1, Option.bind_some, list_is N _ (by omega) (by omega), Option.bind_some, ← heq, c2, Option.bind_some]
   cases c with
   | false => exact ⟨[], rfl, rfl, by simp, fun x hx => by cases hx⟩
   | true =>
    have := (shape_of (c3 rfl).1).2.1
    exact ⟨_, rfl, rfl, this, hfs⟩
  ·have e' : mi_FillIn_l1 N N (a, h, used, 0, [], []) = some [] := e
   rw [e']
   cases c with
   | false => exact ⟨[], rfl, rfl, by simp, fun x hx => by cases hx⟩
   | true =>
    exfalso
    obtain ⟨q1, q2, _, _, _, _, _, u, hu⟩ := shape_of (c3 rfl).1
    have hp := hu.part.2.2
    have hpa : part (fillL h t) 0 ((fillL h t).length - 1 + 1) = (fillL h t).map (shW ((0 : Nat) : Int)) := by
     rw [show (fillL h t).length - 1 + 1 = (fillL h t).length by omega, part_all]
     have hid : ∀ x, x ∈ fillL h t → shW ((0 : Nat) : Int) x = x := fun x hx => by
      rw [show (fillL h t).length - 1 + 1 = (fillL h t).length by omega, part_all] at hp
      rw [hp] at hx
      rw [shW_shN fun k hk => by
       have h1 := lst_range u 0 x hx k hk
       have h2 := hu.part.2.1
       omega]
      exact shN_zero x
     exact (List.map_congr_left hid).symm ▸ (List.map_id _).symm
    have hok := bad_T (fillL h t) q2 h hg t u 0 _ hu hpa hlf
    obtain ⟨x, f, ⟨n, n1, n2, rfl⟩, f1, f2, f3⟩ := hbad
    -- the hole lies in the tree
    obtain ⟨j, hj, rfl⟩ := List.getElem_of_mem n1
    have : shapeB f.Part = true := by
     obtain ⟨_, _, r, r1, r2, r3, r4, _⟩ := shape_of hsh
     obtain ⟨w, s', _, hw⟩ := r4 j hj
     obtain ⟨m, m1, m2, m3, m4, _⟩ := hw.node
     rw [List.getElem?_eq_getElem hj] at m1
     cases m1
     have := allT_get t 0 (a.length - 1) ht hok w s' j hw (by omega) (by omega) (by rw [m2, m4]; exact n2)
     rw [m4] at this
     exact this f f1 f2
    rw [this] at f3
    cases f3

def okHole (h : SHole) : Prop := h.Name.length ≤ maxLen ∧ h.Part.length ≤ maxLen ∧ ∀ x, x ∈ h.Part → okNode x
def szHole (h : SHole) : Nat := h.Name.length + (h.Part.length + sumN szNode h.Part)
theorem szHole_is (N : Nat) (h : SHole) (hh : okHole h) (hN : h.Part.length < N) : Sz (ml_szHole N h) (szHole h) := by
 intro b h0 h1
 obtain ⟨k1, k2, k3⟩ := hh
 have hs : szHole h = h.Name.length + (h.Part.length + sumN szNode h.Part) := rfl
 have k1' := k1
 simp only [maxLen] at k1'
 unfold ml_szHole
 rw [wrap64 (by omega) (by omega)]
 by_cases g : b - (h.Name.length : Int) < 0
 ·rw [decide_eq_true g]
  exact ⟨-1, rfl, .inl ⟨by omega, by omega⟩⟩
 ·rw [decide_eq_false g, cond_false]
  obtain ⟨r, r1, r2⟩ := szNodeS_is N h.Part hN k2 k3 (b - (h.Name.length : Int)) (by omega) (by omega)
  rw [r1, Option.bind_some]
  rcases r2 with ⟨r2, r3⟩ | ⟨r2, r3⟩
  ·rw [decide_eq_true r2]
   exact ⟨-1, rfl, .inl ⟨by omega, by omega⟩⟩
  ·rw [decide_eq_false (by omega), cond_false]
   exact ⟨r, rfl, .inr ⟨by omega, r3⟩⟩
theorem szHoleS_is (N : Nat) (a : List SHole) (hN : a.length < N) (hl : a.length ≤ maxLen) (ha : ∀ x, x ∈ a → okHole x ∧ x.Part.length < N) : Sz (ml_szHoleS N a) (a.length + sumN szHole a) := by
 have hloop : ∀ n s, ml_szHoleS_l1 N n s = szL (ml_szHole N) n s := by
  intro n
  induction n with
  | zero => intro s; rfl
  | succ n ih => intro ⟨a, b, i⟩; rw [ml_szHoleS_l1, szL]; simp only [ih]
 intro b h0 h1
 have := Sz.list (f := ml_szHole N) (sz := szHole) (fun x hx => szHole_is N x (ha x hx).1 (ha x hx).2) hl (g := fun n b => bif decide (IntKind.wrap .i64 (b - (a.length : Int)) < 0) then some (-1) else szL (ml_szHole N) n (a, IntKind.wrap .i64 (b - (a.length : Int)), 0)) (n := N) (by omega) (fun b => rfl) b h0 h1
 unfold ml_szHoleS
 simpa only [hloop] using this
theorem smHole_of (a : List SHole) (h : a.length + sumN szHole a ≤ 1048576) : ∀ x, x ∈ a → smHole x := by
 intro x hx
 have h1 := sumN_mem (sz := szHole) hx
 have e : szHole x = x.Name.length + (x.Part.length + sumN szNode x.Part) := rfl
 exact ⟨by omega, by omega, smNode_of x.Part (by omega)⟩
theorem toHole_is (N : Nat) (x : SHole) (hN : 1048576 < N) (hx : smHole x) : ml_toHole N x = some x := by
 unfold ml_toHole
 rw [toNodeS_is N _ hN hx.2.1 hx.2.2]
 rfl
theorem toHoleS_is (N : Nat) (a : List SHole) (hN : 1048576 < N) (hl : a.length ≤ 1048576) (ha : ∀ x, x ∈ a → smHole x) : ml_toHoleS N a = some a := by
 have hloop : ∀ n s, ml_toHoleS_l1 N n s = toL (ml_toHole N) n s := by
  intro n
  induction n with
  | zero => intro s; rfl
  | succ n ih => intro ⟨a, i, y⟩; rw [ml_toHoleS_l1, toL]; simp only [ih]
 unfold ml_toHoleS
 rw [mk_some (by omega) (by simp only [maxLen]; omega), Option.bind_some, hloop]
 exact toL_is _ a (fun x hx => toHole_is N x hN (ha x hx)) (by simp only [maxLen]; omega) N 0 _ (by omega) (by omega) (by simp) (by simp)

theorem costNode_small (p : List SNode) : sumN costNode p ≤ 4 * p.length + sumN szNode p := by
 induction p with
 | nil => simp [sumN]
 | cons x l ih =>
  simp only [sumN, List.map_cons, List.sum_cons, List.length_cons, costNode, szNode] at ih ⊢
  omega
theorem costHole_small (a : List SHole) : sumN costHole a ≤ a.length + 4 * sumN szHole a := by
 induction a with
 | nil => simp [sumN]
 | cons x l ih =>
  have := costNode_small x.Part
  have e : szHole x = x.Name.length + (x.Part.length + sumN szNode x.Part) := rfl
  have e2 : costHole x = 1 + sumN costNode x.Part := rfl
  simp only [sumN, List.map_cons, List.sum_cons, List.length_cons] at ih this e e2 ⊢
  omega

end Go.Proofs.Tryz
