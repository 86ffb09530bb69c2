/-
 Plain lemmas on the models, part 5.
-/
import Derived.Test.YtjlakgfgicjffaaGreatDoorFiSP4
namespace Go.Proofs.Tryz
open Go.Av
set_option maxRecDepth 100000
set_option linter.unusedSimpArgs false
set_option linter.unusedVariables false

mutual
def stT (b : Nat) : STree → List Int
 | ⟨_, _, _, _, ks⟩ => stTs b ks ++ [(b : Int)]
def stTs (b : Nat) : List STree → List Int
 | [] => []
 | t :: ts => stT b t ++ stTs (b + szT t) ts
end
mutual
theorem stT_len : ∀ (t : STree) (b : Nat), (stT b t).length = szT t
 | ⟨_, _, _, _, ks⟩, b => by rw [stT, szT, List.length_append, stTs_len ks b]; rfl
theorem stTs_len : ∀ (ts : List STree) (b : Nat), (stTs b ts).length = szTs ts
 | [], b => by rw [stTs, szTs]; rfl
 | t :: ts, b => by rw [stTs, szTs, List.length_append, stT_len t b, stTs_len ts _]
end
theorem stT_last (t : STree) (b : Nat) : (stT b t)[szT t - 1]? = some (b : Int) := by
 obtain ⟨k, o, x, y, ks⟩ := t
 rw [stT, szT, Nat.add_sub_cancel, List.getElem?_append_right (by rw [stTs_len]; omega), stTs_len, Nat.sub_self]
 rfl
theorem stTs_app : ∀ (a c : List STree) (b : Nat), stTs b (a ++ c) = stTs b a ++ stTs (b + szTs a) c
 | [], c, b => by simp [stTs, szTs]
 | t :: a, c, b => by rw [List.cons_append, stTs, stTs, szTs, stTs_app a c, List.append_assoc, Nat.add_assoc]

theorem walk_ends (b : Nat) (ts : List STree) : ∀ (m : Nat) (ts1 ts2 : List STree), ts1.length = m → ts1 ++ ts2 = ts → ∀ out : List Int, (∀ i, i < szTs ts → out[b + i]? = (stTs b ts)[i]?) → walk out ((b + szTs ts1 : Nat) : Int) (endsT b ts1).reverse = some (b : Int) := by
 intro m
 induction m with
 | zero =>
  intro ts1 ts2 hl _ out _
  have : ts1 = [] := List.length_eq_zero_iff.1 hl
  subst this
  simp [endsT, walk, szTs]
 | succ m ih =>
  intro ts1 ts2 hl he out ho
  obtain ⟨u, t, rfl⟩ : ∃ u t, ts1 = u ++ [t] := by
   rcases List.eq_nil_or_concat ts1 with rfl | ⟨u, t, rfl⟩
   ·cases hl
   ·exact ⟨u, t, by simp⟩
  have hp := szT_pos t
  have hsz : szTs (u ++ [t]) = szTs u + szT t := by rw [szTs_app, szTs, szTs]; omega
  rw [endsT_app, List.reverse_append, endsT, endsT, List.reverse_cons, List.reverse_nil, List.nil_append, List.singleton_append, walk, hsz]
  have hne : ¬ (((b + (szTs u + szT t) : Nat) : Int) = 0 ∨ (((b + szTs u + szT t : Nat) : Int) - 1) ≠ ((b + (szTs u + szT t) : Nat) : Int) - 1) := by omega
  rw [if_neg hne]
  have htot : szTs ts = szTs u + (szT t + szTs ts2) := by rw [← he, szTs_app, hsz]; omega
  have hi : (((b + (szTs u + szT t) : Nat) : Int) - 1).toNat = b + (szTs u + (szT t - 1)) := by omega
  rw [hi, ho _ (by omega)]
  have hst : stTs b ts = stTs b u ++ (stT (b + szTs u) t ++ stTs (b + szTs u + szT t) ts2) := by
   rw [← he, List.append_assoc, List.singleton_append, stTs_app, stTs]
  rw [hst, List.getElem?_append_right (by rw [stTs_len]; omega), stTs_len, Nat.add_sub_cancel_left, List.getElem?_append_left (by rw [stT_len]; omega), stT_last]
  exact ih u (t :: ts2) (by simpa using hl) (by rw [← he]; simp) out ho

mutual
theorem starts_lst : ∀ (t : STree) (b : Nat) (rest : List (List Int)) (out : List Int), out.length = b → starts (kidsN (lst b t) ++ rest) out = starts rest (out ++ stT b t)
 | ⟨k, o, x, y, ks⟩, b, rest, out, hb => by
  have h1 := starts_lsts ks b ([endsT b ks] ++ rest) out hb
  have hl : (out ++ stTs b ks).length = b + szTs ks := by rw [List.length_append, stTs_len, hb]
  rw [lst, stT]
  have e : kidsN (lsts b ks ++ [(⟨k, o, x, y, endsT b ks⟩ : SNode)]) ++ rest = kidsN (lsts b ks) ++ ([endsT b ks] ++ rest) := by
   unfold kidsN
   rw [List.map_append, List.append_assoc]
   rfl
  rw [e, h1, List.singleton_append, starts, hl]
  have := walk_ends b ks ks.length ks [] rfl (by simp) (out ++ stTs b ks) (fun i hi => by rw [List.getElem?_append_right (by omega), hb, Nat.add_sub_cancel_left])
  rw [this, Option.bind_some, List.append_assoc]
theorem starts_lsts : ∀ (ts : List STree) (b : Nat) (rest : List (List Int)) (out : List Int), out.length = b → starts (kidsN (lsts b ts) ++ rest) out = starts rest (out ++ stTs b ts)
 | [], b, rest, out, hb => by
  rw [lsts, stTs, List.append_nil]
  rfl
 | t :: ts, b, rest, out, hb => by
  rw [lsts, stTs]
  have e : kidsN (lst b t ++ lsts (b + szT t) ts) ++ rest = kidsN (lst b t) ++ (kidsN (lsts (b + szT t) ts) ++ rest) := by
   unfold kidsN
   rw [List.map_append, List.append_assoc]
  rw [e, starts_lst t b _ out hb, starts_lsts ts (b + szT t) rest _ (by rw [List.length_append, stT_len, hb]), List.append_assoc]
end

theorem shapeB_lst (t : STree) (h : szT t ≤ 400) : shapeB (lst 0 t) = true := by
 have hp := szT_pos t
 have hs := starts_lst t 0 [] [] rfl
 rw [List.append_nil, List.nil_append] at hs
 unfold shapeB
 rw [hs, lst_len]
 simp only [starts, rootAt, stT_last, Bool.and_eq_true, decide_eq_true_eq]
 exact ⟨⟨hp, h⟩, by simp⟩

def PR (a : List SNode) (b : Nat) (l : List SNode) : Prop := ∀ (i : Nat) (x : SNode), l[i]? = some x → a[b + i]? = some x
theorem PR.left {a l1 l2 : List SNode} {b : Nat} (h : PR a b (l1 ++ l2)) : PR a b l1 := fun i x hx => h i x (by rw [List.getElem?_append_left (List.getElem?_eq_some_iff.1 hx).1]; exact hx)
theorem PR.right {a l1 l2 : List SNode} {b : Nat} (h : PR a b (l1 ++ l2)) : PR a (b + l1.length) l2 := fun i x hx => by
 have := h (l1.length + i) x (by rw [List.getElem?_append_right (by omega), Nat.add_sub_cancel_left]; exact hx)
 rw [Nat.add_assoc]
 exact this
mutual
theorem TA_lst {a : List SNode} : ∀ (t : STree) (b : Nat), PR a b (lst b t) → TA a t b (b + szT t - 1)
 | ⟨k, o, x, y, ks⟩, b, h => by
  rw [lst] at h
  have h1 := KA_lst ks b h.left
  have h2 := h.right 0 _ rfl
  rw [lsts_len, Nat.add_zero] at h2
  rw [szT, show b + (szTs ks + 1) - 1 = b + szTs ks by omega, TA]
  exact ⟨_, h2, rfl, rfl, rfl, rfl, h1⟩
theorem KA_lst {a : List SNode} : ∀ (ts : List STree) (b : Nat), PR a b (lsts b ts) → KA a ts (endsT b ts) b (b + szTs ts)
 | [], b, h => by
  rw [KA, endsT, szTs]
  exact ⟨rfl, rfl⟩
 | t :: ts, b, h => by
  rw [lsts] at h
  have hp := szT_pos t
  have h1 := TA_lst t b h.left
  have h2 := KA_lst ts (b + szT t) (by have := h.right; rw [lst_len] at this; exact this)
  rw [KA, endsT, szTs]
  refine ⟨b + szT t - 1, endsT (b + szT t) ts, ?_, by omega, by omega, h1, ?_⟩
  ·congr 1
   omega
  ·rw [show b + szT t - 1 + 1 = b + szT t by omega, ← Nat.add_assoc]
   exact h2
end
theorem fields_name (N : Nat) (x : SNode) (h : ms_FieldsOk N x = some true) (hk : x.Kind = 1) : x.Kids = [] := by
 unfold ms_FieldsOk at h
 have hm : ms_l7Many x = some (0, 0) := by
  simp only [ms_l7Many, ms_l7Many_k1, ms_l7Many_k2, ms_l7Many_k3, ms_l7Many_k4, ms_l7Many_k5, ms_l7Many_k6, hk, Int.reduceBEq, cond_false]
 rw [hm, Option.bind_some] at h
 obtain ⟨y6, _, h⟩ := Option.bind_eq_some_iff.1 h
 obtain ⟨y13, h, h'⟩ := Option.bind_eq_some_iff.1 h
 cases h'
 cases y6 with
 | false => cases h
 | true =>
  rw [cond_true] at h
  obtain ⟨r14, _, h⟩ := Option.bind_eq_some_iff.1 h
  cases r14 with
  | false => cases h
  | true =>
   rw [cond_true] at h
   obtain ⟨r15, _, h⟩ := Option.bind_eq_some_iff.1 h
   cases r15 with
   | false => cases h
   | true =>
    rw [cond_true, l1In_is, Option.bind_some, Option.some.injEq, Bool.and_eq_true, decide_eq_true_eq, decide_eq_true_eq] at h
    exact List.length_eq_zero_iff.1 (by omega)

theorem fields_l2 (N : Nat) (a : List SNode) (kb : (List SNode × Int) → Option Bool) (i : Nat) (hi : i < a.length) (hi2 : i ≤ 100000) (hkl : a[i].Kids.length ≤ 100000) : ∀ (m j : Nat), a[i].Kids.length - j < m → j ≤ a[i].Kids.length → ms_TreeOk_l2 N kb m (a, (i : Int), (j : Int)) = some true → kb (a, ((i + 1 : Nat) : Int)) = some true := by
 intro m
 induction m with
 | zero => intro j h; omega
 | succ m ihm =>
  intro j hm hj hh
  rw [ms_TreeOk_l2, ix_nat hi, Option.bind_some] at hh
  by_cases hlt : j < a[i].Kids.length
  ·simp only [lt_true hlt, cond_true, ix_nat hi, ix_nat hlt, Option.bind_some] at hh
   obtain ⟨y1, _, hh⟩ := Option.bind_eq_some_iff.1 hh
   obtain ⟨y2, _, hh⟩ := Option.bind_eq_some_iff.1 hh
   cases y2 with
   | false => cases hh
   | true =>
    simp only [Bool.not_true, cond_false] at hh
    rw [wrap64 (by omega) (by omega), show ((j : Int) + 1) = ((j + 1 : Nat) : Int) by omega] at hh
    exact ihm (j + 1) (by omega) (by omega) hh
  ·simp only [lt_false hlt, cond_false] at hh
   rw [wrap64 (by omega) (by omega)] at hh
   exact hh

theorem fields_l1 (N : Nat) (a : List SNode) (ha : a.length ≤ 400) (hk : ∀ x, x ∈ a → x.Kids.length ≤ 400) (hN : 500 < N) : ∀ (n i : Nat), a.length - i < n → i ≤ a.length → ms_TreeOk_l1 N n (a, (i : Int)) = some true → ∀ x, x ∈ a.drop i → ms_FieldsOk N x = some true := by
 intro n
 induction n with
 | zero => intro i h; omega
 | succ n ih =>
  intro i hn hi h x hx
  rw [ms_TreeOk_l1] at h
  by_cases hlt : i < a.length
  ·simp only [lt_true hlt, cond_true, ix_nat hlt, Option.bind_some] at h
   obtain ⟨b, hb, h⟩ := Option.bind_eq_some_iff.1 h
   cases b with
   | false => cases h
   | true =>
    simp only [Bool.not_true, cond_false] at h
    have hkl := hk _ (List.getElem_mem hlt)
    have h1 := fields_l2 N a (ms_TreeOk_l1 N n) i hlt (by omega) (by omega) N 0 (by omega) (by omega) h
    rw [drop_cons hlt] at hx
    rcases List.mem_cons.1 hx with rfl | hx
    ·exact hb
    ·exact ih (i + 1) (by omega) (by omega) h1 x hx
  ·rw [drop_nil hlt] at hx
   cases hx

theorem treeOk_names (N : Nat) (a : List SNode) (hN : 500 < N) (hsh : shapeB a = true) (h : ms_TreeOk N a = some true) : ∀ x, x ∈ a → x.Kind = 1 → x.Kids = [] := by
 unfold ms_TreeOk at h
 obtain ⟨y, _, h⟩ := Option.bind_eq_some_iff.1 h
 cases y with
 | true => cases h
 | false =>
  rw [cond_false] at h
  intro x hx hk
  have h2 := (shape_of hsh).2.1
  exact fields_name N x (fields_l1 N a h2 (fun z hz => (shape_kids hsh z hz).1) hN N 0 (by omega) (by omega) h x (by rw [List.drop_zero]; exact hx)) hk

theorem markN_up (N : Nat) (k : Int) (a : List SNode) (hN : 1048576 < N) (hl : a.length ≤ 1048576) (ha : ∀ x, x ∈ a → smNode x) (h0 : 0 ≤ k) (h1 : k ≤ 4611686018427387904 - 4398050705408) :
  ∃ k' a', ml_markNodeS N k a = some (k', a') ∧ k ≤ k' ∧ k' ≤ k + 4398050705408 := by
 have hc := costNode_le a ha hl
 have hle := mkAll_le (mkNode_le N) a k h0
 exact ⟨_, _, markNodeS_is N k a hN hl ha h0 (by omega), hle.1, by omega⟩

def smHole (h : SHole) : Prop := h.Name.length ≤ 1048576 ∧ h.Part.length ≤ 1048576 ∧ ∀ x, x ∈ h.Part → smNode x
theorem eqHole_self (N : Nat) (h : SHole) (hN : 1048576 < N) (hh : smHole h) : ml_eqHole N h h = some true := by
 unfold ml_eqHole
 rw [eqNodeS_self N _ hN hh.2.1 hh.2.2]
 simp

theorem eqHoleS_self (N : Nat) (a : List SHole) (hN : 1048576 < N) (hl : a.length ≤ 1048576) (ha : ∀ x, x ∈ a → smHole x) : ml_eqHoleS N a a = some true := by
 have hloop : ∀ n s, ml_eqHoleS_l1 N n s = eqL (ml_eqHole N) n s := by
  intro n
  induction n with
  | zero => intro s; rfl
  | succ n ih => intro ⟨a, b, i⟩; rw [ml_eqHoleS_l1, eqL]; simp only [ih]
 unfold ml_eqHoleS
 simp only [bne_self_eq_false, cond_false, hloop]
 exact eqL_self _ a (fun x hx => eqHole_self N x hN (ha x hx)) (by simp only [maxLen]; omega) N 0 (by omega) (by omega)

def mkHole (N : Nat) (x : SHole) (k : Int) : SHole × Int := (⟨mT N k, (mkAll (mkNode N) x.Part (k + 1)).1⟩, (mkAll (mkNode N) x.Part (k + 1)).2)
def costHole (x : SHole) : Nat := 1 + sumN costNode x.Part
theorem mkHole_le (N : Nat) (x : SHole) (k : Int) (h0 : 0 ≤ k) : k ≤ (mkHole N x k).2 ∧ (mkHole N x k).2 ≤ k + costHole x := by
 have := mkAll_le (mkNode_le N) x.Part (k + 1) (by omega)
 simp only [mkHole, costHole]
 omega

theorem markHoleS_is (N : Nat) (k : Int) (a : List SHole) (hN : 1048576 < N) (hl : a.length ≤ 1048576) (ha : ∀ x, x ∈ a → smHole x) (h0 : 0 ≤ k) (h1 : k + sumN costHole a ≤ 4611686018427387904) :
  ml_markHoleS N k a = some ((mkAll (mkHole N) a k).2, (mkAll (mkHole N) a k).1) := by
 have := markLoop (M := ml_markHoleS_l1 N) (mk := mkHole N) (cost := costHole) (ok := smHole) (mkHole_le N) (fun n k i y e hs h0 h1 hl hy => by
   have hi : i < y.length := (List.getElem?_eq_some_iff.1 hy).1
   have he : y[i] = e := (List.getElem?_eq_some_iff.1 hy).2
   unfold costHole at h1
   obtain ⟨s1, s2, s3⟩ := hs
   have w1 : IntKind.wrap .i64 (k + 1) = k + 1 := wrap64 (by omega) (by omega)
   have t0 := mT_is N k (by omega) (by omega) (by omega)
   have t1 := markNodeS_is N (k + 1) e.Part hN s2 s3 (by omega) (by omega)
   rw [ml_markHoleS_l1]
   simp only [lt_true hi, cond_true, ix_nat, upd_nat, List.length_set, hi, List.getElem_set_self, List.set_set, he, Option.bind_some, step64 hi hl, w1, t0, t1]
   rfl) (fun n k i y hi => by
   rw [ml_markHoleS_l1]
   simp only [lt_false hi, cond_false]) a [] k N ha h0 h1 (by omega) (by simp [maxLen]; omega)
 unfold ml_markHoleS
 simpa using this

mutual
def allT (P : STree → Prop) : STree → Prop
 | ⟨k, o, x, y, ks⟩ => P ⟨k, o, x, y, ks⟩ ∧ allTs P ks
def allTs (P : STree → Prop) : List STree → Prop
 | [] => True
 | t :: ts => allT P t ∧ allTs P ts
end
mutual
theorem allT_of {a : List SNode} {P : STree → Prop} (h : ∀ (t : STree) (s i : Nat), TA a t s i → P t) : ∀ (t : STree) (s i : Nat), TA a t s i → allT P t
 | ⟨k, o, x, y, ks⟩, s, i, ht => by
  have h1 := h _ s i ht
  rw [TA] at ht
  obtain ⟨n, _, _, _, _, _, hk⟩ := ht
  rw [allT]
  exact ⟨h1, allTs_of h ks _ s i hk⟩
theorem allTs_of {a : List SNode} {P : STree → Prop} (h : ∀ (t : STree) (s i : Nat), TA a t s i → P t) : ∀ (ts : List STree) (ks : List Int) (s e : Nat), KA a ts ks s e → allTs P ts
 | [], ks, s, e, _ => by rw [allTs]; trivial
 | t :: ts, ks, s, e, hk => by
  rw [KA] at hk
  obtain ⟨k, ks', _, _, _, h1, h2⟩ := hk
  rw [allTs]
  exact ⟨allT_of h t s k h1, allTs_of h ts ks' (k + 1) e h2⟩
end
mutual
theorem allT_get {a : List SNode} {P : STree → Prop} : ∀ (v : STree) (s i : Nat), TA a v s i → allT P v → ∀ (w : STree) (s' j : Nat), TA a w s' j → s ≤ j → j ≤ i → P w
 | ⟨k, o, x, y, ks⟩, s, i, hv, hp, w, s', j, hw, h1, h2 => by
  rw [allT] at hp
  by_cases e : j = i
  ·subst e
   obtain ⟨rfl, _⟩ := TA.uniq hw hv
   exact hp.1
  ·rw [TA] at hv
   obtain ⟨n, _, _, _, _, _, hk⟩ := hv
   exact allTs_get ks _ s i hk hp.2 w s' j hw h1 (by omega)
theorem allTs_get {a : List SNode} {P : STree → Prop} : ∀ (ts : List STree) (ks : List Int) (s e : Nat), KA a ts ks s e → allTs P ts → ∀ (w : STree) (s' j : Nat), TA a w s' j → s ≤ j → j < e → P w
 | [], ks, s, e, hk, _, w, s', j, _, h1, h2 => by
  rw [KA] at hk
  omega
 | t :: ts, ks, s, e, hk, hp, w, s', j, hw, h1, h2 => by
  rw [KA] at hk
  obtain ⟨k, ks', _, g1, g2, g3, g4⟩ := hk
  rw [allTs] at hp
  by_cases hj : j ≤ k
  ·exact allT_get t s k g3 hp.1 w s' j hw h1 hj
  ·exact allTs_get ts ks' (k + 1) e g4 hp.2 w s' j hw (by omega) h2
end
mutual
theorem allT_imp {P Q : STree → Prop} (h : ∀ t, P t → Q t) : ∀ t : STree, allT P t → allT Q t
 | ⟨k, o, x, y, ks⟩, ht => by
  rw [allT] at ht ⊢
  exact ⟨h _ ht.1, allTs_imp h ks ht.2⟩
theorem allTs_imp {P Q : STree → Prop} (h : ∀ t, P t → Q t) : ∀ ts : List STree, allTs P ts → allTs Q ts
 | [], _ => by rw [allTs]; trivial
 | t :: ts, ht => by
  rw [allTs] at ht ⊢
  exact ⟨allT_imp h t ht.1, allTs_imp h ts ht.2⟩
end

def RelX (g : List SFilling) (h : List SHole) (x : List UInt8) : Prop :=
 match h.find? (fun f => f.Name == x) with
 | none => g.find? (fun f => f.name == x) = none
 | some f => if f.Part.length = 0 then g.find? (fun f => f.name == x) = none else ∃ e, g.find? (fun f => f.name == x) = some e ∧ f.Part = lst 0 e.tree

theorem catL_lst : ∀ (ts : List STree) (b : Nat), b + szTs ts ≤ 1000000000 → catL b (ts.map (lst 0)) = lsts b ts
 | [], b, _ => by rw [lsts]; rfl
 | t :: ts, b, h => by
  rw [szTs] at h
  rw [List.map_cons, catL, lsts, lst_len, catL_lst ts _ (by omega)]
  congr 1
  have e := lst_sh t 0 b
  rw [Nat.zero_add] at e
  rw [e]
  refine List.map_congr_left fun x hx => shW_shN fun k hk => ?_
  have := lst_range t 0 x hx k hk
  omega
theorem endsL_lst : ∀ (ts : List STree) (b : Nat), endsL b (ts.map (lst 0)) = endsT b ts
 | [], b => by rw [endsT]; rfl
 | t :: ts, b => by
  rw [List.map_cons, endsL, endsT, lst_len, endsL_lst ts]
theorem mkL_lst (k o : Int) (x y : List UInt8) (ts : List STree) (h : szTs ts ≤ 1000000000) : mkL k o x y (ts.map (lst 0)) = lst 0 ⟨k, o, x, y, ts⟩ := by
 unfold mkL
 rw [catL_lst ts 0 (by omega), endsL_lst, lst]

mutual
theorem fillL_lst (g : List SFilling) (h : List SHole) (hg : ∀ f, f ∈ g → szT f.tree ≤ 400) : ∀ t : STree, szT t ≤ 400 → allT (fun t => hB t.kind t.text = true → RelX g h t.text ∧ t.kids = []) t → fillL h t = lst 0 (fillT g t)
 | ⟨k, o, x, y, ks⟩, hsz, ha => by
  rw [allT] at ha
  have hs : szT ⟨k, o, x, y, ks⟩ = szTs ks + 1 := szT_eq _
  have hks := fillLs_lst g h hg ks (by omega) ha.2
  have hbig := szTs_fill g hg ks
  have hm : mkL k o x y (fillLs h ks) = lst 0 ⟨k, o, x, y, fillTs g ks⟩ := by rw [hks, mkL_lst _ _ _ _ _ (by omega)]
  rw [fillL, fillT]
  cases hh : hB k x with
  | false =>
   simp only [Bool.false_eq_true, if_false]
   exact hm
  | true =>
   obtain ⟨h1, h2⟩ := ha.1 hh
   simp only at h1 h2
   subst h2
   have hm2 : mkL k o x y (fillLs h []) = lst 0 ⟨k, o, x, y, []⟩ := by rw [hm, fillTs]
   unfold RelX at h1
   simp only [if_true]
   cases hf : h.find? (fun f => f.Name == x) with
   | none =>
    rw [hf] at h1
    simp only at h1
    rw [h1]
    exact hm2
   | some f =>
    rw [hf] at h1
    simp only at h1
    by_cases hz : f.Part.length = 0
    ·rw [if_pos hz] at h1
     simp only [if_pos hz, h1]
     exact hm2
    ·rw [if_neg hz] at h1
     obtain ⟨e, e1, e2⟩ := h1
     simp only [if_neg hz, e1]
     exact e2
theorem fillLs_lst (g : List SFilling) (h : List SHole) (hg : ∀ f, f ∈ g → szT f.tree ≤ 400) : ∀ ts : List STree, szTs ts ≤ 400 → allTs (fun t => hB t.kind t.text = true → RelX g h t.text ∧ t.kids = []) ts → fillLs h ts = (fillTs g ts).map (lst 0)
 | [], _, _ => by rw [fillLs, fillTs]; rfl
 | t :: ts, hsz, ha => by
  rw [allTs] at ha
  rw [szTs] at hsz
  rw [fillLs, fillTs, List.map_cons, fillL_lst g h hg t (by omega) ha.1, fillLs_lst g h hg ts (by omega) ha.2]
end

def OkX (h : List SHole) (x : List UInt8) : Prop := ∀ f, h.find? (fun f => f.Name == x) = some f → f.Part.length ≠ 0 → shapeB f.Part = true

theorem shW_inj {b : Nat} {p q : List SNode} (hp : ∀ x, x ∈ p → i64N x) (hq : ∀ x, x ∈ q → ∀ k, k ∈ x.Kids → 0 ≤ k ∧ k < 100000) (hb : b ≤ 100000) (h : p.map (shW (b : Int)) = q.map (shN (b : Int))) : p = q := by
 have hlen : p.length = q.length := by simpa using congrArg List.length h
 refine List.ext_getElem hlen fun i h1 h2 => ?_
 have h3 := congrArg (fun l => l[i]?) h
 simp only [List.getElem?_map, List.getElem?_eq_getElem h1, List.getElem?_eq_getElem h2, Option.map_some, Option.some.injEq] at h3
 have hpi := hp _ (List.getElem_mem h1)
 have hqi := hq _ (List.getElem_mem h2)
 generalize p[i] = u at h3 hpi
 generalize q[i] = v at h3 hqi
 obtain ⟨a1, a2, a3, a4, a5⟩ := u
 obtain ⟨b1, b2, b3, b4, b5⟩ := v
 simp only [shW, shN, SNode.mk.injEq] at h3
 obtain ⟨rfl, rfl, rfl, rfl, h4⟩ := h3
 congr 1
 unfold i64N at hpi
 simp only at hpi hqi
 have hl : a5.length = b5.length := by simpa using congrArg List.length h4
 refine List.ext_getElem hl fun j j1 j2 => ?_
 have h5 := congrArg (fun l => l[j]?) h4
 simp only [List.getElem?_map, List.getElem?_eq_getElem j1, List.getElem?_eq_getElem j2, Option.map_some, Option.some.injEq] at h5
 have e1 := hpi _ (List.getElem_mem j1)
 have e2 := hqi _ (List.getElem_mem j2)
 rw [IntKind.wrap_i64] at h5
 omega

theorem part_split {a : List SNode} {s e : Nat} {x y : List SNode} (h : part a s e = x ++ y) (he : e ≤ a.length) (hse : s ≤ e) : part a s (s + x.length) = x ∧ part a (s + x.length) e = y ∧ s + x.length ≤ e := by
 have hl := congrArg List.length h
 rw [part_len he, List.length_append] at hl
 have h2 := part_cat (a := a) (s := s) (m := s + x.length) (e := e) (by omega) (by omega)
 rw [h] at h2
 have := List.append_inj h2 (by rw [part_len (by omega)]; omega)
 exact ⟨this.1, this.2, by omega⟩

mutual
theorem bad_T (a : List SNode) (ha : a.length ≤ 400) (h : List SHole) (hg : PtOk h) : ∀ (t u : STree) (b e : Nat), TA a u b e → part a b (e + 1) = (fillL h t).map (shW (b : Int)) → allT (fun t => hB t.kind t.text = true → t.kids = []) t → allT (fun t => hB t.kind t.text = true → OkX h t.text) t
 | ⟨k, o, x, y, ks⟩, u, b, e, hu, hp, hl => by
  rw [allT] at hl
  have hlt := hu.lt
  obtain ⟨u1, u2, u3⟩ := hu.part
  -- the node over its parts
  have hmk : part a b (e + 1) = (mkL k o x y (fillLs h ks)).map (shW (b : Int)) → allTs (fun t => hB t.kind t.text = true → OkX h t.text) ks := fun hq => by
   have hql := congrArg List.length hq
   rw [part_len (by omega), List.length_map, mkL_len] at hql
   unfold mkL at hq
   rw [List.map_append, catL_sh, Nat.add_zero] at hq
   obtain ⟨q1, q2, q3⟩ := part_split hq (by omega) (by omega)
   rw [catL_len] at q1 q2 q3
   have hbe : b + sumL (fillLs h ks) = e := by omega
   rw [hbe] at q1 q2
   have hnode : a[e]? = some (shW (b : Int) ⟨k, o, x, y, endsL 0 (fillLs h ks)⟩) := by
    rw [part_one (List.getElem?_eq_getElem hlt)] at q2
    rw [List.getElem?_eq_getElem hlt]
    simpa using q2
   obtain ⟨uk, uo, ux, uy, us⟩ := u
   rw [TA] at hu
   obtain ⟨n, hn, _, _, _, _, hk⟩ := hu
   rw [hn] at hnode
   cases hnode
   have hkk : (shW (b : Int) ⟨k, o, x, y, endsL 0 (fillLs h ks)⟩).Kids = endsL b (fillLs h ks) := by
    have := endsL_sh (fillLs h ks) b 0 (by omega)
    rw [Nat.add_zero] at this
    exact this
   rw [hkk] at hk
   exact bad_Ts a ha h hg ks us b e hk q1 (by omega) hl.2
  rw [allT]
  rw [fillL] at hp
  cases hh : hB k x with
  | false =>
   rw [hh] at hp
   simp only [Bool.false_eq_true, if_false] at hp
   exact ⟨fun hx => Bool.noConfusion hx, hmk hp⟩
  | true =>
   have hks : ks = [] := hl.1 hh
   rw [hh] at hp
   simp only [if_true] at hp
   refine ⟨fun _ f hf hz => ?_, by subst hks; rw [allTs]; trivial⟩
   simp only at hf
   rw [hf] at hp
   simp only [if_neg hz] at hp
   rw [u3] at hp
   have e1 := lst_sh u 0 b
   rw [Nat.zero_add] at e1
   rw [e1] at hp
   have hfm := hg f (List.mem_of_find?_eq_some hf)
   have := shW_inj (fun z hz => (hfm.2 z hz).2) (fun z hz kk hkk => by have := lst_range u 0 z hz kk hkk; omega) (by omega) hp.symm
   rw [this]
   exact shapeB_lst u (by omega)
theorem bad_Ts (a : List SNode) (ha : a.length ≤ 400) (h : List SHole) (hg : PtOk h) : ∀ (ts us : List STree) (b e : Nat), KA a us (endsL b (fillLs h ts)) b e → part a b e = catL b (fillLs h ts) → e ≤ a.length → allTs (fun t => hB t.kind t.text = true → t.kids = []) ts → allTs (fun t => hB t.kind t.text = true → OkX h t.text) ts
 | [], us, b, e, _, _, _, _ => by rw [allTs]; trivial
 | t :: ts, us, b, e, hk, hp, he, hl => by
  rw [allTs] at hl ⊢
  rw [fillLs, endsL] at hk
  rw [fillLs, catL] at hp
  cases us with
  | nil => rw [KA] at hk; cases hk.1
  | cons u us =>
   rw [KA] at hk
   obtain ⟨k, ks', e1, e2, e3, h1, h2⟩ := hk
   injection e1 with e4 e5
   have hk1 : k + 1 = b + (fillL h t).length := by omega
   obtain ⟨p1, p2, p3⟩ := part_split hp he (by omega)
   rw [List.length_map, ← hk1] at p1 p2
   rw [← e5, hk1] at h2
   rw [hk1] at p2
   exact ⟨bad_T a ha h hg t u b k h1 p1 hl.1, bad_Ts a ha h hg ts us _ e h2 p2 he hl.2⟩
end

theorem compact_mem (zs : List (List UInt8)) (x : List UInt8) (hx : x ∈ zs) : x ∈ Go.Lib.compact zs := by
 have key : ∀ j, j < zs.length → zs.toArray[j]! ∈ Go.Lib.compact zs := by
  intro j
  induction j with
  | zero =>
   intro hj
   refine List.mem_map.2 ⟨0, List.mem_filter.2 ⟨by simpa using hj, ?_⟩, rfl⟩
   simp [Go.Lib.keeps]
  | succ j ih =>
   intro hj
   by_cases hk : Go.Lib.keeps zs.toArray (j + 1) = true
   ·exact List.mem_map.2 ⟨j + 1, List.mem_filter.2 ⟨by simpa using hj, hk⟩, rfl⟩
   ·have := ih (by omega)
    have e : zs.toArray[j + 1]! = zs.toArray[j]! := by
     simp [Go.Lib.keeps] at hk
     simpa using hk
    rw [e]; exact this
 obtain ⟨j, hj, rfl⟩ := List.getElem_of_mem hx
 have := key j hj
 simpa [hj] using this

theorem sortS_mem (l : List (List UInt8)) (x : List UInt8) : x ∈ sortS l ↔ x ∈ l := by
 unfold sortS
 exact List.mem_mergeSort

theorem once_ex (l : List (List UInt8)) (hl : l.length ≤ 1048576) : ∃ r, mi_once l = some r ∧ (∀ x, x ∈ l → x ∈ r) ∧ r.length ≤ 1048576 := by
 unfold mi_once m_slices_Sort_string m_slices_Compact_string sortSO compSO
 have h1 := sortS_len l
 have h2 := Go.Lib.compact_length_le (sortS l)
 simp only [hl, if_true, Option.bind_some, h1]
 exact ⟨_, rfl, fun x hx => compact_mem _ x ((sortS_mem l x).2 hx), by omega⟩

theorem namesIn_ex (n : SNode) (l : List (List UInt8)) (hl : l.length ≤ 1000000) : ∃ r, mi_namesIn n.Kind n.Op n.Text n.Other n.Kids l = some r ∧ r.length ≤ l.length + 2 ∧ (∀ x, x ∈ l → x ∈ r) ∧ (n.Kind = 1 → n.Text ∈ r) := by
 have h1 : ∀ (k : Int) (l : List (List UInt8)), l.length ≤ 1000001 → ∃ r, mi_namesIn_k1 k n.Op n.Text n.Other n.Kids l = some r ∧ r.length ≤ l.length + 1 ∧ ∀ x, x ∈ l → x ∈ r := by
  intro k l hl
  unfold mi_namesIn_k1 mi_NamesOf_1_v2
  cases (k == 32) with
  | false => exact ⟨l, rfl, by omega, fun x hx => hx⟩
  | true =>
   have e : app 16 l [n.Other] = some (l ++ [n.Other]) := app_some (by simp; omega)
   simp only [cond_true, e, Option.bind_some]
   exact ⟨_, rfl, by simp, fun x hx => List.mem_append_left _ hx⟩
 have h2 : ∀ (k : Int) (b : Bool), ∃ r, mi_namesIn_k2 k n.Op n.Text n.Other n.Kids (l, b) = some r ∧ r.length ≤ l.length + 2 ∧ (∀ x, x ∈ l → x ∈ r) ∧ (b = true → n.Text ∈ r) := by
  intro k b
  unfold mi_namesIn_k2 mi_NamesOf_1
  cases b with
  | false =>
   obtain ⟨r, r1, r2, r3⟩ := h1 k l (by omega)
   exact ⟨r, r1, by omega, r3, fun h => by cases h⟩
  | true =>
   have e : app 16 l [n.Text] = some (l ++ [n.Text]) := app_some (by simp; omega)
   simp only [cond_true, e, Option.bind_some]
   obtain ⟨r, r1, r2, r3⟩ := h1 k (l ++ [n.Text]) (by simp; omega)
   exact ⟨r, r1, by simp at r2; omega, fun x hx => r3 x (List.mem_append_left _ hx), fun _ => r3 _ (by simp)⟩
 have h3 : ∀ (k : Int) (b : Bool), (n.Kind = 1 → b = true) → ∃ r, mi_namesIn_k2 k n.Op n.Text n.Other n.Kids (l, b) = some r ∧ r.length ≤ l.length + 2 ∧ (∀ x, x ∈ l → x ∈ r) ∧ (n.Kind = 1 → n.Text ∈ r) := by
  intro k b hb
  obtain ⟨r, r1, r2, r3, r4⟩ := h2 k b
  exact ⟨r, r1, r2, r3, fun h => r4 (hb h)⟩
 unfold mi_namesIn
 cases h : (n.Kind == 1) with
 | true => exact h3 _ _ fun _ => rfl
 | false =>
  have hn : n.Kind ≠ 1 := fun e => by rw [e] at h; cases h
  simp only [cond_false]
  have h4 : ∀ b : Bool, ∃ r, mi_namesIn_k2 n.Kind n.Op n.Text n.Other n.Kids (l, b) = some r ∧ r.length ≤ l.length + 2 ∧ (∀ x, x ∈ l → x ∈ r) ∧ (n.Kind = 1 → n.Text ∈ r) := fun b => h3 _ b fun e => absurd e hn
  cases (n.Kind == 5) with
  | true => exact h4 true
  | false =>
   simp only [cond_false]
   cases (n.Kind == 13) with
   | true => exact h4 true
   | false =>
    simp only [cond_false]
    cases (n.Kind == 27) with
    | true => exact h4 true
    | false => exact h4 (n.Kind == 32)

theorem names_l (N : Nat) (a : List SNode) (ha : a.length ≤ 400) : ∀ (n i : Nat) (l : List (List UInt8)), a.length - i < n → i ≤ a.length → l.length ≤ 2 * i → ∃ r, mi_NamesOf_l1 N n (a, (i : Int), l) = some r ∧ (∀ x, x ∈ l → x ∈ r) ∧ (∀ x, x ∈ a.drop i → x.Kind = 1 → x.Text ∈ r) ∧ r.length ≤ 1048576 := by
 intro n
 induction n with
 | zero => intro i l h; omega
 | succ n ih =>
  intro i l hn hi hl
  rw [mi_NamesOf_l1]
  by_cases h : i < a.length
  ·obtain ⟨r, r1, r2, r3, r4⟩ := namesIn_ex a[i] l (by omega)
   simp only [lt_true h, cond_true, ix_nat h, Option.bind_some, r1, step64 h (by simp only [maxLen]; omega)]
   obtain ⟨q, q1, q2, q3, q4⟩ := ih (i + 1) r (by omega) (by omega) (by omega)
   refine ⟨q, q1, fun x hx => q2 x (r3 x hx), fun x hx hk => ?_, q4⟩
   rw [drop_cons h] at hx
   rcases List.mem_cons.1 hx with rfl | hx
   ·exact q2 _ (r4 hk)
   ·exact q3 x hx hk
  ·simp only [lt_false h, cond_false]
   obtain ⟨r, r1, r2, r3⟩ := once_ex l (by omega)
   rw [r1]
   exact ⟨r, rfl, r2, (fun x hx => by rw [drop_nil h] at hx; cases hx), r3⟩

end Go.Proofs.Tryz
