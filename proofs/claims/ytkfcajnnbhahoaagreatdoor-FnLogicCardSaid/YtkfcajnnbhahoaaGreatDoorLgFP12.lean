/-
 Plain lemmas on the models, part 12.
-/
import Derived.Test.YtkfcajnnbhahoaaGreatDoorLgFP11
namespace Go.Proofs.Tryz
open Go.Av
set_option maxRecDepth 100000
set_option linter.unusedSimpArgs false
set_option linter.unusedVariables false

theorem nodes_l2 (N : Nat) (a : List SNode) (kb : (List SNode × Int) → Option Bool) (i : Nat) (hi : i < a.length) (hi2 : i ≤ 100000) (hkl : a[i].Kids.length ≤ 100000) : ∀ (m j : Nat), a[i].Kids.length - j < m → j ≤ a[i].Kids.length → ms_TreeOk_l2 N kb m (a, (i : Int), (j : Int)) = some true →
  kb (a, ((i + 1 : Nat) : Int)) = some true ∧ ∀ (q : Nat) (hq : q < a[i].Kids.length), j ≤ q → ∃ y, ix a a[i].Kids[q] = some y ∧ ms_l7Kid a[i] (q : Int) y.Kind = some true := by
 intro m
 induction m with
 | zero => intro j h; omega
 | succ m ihm =>
  intro j hm hj hh
  rw [ms_TreeOk_l2, ix_nat hi, oBs] at hh
  by_cases hlt : j < a[i].Kids.length
  ·simp only [lt_true hlt, cond_true, ix_nat hi, ix_nat hlt, oBs] at hh
   obtain ⟨y1, h1, hh⟩ := Option.bind_eq_some_iff.1 hh
   obtain ⟨y2, h2, hh⟩ := Option.bind_eq_some_iff.1 hh
   cases y2 with
   | false => cases hh
   | true =>
    simp only [Bool.not_true, cond_false] at hh
    rw [wrap64 (by omega) (by omega), show ((j : Int) + 1) = ((j + 1 : Nat) : Int) by omega] at hh
    obtain ⟨r1, r2⟩ := ihm (j + 1) (by omega) (by omega) hh
    refine ⟨r1, fun q hq hjq => ?_⟩
    by_cases hqj : q = j
    ·subst hqj; exact ⟨y1, h1, h2⟩
    ·exact r2 q hq (by omega)
  ·simp only [lt_false hlt, cond_false] at hh
   rw [wrap64 (by omega) (by omega)] at hh
   exact ⟨hh, fun q hq hjq => by omega⟩

def NodeR (N : Nat) (a : List SNode) (x : SNode) : Prop := ms_FieldsOk N x = some true ∧ ∀ (q : Nat) (hq : q < x.Kids.length), ∃ y, ix a x.Kids[q] = some y ∧ ms_l7Kid x (q : Int) y.Kind = some true

theorem nodes_l1 (N : Nat) (a : List SNode) (ha : a.length ≤ 400) (hk : ∀ x, x ∈ a → x.Kids.length ≤ 400) (hN : 500 < N) : ∀ (n i : Nat), a.length - i < n → i ≤ a.length → ms_TreeOk_l1 N n (a, (i : Int)) = some true → ∀ x, x ∈ a.drop i → NodeR N a x := by
 intro n
 induction n with
 | zero => intro i h; omega
 | succ n ih =>
  intro i hn hi h x hx
  rw [ms_TreeOk_l1] at h
  by_cases hlt : i < a.length
  ·simp only [lt_true hlt, cond_true, ix_nat hlt, oBs] at h
   obtain ⟨b, hb, h⟩ := Option.bind_eq_some_iff.1 h
   cases b with
   | false => cases h
   | true =>
    simp only [Bool.not_true, cond_false] at h
    have hkl := hk _ (List.getElem_mem hlt)
    obtain ⟨h1, h2⟩ := nodes_l2 N a (ms_TreeOk_l1 N n) i hlt (by omega) (by omega) N 0 (by omega) (by omega) h
    rw [drop_cons hlt] at hx
    rcases List.mem_cons.1 hx with rfl | hx
    ·exact ⟨hb, fun q hq => h2 q hq (by omega)⟩
    ·exact ih (i + 1) (by omega) (by omega) h1 x hx
  ·rw [drop_nil hlt] at hx
   cases hx

theorem treeOk_nodes (N : Nat) (a : List SNode) (hN : 500 < N) (hsh : shapeB a = true) (h : ms_TreeOk N a = some true) : ∀ x, x ∈ a → NodeR N a x := by
 unfold ms_TreeOk at h
 obtain ⟨y, _, h⟩ := Option.bind_eq_some_iff.1 h
 cases y with
 | true => cases h
 | false =>
  rw [cond_false] at h
  intro x hx
  have h2 := (shape_of hsh).2.1
  exact nodes_l1 N a h2 (fun z hz => (shape_kids hsh z hz).1) hN N 0 (by omega) (by omega) h x (by rw [List.drop_zero]; exact hx)

mutual
def AllT (P : STree → Prop) : STree → Prop
 | ⟨k, o, x, y, ts⟩ => P ⟨k, o, x, y, ts⟩ ∧ AllTs P ts
def AllTs (P : STree → Prop) : List STree → Prop
 | [] => True
 | t :: ts => AllT P t ∧ AllTs P ts
end
theorem allTs_of {P : STree → Prop} : ∀ {ts : List STree}, (∀ t, t ∈ ts → AllT P t) → AllTs P ts
 | [], _ => by rw [AllTs]; trivial
 | t :: ts, h => by rw [AllTs]; exact ⟨h t (by simp), allTs_of fun u hu => h u (by simp [hu])⟩
theorem AllT.head {P : STree → Prop} {t : STree} (h : AllT P t) : P t := by
 obtain ⟨k, o, x, y, ts⟩ := t
 rw [AllT] at h
 exact h.1

mutual
theorem TA.sub {a : List SNode} {P : STree → Prop} : ∀ {t : STree} {s i : Nat}, TA a t s i → AllT P t → ∀ j, s ≤ j → j ≤ i → ∃ u s', TA a u s' j ∧ s ≤ s' ∧ P u
 | ⟨kd, op, x, y, ts⟩, s, i, h, hp, j, h1, h2 => by
  by_cases hj : j = i
  ·subst hj
   exact ⟨_, s, h, Nat.le_refl _, hp.head⟩
  ·rw [TA] at h
   rw [AllT] at hp
   obtain ⟨n, hn, rfl, rfl, rfl, rfl, hk⟩ := h
   exact KA.sub hk hp.2 j h1 (by omega)
theorem KA.sub {a : List SNode} {P : STree → Prop} : ∀ {ts : List STree} {ks : List Int} {s e : Nat}, KA a ts ks s e → AllTs P ts → ∀ j, s ≤ j → j < e → ∃ u s', TA a u s' j ∧ s ≤ s' ∧ P u
 | [], ks, s, e, h, hp, j, h1, h2 => by
  rw [KA] at h
  omega
 | t :: ts, ks, s, e, h, hp, j, h1, h2 => by
  rw [KA] at h
  rw [AllTs] at hp
  obtain ⟨k, ks', rfl, g1, g2, ht, hk⟩ := h
  have hs := ht.part.1
  by_cases hj : j ≤ k
  ·exact TA.sub ht hp.1 j h1 hj
  ·obtain ⟨u, s', r1, r2, r3⟩ := KA.sub hk hp.2 j (by omega) h2
   exact ⟨u, s', r1, by omega, r3⟩
end

theorem KA.mem {a : List SNode} : ∀ {ts : List STree} {ks : List Int} {s e : Nat}, KA a ts ks s e → ∀ k : Int, k ∈ ks → ∃ n : Nat, k = n ∧ s ≤ n ∧ n < e
 | [], ks, s, e, h, k, hk => by
  rw [KA] at h
  rw [h.1] at hk
  cases hk
 | t :: ts, ks, s, e, h, k, hk => by
  rw [KA] at h
  obtain ⟨k0, ks', rfl, g1, g2, ht, hk'⟩ := h
  have hs := ht.part.1
  rcases List.mem_cons.1 hk with rfl | hk
  ·exact ⟨k0, rfl, hs, g2⟩
  ·obtain ⟨n, r1, r2, r3⟩ := KA.mem hk' k hk
   exact ⟨n, r1, by omega, r3⟩

theorem fields_len (N : Nat) (k o : Int) (x y : List UInt8) (ks ks' : List Int) (h : ks.length = ks'.length) : ms_FieldsOk N ⟨k, o, x, y, ks⟩ = ms_FieldsOk N ⟨k, o, x, y, ks'⟩ := by
 have h1 : ms_l7Many ⟨k, o, x, y, ks⟩ = ms_l7Many ⟨k, o, x, y, ks'⟩ := by
  simp only [ms_l7Many, ms_l7Many_k1, ms_l7Many_k2, ms_l7Many_k3, ms_l7Many_k4, ms_l7Many_k5, ms_l7Many_k6, h]
 have h2 : ms_l7Op ⟨k, o, x, y, ks⟩ = ms_l7Op ⟨k, o, x, y, ks'⟩ := rfl
 have h3 : ms_l7Text N ⟨k, o, x, y, ks⟩ = ms_l7Text N ⟨k, o, x, y, ks'⟩ := rfl
 unfold ms_FieldsOk
 rw [h1, h2, h3]
 simp only [h]

theorem kid_len (k o : Int) (x y : List UInt8) (ks ks' : List Int) (h : ks.length = ks'.length) (q kd : Int) : ms_l7Kid ⟨k, o, x, y, ks⟩ q kd = ms_l7Kid ⟨k, o, x, y, ks'⟩ q kd := by
 simp only [ms_l7Kid, ms_l7Kid_k1, ms_l7Kid_k2, h]

def RT (N : Nat) (t : STree) : Prop := ms_FieldsOk N ⟨t.kind, t.op, t.text, t.other, List.replicate t.kids.length 0⟩ = some true ∧
 ∀ (q : Nat) (u : STree), t.kids[q]? = some u → ms_l7Kid ⟨t.kind, t.op, t.text, t.other, List.replicate t.kids.length 0⟩ (q : Int) u.kind = some true

theorem ok_l2 (N : Nat) (a : List SNode) (kb : (List SNode × Int) → Option Bool) (i : Nat) (hi : i < a.length) (hkl : a[i].Kids.length ≤ 100000) (hk : ∀ (q : Nat) (hq : q < a[i].Kids.length), ∃ y, ix a a[i].Kids[q] = some y ∧ ms_l7Kid a[i] (q : Int) y.Kind = some true) : ∀ (m j : Nat), a[i].Kids.length - j < m → j ≤ a[i].Kids.length →
  ms_TreeOk_l2 N kb m (a, (i : Int), (j : Int)) = kb (a, IntKind.wrap .i64 ((i : Int) + 1)) := by
 intro m
 induction m with
 | zero => intro j h; omega
 | succ m ihm =>
  intro j hm hj
  rw [ms_TreeOk_l2, ix_nat hi, oBs]
  by_cases hlt : j < a[i].Kids.length
  ·obtain ⟨y, h1, h2⟩ := hk j hlt
   simp only [lt_true hlt, cond_true, ix_nat hi, ix_nat hlt, oBs, h1, h2, Bool.not_true, cond_false]
   rw [wrap64 (by omega) (by omega), show ((j : Int) + 1) = ((j + 1 : Nat) : Int) by omega]
   exact ihm (j + 1) (by omega) (by omega)
  ·simp only [lt_false hlt, cond_false]

theorem ok_l1 (N : Nat) (a : List SNode) (ha : a.length ≤ 400) (hN : 500 < N) (hk : ∀ x, x ∈ a → x.Kids.length ≤ 400) (hr : ∀ x, x ∈ a → NodeR N a x) : ∀ (n i : Nat), a.length - i < n → i ≤ a.length → ms_TreeOk_l1 N n (a, (i : Int)) = some true := by
 intro n
 induction n with
 | zero => intro i h; omega
 | succ n ih =>
  intro i hn hi
  rw [ms_TreeOk_l1]
  by_cases hlt : i < a.length
  ·obtain ⟨h1, h2⟩ := hr _ (List.getElem_mem hlt)
   have hkl := hk _ (List.getElem_mem hlt)
   simp only [lt_true hlt, cond_true, ix_nat hlt, oBs, h1, Bool.not_true, cond_false]
   have := ok_l2 N a (ms_TreeOk_l1 N n) i hlt (by omega) h2 N 0 (by omega) (by omega)
   refine Eq.trans this ?_
   rw [wrap64 (by omega) (by omega), show ((i : Int) + 1) = ((i + 1 : Nat) : Int) by omega]
   exact ih (i + 1) (by omega) (by omega)
  ·simp only [lt_false hlt, cond_false]

theorem treeOk_lst (N : Nat) (t : STree) (hN : 1048577 < N) (hsz : szT t ≤ 400) (hd : depT t ≤ 40) (hs : ∀ x, x ∈ lst 0 t → smNode x) (hall : AllT (RT N) t) : ms_TreeOk N (lst 0 t) = some true := by
 have hsh := shapeB_lst t hsz
 have hT := TA_self t
 have hll := lst_len t 0
 have hpos := szT_pos t
 have hdep := depthOf_spec N (lst 0 t) hN hs hsh hT
 unfold ms_TreeOk
 rw [shapeOk_spec N _ hN hs, hsh, hdep]
 have hle : decide ((depT t : Int) > 40) = false := by simp; omega
 simp only [oBs, Bool.not_true, cond_false, hle]
 have hr : ∀ x, x ∈ lst 0 t → NodeR N (lst 0 t) x := fun x hx => by
  obtain ⟨i, hi⟩ := List.getElem?_of_mem hx
  have hlt := (List.getElem?_eq_some_iff.1 hi).1
  obtain ⟨u, s', hu, _, h1, h2⟩ := TA.sub hT hall i (by omega) (by omega)
  obtain ⟨n, hn, e1, e2, e3, e4, hka, hkl⟩ := hu.node
  rw [hi] at hn
  have := Option.some.inj hn
  subst this
  obtain ⟨xk, xo, xx, xy, xks⟩ := x
  obtain ⟨uk, uo, ux, uy, uks⟩ := u
  have e1 : uk = xk := e1
  have e2 : uo = xo := e2
  have e3 : ux = xx := e3
  have e4 : uy = xy := e4
  subst e1 e2 e3 e4
  have hl : (List.replicate uks.length (0 : Int)).length = xks.length := by rw [List.length_replicate]; exact hkl
  refine ⟨(fields_len N _ _ _ _ _ _ hl).symm.trans h1, fun q hq => ?_⟩
  have hq2 : q < uks.length := by have hkl : uks.length = xks.length := hkl; have hq : q < xks.length := hq; omega
  have hv : uks[q]? = some uks[q] := List.getElem?_eq_getElem hq2
  obtain ⟨k, s2, hk, hTx, _⟩ := hka.get q _ hv
  obtain ⟨_, hk⟩ := List.getElem?_eq_some_iff.1 hk
  obtain ⟨m, hm, m1, _⟩ := hTx.node
  refine ⟨m, ?_, ?_⟩
  ·have hk : xks[q] = (k : Int) := hk
   show ix (lst 0 _) xks[q] = some m
   rw [hk]; exact ix_get hm
  ·rw [← m1]
   exact (kid_len _ _ _ _ _ _ hl _ _).symm.trans (h2 q _ hv)
 have := ok_l1 N (lst 0 t) (by omega) (by omega) (fun x hx => (shape_kids hsh x hx).1) hr N 0 (by omega) (by omega)
 have this' : ms_TreeOk_l1 N N (lst 0 t, 0) = some true := this
 simp only [this', oBs]

theorem AllTs.mem {P : STree → Prop} : ∀ {ts : List STree}, AllTs P ts → ∀ t, t ∈ ts → AllT P t
 | [], _, t, h => by cases h
 | u :: ts, h, t, ht => by
  rw [AllTs] at h
  rcases List.mem_cons.1 ht with rfl | ht
  ·exact h.1
  ·exact AllTs.mem h.2 t ht
theorem depTs_mem : ∀ {ts : List STree} {m : Nat}, (∀ t, t ∈ ts → depT t ≤ m) → depTs ts ≤ m
 | [], m, _ => by rw [depTs]; omega
 | t :: ts, m, h => by
  rw [depTs]
  have := h t (by simp)
  have := depTs_mem (ts := ts) fun u hu => h u (by simp [hu])
  omega
theorem depT_mem : ∀ {ts : List STree} {t : STree}, t ∈ ts → depT t ≤ depTs ts
 | u :: ts, t, h => by
  rw [depTs]
  rcases List.mem_cons.1 h with rfl | h
  ·omega
  ·have := depT_mem h; omega
def TxP (t : STree) : Prop := t.text.length ≤ 1048576 ∧ t.other.length ≤ 1048576
theorem txT_all : ∀ t : STree, AllT TxP t → txT t := by
 refine STree.ind fun t ih => ?_
 obtain ⟨k, o, x, y, ts⟩ := t
 intro h
 rw [AllT] at h
 exact txT_mk (fun u hu => ih u hu (h.2.mem u hu)) h.1.1 h.1.2
theorem KA.mem_ta {a : List SNode} : ∀ {ts : List STree} {ks : List Int} {s e : Nat}, KA a ts ks s e → ∀ t, t ∈ ts → ∃ s' k : Nat, TA a t s' k ∧ k < e
 | [], ks, s, e, h, t, ht => by cases ht
 | u :: ts, ks, s, e, h, t, ht => by
  simp only [KA] at h
  obtain ⟨k, ks', _, h1, h2, hta, hka⟩ := h
  rcases List.mem_cons.1 ht with rfl | ht
  ·exact ⟨s, k, hta, h2⟩
  ·exact KA.mem_ta hka t ht
theorem TA.all {a : List SNode} {P : STree → Prop} (hP : ∀ u s j, TA a u s j → P u) : ∀ (t : STree) (s i : Nat), TA a t s i → AllT P t := by
 refine STree.ind fun t ih => ?_
 intro s i h
 obtain ⟨n, hn, e1, e2, e3, e4, hka, hkl⟩ := h.node
 have ht := hP t s i h
 obtain ⟨k, o, x, y, ts⟩ := t
 rw [AllT]
 refine ⟨ht, allTs_of fun u hu => ?_⟩
 obtain ⟨s', k, hu2, _⟩ := hka.mem_ta u hu
 exact ih u hu s' k hu2
theorem rt_of (N : Nat) (a : List SNode) (hN : 500 < N) (hsh : shapeB a = true) (hok : ms_TreeOk N a = some true) {t : STree} (h : TA a t 0 (a.length - 1)) : AllT (RT N) t := by
 refine TA.all (fun u s j hu => ?_) t 0 _ h
 obtain ⟨n, hn, e1, e2, e3, e4, hka, hkl⟩ := hu.node
 obtain ⟨hf, hkd⟩ := treeOk_nodes N a hN hsh hok n (List.mem_of_getElem? hn)
 obtain ⟨nk, no, nx, ny, nks⟩ := n
 obtain ⟨uk, uo, ux, uy, uks⟩ := u
 have e1 : uk = nk := e1
 have e2 : uo = no := e2
 have e3 : ux = nx := e3
 have e4 : uy = ny := e4
 subst e1 e2 e3 e4
 have hkl : uks.length = nks.length := hkl
 have hl : nks.length = (List.replicate uks.length (0 : Int)).length := by rw [List.length_replicate]; omega
 refine ⟨(fields_len N _ _ _ _ _ _ hl).symm.trans hf, fun q v hv => ?_⟩
 have hv : uks[q]? = some v := hv
 obtain ⟨k, s', hk, hTx, _⟩ := hka.get q v hv
 obtain ⟨hj, hk⟩ := List.getElem?_eq_some_iff.1 hk
 obtain ⟨y, hy, hy2⟩ := hkd q hj
 obtain ⟨m, hm, m1, _⟩ := hTx.node
 rw [hk, ix_get hm] at hy
 have hy := Option.some.inj hy
 subst hy
 rw [m1]
 exact (kid_len _ _ _ _ _ _ hl _ _).symm.trans hy2

def und (o : Int) : Int := bif (o == 63) then 49 else (bif (o == 49) then 63 else (bif (o == 62) then 48 else (bif (o == 48) then 62 else (bif (o == 47) then 50 else (bif (o == 50) then 47 else (bif (o == 67) then 46 else (bif (o == 46) then 67 else 0)))))))
theorem opp_is (o : Int) : mi_opposite o = some (und o) := by
 unfold mi_opposite und
 cases (o == 63) <;> cases (o == 49) <;> cases (o == 62) <;> cases (o == 48) <;> cases (o == 47) <;> cases (o == 50) <;> cases (o == 67) <;> cases (o == 46) <;> rfl
def ntB (k o : Int) : Bool := k == 11 && o == 61
def cmB (k o : Int) : Bool := k == 12 && und o != 0
def lgB (k o : Int) : Bool := k == 12 && (o == 45 || o == 44)
def boB (k o : Int) : Bool := ntB k o || (cmB k o || lgB k o)
def notT (t : STree) : STree := ⟨11, 61, [], [], [t]⟩
def pnN (k o : Int) (x y : List UInt8) (ts : List STree) (ps : List (STree × STree)) : STree × STree :=
 bif ntB k o then
  ((ps[0]?.map (·.2)).getD (notT (notT ⟨k, o, x, y, []⟩)),
   bif boB ((ts[0]?.map (·.kind)).getD 0) ((ts[0]?.map (·.op)).getD 0) then (ps[0]?.map (·.1)).getD (notT (notT ⟨k, o, x, y, []⟩)) else notT (notT ((ps[0]?.map (·.1)).getD (notT (notT ⟨k, o, x, y, []⟩)))))
 else (⟨k, o, x, y, ps.map (·.1)⟩,
  bif cmB k o then ⟨k, und o, x, y, ps.map (·.1)⟩ else bif lgB k o then ⟨k, 89 - o, x, y, ps.map (·.2)⟩ else notT ⟨k, o, x, y, ps.map (·.1)⟩)
mutual
def pnT : STree → STree × STree
 | ⟨k, o, x, y, ts⟩ => pnN k o x y ts (pnTs ts)
def pnTs : List STree → List (STree × STree)
 | [] => []
 | t :: ts => pnT t :: pnTs ts
end
theorem pnTs_map : ∀ ts : List STree, pnTs ts = ts.map pnT
 | [] => by rw [pnTs]; rfl
 | t :: ts => by rw [pnTs, pnTs_map ts]; rfl
def puT (t : STree) : STree := (pnT t).1
def ngT (t : STree) : STree := (pnT t).2
theorem isNotI (t : STree) : mi_tree__isNot t = some (ntB t.kind t.op) := by
 unfold mi_tree__isNot ntB
 cases (t.kind == 11) <;> rfl
theorem isLogicI (t : STree) : mi_tree__isLogic t = some (lgB t.kind t.op) := by
 unfold mi_tree__isLogic lgB
 cases (t.kind == 12) <;> cases (t.op == 45) <;> rfl
theorem isCmpI (t : STree) : mi_tree__isCompared t = some (cmB t.kind t.op) := by
 unfold mi_tree__isCompared cmB
 rw [opp_is]
 cases (t.kind == 12) <;> rfl
def ArP (t : STree) : Prop := (t.kind = 11 → t.kids.length = 1) ∧ (t.kind = 12 → t.kids.length = 2) ∧ (t.kind = 14 → t.kids.length = 3) ∧ (t.kind = 11 ∨ t.kind = 12 → t.text = [] ∧ t.other = [])
theorem pu_not {k o : Int} {x y : List UInt8} {u : STree} (h : ntB k o = true) : puT ⟨k, o, x, y, [u]⟩ = ngT u := by
 unfold puT; rw [pnT, pnTs_map]; unfold pnN; rw [h]; rfl
theorem ng_not {k o : Int} {x y : List UInt8} {u : STree} (h : ntB k o = true) : ngT ⟨k, o, x, y, [u]⟩ = bif boB u.kind u.op then puT u else notT (notT (puT u)) := by
 unfold ngT; rw [pnT, pnTs_map]; unfold pnN; rw [h]; rfl
theorem pu_other {k o : Int} {x y : List UInt8} {ts : List STree} (h : ntB k o = false) : puT ⟨k, o, x, y, ts⟩ = ⟨k, o, x, y, ts.map puT⟩ := by
 unfold puT; rw [pnT, pnTs_map]; unfold pnN; rw [h, List.map_map]; rfl
theorem ng_other {k o : Int} {x y : List UInt8} {ts : List STree} (h : ntB k o = false) : ngT ⟨k, o, x, y, ts⟩ = bif cmB k o then ⟨k, und o, x, y, ts.map puT⟩ else bif lgB k o then ⟨k, 89 - o, x, y, ts.map ngT⟩ else notT ⟨k, o, x, y, ts.map puT⟩ := by
 unfold ngT; rw [pnT, pnTs_map]; unfold pnN; rw [h, List.map_map, List.map_map]; rfl
theorem nt_kid {k o : Int} {x y : List UInt8} {ts : List STree} (h : ntB k o = true) (ha : ArP ⟨k, o, x, y, ts⟩) : ∃ u, ts = [u] := by
 unfold ntB at h
 simp only [Bool.and_eq_true, beq_iff_eq] at h
 exact List.length_eq_one_iff.1 (ha.1 h.1)
theorem lg_kids {k o : Int} {x y : List UInt8} {ts : List STree} (h : lgB k o = true) (ha : ArP ⟨k, o, x, y, ts⟩) : ∃ u v, ts = [u, v] := by
 unfold lgB at h
 simp only [Bool.and_eq_true, beq_iff_eq] at h
 have hl : ts.length = 2 := ha.2.1 h.1
 match ts, hl with
 | [u, v], _ => exact ⟨u, v, rfl⟩
theorem logic_ind {P : STree → Prop} (h1 : ∀ k o x y u, ntB k o = true → ArP ⟨k, o, x, y, [u]⟩ → AllT ArP u → P u → P ⟨k, o, x, y, [u]⟩) (h2 : ∀ k o x y ts, ntB k o = false → ArP ⟨k, o, x, y, ts⟩ → AllTs ArP ts → (∀ u, u ∈ ts → P u) → P ⟨k, o, x, y, ts⟩) : ∀ t, AllT ArP t → P t := by
 refine STree.ind fun t ih => ?_
 obtain ⟨k, o, x, y, ts⟩ := t
 intro h
 rw [AllT] at h
 cases hb : ntB k o with
 | true =>
  obtain ⟨u, rfl⟩ := nt_kid hb h.1
  have hu := h.2.mem u (by simp)
  exact h1 k o x y u hb h.1 hu (ih u (by simp) hu)
 | false => exact h2 k o x y ts hb h.1 h.2 fun u hu => ih u hu (h.2.mem u hu)
theorem szTs_puT : ∀ ts : List STree, (∀ u, u ∈ ts → szT (puT u) + 1 ≤ 2 * szT u) → szTs (ts.map puT) + ts.length ≤ 2 * szTs ts
 | [], _ => by simp [szTs]
 | t :: ts, h => by
  have := h t (by simp)
  have := szTs_puT ts fun u hu => h u (by simp [hu])
  rw [List.map_cons, szTs, szTs, List.length_cons]; omega
theorem szTs_ngT : ∀ ts : List STree, (∀ u, u ∈ ts → szT (ngT u) ≤ 2 * szT u) → szTs (ts.map ngT) ≤ 2 * szTs ts
 | [], _ => by simp [szTs]
 | t :: ts, h => by
  have := h t (by simp)
  have := szTs_ngT ts fun u hu => h u (by simp [hu])
  rw [List.map_cons, szTs, szTs]; omega
theorem notT_sz (t : STree) : szT (notT t) = szT t + 1 := by
 unfold notT; rw [szT, szTs, szTs]
theorem notT_dep (t : STree) : depT (notT t) = depT t + 1 := by
 unfold notT; rw [depT, depTs, depTs]; omega
theorem pn_sz : ∀ t, AllT ArP t → szT (puT t) + 1 ≤ 2 * szT t ∧ szT (ngT t) ≤ 2 * szT t := by
 refine logic_ind (fun k o x y u hb ha hu ih => ?_) fun k o x y ts hb ha hu ih => ?_
 ·rw [pu_not hb, ng_not hb, szT, szTs, szTs]
  refine ⟨by omega, ?_⟩
  cases boB u.kind u.op with
  | true => rw [cond_true]; omega
  | false => rw [cond_false, notT_sz, notT_sz]; omega
 ·have h1 := szTs_puT ts fun u hu => (ih u hu).1
  have h2 := szTs_ngT ts fun u hu => (ih u hu).2
  rw [pu_other hb, ng_other hb, szT, szT]
  refine ⟨by omega, ?_⟩
  cases cmB k o with
  | true => rw [cond_true, szT]; omega
  | false =>
   rw [cond_false]
   cases lgB k o with
   | true => rw [cond_true, szT]; omega
   | false => rw [cond_false, notT_sz, szT]; omega
theorem depTs_map {f : STree → STree} {m : Nat} {ts : List STree} (h : ∀ u, u ∈ ts → depT (f u) ≤ m) : depTs (ts.map f) ≤ m := depTs_mem fun v hv => by
 obtain ⟨u, hu, rfl⟩ := List.mem_map.1 hv
 exact h u hu
theorem pn_dep : ∀ t, AllT ArP t → depT (puT t) ≤ depT t ∧ depT (ngT t) ≤ depT t + 1 := by
 refine logic_ind (fun k o x y u hb ha hu ih => ?_) fun k o x y ts hb ha hu ih => ?_
 ·rw [pu_not hb, ng_not hb, depT, depTs, depTs]
  refine ⟨by omega, ?_⟩
  cases boB u.kind u.op with
  | true => rw [cond_true]; omega
  | false => rw [cond_false, notT_dep, notT_dep]; omega
 ·have h1 : depTs (ts.map puT) ≤ depTs ts := depTs_map fun u hu => Nat.le_trans (ih u hu).1 (depT_mem hu)
  have h2 : depTs (ts.map ngT) ≤ depTs ts + 1 := depTs_map fun u hu => Nat.le_trans (ih u hu).2 (Nat.succ_le_succ (depT_mem hu))
  rw [pu_other hb, ng_other hb, depT, depT]
  refine ⟨by omega, ?_⟩
  cases cmB k o with
  | true => rw [cond_true, depT]; omega
  | false =>
   rw [cond_false]
   cases lgB k o with
   | true => rw [cond_true, depT]; omega
   | false => rw [cond_false, notT_dep, depT]; omega
theorem allTs_map {P : STree → Prop} {f : STree → STree} {ts : List STree} (h : ∀ u, u ∈ ts → AllT P (f u)) : AllTs P (ts.map f) := allTs_of fun v hv => by
 obtain ⟨u, hu, rfl⟩ := List.mem_map.1 hv
 exact h u hu
theorem notT_all {P : STree → Prop} {t : STree} (h : P (notT t)) (ht : AllT P t) : AllT P (notT t) := by
 unfold notT at h ⊢
 rw [AllT, AllTs, AllTs]
 exact ⟨h, ht, trivial⟩
theorem pn_all {P Q : STree → Prop} (hQ : ∀ t, Q t → ArP t)
  (h0 : ∀ k o x y ts, ntB k o = false → Q ⟨k, o, x, y, ts⟩ → (∀ u, u ∈ ts → AllT ArP u) → P ⟨k, o, x, y, ts.map puT⟩)
  (h1 : ∀ k o x y ts, cmB k o = true → Q ⟨k, o, x, y, ts⟩ → (∀ u, u ∈ ts → AllT ArP u) → P ⟨k, und o, x, y, ts.map puT⟩)
  (h2 : ∀ k o x y ts, lgB k o = true → Q ⟨k, o, x, y, ts⟩ → (∀ u, u ∈ ts → AllT ArP u) → P ⟨k, 89 - o, x, y, ts.map ngT⟩)
  (h3 : ∀ t, AllT ArP t → isE t.kind = true → boB t.kind t.op = false → P (notT (puT t)))
  (h4 : ∀ t, P (notT (notT t)))
  (h5 : ∀ k o x y ts, Q ⟨k, o, x, y, ts⟩ → (ntB k o = true ∨ lgB k o = true) → ∀ u, u ∈ ts → isE u.kind = true) : ∀ t, AllT Q t → AllT P (puT t) ∧ (isE t.kind = true → AllT P (ngT t)) := by
 have har : ∀ t, AllT Q t → AllT ArP t := by
  refine STree.ind fun t ih => ?_
  obtain ⟨k, o, x, y, ts⟩ := t
  intro h
  rw [AllT] at h ⊢
  exact ⟨hQ _ h.1, allTs_of fun u hu => ih u hu (h.2.mem u hu)⟩
 refine STree.ind fun t ih => ?_
 obtain ⟨k, o, x, y, ts⟩ := t
 intro h
 have ha := har _ h
 rw [AllT] at h ha
 have hars : ∀ u, u ∈ ts → AllT ArP u := fun u hu => ha.2.mem u hu
 have ih' : ∀ u, u ∈ ts → AllT P (puT u) ∧ (isE u.kind = true → AllT P (ngT u)) := fun u hu => ih u hu (h.2.mem u hu)
 cases hb : ntB k o with
 | true =>
  obtain ⟨u, rfl⟩ := nt_kid hb ha.1
  have hE := h5 k o x y [u] h.1 (.inl hb) u (by simp)
  have hu := ih' u (by simp)
  rw [pu_not hb, ng_not hb]
  refine ⟨hu.2 hE, fun _ => ?_⟩
  cases hbo : boB u.kind u.op with
  | true => exact hu.1
  | false => exact notT_all (h4 _) (notT_all (h3 u (hars u (by simp)) hE hbo) hu.1)
 | false =>
  have hw : AllT P (⟨k, o, x, y, ts.map puT⟩ : STree) := by
   rw [AllT]
   exact ⟨h0 k o x y ts hb h.1 hars, allTs_map fun u hu => (ih' u hu).1⟩
  rw [pu_other hb, ng_other hb]
  refine ⟨hw, fun hE => ?_⟩
  cases hcm : cmB k o with
  | true =>
   rw [cond_true, AllT]
   exact ⟨h1 k o x y ts hcm h.1 hars, allTs_map fun u hu => (ih' u hu).1⟩
  | false =>
   cases hlg : lgB k o with
   | true =>
    rw [cond_false, cond_true, AllT]
    exact ⟨h2 k o x y ts hlg h.1 hars, allTs_map fun u hu => (ih' u hu).2 (h5 k o x y ts h.1 (.inr hlg) u hu)⟩
   | false =>
    rw [cond_false, cond_false]
    have hbo : boB k o = false := by unfold boB; rw [hb, hcm, hlg]; rfl
    have := h3 ⟨k, o, x, y, ts⟩ (by rw [AllT]; exact ha) hE hbo
    rw [pu_other hb] at this
    exact notT_all this hw
theorem pushI_l (t : STree) (M : Nat) (hl : t.kids.length ≤ 400) : ∀ (ts : List STree) (j f : Nat) (acc : List STree), t.kids.drop j = ts → (∀ u, u ∈ ts → (scc7 M).mi_tree__pushed u = some (puT u)) → ts.length < f → acc.length ≤ j → j ≤ t.kids.length →
  mi_tree__pushed_l1 M (scc7 M) f (t, (j : Int), acc) = some ⟨t.kind, t.op, t.text, t.other, acc ++ ts.map puT⟩
 | [], j, f, acc, hd, _, hf, ha, hj => by
  obtain ⟨f, rfl⟩ : ∃ m, f = m + 1 := ⟨f - 1, by simp at hf; omega⟩
  have hlt : ¬ j < t.kids.length := by
   intro hlt
   rw [drop_cons hlt] at hd
   cases hd
  rw [mi_tree__pushed_l1]
  simp only [lt_false hlt, cond_false, List.map_nil, List.append_nil]
  rfl
 | u :: ts, j, f, acc, hd, hu, hf, ha, hj => by
  simp only [List.length_cons] at hf
  obtain ⟨f, rfl⟩ : ∃ m, f = m + 1 := ⟨f - 1, by omega⟩
  have hlt : j < t.kids.length := by
   cases Nat.lt_or_ge j t.kids.length with
   | inl h => exact h
   | inr h => rw [List.drop_of_length_le h] at hd; cases hd
  rw [drop_cons hlt] at hd
  injection hd with hd1 hd2
  have hstep : IntKind.wrap .i64 ((j : Int) + 1) = ((j + 1 : Nat) : Int) := by rw [wrap64 (by omega) (by omega)]; omega
  have ih := pushI_l t M hl ts (j + 1) f (acc ++ [puT u]) hd2 (fun v hv => hu v (by simp [hv])) (by omega) (by simp; omega) (by omega)
  rw [mi_tree__pushed_l1]
  simp only [lt_true hlt, cond_true, ix_nat hlt, hd1, oBs, hu u (by simp)]
  rw [app_some (by simp; omega), oBs, hstep, ih]
  simp
theorem pn_is : ∀ t, AllT ArP t → szT t ≤ 400 → (∀ M, 1048580 + 2 * szT t ≤ M → (scc7 M).mi_tree__pushed t = some (puT t)) ∧ (∀ M, 1048581 + 2 * szT t ≤ M → (scc7 M).mi_tree__negated t = some (ngT t)) := by
 refine logic_ind (P := fun t => szT t ≤ 400 → (∀ M, 1048580 + 2 * szT t ≤ M → (scc7 M).mi_tree__pushed t = some (puT t)) ∧ (∀ M, 1048581 + 2 * szT t ≤ M → (scc7 M).mi_tree__negated t = some (ngT t))) (fun k o x y u hb ha hu ih hsz => ?_) fun k o x y ts hb ha hu ih hsz => ?_
 ·rw [szT, szTs, szTs] at hsz ⊢
  obtain ⟨i1, i2⟩ := ih (by omega)
  have ex0 : ix [u] 0 = some u := rfl
  constructor
  ·intro M hM
   obtain ⟨M, rfl⟩ : ∃ m, M = m + 1 := ⟨M - 1, by omega⟩
   show mi_tree__pushed_F M (scc7 M) _ = _
   unfold mi_tree__pushed_F
   rw [isNotI, pu_not hb]
   simp only [oBs, hb, cond_true, ex0, i2 M (by omega)]
  ·intro M hM
   obtain ⟨M, rfl⟩ : ∃ m, M = m + 1 := ⟨M - 1, by omega⟩
   show mi_tree__negated_F M (scc7 M) _ = _
   unfold mi_tree__negated_F
   have hbo : ((some (ntB u.kind u.op)).bind fun r64 => bif r64 then some true else ((mi_tree__isCompared u).bind fun r65 => bif r65 then some true else ((mi_tree__isLogic u).bind fun r66 => some r66))) = some (boB u.kind u.op) := by
    rw [oBs, isCmpI, isLogicI]
    unfold boB
    cases ntB u.kind u.op <;> cases cmB u.kind u.op <;> rfl
   rw [isNotI, ng_not hb]
   simp only [oBs] at hbo
   simp only [oBs, hb, cond_true, ex0, isNotI, hbo, i1 M (by omega)]
   cases boB u.kind u.op <;> rfl
 ·have hse : szTs ts + 1 ≤ 400 := by rw [szT] at hsz; exact hsz
  have hlen := szTs_len ts
  have hpu : ∀ M, 1048580 + 2 * (szTs ts + 1) ≤ M → (scc7 M).mi_tree__pushed (⟨k, o, x, y, ts⟩ : STree) = some (puT ⟨k, o, x, y, ts⟩) := fun M hM => by
   obtain ⟨M, rfl⟩ : ∃ m, M = m + 1 := ⟨M - 1, by omega⟩
   have := pushI_l ⟨k, o, x, y, ts⟩ M (by show ts.length ≤ 400; omega) ts 0 M [] rfl (fun u hu => (ih u hu (by have := szTs_mem hu; omega)).1 M (by have := szTs_mem hu; omega)) (by omega) (by simp) (by omega)
   show mi_tree__pushed_F M (scc7 M) _ = _
   unfold mi_tree__pushed_F
   rw [isNotI, pu_other hb]
   simp only [oBs, hb, cond_false]
   exact this
  rw [szT]
  refine ⟨hpu, fun M hM => ?_⟩
  obtain ⟨M, rfl⟩ : ∃ m, M = m + 1 := ⟨M - 1, by omega⟩
  show mi_tree__negated_F M (scc7 M) _ = _
  unfold mi_tree__negated_F
  rw [isNotI, isCmpI, isLogicI, ng_other hb]
  have hp := hpu M (by omega)
  simp only [oBs, hb, cond_false]
  cases hcm : cmB k o with
  | true =>
   simp only [cond_true, hp, oBs, opp_is]
   rw [pu_other hb]
  | false =>
   simp only [cond_false]
   cases hlg : lgB k o with
   | true =>
    obtain ⟨u, v, rfl⟩ := lg_kids hlg ha
    have e0 : ix [u, v] 0 = some u := rfl
    have e1 : ix [u, v] 1 = some v := rfl
    have g1 := (ih u (by simp) (by rw [szTs, szTs, szTs] at hse; omega)).2 M (by rw [szTs, szTs, szTs] at hM; omega)
    have g2 := (ih v (by simp) (by rw [szTs, szTs, szTs] at hse; omega)).2 M (by rw [szTs, szTs, szTs] at hM; omega)
    have ho : IntKind.wrap .i64 (89 - o) = 89 - o := by
     unfold lgB at hlg
     simp only [Bool.and_eq_true, Bool.or_eq_true, beq_iff_eq] at hlg
     rw [wrap64 (by omega) (by omega)]
    simp only [cond_true, e0, e1, g1, g2, oBs, mi_tree__with, ho]
    rfl
   | false =>
    simp only [cond_false, hp, oBs, mi_not]
    rw [pu_other hb]
    rfl

end Go.Proofs.Tryz
