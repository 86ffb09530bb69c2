/-
 Plain lemmas on the models, part 12.
-/
import Derived.Test.YtkfcajnnbhahoaaGreatDoorEdEP11
namespace Go.Proofs.Tryz
open Go.Av
set_option maxRecDepth 100000
set_option linter.unusedSimpArgs false
set_option linter.unusedVariables false

theorem nodes_l2 (N : Nat) (a : List SNode) (kb : (List SNode × Int) → Option Bool) (i : Nat) (hi : i < a.length) (hi2 : i ≤ 100000) (hkl : a[i].Kids.length ≤ 100000) : ∀ (m j : Nat), a[i].Kids.length - j < m → j ≤ a[i].Kids.length → ms_TreeOk_l2 N kb m (a, (i : Int), (j : Int)) = some true →
  kb (a, ((i + 1 : Nat) : Int)) = some true ∧ ∀ (q : Nat) (hq : q < a[i].Kids.length), j ≤ q → ∃ y, ix a a[i].Kids[q] = some y ∧ ms_l7Kid a[i] (q : Int) y.Kind = some true := by
 intro m
 induction m with
 | zero => intro j h; omega
 | succ m ihm =>
  intro j hm hj hh
  rw [ms_TreeOk_l2, ix_nat hi, oBs] at hh
  by_cases hlt : j < a[i].Kids.length
  ·simp only [lt_true hlt, cond_true, ix_nat hi, ix_nat hlt, oBs] at hh
   obtain ⟨y1, h1, hh⟩ := Option.bind_eq_some_iff.1 hh
   obtain ⟨y2, h2, hh⟩ := Option.bind_eq_some_iff.1 hh
   cases y2 with
   | false => cases hh
   | true =>
    simp only [Bool.not_true, cond_false] at hh
    rw [wrap64 (by omega) (by omega), show ((j : Int) + 1) = ((j + 1 : Nat) : Int) by omega] at hh
    obtain ⟨r1, r2⟩ := ihm (j + 1) (by omega) (by omega) hh
    refine ⟨r1, fun q hq hjq => ?_⟩
    by_cases hqj : q = j
    ·subst hqj; exact ⟨y1, h1, h2⟩
    ·exact r2 q hq (by omega)
  ·simp only [lt_false hlt, cond_false] at hh
   rw [wrap64 (by omega) (by omega)] at hh
   exact ⟨hh, fun q hq hjq => by omega⟩

def NodeR (N : Nat) (a : List SNode) (x : SNode) : Prop := ms_FieldsOk N x = some true ∧ ∀ (q : Nat) (hq : q < x.Kids.length), ∃ y, ix a x.Kids[q] = some y ∧ ms_l7Kid x (q : Int) y.Kind = some true

theorem nodes_l1 (N : Nat) (a : List SNode) (ha : a.length ≤ 400) (hk : ∀ x, x ∈ a → x.Kids.length ≤ 400) (hN : 500 < N) : ∀ (n i : Nat), a.length - i < n → i ≤ a.length → ms_TreeOk_l1 N n (a, (i : Int)) = some true → ∀ x, x ∈ a.drop i → NodeR N a x := by
 intro n
 induction n with
 | zero => intro i h; omega
 | succ n ih =>
  intro i hn hi h x hx
  rw [ms_TreeOk_l1] at h
  by_cases hlt : i < a.length
  ·simp only [lt_true hlt, cond_true, ix_nat hlt, oBs] at h
   obtain ⟨b, hb, h⟩ := Option.bind_eq_some_iff.1 h
   cases b with
   | false => cases h
   | true =>
    simp only [Bool.not_true, cond_false] at h
    have hkl := hk _ (List.getElem_mem hlt)
    obtain ⟨h1, h2⟩ := nodes_l2 N a (ms_TreeOk_l1 N n) i hlt (by omega) (by omega) N 0 (by omega) (by omega) h
    rw [drop_cons hlt] at hx
    rcases List.mem_cons.1 hx with rfl | hx
    ·exact ⟨hb, fun q hq => h2 q hq (by omega)⟩
    ·exact ih (i + 1) (by omega) (by omega) h1 x hx
  ·rw [drop_nil hlt] at hx
   cases hx

theorem treeOk_nodes (N : Nat) (a : List SNode) (hN : 500 < N) (hsh : shapeB a = true) (h : ms_TreeOk N a = some true) : ∀ x, x ∈ a → NodeR N a x := by
 unfold ms_TreeOk at h
 obtain ⟨y, _, h⟩ := Option.bind_eq_some_iff.1 h
 cases y with
 | true => cases h
 | false =>
  rw [cond_false] at h
  intro x hx
  have h2 := (shape_of hsh).2.1
  exact nodes_l1 N a h2 (fun z hz => (shape_kids hsh z hz).1) hN N 0 (by omega) (by omega) h x (by rw [List.drop_zero]; exact hx)

mutual
def AllT (P : STree → Prop) : STree → Prop
 | ⟨k, o, x, y, ts⟩ => P ⟨k, o, x, y, ts⟩ ∧ AllTs P ts
def AllTs (P : STree → Prop) : List STree → Prop
 | [] => True
 | t :: ts => AllT P t ∧ AllTs P ts
end
theorem allTs_of {P : STree → Prop} : ∀ {ts : List STree}, (∀ t, t ∈ ts → AllT P t) → AllTs P ts
 | [], _ => by rw [AllTs]; trivial
 | t :: ts, h => by rw [AllTs]; exact ⟨h t (by simp), allTs_of fun u hu => h u (by simp [hu])⟩
theorem AllT.head {P : STree → Prop} {t : STree} (h : AllT P t) : P t := by
 obtain ⟨k, o, x, y, ts⟩ := t
 rw [AllT] at h
 exact h.1

mutual
theorem TA.sub {a : List SNode} {P : STree → Prop} : ∀ {t : STree} {s i : Nat}, TA a t s i → AllT P t → ∀ j, s ≤ j → j ≤ i → ∃ u s', TA a u s' j ∧ s ≤ s' ∧ P u
 | ⟨kd, op, x, y, ts⟩, s, i, h, hp, j, h1, h2 => by
  by_cases hj : j = i
  ·subst hj
   exact ⟨_, s, h, Nat.le_refl _, hp.head⟩
  ·rw [TA] at h
   rw [AllT] at hp
   obtain ⟨n, hn, rfl, rfl, rfl, rfl, hk⟩ := h
   exact KA.sub hk hp.2 j h1 (by omega)
theorem KA.sub {a : List SNode} {P : STree → Prop} : ∀ {ts : List STree} {ks : List Int} {s e : Nat}, KA a ts ks s e → AllTs P ts → ∀ j, s ≤ j → j < e → ∃ u s', TA a u s' j ∧ s ≤ s' ∧ P u
 | [], ks, s, e, h, hp, j, h1, h2 => by
  rw [KA] at h
  omega
 | t :: ts, ks, s, e, h, hp, j, h1, h2 => by
  rw [KA] at h
  rw [AllTs] at hp
  obtain ⟨k, ks', rfl, g1, g2, ht, hk⟩ := h
  have hs := ht.part.1
  by_cases hj : j ≤ k
  ·exact TA.sub ht hp.1 j h1 hj
  ·obtain ⟨u, s', r1, r2, r3⟩ := KA.sub hk hp.2 j (by omega) h2
   exact ⟨u, s', r1, by omega, r3⟩
end

theorem KA.mem {a : List SNode} : ∀ {ts : List STree} {ks : List Int} {s e : Nat}, KA a ts ks s e → ∀ k : Int, k ∈ ks → ∃ n : Nat, k = n ∧ s ≤ n ∧ n < e
 | [], ks, s, e, h, k, hk => by
  rw [KA] at h
  rw [h.1] at hk
  cases hk
 | t :: ts, ks, s, e, h, k, hk => by
  rw [KA] at h
  obtain ⟨k0, ks', rfl, g1, g2, ht, hk'⟩ := h
  have hs := ht.part.1
  rcases List.mem_cons.1 hk with rfl | hk
  ·exact ⟨k0, rfl, hs, g2⟩
  ·obtain ⟨n, r1, r2, r3⟩ := KA.mem hk' k hk
   exact ⟨n, r1, by omega, r3⟩

theorem fields_len (N : Nat) (k o : Int) (x y : List UInt8) (ks ks' : List Int) (h : ks.length = ks'.length) : ms_FieldsOk N ⟨k, o, x, y, ks⟩ = ms_FieldsOk N ⟨k, o, x, y, ks'⟩ := by
 have h1 : ms_l7Many ⟨k, o, x, y, ks⟩ = ms_l7Many ⟨k, o, x, y, ks'⟩ := by
  simp only [ms_l7Many, ms_l7Many_k1, ms_l7Many_k2, ms_l7Many_k3, ms_l7Many_k4, ms_l7Many_k5, ms_l7Many_k6, h]
 have h2 : ms_l7Op ⟨k, o, x, y, ks⟩ = ms_l7Op ⟨k, o, x, y, ks'⟩ := rfl
 have h3 : ms_l7Text N ⟨k, o, x, y, ks⟩ = ms_l7Text N ⟨k, o, x, y, ks'⟩ := rfl
 unfold ms_FieldsOk
 rw [h1, h2, h3]
 simp only [h]

theorem kid_len (k o : Int) (x y : List UInt8) (ks ks' : List Int) (h : ks.length = ks'.length) (q kd : Int) : ms_l7Kid ⟨k, o, x, y, ks⟩ q kd = ms_l7Kid ⟨k, o, x, y, ks'⟩ q kd := by
 simp only [ms_l7Kid, ms_l7Kid_k1, ms_l7Kid_k2, h]

def RT (N : Nat) (t : STree) : Prop := ms_FieldsOk N ⟨t.kind, t.op, t.text, t.other, List.replicate t.kids.length 0⟩ = some true ∧
 ∀ (q : Nat) (u : STree), t.kids[q]? = some u → ms_l7Kid ⟨t.kind, t.op, t.text, t.other, List.replicate t.kids.length 0⟩ (q : Int) u.kind = some true

theorem ok_l2 (N : Nat) (a : List SNode) (kb : (List SNode × Int) → Option Bool) (i : Nat) (hi : i < a.length) (hkl : a[i].Kids.length ≤ 100000) (hk : ∀ (q : Nat) (hq : q < a[i].Kids.length), ∃ y, ix a a[i].Kids[q] = some y ∧ ms_l7Kid a[i] (q : Int) y.Kind = some true) : ∀ (m j : Nat), a[i].Kids.length - j < m → j ≤ a[i].Kids.length →
  ms_TreeOk_l2 N kb m (a, (i : Int), (j : Int)) = kb (a, IntKind.wrap .i64 ((i : Int) + 1)) := by
 intro m
 induction m with
 | zero => intro j h; omega
 | succ m ihm =>
  intro j hm hj
  rw [ms_TreeOk_l2, ix_nat hi, oBs]
  by_cases hlt : j < a[i].Kids.length
  ·obtain ⟨y, h1, h2⟩ := hk j hlt
   simp only [lt_true hlt, cond_true, ix_nat hi, ix_nat hlt, oBs, h1, h2, Bool.not_true, cond_false]
   rw [wrap64 (by omega) (by omega), show ((j : Int) + 1) = ((j + 1 : Nat) : Int) by omega]
   exact ihm (j + 1) (by omega) (by omega)
  ·simp only [lt_false hlt, cond_false]

theorem ok_l1 (N : Nat) (a : List SNode) (ha : a.length ≤ 400) (hN : 500 < N) (hk : ∀ x, x ∈ a → x.Kids.length ≤ 400) (hr : ∀ x, x ∈ a → NodeR N a x) : ∀ (n i : Nat), a.length - i < n → i ≤ a.length → ms_TreeOk_l1 N n (a, (i : Int)) = some true := by
 intro n
 induction n with
 | zero => intro i h; omega
 | succ n ih =>
  intro i hn hi
  rw [ms_TreeOk_l1]
  by_cases hlt : i < a.length
  ·obtain ⟨h1, h2⟩ := hr _ (List.getElem_mem hlt)
   have hkl := hk _ (List.getElem_mem hlt)
   simp only [lt_true hlt, cond_true, ix_nat hlt, oBs, h1, Bool.not_true, cond_false]
   have := ok_l2 N a (ms_TreeOk_l1 N n) i hlt (by omega) h2 N 0 (by omega) (by omega)
   refine Eq.trans this ?_
   rw [wrap64 (by omega) (by omega), show ((i : Int) + 1) = ((i + 1 : Nat) : Int) by omega]
   exact ih (i + 1) (by omega) (by omega)
  ·simp only [lt_false hlt, cond_false]

theorem treeOk_lst (N : Nat) (t : STree) (hN : 1048577 < N) (hsz : szT t ≤ 400) (hd : depT t ≤ 40) (hs : ∀ x, x ∈ lst 0 t → smNode x) (hall : AllT (RT N) t) : ms_TreeOk N (lst 0 t) = some true := by
 have hsh := shapeB_lst t hsz
 have hT := TA_self t
 have hll := lst_len t 0
 have hpos := szT_pos t
 have hdep := depthOf_spec N (lst 0 t) hN hs hsh hT
 unfold ms_TreeOk
 rw [shapeOk_spec N _ hN hs, hsh, hdep]
 have hle : decide ((depT t : Int) > 40) = false := by simp; omega
 simp only [oBs, Bool.not_true, cond_false, hle]
 have hr : ∀ x, x ∈ lst 0 t → NodeR N (lst 0 t) x := fun x hx => by
  obtain ⟨i, hi⟩ := List.getElem?_of_mem hx
  have hlt := (List.getElem?_eq_some_iff.1 hi).1
  obtain ⟨u, s', hu, _, h1, h2⟩ := TA.sub hT hall i (by omega) (by omega)
  obtain ⟨n, hn, e1, e2, e3, e4, hka, hkl⟩ := hu.node
  rw [hi] at hn
  have := Option.some.inj hn
  subst this
  obtain ⟨xk, xo, xx, xy, xks⟩ := x
  obtain ⟨uk, uo, ux, uy, uks⟩ := u
  have e1 : uk = xk := e1
  have e2 : uo = xo := e2
  have e3 : ux = xx := e3
  have e4 : uy = xy := e4
  subst e1 e2 e3 e4
  have hl : (List.replicate uks.length (0 : Int)).length = xks.length := by rw [List.length_replicate]; exact hkl
  refine ⟨(fields_len N _ _ _ _ _ _ hl).symm.trans h1, fun q hq => ?_⟩
  have hq2 : q < uks.length := by have hkl : uks.length = xks.length := hkl; have hq : q < xks.length := hq; omega
  have hv : uks[q]? = some uks[q] := List.getElem?_eq_getElem hq2
  obtain ⟨k, s2, hk, hTx, _⟩ := hka.get q _ hv
  obtain ⟨_, hk⟩ := List.getElem?_eq_some_iff.1 hk
  obtain ⟨m, hm, m1, _⟩ := hTx.node
  refine ⟨m, ?_, ?_⟩
  ·have hk : xks[q] = (k : Int) := hk
   show ix (lst 0 _) xks[q] = some m
   rw [hk]; exact ix_get hm
  ·rw [← m1]
   exact (kid_len _ _ _ _ _ _ hl _ _).symm.trans (h2 q _ hv)
 have := ok_l1 N (lst 0 t) (by omega) (by omega) (fun x hx => (shape_kids hsh x hx).1) hr N 0 (by omega) (by omega)
 have this' : ms_TreeOk_l1 N N (lst 0 t, 0) = some true := this
 simp only [this', oBs]

theorem AllTs.mem {P : STree → Prop} : ∀ {ts : List STree}, AllTs P ts → ∀ t, t ∈ ts → AllT P t
 | [], _, t, h => by cases h
 | u :: ts, h, t, ht => by
  rw [AllTs] at h
  rcases List.mem_cons.1 ht with rfl | ht
  ·exact h.1
  ·exact AllTs.mem h.2 t ht
theorem depTs_mem : ∀ {ts : List STree} {m : Nat}, (∀ t, t ∈ ts → depT t ≤ m) → depTs ts ≤ m
 | [], m, _ => by rw [depTs]; omega
 | t :: ts, m, h => by
  rw [depTs]
  have := h t (by simp)
  have := depTs_mem (ts := ts) fun u hu => h u (by simp [hu])
  omega
theorem depT_mem : ∀ {ts : List STree} {t : STree}, t ∈ ts → depT t ≤ depTs ts
 | u :: ts, t, h => by
  rw [depTs]
  rcases List.mem_cons.1 h with rfl | h
  ·omega
  ·have := depT_mem h; omega
def TxP (t : STree) : Prop := t.text.length ≤ 1048576 ∧ t.other.length ≤ 1048576
theorem txT_all : ∀ t : STree, AllT TxP t → txT t := by
 refine STree.ind fun t ih => ?_
 obtain ⟨k, o, x, y, ts⟩ := t
 intro h
 rw [AllT] at h
 exact txT_mk (fun u hu => ih u hu (h.2.mem u hu)) h.1.1 h.1.2
theorem KA.mem_ta {a : List SNode} : ∀ {ts : List STree} {ks : List Int} {s e : Nat}, KA a ts ks s e → ∀ t, t ∈ ts → ∃ s' k : Nat, TA a t s' k ∧ k < e
 | [], ks, s, e, h, t, ht => by cases ht
 | u :: ts, ks, s, e, h, t, ht => by
  simp only [KA] at h
  obtain ⟨k, ks', _, h1, h2, hta, hka⟩ := h
  rcases List.mem_cons.1 ht with rfl | ht
  ·exact ⟨s, k, hta, h2⟩
  ·exact KA.mem_ta hka t ht
theorem TA.all {a : List SNode} {P : STree → Prop} (hP : ∀ u s j, TA a u s j → P u) : ∀ (t : STree) (s i : Nat), TA a t s i → AllT P t := by
 refine STree.ind fun t ih => ?_
 intro s i h
 obtain ⟨n, hn, e1, e2, e3, e4, hka, hkl⟩ := h.node
 have ht := hP t s i h
 obtain ⟨k, o, x, y, ts⟩ := t
 rw [AllT]
 refine ⟨ht, allTs_of fun u hu => ?_⟩
 obtain ⟨s', k, hu2, _⟩ := hka.mem_ta u hu
 exact ih u hu s' k hu2
theorem rt_of (N : Nat) (a : List SNode) (hN : 500 < N) (hsh : shapeB a = true) (hok : ms_TreeOk N a = some true) {t : STree} (h : TA a t 0 (a.length - 1)) : AllT (RT N) t := by
 refine TA.all (fun u s j hu => ?_) t 0 _ h
 obtain ⟨n, hn, e1, e2, e3, e4, hka, hkl⟩ := hu.node
 obtain ⟨hf, hkd⟩ := treeOk_nodes N a hN hsh hok n (List.mem_of_getElem? hn)
 obtain ⟨nk, no, nx, ny, nks⟩ := n
 obtain ⟨uk, uo, ux, uy, uks⟩ := u
 have e1 : uk = nk := e1
 have e2 : uo = no := e2
 have e3 : ux = nx := e3
 have e4 : uy = ny := e4
 subst e1 e2 e3 e4
 have hkl : uks.length = nks.length := hkl
 have hl : nks.length = (List.replicate uks.length (0 : Int)).length := by rw [List.length_replicate]; omega
 refine ⟨(fields_len N _ _ _ _ _ _ hl).symm.trans hf, fun q v hv => ?_⟩
 have hv : uks[q]? = some v := hv
 obtain ⟨k, s', hk, hTx, _⟩ := hka.get q v hv
 obtain ⟨hj, hk⟩ := List.getElem?_eq_some_iff.1 hk
 obtain ⟨y, hy, hy2⟩ := hkd q hj
 obtain ⟨m, hm, m1, _⟩ := hTx.node
 rw [hk, ix_get hm] at hy
 have hy := Option.some.inj hy
 subst hy
 rw [m1]
 exact (kid_len _ _ _ _ _ _ hl _ _).symm.trans hy2

end Go.Proofs.Tryz
