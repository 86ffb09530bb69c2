/-
 Plain lemmas on the models, part 13.
-/
import Derived.Test.YtkfcajnnbhahoaaGreatDoorEdEP12
namespace Go.Proofs.Tryz
open Go.Av
set_option maxRecDepth 100000
set_option linter.unusedSimpArgs false
set_option linter.unusedVariables false

mutual
def edT (f : Nat → STree → List STree) (b : Nat) : STree → List STree
 | ⟨k, o, x, y, ts⟩ => f (b + szTs ts) ⟨k, o, x, y, edTs f b ts⟩
def edTs (f : Nat → STree → List STree) (b : Nat) : List STree → List STree
 | [] => []
 | t :: ts => edT f b t ++ edTs f (b + szT t) ts
end
theorem edTs_nil (f : Nat → STree → List STree) (b : Nat) : edTs f b [] = [] := by rw [edTs]
theorem edTs_cons (f : Nat → STree → List STree) (b : Nat) (t : STree) (ts : List STree) : edTs f b (t :: ts) = edT f b t ++ edTs f (b + szT t) ts := by rw [edTs]
theorem edTs_app (f : Nat → STree → List STree) : ∀ (A B : List STree) (b : Nat), edTs f b (A ++ B) = edTs f b A ++ edTs f (b + szTs A) B
 | [], B, b => by rw [edTs_nil, szTs]; rfl
 | t :: A, B, b => by rw [List.cons_append, edTs_cons, edTs_cons, edTs_app f A B, szTs, List.append_assoc, Nat.add_assoc]
theorem edTs_same {f : Nat → STree → List STree} {q : Nat} : ∀ (ts : List STree) (b : Nat), (∀ t, t ∈ ts → ∀ b, (q < b ∨ b + szT t ≤ q) → edT f b t = [t]) → (q < b ∨ b + szTs ts ≤ q) → edTs f b ts = ts
 | [], b, _, _ => edTs_nil f b
 | t :: ts, b, h, hq => by
  rw [szTs] at hq
  rw [edTs_cons, h t (by simp) b (by omega), edTs_same ts (b + szT t) (fun u hu => h u (by simp [hu])) (by omega)]; rfl
theorem edT_out {f : Nat → STree → List STree} {q : Nat} (hf : ∀ j t, j ≠ q → f j t = [t]) : ∀ (t : STree) (b : Nat), (q < b ∨ b + szT t ≤ q) → edT f b t = [t] := by
 refine STree.ind fun t ih => ?_
 obtain ⟨k, o, x, y, ts⟩ := t
 intro b hq
 rw [szT] at hq
 rw [edT, edTs_same ts b ih (by omega), hf _ _ (by omega)]
theorem edTs_out {f : Nat → STree → List STree} {q : Nat} (hf : ∀ j t, j ≠ q → f j t = [t]) (ts : List STree) (b : Nat) (hq : q < b ∨ b + szTs ts ≤ q) : edTs f b ts = ts := edTs_same ts b (fun t _ => edT_out hf t) hq
theorem edT_len {f : Nat → STree → List STree} (hf : ∀ j t, (f j t).length ≤ 1) (b : Nat) (t : STree) : (edT f b t).length ≤ 1 := by
 obtain ⟨k, o, x, y, ts⟩ := t
 rw [edT]; exact hf _ _
theorem edT_len1 {f : Nat → STree → List STree} (hf : ∀ j t, (f j t).length = 1) (b : Nat) (t : STree) : (edT f b t).length = 1 := by
 obtain ⟨k, o, x, y, ts⟩ := t
 rw [edT]; exact hf _ _
theorem edTs_len {f : Nat → STree → List STree} (hf : ∀ j t, (f j t).length ≤ 1) : ∀ (ts : List STree) (b : Nat), (edTs f b ts).length ≤ ts.length
 | [], b => by rw [edTs_nil]; simp
 | t :: ts, b => by
  rw [edTs_cons, List.length_append, List.length_cons]
  have := edT_len hf b t
  have := edTs_len hf ts (b + szT t)
  omega
theorem edTs_len1 {f : Nat → STree → List STree} (hf : ∀ j t, (f j t).length = 1) : ∀ (ts : List STree) (b : Nat), (edTs f b ts).length = ts.length
 | [], b => by rw [edTs_nil]
 | t :: ts, b => by
  rw [edTs_cons, List.length_append, List.length_cons]
  have := edT_len1 hf b t
  have := edTs_len1 hf ts (b + szT t)
  omega

structure Fr where
 k : Int
 o : Int
 x : List UInt8
 y : List UInt8
 L : List STree
 R : List STree
def fillL : List Fr → List STree → List STree
 | [], us => us
 | c :: C, us => [⟨c.k, c.o, c.x, c.y, c.L ++ fillL C us ++ c.R⟩]
def posC : List Fr → Nat
 | [] => 0
 | c :: C => szTs c.L + posC C
theorem fillL_app : ∀ (C D : List Fr) (us : List STree), fillL (C ++ D) us = fillL C (fillL D us)
 | [], D, us => rfl
 | c :: C, D, us => by rw [List.cons_append, fillL, fillL, fillL_app C D us]
theorem posC_app : ∀ (C D : List Fr), posC (C ++ D) = posC C + posC D
 | [], D => by rw [posC]; simp
 | c :: C, D => by rw [List.cons_append, posC, posC, posC_app C D, Nat.add_assoc]
theorem fill_sz : ∀ (C : List Fr) (us : List STree), posC C + szTs us ≤ szTs (fillL C us)
 | [], us => by rw [posC, fillL]; omega
 | c :: C, us => by
  have := fill_sz C us
  rw [posC, fillL, szTs, szTs, szT, szTs_app, szTs_app]
  omega
theorem fill_szd : ∀ (C : List Fr) (us vs : List STree), szTs (fillL C us) + szTs vs = szTs (fillL C vs) + szTs us
 | [], us, vs => by rw [fillL, fillL]; omega
 | c :: C, us, vs => by
  have := fill_szd C us vs
  simp only [fillL, szTs, szT, szTs_app]
  omega
theorem ed_fill {f : Nat → STree → List STree} {q : Nat} (hf : ∀ j t, j ≠ q → f j t = [t]) : ∀ (C : List Fr) (b : Nat) (u : STree), q + 1 = b + posC C + szT u → edTs f b (fillL C [u]) = fillL C (f q u)
 | [], b, u, h => by
  obtain ⟨k, o, x, y, ts⟩ := u
  rw [posC, szT] at h
  rw [fillL, fillL, edTs_cons, edTs_nil, List.append_nil, edT, edTs_out hf ts b (by omega), show b + szTs ts = q by omega]
 | c :: C, b, u, h => by
  rw [posC] at h
  have hp := szT_pos u
  have hs := fill_sz C [u]
  rw [szTs, szTs] at hs
  rw [fillL, fillL, edTs_cons, edTs_nil, List.append_nil, edT, edTs_app, edTs_app, edTs_out hf c.L b (by omega), ed_fill hf C (b + szTs c.L) u (by omega), edTs_out hf c.R (b + szTs (c.L ++ fillL C [u])) (by rw [szTs_app]; omega), hf (b + szTs (c.L ++ fillL C [u] ++ c.R)) _ (by rw [szTs_app, szTs_app]; omega)]
theorem list_at : ∀ (ts : List STree) (b i : Nat), b ≤ i → i < b + szTs ts → ∃ L v R, ts = L ++ v :: R ∧ b + szTs L ≤ i ∧ i < b + szTs L + szT v
 | [], b, i, h1, h2 => by rw [szTs] at h2; omega
 | t :: ts, b, i, h1, h2 => by
  rw [szTs] at h2
  by_cases h : i < b + szT t
  ·exact ⟨[], t, ts, rfl, by rw [szTs]; omega, by rw [szTs]; omega⟩
  ·obtain ⟨L, v, R, e, g1, g2⟩ := list_at ts (b + szT t) i (by omega) (by omega)
   exact ⟨t :: L, v, R, by rw [e]; rfl, by rw [szTs]; omega, by rw [szTs]; omega⟩
theorem tree_at : ∀ (t : STree) (b i : Nat), b ≤ i → i < b + szT t → ∃ (C : List Fr) (u : STree), fillL C [u] = [t] ∧ i + 1 = b + posC C + szT u := by
 refine STree.ind fun t ih => ?_
 obtain ⟨k, o, x, y, ts⟩ := t
 intro b i h1 h2
 rw [szT] at h2
 by_cases h : i = b + szTs ts
 ·exact ⟨[], ⟨k, o, x, y, ts⟩, rfl, by rw [posC, szT]; omega⟩
 ·obtain ⟨L, v, R, e, g1, g2⟩ := list_at ts b i h1 (by omega)
  obtain ⟨C, u, c1, c2⟩ := ih v (by show v ∈ ts; rw [e]; simp) (b + szTs L) i g1 g2
  refine ⟨⟨k, o, x, y, L, R⟩ :: C, u, ?_, by rw [posC]; show i + 1 = b + (szTs L + posC C) + szT u; omega⟩
  rw [fillL, c1, e]
  simp
theorem fill_lst : ∀ (C : List Fr) (b : Nat) (us : List STree), ∃ P S, lsts b (fillL C us) = P ++ lsts (b + posC C) us ++ S ∧ P.length = posC C
 | [], b, us => ⟨[], [], by rw [fillL, posC]; simp, rfl⟩
 | c :: C, b, us => by
  obtain ⟨P, S, e, hl⟩ := fill_lst C (b + szTs c.L) us
  refine ⟨lsts b c.L ++ P, S ++ lsts (b + szTs (c.L ++ fillL C us)) c.R ++ [⟨c.k, c.o, c.x, c.y, endsT b (c.L ++ fillL C us ++ c.R)⟩], ?_, by rw [List.length_append, lsts_len, hl, posC]⟩
  rw [fillL, lsts, lsts, lst, lsts_app, lsts_app, e, posC, Nat.add_assoc]
  simp only [List.append_assoc, List.append_nil]
theorem fill_ta {C : List Fr} {u t : STree} (h : fillL C [u] = [t]) : TA (lst 0 t) u (posC C) (posC C + szT u - 1) := by
 obtain ⟨P, S, e, hl⟩ := fill_lst C 0 [u]
 rw [h, lsts, lsts, List.append_nil, lsts, lsts, List.append_nil, Nat.zero_add] at e
 refine TA_lst u (posC C) fun i x hx => ?_
 have hlt := (List.getElem?_eq_some_iff.1 hx).1
 rw [e, List.append_assoc, List.getElem?_append_right (by omega), hl, Nat.add_sub_cancel_left, List.getElem?_append_left hlt]
 exact hx
theorem allTs_app {P : STree → Prop} : ∀ (A B : List STree), AllTs P (A ++ B) ↔ AllTs P A ∧ AllTs P B
 | [], B => by rw [List.nil_append, AllTs]; simp
 | t :: A, B => by rw [List.cons_append, AllTs, AllTs, allTs_app A B, and_assoc]
theorem fill_all {P : STree → Prop} : ∀ {C : List Fr} {us : List STree}, AllTs P (fillL C us) → AllTs P us
 | [], us, h => h
 | c :: C, us, h => by
  rw [fillL, AllTs, AllT, allTs_app, allTs_app] at h
  exact fill_all h.1.2.1.2
theorem fill_tx : ∀ {C : List Fr} {us vs : List STree}, AllTs TxP (fillL C us) → AllTs TxP vs → AllTs TxP (fillL C vs)
 | [], us, vs, h, hv => hv
 | c :: C, us, vs, h, hv => by
  rw [fillL, AllTs, AllT, allTs_app, allTs_app] at h
  rw [fillL, AllTs, AllT, allTs_app, allTs_app]
  exact ⟨⟨h.1.1, ⟨h.1.2.1.1, fill_tx h.1.2.1.2 hv⟩, h.1.2.2⟩, by rw [AllTs]; trivial⟩
theorem fill_dep : ∀ (C : List Fr) (us : List STree), depTs us ≤ depTs (fillL C us)
 | [], us => Nat.le_refl _
 | c :: C, us => by
  have h1 := fill_dep C us
  have h2 : depTs (fillL C us) ≤ depTs (c.L ++ fillL C us ++ c.R) := depTs_mem fun t ht => depT_mem (by simp [ht])
  rw [fillL, depTs, depT]
  omega
theorem fill_one {C : List Fr} (us : List STree) (h : C ≠ []) : ∃ t, fillL C us = [t] := by
 cases C with
 | nil => exact absurd rfl h
 | cons c C => exact ⟨_, rfl⟩
theorem endsT_at (A : List STree) (v : STree) (B : List STree) (s : Nat) : (endsT s (A ++ v :: B))[A.length]? = some (((s + szTs A + szT v : Nat) : Int) - 1) := by
 rw [endsT_app, List.getElem?_append_right (by rw [endsT_len]; omega), endsT_len, Nat.sub_self, endsT]
 rfl

namespace InsE
def put (i q k : Nat) (tx : STree) (acc : List STree) : List STree := if i = q then acc.take k ++ [tx] ++ acc.drop k else acc
def pre (i q k : Nat) (tx : STree) (j : Nat) (acc : List STree) : List STree := if i = q ∧ k < j then acc.take k ++ [tx] ++ acc.drop k else acc

theorem pre_step (i q k j : Nat) (tx r : STree) (acc : List STree) (h : acc.length = j) :
  pre i q k tx (j + 1) (acc ++ [r]) = (if i = q ∧ j = k then pre i q k tx j acc ++ [tx] else pre i q k tx j acc) ++ [r] := by
 unfold pre
 by_cases hq : i = q
 ·by_cases h1 : j = k
  ·subst h1
   rw [if_pos ⟨hq, by omega⟩, if_pos ⟨hq, rfl⟩, if_neg (by omega), ← h]
   simp
  ·rw [if_neg (c := i = q ∧ j = k) (fun c => h1 c.2)]
   by_cases h2 : k < j
   ·rw [if_pos ⟨hq, by omega⟩, if_pos ⟨hq, h2⟩, List.take_append_of_le_length (by omega), List.drop_append_of_le_length (by omega)]
    simp only [List.append_assoc]
   ·rw [if_neg (by omega), if_neg (by omega)]
 ·rw [if_neg (c := i = q ∧ j = k) (fun c => hq c.1), if_neg (fun c => hq c.1), if_neg (fun c => hq c.1)]

theorem put_sz (i q k : Nat) (tx : STree) (acc : List STree) : szTs (put i q k tx acc) ≤ szTs acc + szT tx := by
 unfold put
 split
 ·rw [szTs_app, szTs_app, szTs, szTs]
  have : szTs acc = szTs (acc.take k) + szTs (acc.drop k) := by rw [← szTs_app, List.take_append_drop]
  omega
 ·omega

theorem put_mem {i q k : Nat} {tx : STree} {acc : List STree} {p : STree} (h : p ∈ put i q k tx acc) : p = tx ∨ p ∈ acc := by
 unfold put at h
 split at h
 ·simp only [List.mem_append, List.mem_singleton] at h
  rcases h with (h | h) | h
  ·exact .inr (List.mem_of_mem_take h)
  ·exact .inl h
  ·exact .inr (List.mem_of_mem_drop h)
 ·exact .inr h

theorem insO_is {α : Type} {bytes : Nat} {i : Int} {l m : List α} (h1 : 0 ≤ i) (h2 : i.toNat ≤ l.length) (h3 : 0 < m.length) (h4 : (l.length + m.length) * bytes ≤ 140737488355328) :
  insO bytes i l m = some (l.take i.toNat ++ m ++ l.drop i.toNat) := by
 unfold insO
 rw [if_pos ⟨h1, h2, h3, h4⟩]; rfl

theorem do_is (M i q k : Nat) (t : STree) (x : List SNode) {tx : STree} (hx : mi_rootOf M x = some tx) (hk : i = q → k ≤ t.kids.length) (hl : t.kids.length ≤ 1000000) :
  mi_Insert_1 M (i : Int) t (q : Int) (k : Int) x = some [⟨t.kind, t.op, t.text, t.other, put i q k tx t.kids⟩] := by
 unfold mi_Insert_1 put
 by_cases h : i = q
 ·have e : ((i : Int) == (q : Int)) = true := by simp [h]
  have h1 := hk h
  rw [e, if_pos h, cond_true]
  unfold m_slices_Clone_tree m_slices_Insert_tree
  rw [app_some (by simp; omega), oBs, oBs, hx, oBs, List.nil_append, insO_is (by omega) (by simpa using h1) (by simp) (by simp; omega), oBs]
  rfl
 ·have e : ((i : Int) == (q : Int)) = false := by simp; omega
  rw [e, if_neg h]; rfl

theorem put_l (a x : List SNode) (tx : STree) (q k M i : Nat) (e : SNode) (he : a[i]? = some e) (hM : 1048577 < M) (hek : e.Kids.length ≤ 400) (hk : i = q → k ≤ e.Kids.length) (hx : x = lst 0 tx) (hxs : szT tx ≤ 400) : ∀ (ts : List STree) (j n n' s : Nat) (acc : List STree),
  (∀ t, t ∈ ts → ∀ s k' : Nat, TA a t s k' → k' < i → ∃ r, (scc5 M).mi_edited a (k' : Int) (q : Int) (k : Int) x = some [r] ∧ (scc7 M).ms_l31Put a (k' : Int) (q : Int) (k : Int) x = some (lst 0 r) ∧ szT r ≤ 401 * szT t ∧ txT r) → KA a ts (e.Kids.drop j) s i → acc.length = j → j ≤ e.Kids.length → ts.length < n → ts.length < n' →
  szTs acc + 401 * szTs ts ≤ 800000 → (∀ p, p ∈ acc → txT p) →
  ∃ res, mi_edited_l1 M (scc5 M) (q : Int) (k : Int) x n (a, (i : Int), e, (j : Int), acc) = Option.bind (mi_Insert_1 M (i : Int) ⟨e.Kind, e.Op, e.Text, e.Other, acc ++ res⟩ (q : Int) (k : Int) x) (fun r => some r) ∧
   ms_l31Put_l1 M (scc7 M) n' (a, (i : Int), (q : Int), (k : Int), x, (j : Int), (pre i q k tx j acc).map (lst 0)) = some (lst 0 ⟨e.Kind, e.Op, e.Text, e.Other, put i q k tx (acc ++ res)⟩) ∧ szTs res ≤ 401 * szTs ts ∧ (∀ p, p ∈ acc ++ res → txT p) ∧ (acc ++ res).length = e.Kids.length
 | [], j, n, n', s, acc, ih, h, ha, hj, hn, hn', hsz, htx => by
  simp only [KA] at h
  obtain ⟨n, rfl⟩ : ∃ m, n = m + 1 := ⟨n - 1, by simp at hn; omega⟩
  obtain ⟨n', rfl⟩ : ∃ m, n' = m + 1 := ⟨n' - 1, by simp at hn'; omega⟩
  have hlt : ¬ j < e.Kids.length := by
   intro hlt
   rw [drop_cons hlt] at h
   cases h.1
  have hps := put_sz i q k tx acc
  have hm := make_is M e (put i q k tx acc) hM (by rw [szTs] at hsz; omega)
  refine ⟨[], ?_, ?_, by simp [szTs], by simpa using htx, by simp; omega⟩
  ·rw [mi_edited_l1]
   simp only [lt_false hlt, cond_false, List.append_nil]
  ·rw [ms_l31Put_l1]
   simp only [ix_get he, oBs, lt_false hlt, cond_false, List.append_nil]
   by_cases hq : i = q
   ·have e1 : ((i : Int) == (q : Int)) = true := by simp [hq]
    have h1 := hk hq
    rw [e1, cond_true, oBs]
    by_cases h2 : k = e.Kids.length
    ·have e2 : ((k : Int) == (e.Kids.length : Int)) = true := by simp [h2]
     rw [e2, cond_true, app_some (by
      have := szTs_len (pre i q k tx j acc)
      have h3 : (pre i q k tx j acc).length ≤ acc.length + 1 := by unfold pre; split <;> simp <;> omega
      simp; omega), oBs, ms_l31Put_k3, ix_get he, oBs]
     have h4 : (pre i q k tx j acc).map (lst 0) ++ [x] = (put i q k tx acc).map (lst 0) := by
      unfold pre put
      rw [if_neg (by omega), if_pos hq, List.take_of_length_le (by omega), List.drop_of_length_le (by omega), hx]
      simp
     rw [h4, hm, oBs]
    ·have e2 : ((k : Int) == (e.Kids.length : Int)) = false := by simp; omega
     rw [e2, cond_false, ms_l31Put_k3, ix_get he, oBs]
     have h4 : pre i q k tx j acc = put i q k tx acc := by
      unfold pre put
      rw [if_pos ⟨hq, by omega⟩, if_pos hq]
     rw [h4, hm, oBs]
   ·have e1 : ((i : Int) == (q : Int)) = false := by simp; omega
    rw [e1, cond_false, oBs, cond_false, ms_l31Put_k3, ix_get he, oBs]
    have h4 : pre i q k tx j acc = put i q k tx acc := by
     unfold pre put
     rw [if_neg (fun c => hq c.1), if_neg hq]
    rw [h4, hm, oBs]
 | t :: ts, j, n, n', s, acc, ih, h, ha, hj, hn, hn', hsz, htx => by
  simp only [KA] at h
  obtain ⟨k', ks', hd, h1, h2, hta, hka⟩ := h
  simp only [List.length_cons] at hn hn'
  rw [szTs] at hsz
  obtain ⟨n, rfl⟩ : ∃ m, n = m + 1 := ⟨n - 1, by omega⟩
  obtain ⟨n', rfl⟩ : ∃ m, n' = m + 1 := ⟨n' - 1, by omega⟩
  have hlt : j < e.Kids.length := by
   cases Nat.lt_or_ge j e.Kids.length with
   | inl h => exact h
   | inr h => rw [List.drop_of_length_le h] at hd; cases hd
  rw [drop_cons hlt] at hd
  injection hd with hd1 hd2
  obtain ⟨r, r1, r2, r4, r5⟩ := ih t (by simp) s k' hta h2
  have hstep : IntKind.wrap .i64 ((j : Int) + 1) = ((j + 1 : Nat) : Int) := by rw [wrap64 (by omega) (by omega)]; omega
  have htx' : ∀ p, p ∈ acc ++ [r] → txT p := fun p hp => (List.mem_append.1 hp).elim (htx p) (fun h => by rw [List.mem_singleton.1 h]; exact r5)
  obtain ⟨res, e1, e2, e3, e4, e5⟩ := put_l a x tx q k M i e he hM hek hk hx hxs ts (j + 1) n n' (k' + 1) (acc ++ [r]) (fun t' h' => ih t' (by simp [h'])) (hd2 ▸ hka) (by rw [List.length_append]; simp; omega) (by omega) (by omega) (by omega) (by rw [szTs_app, szTs, szTs]; omega) htx'
  have hpl : (pre i q k tx j acc).length ≤ acc.length + 1 := by unfold pre; split <;> simp <;> omega
  refine ⟨[r] ++ res, ?_, ?_, by rw [szTs_app, szTs, szTs, szTs]; omega, by rw [← List.append_assoc]; exact e4, by rw [← List.append_assoc]; exact e5⟩
  ·rw [mi_edited_l1]
   simp only [lt_true hlt, cond_true, ix_nat hlt, hd1, oBs, r1]
   rw [app_some (by simp; omega), oBs, hstep, e1, List.append_assoc]
  ·rw [pre_step i q k j tx r acc ha, List.append_assoc] at e2
   rw [ms_l31Put_l1]
   simp only [ix_get he, oBs, lt_true hlt, cond_true]
   by_cases hq : i = q
   ·have e6 : ((i : Int) == (q : Int)) = true := by simp [hq]
    rw [e6, cond_true, oBs]
    by_cases h3 : j = k
    ·have e7 : ((j : Int) == (k : Int)) = true := by simp [h3]
     rw [e7, cond_true, app_some (by simp; omega), oBs, ms_l31Put_k2]
     simp only [ix_get he, ix_nat hlt, hd1, oBs, r2]
     rw [app_some (by simp; omega), oBs, hstep]
     rw [if_pos ⟨hq, h3⟩] at e2
     rw [hx] at e2 ⊢
     simpa using e2
    ·have e7 : ((j : Int) == (k : Int)) = false := by simp; omega
     rw [e7, cond_false, ms_l31Put_k2]
     simp only [ix_get he, ix_nat hlt, hd1, oBs, r2]
     rw [app_some (by simp; omega), oBs, hstep]
     rw [if_neg (fun c => h3 c.2)] at e2
     simpa using e2
   ·have e6 : ((i : Int) == (q : Int)) = false := by simp; omega
    rw [e6, cond_false, oBs, cond_false, ms_l31Put_k2]
    simp only [ix_get he, ix_nat hlt, hd1, oBs, r2]
    rw [app_some (by simp; omega), oBs, hstep]
    rw [if_neg (fun c => hq c.1)] at e2
    simpa using e2

theorem put_is (a x : List SNode) {tx : STree} (q k : Nat) (hx : ∀ M, 1048577 < M → mi_rootOf M x = some tx) (hxl : x = lst 0 tx) (hxs : szT tx ≤ 400) (hxt : txT tx) (hs : ∀ z, z ∈ a → smNode z) (hk : ∀ z, z ∈ a → z.Kids.length ≤ 400)
  (hqk : ∀ e, a[q]? = some e → k ≤ e.Kids.length) :
  ∀ (t : STree) (s i M : Nat), TA a t s i → i ≤ 1000 → szT t ≤ 400 → 1048578 + szT t ≤ M → ∃ r, (scc5 M).mi_edited a (i : Int) (q : Int) (k : Int) x = some [r] ∧ (scc7 M).ms_l31Put a (i : Int) (q : Int) (k : Int) x = some (lst 0 r) ∧ szT r ≤ 401 * szT t ∧ txT r := by
 intro t
 induction t using STree.ind with
 | h t ih =>
  intro s i M h hi hsz hM
  obtain ⟨M, rfl⟩ : ∃ m, M = m + 1 := ⟨M - 1, by omega⟩
  have hse := szT_eq t
  obtain ⟨n, hn, e1, e2, e3, e4, hka, hkl⟩ := h.node
  have hnm := List.mem_of_getElem? hn
  have hnk := hk n hnm
  have hlen := szTs_len t.kids
  have hki : i = q → k ≤ n.Kids.length := fun hq => hqk n (by rw [← hq]; exact hn)
  obtain ⟨res, g1, g2, g3, g4, g5⟩ := put_l a x tx q k M i n hn (by omega) hnk hki hxl hxs t.kids 0 M M s [] (fun t' ht' s' k' hta hki' => ih t' ht' s' k' M hta (by omega) (by have := szTs_mem ht'; omega) (by have := szTs_mem ht'; omega)) (by simpa using hka) (by simp) (by omega) (by omega) (by omega) (by rw [szTs]; omega) (fun p hp => by cases hp)
  rw [List.nil_append] at g1 g2 g4 g5
  have hpre : pre i q k tx 0 [] = [] := by unfold pre; rw [if_neg (by omega)]
  rw [hpre] at g2
  have hxn := hs n hnm
  unfold smNode at hxn
  have hps := put_sz i q k tx res
  refine ⟨⟨n.Kind, n.Op, n.Text, n.Other, put i q k tx res⟩, ?_, ?_, by rw [szT]; omega, ?_⟩
  ·show mi_edited_F M (scc5 M) a (i : Int) (q : Int) (k : Int) x = _
   unfold mi_edited_F
   rw [ix_get hn, oBs]
   refine Eq.trans g1 ?_
   rw [do_is M i q k _ x (hx M (by omega)) (fun hq => by have := hki hq; show k ≤ res.length; omega) (by show res.length ≤ 1000000; omega)]
   rfl
  ·show ms_l31Put_F M (scc7 M) a (i : Int) (q : Int) (k : Int) x = _
   unfold ms_l31Put_F
   exact g2
  ·exact txT_mk (fun p hp => (put_mem hp).elim (fun h => h ▸ hxt) (g4 p)) (by omega) (by omega)

theorem rng_false {x lo hi : Int} (h : ¬ (lo ≤ x ∧ x ≤ hi)) : (decide (x ≥ lo) && decide (x ≤ hi)) = false := by
 cases h' : (decide (x ≥ lo) && decide (x ≤ hi)) with
 | false => rfl
 | true => simp only [Bool.and_eq_true, decide_eq_true_eq] at h'; omega

theorem rng_true {x lo hi : Int} (h : lo ≤ x ∧ x ≤ hi) : (decide (x ≥ lo) && decide (x ≤ hi)) = true := by simp; omega

theorem law_ex (N : Nat) (a x : List SNode) (q0 k0 : Int) (hN : 1048577 + 1000 < N) (ha : a.length ≤ 1048576) (hs : ∀ x, x ∈ a → smNode x) (hi : ∀ x, x ∈ a → i64N x) (hxl : x.length ≤ 1048576) (hxs : ∀ z, z ∈ x → smNode z) :
  ∃ b, ms_Insert N a q0 k0 x = some b ∧ mi_Insert N a q0 k0 x = some b ∧ b.1.length ≤ 1048576 ∧ ∀ x, x ∈ b.1 → smNode x := by
 obtain ⟨b, b1, b2, b3⟩ := treeOk_ex N a (by omega) hs
 obtain ⟨c, c1, c2, c3⟩ := treeOk_ex N x (by omega) hxs
 have hc1 := copy_is N a (by omega) ha hs hi
 have hc2 := copyNodes_is N a (by omega) ha hs
 unfold ms_Insert mi_Insert
 rw [b1, c1, c2]
 simp only [oBs]
 rw [wrap64 (n := (a.length : Int) - 1) (by omega) (by omega), l1In_is, within_is]
 cases c with
 | false =>
  simp only [Bool.not_false, cond_true, oBs, hc2]
  cases b <;> simp only [Bool.not_false, Bool.not_true, cond_true, cond_false, oBs, hc1] <;> exact ⟨_, rfl, rfl, ha, hs⟩
 | true =>
  simp only [Bool.not_true, cond_false, oBs]
  by_cases hin : 0 ≤ q0 ∧ q0 ≤ (a.length : Int) - 1
  ·have d1 := rng_true hin
   obtain ⟨q, rfl⟩ := Int.eq_ofNat_of_zero_le hin.1
   have hql : q < a.length := by omega
   simp only [d1, Bool.not_true, cond_false, ix_nat hql, oBs, l1In_is, within_is]
   by_cases hkk : 0 ≤ k0 ∧ k0 ≤ (a[q].Kids.length : Int)
   ·have d2 := rng_true hkk
    obtain ⟨k, rfl⟩ := Int.eq_ofNat_of_zero_le hkk.1
    simp only [d2, Bool.not_true, cond_false]
    unfold mi_edit
    rw [b2, wrap64 (n := (a.length : Int) - 1) (by omega) (by omega)]
    simp only [oBs, within_is, d1]
    cases b with
    | false =>
     simp only [Bool.not_false, cond_true, oBs, hc1, hc2]
     exact ⟨_, rfl, rfl, ha, hs⟩
    | true =>
     simp only [Bool.not_true, cond_false, oBs]
     obtain ⟨hsh, hnk⟩ := b3 rfl
     obtain ⟨l1, l2, _, _, _, _, _, t, ht⟩ := shape_of hsh
     obtain ⟨hxsh, _⟩ := c3 rfl
     obtain ⟨x1, x2, _, _, _, _, _, tx, htx⟩ := shape_of hxsh
     have hsz := ht.part.2.1
     obtain ⟨_, xsz, xpt⟩ := htx.part
     rw [show x.length - 1 + 1 = x.length by omega, part_all] at xpt
     obtain ⟨t', r1, r2, r4, r5⟩ := put_is a x q k (fun M hM => rootOf_is M x (by omega) htx x1 x2) xpt (by omega) (txT_of hxs htx) hs (fun z hz => (shape_kids hsh z hz).1)
      (fun e he => by rw [List.getElem?_eq_getElem hql] at he; cases he; omega) t 0 (a.length - 1) N ht (by omega) (by omega) (by omega)
     have r1' : mi_edited N a ((a.length : Int) - 1) (q : Int) (k : Int) x = some [t'] := by rw [show (a.length : Int) - 1 = ((a.length - 1 : Nat) : Int) by omega]; exact r1
     have r2' : ms_l31Put N a ((a.length : Int) - 1) (q : Int) (k : Int) x = some (lst 0 t') := by rw [show (a.length : Int) - 1 = ((a.length - 1 : Nat) : Int) by omega]; exact r2
     have hli := list_is N t' (by omega) (by omega)
     have hsm := small_of (by omega) r5 0
     obtain ⟨c, c1, c2, _⟩ := treeOk_ex N (lst 0 t') (by omega) hsm
     have hx0 : ix [t'] 0 = some t' := rfl
     have hne : ((([t'] : List STree).length : Int) != 1) = false := rfl
     unfold ms_l31Told
     simp only [oBs, r1', r2', hne, cond_false, hx0, hli, c1, c2]
     cases c with
     | false =>
      simp only [Bool.not_false, cond_true, oBs, hc1, hc2]
      exact ⟨_, rfl, rfl, ha, hs⟩
     | true =>
      simp only [Bool.not_true, cond_false, oBs]
      exact ⟨_, rfl, rfl, by simp only [lst_len]; omega, hsm⟩
   ·have d2 := rng_false hkk
    simp only [d2, Bool.not_false, cond_true, oBs, hc2]
    cases b <;> simp only [Bool.not_false, Bool.not_true, cond_true, cond_false, oBs, hc1] <;> exact ⟨_, rfl, rfl, ha, hs⟩
  ·have d1 := rng_false hin
   simp only [d1, Bool.not_false, cond_true, oBs, hc2]
   cases b <;> simp only [Bool.not_false, Bool.not_true, cond_true, cond_false, oBs, hc1] <;> exact ⟨_, rfl, rfl, ha, hs⟩

end InsE
namespace RemE
def Res (a : List SNode) (rx : List STree) (q : Nat) (t : STree) (k : Nat) (r : List STree) : Prop :=
 r.length ≤ 1 ∧ (k = q → r = rx) ∧ (k ≠ q → ∃ t', r = [t']) ∧ szTs r ≤ 401 * szT t ∧ ∀ p, p ∈ r → txT p

theorem with_l (a x : List SNode) (rx : List STree) (q M i : Nat) (e : SNode) (he : a[i]? = some e) (hM : 1048577 < M) (hek : e.Kids.length ≤ 400) : ∀ (ts : List STree) (j n n' s : Nat) (acc : List STree),
  (∀ t, t ∈ ts → ∀ s k : Nat, TA a t s k → k < i → ∃ r, (scc8 M).mi_edited_v2 a (k : Int) (q : Int) = some r ∧ (scc10 M).ms_l31With a (k : Int) (q : Int) x = some (lsts 0 r) ∧ Res a rx q t k r) → KA a ts (e.Kids.drop j) s i → acc.length ≤ j → j ≤ e.Kids.length → ts.length < n → ts.length < n' →
  szTs acc + 401 * szTs ts ≤ 900000 → (∀ p, p ∈ acc → txT p) →
  ∃ res, mi_edited_v2_l1 M (scc8 M) (q : Int) n (a, (i : Int), e, (j : Int), acc) = Option.bind (mi_Remove_1 (i : Int) ⟨e.Kind, e.Op, e.Text, e.Other, acc ++ res⟩ (q : Int)) (fun r => some r) ∧
   ms_l31With_l1 M (scc10 M) n' (a, (i : Int), (q : Int), x, (j : Int), acc.map (lst 0)) = some (lst 0 ⟨e.Kind, e.Op, e.Text, e.Other, acc ++ res⟩) ∧ szTs res ≤ 401 * szTs ts ∧ ∀ p, p ∈ acc ++ res → txT p
 | [], j, n, n', s, acc, ih, h, ha, hj, hn, hn', hsz, htx => by
  simp only [KA] at h
  obtain ⟨n, rfl⟩ : ∃ m, n = m + 1 := ⟨n - 1, by simp at hn; omega⟩
  obtain ⟨n', rfl⟩ : ∃ m, n' = m + 1 := ⟨n' - 1, by simp at hn'; omega⟩
  have hlt : ¬ j < e.Kids.length := by
   intro hlt
   rw [drop_cons hlt] at h
   cases h.1
  have hm := make_is M e acc hM (by rw [szTs] at hsz; omega)
  refine ⟨[], ?_, ?_, by simp [szTs], by simpa using htx⟩
  ·rw [mi_edited_v2_l1]
   simp only [lt_false hlt, cond_false, List.append_nil]
  ·rw [ms_l31With_l1]
   simp only [ix_get he, oBs, lt_false hlt, cond_false, List.append_nil, hm]
 | t :: ts, j, n, n', s, acc, ih, h, ha, hj, hn, hn', hsz, htx => by
  simp only [KA] at h
  obtain ⟨k, ks', hd, h1, h2, hta, hka⟩ := h
  simp only [List.length_cons] at hn hn'
  rw [szTs] at hsz
  obtain ⟨n, rfl⟩ : ∃ m, n = m + 1 := ⟨n - 1, by omega⟩
  obtain ⟨n', rfl⟩ : ∃ m, n' = m + 1 := ⟨n' - 1, by omega⟩
  have hlt : j < e.Kids.length := by
   cases Nat.lt_or_ge j e.Kids.length with
   | inl h => exact h
   | inr h => rw [List.drop_of_length_le h] at hd; cases hd
  rw [drop_cons hlt] at hd
  injection hd with hd1 hd2
  obtain ⟨r, r1, r2, r3, _, _, r4, r5⟩ := ih t (by simp) s k hta h2
  have hstep : IntKind.wrap .i64 ((j : Int) + 1) = ((j + 1 : Nat) : Int) := by rw [wrap64 (by omega) (by omega)]; omega
  have htx' : ∀ p, p ∈ acc ++ r → txT p := fun p hp => (List.mem_append.1 hp).elim (htx p) (r5 p)
  obtain ⟨res, e1, e2, e3, e4⟩ := with_l a x rx q M i e he hM hek ts (j + 1) n n' (k + 1) (acc ++ r) (fun t' h' => ih t' (by simp [h'])) (hd2 ▸ hka) (by rw [List.length_append]; omega) (by omega) (by omega) (by omega) (by rw [szTs_app]; omega) htx'
  refine ⟨r ++ res, ?_, ?_, by rw [szTs_app, szTs]; omega, by rw [← List.append_assoc]; exact e4⟩
  ·rw [mi_edited_v2_l1]
   simp only [lt_true hlt, cond_true, ix_nat hlt, hd1, oBs, r1]
   rw [app_some (by omega), oBs, hstep, e1, List.append_assoc]
  ·rw [ms_l31With_l1]
   simp only [ix_get he, oBs, lt_true hlt, cond_true, ix_nat hlt, hd1, r2]
   rw [List.append_assoc] at e2
   match r, r3 with
   | [], _ =>
    have : decide (((lsts 0 ([] : List STree)).length : Int) > 0) = false := by rw [lsts]; rfl
    simp only [this, cond_false, ms_l31With_k2, hstep]
    simpa using e2
   | [t'], _ =>
    have hp := szT_pos t'
    have hl : lsts 0 [t'] = lst 0 t' := by rw [lsts, lsts, List.append_nil]
    have : decide (((lst 0 t').length : Int) > 0) = true := by rw [lst_len]; simp; omega
    rw [hl]
    simp only [this, cond_true]
    rw [app_some (by rw [List.length_map]; simp; omega), oBs, ms_l31With_k2, hstep]
    simpa using e2

theorem do_is (k q : Nat) (t : STree) : mi_Remove_1 (k : Int) t (q : Int) = some (if k = q then [] else [t]) := by
 unfold mi_Remove_1
 by_cases h : k = q
 ·have : ((k : Int) == (q : Int)) = true := by simp [h]
  rw [this, if_pos h]; rfl
 ·have : ((k : Int) == (q : Int)) = false := by simp; omega
  rw [this, if_neg h]; rfl

theorem with_is (a x : List SNode) (q : Nat) (hcx : ∀ M, 1048577 < M → ms_l6Copy M x = some (lsts 0 [])) (hxs : szTs [] ≤ 400) (hxt : ∀ p, p ∈ ([] : List STree) → txT p) (hs : ∀ z, z ∈ a → smNode z) (hk : ∀ z, z ∈ a → z.Kids.length ≤ 400) :
  ∀ (t : STree) (s i M : Nat), TA a t s i → i ≤ 1000 → szT t ≤ 400 → 1048578 + szT t ≤ M → ∃ r, (scc8 M).mi_edited_v2 a (i : Int) (q : Int) = some r ∧ (scc10 M).ms_l31With a (i : Int) (q : Int) x = some (lsts 0 r) ∧ Res a [] q t i r := by
 intro t
 induction t using STree.ind with
 | h t ih =>
  intro s i M h hi hsz hM
  obtain ⟨M, rfl⟩ : ∃ m, M = m + 1 := ⟨M - 1, by omega⟩
  have hse := szT_eq t
  obtain ⟨n, hn, e1, e2, e3, e4, hka, hkl⟩ := h.node
  have hnm := List.mem_of_getElem? hn
  have hnk := hk n hnm
  have hlen := szTs_len t.kids
  obtain ⟨res, g1, g2, g3, g4⟩ := with_l a x [] q M i n hn (by omega) hnk t.kids 0 M M s [] (fun t' ht' s' k hta hki => ih t' ht' s' k M hta (by omega) (by have := szTs_mem ht'; omega) (by have := szTs_mem ht'; omega)) (by simpa using hka) (by simp) (by omega) (by omega) (by omega) (by rw [szTs]; omega) (fun p hp => by cases hp)
  rw [List.nil_append] at g1 g2 g4
  have hxn := hs n hnm
  unfold smNode at hxn
  refine ⟨if i = q then [] else [⟨n.Kind, n.Op, n.Text, n.Other, res⟩], ?_, ?_, ?_⟩
  ·show mi_edited_v2_F M (scc8 M) a (i : Int) (q : Int) = _
   unfold mi_edited_v2_F
   rw [ix_get hn, oBs]
   refine Eq.trans g1 ?_
   rw [do_is i q _]
   rfl
  ·show ms_l31With_F M (scc10 M) a (i : Int) (q : Int) x = _
   unfold ms_l31With_F
   by_cases hq : i = q
   ·have : ((i : Int) == (q : Int)) = true := by simp [hq]
    rw [this, cond_true, hcx M (by omega), if_pos hq]
    rfl
   ·have : ((i : Int) == (q : Int)) = false := by simp; omega
    rw [this, cond_false, if_neg hq]
    refine Eq.trans g2 ?_
    rw [lsts, lsts, List.append_nil]
  ·by_cases hq : i = q
   ·rw [if_pos hq]
    refine ⟨by simp, fun _ => rfl, fun h => absurd hq h, by have := szT_pos t; omega, hxt⟩
   ·rw [if_neg hq]
    refine ⟨by simp, fun h => absurd h hq, fun _ => ⟨_, rfl⟩, by rw [szTs, szTs, szT]; omega, fun p hp => ?_⟩
    rw [List.mem_singleton.1 hp]
    exact txT_mk g4 (by omega) (by omega)

theorem law_ex (N : Nat) (a : List SNode) (q0 : Int) (hN : 1048577 + 1000 < N) (ha : a.length ≤ 1048576) (hs : ∀ x, x ∈ a → smNode x) (hi : ∀ x, x ∈ a → i64N x) :
  ∃ b, ms_Remove N a q0 = some b ∧ mi_Remove N a q0 = some b ∧ b.1.length ≤ 1048576 ∧ ∀ x, x ∈ b.1 → smNode x := by
 obtain ⟨b, b1, b2, b3⟩ := treeOk_ex N a (by omega) hs
 have hc1 := copy_is N a (by omega) ha hs hi
 have hc2 := copyNodes_is N a (by omega) ha hs
 unfold ms_Remove mi_Remove
 rw [b1]
 simp only [oBs]
 rw [wrap64 (n := (a.length : Int) - 2) (by omega) (by omega), wrap64 (n := (a.length : Int) - 1) (by omega) (by omega), l1In_is]
 by_cases hlast : q0 = (a.length : Int) - 1
 ·have e1 : (q0 == (a.length : Int) - 1) = true := by simp [hlast]
  have e2 : (decide (q0 ≥ 0) && decide (q0 ≤ (a.length : Int) - 2)) = false := by
   cases h : (decide (q0 ≥ 0) && decide (q0 ≤ (a.length : Int) - 2)) with
   | false => rfl
   | true => simp only [Bool.and_eq_true, decide_eq_true_eq] at h; omega
  simp only [e1, e2, cond_true, oBs, hc2, Bool.not_false]
  cases b <;> simp only [Bool.not_false, Bool.not_true, cond_true, cond_false, oBs, hc1] <;> exact ⟨_, rfl, rfl, ha, hs⟩
 ·have e1 : (q0 == (a.length : Int) - 1) = false := by simpa using hlast
  unfold mi_edit_v3
  rw [b2]
  simp only [e1, cond_false, oBs]
  rw [wrap64 (n := (a.length : Int) - 1) (by omega) (by omega), within_is]
  cases b with
  | false =>
   simp only [Bool.not_false, cond_true, oBs, hc1, hc2]
   exact ⟨_, rfl, rfl, ha, hs⟩
  | true =>
   obtain ⟨hsh, hnk⟩ := b3 rfl
   obtain ⟨l1, l2, r, _, _, _, hT, t, ht⟩ := shape_of hsh
   by_cases hin : 0 ≤ q0 ∧ q0 ≤ (a.length : Int) - 2
   ·have d1 : (decide (q0 ≥ 0) && decide (q0 ≤ (a.length : Int) - 2)) = true := by simp; omega
    have d2 : (decide (q0 ≥ 0) && decide (q0 ≤ (a.length : Int) - 1)) = true := by simp; omega
    obtain ⟨q, rfl⟩ := Int.eq_ofNat_of_zero_le hin.1
    have hsz := ht.part.2.1
    have hk0 : ∀ M, 1048577 < M → ms_l6Copy M [] = some (lsts 0 []) := fun M hM => copy_is M [] hM (by simp) (fun _ h => by cases h) (fun _ h => by cases h)
    obtain ⟨rr, r1, r2, _, _, r3, r4, r5⟩ := with_is a [] q hk0 (by simp [szTs]) (fun p hp => by cases hp) hs (fun z hz => (shape_kids hsh z hz).1) t 0 (a.length - 1) N ht (by omega) (by omega) (by omega)
    obtain ⟨t', rfl⟩ := r3 (by omega)
    have hl : lsts 0 [t'] = lst 0 t' := by rw [lsts, lsts, List.append_nil]
    rw [hl] at r2
    rw [szTs, szTs] at r4
    have r1' : mi_edited_v2 N a ((a.length : Int) - 1) (q : Int) = some [t'] := by rw [show (a.length : Int) - 1 = ((a.length - 1 : Nat) : Int) by omega]; exact r1
    have r2' : ms_l31With N a ((a.length : Int) - 1) (q : Int) [] = some (lst 0 t') := by rw [show (a.length : Int) - 1 = ((a.length - 1 : Nat) : Int) by omega]; exact r2
    have hli := list_is N t' (by omega) (by omega)
    have hsm := small_of (by omega) (r5 t' (by simp)) 0
    obtain ⟨c, c1, c2, _⟩ := treeOk_ex N (lst 0 t') (by omega) hsm
    have hx0 : ix [t'] 0 = some t' := rfl
    have hne : ((([t'] : List STree).length : Int) != 1) = false := rfl
    unfold ms_l31Told
    simp only [d1, d2, Bool.not_true, cond_false, oBs, r1', r2', hne, hx0, hli, c1, c2]
    cases c with
    | false =>
     simp only [Bool.not_false, cond_true, oBs, hc1, hc2]
     exact ⟨_, rfl, rfl, ha, hs⟩
    | true =>
     simp only [Bool.not_true, cond_false, oBs]
     exact ⟨_, rfl, rfl, by simp only [lst_len]; omega, hsm⟩
   ·have d1 : (decide (q0 ≥ 0) && decide (q0 ≤ (a.length : Int) - 2)) = false := by
     cases h : (decide (q0 ≥ 0) && decide (q0 ≤ (a.length : Int) - 2)) with
     | false => rfl
     | true => simp only [Bool.and_eq_true, decide_eq_true_eq] at h; omega
    have d2 : (decide (q0 ≥ 0) && decide (q0 ≤ (a.length : Int) - 1)) = false := by
     cases h : (decide (q0 ≥ 0) && decide (q0 ≤ (a.length : Int) - 1)) with
     | false => rfl
     | true => simp only [Bool.and_eq_true, decide_eq_true_eq] at h; omega
    simp only [d1, d2, Bool.not_true, Bool.not_false, cond_true, cond_false, oBs, hc1, hc2]
    exact ⟨_, rfl, rfl, ha, hs⟩

end RemE
section
variable (a : List SNode) (f : Nat → STree → List STree) (q k : Nat) (hf1 : ∀ j t, (f j t).length ≤ 1) (hL : (∀ j t, (f j t).length = 1) ∨ k = 0) (x : List SNode)
 (hdo : ∀ (M i : Nat) (t : STree), 1048577 < M → t.kids.length ≤ 400 → (i = q → k ≤ t.kids.length) → mi_Insert_1 M (i : Int) t (q : Int) (k : Int) x = some (f i t))
include hf1 hL hdo
theorem ed_l_ins (M i : Nat) (e : SNode) (hM : 1048577 < M) (hek : e.Kids.length ≤ 400) (hk : i = q → k ≤ e.Kids.length) (s0 : Nat) (ts0 : List STree) (hts0 : ts0.length = e.Kids.length) : ∀ (ts dn : List STree) (j n s : Nat) (acc : List STree),
  (∀ t, t ∈ ts → ∀ s k' : Nat, TA a t s k' → k' < i → (scc5 M).mi_edited a (k' : Int) (q : Int) (k : Int) x = some (edT f s t)) → KA a ts (e.Kids.drop j) s i → j ≤ e.Kids.length → ts.length < n → acc.length ≤ j → dn ++ ts = ts0 → acc = edTs f s0 dn → s = s0 + szTs dn →
  mi_edited_l1 M (scc5 M) (q : Int) (k : Int) x n (a, (i : Int), e, (j : Int), acc) = some (f i ⟨e.Kind, e.Op, e.Text, e.Other, edTs f s0 ts0⟩)
 | [], dn, j, n, s, acc, ih, h, hj, hn, hacc, hd, ha, hs => by
  simp only [KA] at h
  obtain ⟨n, rfl⟩ : ∃ m, n = m + 1 := ⟨n - 1, by simp at hn; omega⟩
  have hlt : ¬ j < e.Kids.length := by
   intro hlt
   rw [drop_cons hlt] at h
   cases h.1
  rw [List.append_nil] at hd
  subst hd
  have h1 := edTs_len hf1 dn s0
  have hg : i = q → k ≤ (edTs f s0 dn).length := fun hi => by
   rcases hL with h | h
   ·rw [edTs_len1 h, hts0]; exact hk hi
   ·omega
  rw [mi_edited_l1, ha]
  simp only [lt_false hlt, cond_false]
  have := hdo M i ⟨e.Kind, e.Op, e.Text, e.Other, edTs f s0 dn⟩ hM (by show (edTs f s0 dn).length ≤ 400; omega) hg
  rw [this]; rfl
 | t :: ts, dn, j, n, s, acc, ih, h, hj, hn, hacc, hd, ha, hs => by
  simp only [KA] at h
  obtain ⟨k', ks', hd', h1, h2, hta, hka⟩ := h
  simp only [List.length_cons] at hn
  obtain ⟨n, rfl⟩ : ∃ m, n = m + 1 := ⟨n - 1, by omega⟩
  have hlt : j < e.Kids.length := by
   cases Nat.lt_or_ge j e.Kids.length with
   | inl h => exact h
   | inr h => rw [List.drop_of_length_le h] at hd'; cases hd'
  rw [drop_cons hlt] at hd'
  injection hd' with hd1 hd2
  have r1 := ih t (by simp) s k' hta h2
  have hstep : IntKind.wrap .i64 ((j : Int) + 1) = ((j + 1 : Nat) : Int) := by rw [wrap64 (by omega) (by omega)]; omega
  have hl := edT_len hf1 s t
  have hsz := hta.part
  rw [mi_edited_l1]
  simp only [lt_true hlt, cond_true, ix_nat hlt, hd1, oBs, r1]
  rw [app_some (by omega), oBs, hstep]
  refine ed_l_ins M i e hM hek hk s0 ts0 hts0 ts (dn ++ [t]) (j + 1) n (k' + 1) (acc ++ edT f s t) (fun u hu => ih u (by simp [hu])) (hd2 ▸ hka) (by omega) (by omega) (by rw [List.length_append]; omega) (by rw [List.append_assoc]; exact hd) ?_ ?_
  ·rw [ha, edTs_app, edTs_cons, edTs_nil, List.append_nil, hs]
  ·rw [szTs_app, szTs, szTs]
   have := hsz.2.1
   omega
theorem ed_is_ins (hkl : ∀ z, z ∈ a → z.Kids.length ≤ 400) (hk : ∀ e, a[q]? = some e → k ≤ e.Kids.length) : ∀ (t : STree) (s i M : Nat), TA a t s i → i ≤ 1000 → szT t ≤ 400 → 1048578 + szT t ≤ M → (scc5 M).mi_edited a (i : Int) (q : Int) (k : Int) x = some (edT f s t) := by
 intro t
 induction t using STree.ind with
 | h t ih =>
  intro s i M h hi hsz hM
  obtain ⟨M, rfl⟩ : ∃ m, M = m + 1 := ⟨M - 1, by omega⟩
  have hse := szT_eq t
  have hpt := h.part
  obtain ⟨n, hn, e1, e2, e3, e4, hka, hkl2⟩ := h.node
  have hnk := hkl n (List.mem_of_getElem? hn)
  have hlen := szTs_len t.kids
  have := ed_l_ins a f q k hf1 hL x hdo M i n (by omega) hnk (fun hi => hk n (by rw [← hi]; exact hn)) s t.kids hkl2 t.kids [] 0 M s [] (fun t' ht' s' k' hta hki => ih t' ht' s' k' M hta (by omega) (by have := szTs_mem ht'; omega) (by have := szTs_mem ht'; omega)) (by simpa using hka) (by omega) (by omega) (by simp) (by simp) (by rw [edTs_nil]) (by rw [szTs]; omega)
  show mi_edited_F M (scc5 M) a (i : Int) (q : Int) (k : Int) x = _
  unfold mi_edited_F
  rw [ix_get hn, oBs]
  refine Eq.trans this ?_
  obtain ⟨k', o, x', y, ts⟩ := t
  have e1 : k' = n.Kind := e1
  have e2 : o = n.Op := e2
  have e3 : x' = n.Text := e3
  have e4 : y = n.Other := e4
  subst e1 e2 e3 e4
  rw [edT]
  have : s + szTs ts = i := by
   have hse : szT _ = szTs ts + 1 := hse
   omega
  rw [this]
end
theorem edit_ins (N : Nat) (a : List SNode) (q k : Nat) (x : List SNode) (hN : 1048577 + 1000 < N) (hs : ∀ z, z ∈ a → smNode z) (hok : mi_TreeOk N a = some true) (hq : q < a.length) (ha : a.length ≤ 400) {t' : STree} (hed : mi_edited N a (((a.length - 1 : Nat) : Int)) (q : Int) (k : Int) x = some [t']) (hz : szT t' ≤ 5000) (htx : txT t') :
  ∃ c, ms_TreeOk N (lst 0 t') = some c ∧ mi_edit N a (q : Int) (q : Int) (k : Int) x = some (bif c then (lst 0 t', true) else (a, false)) := by
 have hsm := small_of (t := t') (by omega) htx 0
 obtain ⟨c, c1, c2, _⟩ := treeOk_ex N (lst 0 t') (by omega) hsm
 refine ⟨c, c1, ?_⟩
 have hli := list_is N t' (by omega) (by omega)
 have hw : (decide ((q : Int) ≥ 0) && decide ((q : Int) ≤ (a.length : Int) - 1)) = true := by simp; omega
 have hi : (a.length : Int) - 1 = ((a.length - 1 : Nat) : Int) := by omega
 have hx0 : ix [t'] 0 = some t' := rfl
 have hne : ((([t'] : List STree).length : Int) != 1) = false := rfl
 have hed' : mi_edited N a ((a.length : Int) - 1) (q : Int) (k : Int) x = some [t'] := by rw [hi]; exact hed
 unfold mi_edit
 rw [hok]
 simp only [oBs]
 rw [wrap64 (n := (a.length : Int) - 1) (by omega) (by omega), within_is]
 simp only [Bool.not_true, cond_false, hw, oBs, hed', hne, hx0, hli, c2]
 cases c with
 | true => rfl
 | false =>
  simp only [Bool.not_false, cond_true, copyNodes_is N a (by omega) (by omega) hs, oBs, cond_false]

section
variable (a : List SNode) (f : Nat → STree → List STree) (q k : Nat) (hf1 : ∀ j t, (f j t).length ≤ 1) (hL : (∀ j t, (f j t).length = 1) ∨ k = 0)
 (hdo : ∀ (M i : Nat) (t : STree), 1048577 < M → t.kids.length ≤ 400 → (i = q → k ≤ t.kids.length) → mi_Remove_1 (i : Int) t (q : Int) = some (f i t))
include hf1 hL hdo
theorem ed_l_rem (M i : Nat) (e : SNode) (hM : 1048577 < M) (hek : e.Kids.length ≤ 400) (hk : i = q → k ≤ e.Kids.length) (s0 : Nat) (ts0 : List STree) (hts0 : ts0.length = e.Kids.length) : ∀ (ts dn : List STree) (j n s : Nat) (acc : List STree),
  (∀ t, t ∈ ts → ∀ s k' : Nat, TA a t s k' → k' < i → (scc8 M).mi_edited_v2 a (k' : Int) (q : Int) = some (edT f s t)) → KA a ts (e.Kids.drop j) s i → j ≤ e.Kids.length → ts.length < n → acc.length ≤ j → dn ++ ts = ts0 → acc = edTs f s0 dn → s = s0 + szTs dn →
  mi_edited_v2_l1 M (scc8 M) (q : Int) n (a, (i : Int), e, (j : Int), acc) = some (f i ⟨e.Kind, e.Op, e.Text, e.Other, edTs f s0 ts0⟩)
 | [], dn, j, n, s, acc, ih, h, hj, hn, hacc, hd, ha, hs => by
  simp only [KA] at h
  obtain ⟨n, rfl⟩ : ∃ m, n = m + 1 := ⟨n - 1, by simp at hn; omega⟩
  have hlt : ¬ j < e.Kids.length := by
   intro hlt
   rw [drop_cons hlt] at h
   cases h.1
  rw [List.append_nil] at hd
  subst hd
  have h1 := edTs_len hf1 dn s0
  have hg : i = q → k ≤ (edTs f s0 dn).length := fun hi => by
   rcases hL with h | h
   ·rw [edTs_len1 h, hts0]; exact hk hi
   ·omega
  rw [mi_edited_v2_l1, ha]
  simp only [lt_false hlt, cond_false]
  have := hdo M i ⟨e.Kind, e.Op, e.Text, e.Other, edTs f s0 dn⟩ hM (by show (edTs f s0 dn).length ≤ 400; omega) hg
  rw [this]; rfl
 | t :: ts, dn, j, n, s, acc, ih, h, hj, hn, hacc, hd, ha, hs => by
  simp only [KA] at h
  obtain ⟨k', ks', hd', h1, h2, hta, hka⟩ := h
  simp only [List.length_cons] at hn
  obtain ⟨n, rfl⟩ : ∃ m, n = m + 1 := ⟨n - 1, by omega⟩
  have hlt : j < e.Kids.length := by
   cases Nat.lt_or_ge j e.Kids.length with
   | inl h => exact h
   | inr h => rw [List.drop_of_length_le h] at hd'; cases hd'
  rw [drop_cons hlt] at hd'
  injection hd' with hd1 hd2
  have r1 := ih t (by simp) s k' hta h2
  have hstep : IntKind.wrap .i64 ((j : Int) + 1) = ((j + 1 : Nat) : Int) := by rw [wrap64 (by omega) (by omega)]; omega
  have hl := edT_len hf1 s t
  have hsz := hta.part
  rw [mi_edited_v2_l1]
  simp only [lt_true hlt, cond_true, ix_nat hlt, hd1, oBs, r1]
  rw [app_some (by omega), oBs, hstep]
  refine ed_l_rem M i e hM hek hk s0 ts0 hts0 ts (dn ++ [t]) (j + 1) n (k' + 1) (acc ++ edT f s t) (fun u hu => ih u (by simp [hu])) (hd2 ▸ hka) (by omega) (by omega) (by rw [List.length_append]; omega) (by rw [List.append_assoc]; exact hd) ?_ ?_
  ·rw [ha, edTs_app, edTs_cons, edTs_nil, List.append_nil, hs]
  ·rw [szTs_app, szTs, szTs]
   have := hsz.2.1
   omega
theorem ed_is_rem (hkl : ∀ z, z ∈ a → z.Kids.length ≤ 400) (hk : ∀ e, a[q]? = some e → k ≤ e.Kids.length) : ∀ (t : STree) (s i M : Nat), TA a t s i → i ≤ 1000 → szT t ≤ 400 → 1048578 + szT t ≤ M → (scc8 M).mi_edited_v2 a (i : Int) (q : Int) = some (edT f s t) := by
 intro t
 induction t using STree.ind with
 | h t ih =>
  intro s i M h hi hsz hM
  obtain ⟨M, rfl⟩ : ∃ m, M = m + 1 := ⟨M - 1, by omega⟩
  have hse := szT_eq t
  have hpt := h.part
  obtain ⟨n, hn, e1, e2, e3, e4, hka, hkl2⟩ := h.node
  have hnk := hkl n (List.mem_of_getElem? hn)
  have hlen := szTs_len t.kids
  have := ed_l_rem a f q k hf1 hL hdo M i n (by omega) hnk (fun hi => hk n (by rw [← hi]; exact hn)) s t.kids hkl2 t.kids [] 0 M s [] (fun t' ht' s' k' hta hki => ih t' ht' s' k' M hta (by omega) (by have := szTs_mem ht'; omega) (by have := szTs_mem ht'; omega)) (by simpa using hka) (by omega) (by omega) (by simp) (by simp) (by rw [edTs_nil]) (by rw [szTs]; omega)
  show mi_edited_v2_F M (scc8 M) a (i : Int) (q : Int) = _
  unfold mi_edited_v2_F
  rw [ix_get hn, oBs]
  refine Eq.trans this ?_
  obtain ⟨k', o, x', y, ts⟩ := t
  have e1 : k' = n.Kind := e1
  have e2 : o = n.Op := e2
  have e3 : x' = n.Text := e3
  have e4 : y = n.Other := e4
  subst e1 e2 e3 e4
  rw [edT]
  have : s + szTs ts = i := by
   have hse : szT _ = szTs ts + 1 := hse
   omega
  rw [this]
end
theorem edit_rem (N : Nat) (a : List SNode) (q k : Nat) (hN : 1048577 + 1000 < N) (hs : ∀ z, z ∈ a → smNode z) (hok : mi_TreeOk N a = some true) (hq : q < a.length) (ha : a.length ≤ 400) {t' : STree} (hed : mi_edited_v2 N a (((a.length - 1 : Nat) : Int)) (q : Int) = some [t']) (hz : szT t' ≤ 5000) (htx : txT t') :
  ∃ c, ms_TreeOk N (lst 0 t') = some c ∧ mi_edit_v3 N a (q : Int) (q : Int) = some (bif c then (lst 0 t', true) else (a, false)) := by
 have hsm := small_of (t := t') (by omega) htx 0
 obtain ⟨c, c1, c2, _⟩ := treeOk_ex N (lst 0 t') (by omega) hsm
 refine ⟨c, c1, ?_⟩
 have hli := list_is N t' (by omega) (by omega)
 have hw : (decide ((q : Int) ≥ 0) && decide ((q : Int) ≤ (a.length : Int) - 1)) = true := by simp; omega
 have hi : (a.length : Int) - 1 = ((a.length - 1 : Nat) : Int) := by omega
 have hx0 : ix [t'] 0 = some t' := rfl
 have hne : ((([t'] : List STree).length : Int) != 1) = false := rfl
 have hed' : mi_edited_v2 N a ((a.length : Int) - 1) (q : Int) = some [t'] := by rw [hi]; exact hed
 unfold mi_edit_v3
 rw [hok]
 simp only [oBs]
 rw [wrap64 (n := (a.length : Int) - 1) (by omega) (by omega), within_is]
 simp only [Bool.not_true, cond_false, hw, oBs, hed', hne, hx0, hli, c2]
 cases c with
 | true => rfl
 | false =>
  simp only [Bool.not_false, cond_true, copyNodes_is N a (by omega) (by omega) hs, oBs, cond_false]

section
variable (a : List SNode) (f : Nat → STree → List STree) (q k : Nat) (hf1 : ∀ j t, (f j t).length ≤ 1) (hL : (∀ j t, (f j t).length = 1) ∨ k = 0) (x : List SNode)
 (hdo : ∀ (M i : Nat) (t : STree), 1048577 < M → t.kids.length ≤ 400 → (i = q → k ≤ t.kids.length) → mi_Replace_1 M (i : Int) t (q : Int) x = some (f i t))
include hf1 hL hdo
theorem ed_l_rep (M i : Nat) (e : SNode) (hM : 1048577 < M) (hek : e.Kids.length ≤ 400) (hk : i = q → k ≤ e.Kids.length) (s0 : Nat) (ts0 : List STree) (hts0 : ts0.length = e.Kids.length) : ∀ (ts dn : List STree) (j n s : Nat) (acc : List STree),
  (∀ t, t ∈ ts → ∀ s k' : Nat, TA a t s k' → k' < i → (scc9 M).mi_edited_v3 a (k' : Int) (q : Int) x = some (edT f s t)) → KA a ts (e.Kids.drop j) s i → j ≤ e.Kids.length → ts.length < n → acc.length ≤ j → dn ++ ts = ts0 → acc = edTs f s0 dn → s = s0 + szTs dn →
  mi_edited_v3_l1 M (scc9 M) (q : Int) x n (a, (i : Int), e, (j : Int), acc) = some (f i ⟨e.Kind, e.Op, e.Text, e.Other, edTs f s0 ts0⟩)
 | [], dn, j, n, s, acc, ih, h, hj, hn, hacc, hd, ha, hs => by
  simp only [KA] at h
  obtain ⟨n, rfl⟩ : ∃ m, n = m + 1 := ⟨n - 1, by simp at hn; omega⟩
  have hlt : ¬ j < e.Kids.length := by
   intro hlt
   rw [drop_cons hlt] at h
   cases h.1
  rw [List.append_nil] at hd
  subst hd
  have h1 := edTs_len hf1 dn s0
  have hg : i = q → k ≤ (edTs f s0 dn).length := fun hi => by
   rcases hL with h | h
   ·rw [edTs_len1 h, hts0]; exact hk hi
   ·omega
  rw [mi_edited_v3_l1, ha]
  simp only [lt_false hlt, cond_false]
  have := hdo M i ⟨e.Kind, e.Op, e.Text, e.Other, edTs f s0 dn⟩ hM (by show (edTs f s0 dn).length ≤ 400; omega) hg
  rw [this]; rfl
 | t :: ts, dn, j, n, s, acc, ih, h, hj, hn, hacc, hd, ha, hs => by
  simp only [KA] at h
  obtain ⟨k', ks', hd', h1, h2, hta, hka⟩ := h
  simp only [List.length_cons] at hn
  obtain ⟨n, rfl⟩ : ∃ m, n = m + 1 := ⟨n - 1, by omega⟩
  have hlt : j < e.Kids.length := by
   cases Nat.lt_or_ge j e.Kids.length with
   | inl h => exact h
   | inr h => rw [List.drop_of_length_le h] at hd'; cases hd'
  rw [drop_cons hlt] at hd'
  injection hd' with hd1 hd2
  have r1 := ih t (by simp) s k' hta h2
  have hstep : IntKind.wrap .i64 ((j : Int) + 1) = ((j + 1 : Nat) : Int) := by rw [wrap64 (by omega) (by omega)]; omega
  have hl := edT_len hf1 s t
  have hsz := hta.part
  rw [mi_edited_v3_l1]
  simp only [lt_true hlt, cond_true, ix_nat hlt, hd1, oBs, r1]
  rw [app_some (by omega), oBs, hstep]
  refine ed_l_rep M i e hM hek hk s0 ts0 hts0 ts (dn ++ [t]) (j + 1) n (k' + 1) (acc ++ edT f s t) (fun u hu => ih u (by simp [hu])) (hd2 ▸ hka) (by omega) (by omega) (by rw [List.length_append]; omega) (by rw [List.append_assoc]; exact hd) ?_ ?_
  ·rw [ha, edTs_app, edTs_cons, edTs_nil, List.append_nil, hs]
  ·rw [szTs_app, szTs, szTs]
   have := hsz.2.1
   omega
theorem ed_is_rep (hkl : ∀ z, z ∈ a → z.Kids.length ≤ 400) (hk : ∀ e, a[q]? = some e → k ≤ e.Kids.length) : ∀ (t : STree) (s i M : Nat), TA a t s i → i ≤ 1000 → szT t ≤ 400 → 1048578 + szT t ≤ M → (scc9 M).mi_edited_v3 a (i : Int) (q : Int) x = some (edT f s t) := by
 intro t
 induction t using STree.ind with
 | h t ih =>
  intro s i M h hi hsz hM
  obtain ⟨M, rfl⟩ : ∃ m, M = m + 1 := ⟨M - 1, by omega⟩
  have hse := szT_eq t
  have hpt := h.part
  obtain ⟨n, hn, e1, e2, e3, e4, hka, hkl2⟩ := h.node
  have hnk := hkl n (List.mem_of_getElem? hn)
  have hlen := szTs_len t.kids
  have := ed_l_rep a f q k hf1 hL x hdo M i n (by omega) hnk (fun hi => hk n (by rw [← hi]; exact hn)) s t.kids hkl2 t.kids [] 0 M s [] (fun t' ht' s' k' hta hki => ih t' ht' s' k' M hta (by omega) (by have := szTs_mem ht'; omega) (by have := szTs_mem ht'; omega)) (by simpa using hka) (by omega) (by omega) (by simp) (by simp) (by rw [edTs_nil]) (by rw [szTs]; omega)
  show mi_edited_v3_F M (scc9 M) a (i : Int) (q : Int) x = _
  unfold mi_edited_v3_F
  rw [ix_get hn, oBs]
  refine Eq.trans this ?_
  obtain ⟨k', o, x', y, ts⟩ := t
  have e1 : k' = n.Kind := e1
  have e2 : o = n.Op := e2
  have e3 : x' = n.Text := e3
  have e4 : y = n.Other := e4
  subst e1 e2 e3 e4
  rw [edT]
  have : s + szTs ts = i := by
   have hse : szT _ = szTs ts + 1 := hse
   omega
  rw [this]
end
theorem edit_rep (N : Nat) (a : List SNode) (q k : Nat) (x : List SNode) (hN : 1048577 + 1000 < N) (hs : ∀ z, z ∈ a → smNode z) (hok : mi_TreeOk N a = some true) (hq : q < a.length) (ha : a.length ≤ 400) {t' : STree} (hed : mi_edited_v3 N a (((a.length - 1 : Nat) : Int)) (q : Int) x = some [t']) (hz : szT t' ≤ 5000) (htx : txT t') :
  ∃ c, ms_TreeOk N (lst 0 t') = some c ∧ mi_edit_v2 N a (q : Int) (q : Int) x = some (bif c then (lst 0 t', true) else (a, false)) := by
 have hsm := small_of (t := t') (by omega) htx 0
 obtain ⟨c, c1, c2, _⟩ := treeOk_ex N (lst 0 t') (by omega) hsm
 refine ⟨c, c1, ?_⟩
 have hli := list_is N t' (by omega) (by omega)
 have hw : (decide ((q : Int) ≥ 0) && decide ((q : Int) ≤ (a.length : Int) - 1)) = true := by simp; omega
 have hi : (a.length : Int) - 1 = ((a.length - 1 : Nat) : Int) := by omega
 have hx0 : ix [t'] 0 = some t' := rfl
 have hne : ((([t'] : List STree).length : Int) != 1) = false := rfl
 have hed' : mi_edited_v3 N a ((a.length : Int) - 1) (q : Int) x = some [t'] := by rw [hi]; exact hed
 unfold mi_edit_v2
 rw [hok]
 simp only [oBs]
 rw [wrap64 (n := (a.length : Int) - 1) (by omega) (by omega), within_is]
 simp only [Bool.not_true, cond_false, hw, oBs, hed', hne, hx0, hli, c2]
 cases c with
 | true => rfl
 | false =>
  simp only [Bool.not_false, cond_true, copyNodes_is N a (by omega) (by omega) hs, oBs, cond_false]


end Go.Proofs.Tryz
