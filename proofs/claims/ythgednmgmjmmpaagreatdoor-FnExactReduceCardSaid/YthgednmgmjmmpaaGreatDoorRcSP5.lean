/-
 Plain lemmas on the models, part 5.
-/
import Derived.Test.YthgednmgmjmmpaaGreatDoorRcSP4
namespace Go.Proofs.Tryz
open Go.Av
set_option maxRecDepth 100000
set_option linter.unusedSimpArgs false
set_option linter.unusedVariables false

abbrev LI := Option ((List STree) × Int × Bool × List (List UInt8))
abbrev LS := Option ((List (List SNode)) × Int × Bool × List SToken)
def LP (l : List SToken) (q : Nat) (ts : List STree) (Ls : List (List SNode)) (j : Nat) (b : Bool) (ns : List (List UInt8)) (ns' : List SToken) : Prop :=
 q ≤ j ∧ j ≤ l.length ∧ ns.length ≤ j ∧ ns'.length ≤ j ∧ (∀ L, L ∈ Ls → SmN L) ∧ Ls.length ≤ 6 ∧ lenS Ls ≤ 2 * (j - q) + 1 ∧ (b = false → Ls = ts.map (lst 0) ∧ szTs ts ≤ 2 * (j - q))

theorem listS_bad (N : Nat) (R : Rec1) (l : List SToken) (n : Nat) (a : Int) (j : Nat) (Ls : List (List SNode)) (ns : List SToken) :
  ms_l11List_l2 N R l (n + 1) (a, (j : Int), true, Ls, ns) = some (Ls, (j : Int), true, ns) := by
 rw [ms_l11List_l2]
 simp only [Bool.not_true, cond_false]
 unfold ms_l11List_k1
 simp only [takeS_bad, Option.bind_some]
theorem listS_k1bad (N : Nat) (R : Rec1) (l : List SToken) (a : Int) (j : Nat) (Ls : List (List SNode)) (ns : List SToken) :
  ms_l11List_k1 N R l (a, (j : Int), true, Ls, ns) = some (Ls, (j : Int), true, ns) := by
 unfold ms_l11List_k1
 simp only [takeS_bad, Option.bind_some]

section
set_option linter.unusedSectionVars false
variable {l : List SToken} (hl : l.length ≤ 3000) {q : Nat} (IH : ∀ i', q ≤ i' → i' ≤ l.length → LV l i' 1) {M M' : Nat} (hM : 1100000 + 100 * (l.length - q) + 60 ≤ M) (hM' : 1100000 + 100 * (l.length - q) + 60 ≤ M')
include hl IH hM hM'

theorem items_l (a : Int) : ∀ (n n' pos : Nat) (ts : List STree) (Ls : List (List SNode)) (ns : List (List UInt8)) (ns' : List SToken), l.length - pos + 2 ≤ n → l.length - pos + 2 ≤ n' → q ≤ pos → pos ≤ l.length → ns.length ≤ pos → ns'.length ≤ pos → Ls = ts.map (lst 0) → ts.length ≤ 5 → szTs ts ≤ 2 * (pos - q) → (∀ L, L ∈ Ls → SmN L) →
  ∃ (ts2 : List STree) (Ls2 : List (List SNode)) (j : Nat) (b : Bool) (ms : List (List UInt8)) (ms' : List SToken), ts2 ≠ [] ∧ LP l q ts2 Ls2 j b ms ms' ∧ mp_items_l2 M (scc2 M) l n (⟨false, false⟩, (pos : Int), false, ts, ns) = some (ts2, (j : Int), b, ms) ∧
   ms_l11List_l2 M' (scc1 M') l n' (a, (pos : Int), false, Ls, ns') = ms_l11List_k1 M' (scc1 M') l (a, (j : Int), b, Ls2, ms') := by
 intro n
 induction n with
 | zero => intro n' pos ts Ls ns ns' h; omega
 | succ n ih =>
  intro n' pos ts Ls ns ns' hn hn' hq hpl h1 h2 hLs ht hsz hsm
  obtain ⟨n', rfl⟩ : ∃ k, n' = k + 1 := ⟨n' - 1, by omega⟩
  rw [mp_items_l2, ms_l11List_l2]
  obtain ⟨p3, X3, j3, b3, ns3, ns3', e1, e2, hd⟩ := (IH pos hq hpl M M' ⟨false, false⟩ ⟨1, false, false, false, false⟩ ns ns' (by omega) (by omega) h1 h2 rfl rfl rfl).out
  have e1 : (scc2 M).mp_assign ⟨false, false⟩ l (pos : Int) false ns = some (p3, (j3 : Int), b3, ns3) := e1
  have hlen : Ls.length = ts.length := by rw [hLs, List.length_map]
  have hT : ms_Top = some ⟨1, false, false, false, false⟩ := rfl
  simp only [Bool.not_false, cond_true, hT, e1, e2, Option.bind_some]
  rw [app_some (by simp; omega), app_some (by simp; omega)]
  simp only [Option.bind_some, kindI, kindS]
  obtain ⟨a1, a2, a3, a4, a5, a6, a7⟩ := id hd
  have hlS : lenS Ls = szTs ts := by
   rw [hLs]; clear hLs hlen ht hsz hsm hd e1 e2
   induction ts with
   | nil => rfl
   | cons t ts ih => rw [List.map_cons, lenS_cons, ih, lst_len]; simp [szTs]
  have hsm2 : ∀ L, L ∈ Ls ++ [X3.l] → SmN L := fun L hL => by
   rcases List.mem_append.1 hL with h | h
   ·exact hsm L h
   ·rw [List.mem_singleton.1 h]; exact a5
  have hx : lenS (Ls ++ [X3.l]) = szTs ts + X3.l.length := by rw [lenS_app, hlS]; simp [lenS]
  have hl6 : (Ls ++ [X3.l]).length ≤ 6 := by simp; omega
  have hne : ts ++ [p3.tree] ≠ [] := by simp
  -- the list ends here, or a comma is too many
  have hend : ∀ b : Bool, (b = false → b3 = false) → LP l q (ts ++ [p3.tree]) (Ls ++ [X3.l]) j3 b ns3 ns3' := fun b hb =>
   ⟨by omega, a2, a3, a4, hsm2, hl6, by omega, fun h => by
    obtain ⟨c1, c2, c3, c4⟩ := a7 (hb h)
    refine ⟨by rw [hLs, c2]; simp, ?_⟩
    rw [szTs_app]; simp only [szTs]; omega⟩
  obtain ⟨m', rfl⟩ : ∃ k, n' = k + 1 := ⟨n' - 1, by omega⟩
  have hk3 : ms_l11List_k3 M' (scc1 M') l (ms_l11List_l2 M' (scc1 M') l (m' + 1)) (a, (X3, (j3 : Int), b3, ns3'), Ls ++ [X3.l], true) = ms_l11List_k1 M' (scc1 M') l (a, (j3 : Int), true, Ls ++ [X3.l], ns3') := by
   unfold ms_l11List_k3
   simp only [takeS_bad, Option.bind_some, nlS_bad l (show 0 < M' by omega), listS_bad, listS_k1bad]
  cases b3 with
  | true =>
   refine ⟨ts ++ [p3.tree], Ls ++ [X3.l], j3, true, ns3, ns3', hne, hend true (fun h => h), ?_, ?_⟩
   ·rfl
   ·cases hk : (kd l j3 != 36) with
    | true => rfl
    | false =>
     rw [cond_false]
     cases ((((Ls ++ [X3.l]).length : Nat) : Int) == 6)
     ·exact hk3
     ·exact hk3
  | false =>
   simp only [cond_false, Option.bind_some]
   cases hk : (kd l j3 != 36) with
   | true => exact ⟨ts ++ [p3.tree], Ls ++ [X3.l], j3, false, ns3, ns3', hne, hend false (fun _ => rfl), rfl, rfl⟩
   | false =>
    have hk36 : kd l j3 = 36 := by simpa using hk
    have hj3 := kd_lt (l := l) (i := j3) (by rw [hk36]; decide)
    simp only [cond_false, Option.bind_some]
    by_cases h6 : ts.length = 5
    ·have g1 : ((((ts ++ [p3.tree]).length : Nat) : Int) == 6) = true := by rw [beq_iff_eq]; simp; omega
     have g2 : ((((Ls ++ [X3.l]).length : Nat) : Int) == 6) = true := by rw [beq_iff_eq]; simp; omega
     rw [g1, g2]
     exact ⟨ts ++ [p3.tree], Ls ++ [X3.l], j3, true, ns3, ns3', hne, hend true (fun h => by cases h), rfl, hk3⟩
    ·have g1 : ((((ts ++ [p3.tree]).length : Nat) : Int) == 6) = false := by rw [beq_eq_false_iff_ne]; simp; omega
     have g2 : ((((Ls ++ [X3.l]).length : Nat) : Int) == 6) = false := by rw [beq_eq_false_iff_ne]; simp; omega
     rw [g1, g2, cond_false, cond_false]
     obtain ⟨j4, ms, ms', b1, b2, b4, b5, b6, b7⟩ := nl_is hl (N := M) (N' := M') (by omega) (by omega) (i := j3 + 1) ns3 ns3' (by omega) (by omega) (by omega)
     unfold ms_l11List_k3
     simp only [takeS_yes ns3' hj3 (by omega) hk36, Option.bind_some, b7]
     rw [wrap64 (by omega) (by omega), show ((j3 : Int) + 1) = ((j3 + 1 : Nat) : Int) by omega, b6, Option.bind_some]
     obtain ⟨c1, c2, c3, c4⟩ := a7 rfl
     exact ih (m' + 1) j4 (ts ++ [p3.tree]) (Ls ++ [X3.l]) ms ms' (by omega) (by omega) (by omega) b2 b4 b5 (by rw [hLs, c2]; simp) (by simp; omega) (by rw [szTs_app]; simp only [szTs]; omega) hsm2

theorem lists (a a2 : Int) (hql : q ≤ l.length) (ha0 : a ≠ 0) (hc : (a2 == 0 && kd l q == a) = (kd l q == a && a == 33)) (ns : List (List UInt8)) (ns' : List SToken) (h1 : ns.length ≤ q) (h2 : ns'.length ≤ q) :
  ∃ (ts : List STree) (Ls : List (List SNode)) (j : Nat) (b : Bool) (ms : List (List UInt8)) (ms' : List SToken), LP l q ts Ls j b ms ms' ∧ (scc2 (M + 2)).mp_list a l (q : Int) false ns = some (ts, (j : Int), b, ms) ∧ (scc1 (M' + 1)).ms_l11List a a2 l (q : Int) false ns' = some (Ls, (j : Int), b, ms') ∧
   ((kd l q == a && a == 33) = false → ts ≠ []) := by
 show ∃ (ts : List STree) (Ls : List (List SNode)) (j : Nat) (b : Bool) (ms : List (List UInt8)) (ms' : List SToken), LP l q ts Ls j b ms ms' ∧ mp_list_F (M + 1) (scc2 (M + 1)) a l (q : Int) false ns = some (ts, (j : Int), b, ms) ∧ ms_l11List_F M' (scc1 M') a a2 l (q : Int) false ns' = some (Ls, (j : Int), b, ms') ∧ _
 unfold mp_list_F ms_l11List_F
 simp only [kindI, kindS, Option.bind_some]
 have eI : (bif kd l q == a then some (a == 33) else some false) = some (kd l q == a && a == 33) := by cases kd l q == a <;> rfl
 have eS : (bif a2 == 0 then some (kd l q == a) else some false) = some (kd l q == a && a == 33) := by rw [← hc]; cases a2 == 0 <;> rfl
 simp only [eI, eS, Option.bind_some]
 cases hh : (kd l q == a && a == 33) with
 | true =>
  rw [Bool.and_eq_true, beq_iff_eq, beq_iff_eq] at hh
  have hlt := kd_lt (l := l) (i := q) (by rw [hh.1, hh.2]; decide)
  simp only [cond_true, takeS_yes ns' hlt (by omega) hh.1, Option.bind_some]
  rw [wrap64 (by omega) (by omega)]
  exact ⟨[], [], q + 1, false, ns, ns', ⟨by omega, by omega, by omega, by omega, (fun L hL => by cases hL), by simp, by simp [lenS], fun _ => ⟨rfl, by simp [szTs]⟩⟩, rfl, rfl, fun h => by cases h⟩
 | false =>
  simp only [cond_false]
  obtain ⟨ts2, Ls2, j, b, ms, ms', k1, k2, k3, k4⟩ := items_l hl IH hM hM' a M M' q [] [] ns ns' (by omega) (by omega) (by omega) hql h1 h2 rfl (by simp) (by simp [szTs]) (fun L hL => by cases hL)
  have k3' : (scc2 (M + 1)).mp_items ⟨false, false⟩ l (q : Int) false ns = some (ts2, (j : Int), b, ms) := k3
  rw [k3', k4]
  unfold ms_l11List_k1
  simp only [Option.bind_some]
  obtain ⟨p1, p2, p3, p4, p5, p6, p7, p8⟩ := k2
  cases b with
  | true =>
   simp only [takeI_bad, takeS_bad, Option.bind_some]
   exact ⟨ts2, Ls2, j, true, ms, ms', ⟨p1, p2, p3, p4, p5, p6, p7, p8⟩, rfl, rfl, fun _ => k1⟩
  | false =>
   by_cases ha : kd l j = a
   ·have hj := kd_lt (l := l) (i := j) (by rw [ha]; exact ha0)
    simp only [takeI_yes ms (show j ≤ 100000 by omega) ha, takeS_yes ms' hj (by omega) ha, Option.bind_some]
    obtain ⟨r1, r2⟩ := p8 rfl
    exact ⟨ts2, Ls2, j + 1, false, ms, ms', ⟨by omega, by omega, by omega, by omega, p5, p6, by omega, fun _ => ⟨r1, by omega⟩⟩, rfl, rfl, fun _ => k1⟩
   ·simp only [takeI_no false ms ha, takeS_no false ms' ha, Option.bind_some]
    exact ⟨ts2, Ls2, j, true, ms, ms', ⟨p1, p2, p3, p4, p5, p6, p7, fun h => by cases h⟩, rfl, rfl, fun _ => k1⟩
end

theorem listF_bad (M : Nat) (l : List SToken) (a : Int) (i : Nat) (ns : List SToken) (a2 : Int) : (scc1 (M + 2)).ms_l11List a a2 l (i : Int) true ns = some ([], (i : Int), true, ns) := by
 show ms_l11List_F (M + 1) (scc1 (M + 1)) a a2 l (i : Int) true ns = _
 unfold ms_l11List_F
 simp only [kindS, Option.bind_some]
 have e : ∃ b, (bif a2 == 0 then some (kd l i == a) else some false) = some b := by
  cases a2 == 0
  ·exact ⟨_, rfl⟩
  ·exact ⟨_, rfl⟩
 obtain ⟨b, hb⟩ := e
 rw [hb, Option.bind_some]
 cases b with
 | true => simp only [cond_true, takeS_bad, Option.bind_some]
 | false => simp only [cond_false]; exact listS_bad _ _ l M a i [] ns
theorem atS_bad (M : Nat) (p : SPos) (l : List SToken) (i : Int) (ns : List SToken) : (scc1 (M + 1)).ms_l11At p l i true ns = some (⟨[], false⟩, i, true, ns) := rfl
theorem PD_bad0 {l : List SToken} {i : Nat} (hi : i ≤ l.length) (p : SPart) (hb : Bool) {ns : List (List UInt8)} {ns' : List SToken} (h1 : ns.length ≤ i) (h2 : ns'.length ≤ i) : PD l i p ⟨[], hb⟩ i true ns ns' :=
 ⟨by omega, hi, h1, h2, (fun x hx => by cases hx), by simp, fun h => by cases h⟩

theorem leaf_PB {l : List SToken} {i : Nat} (hi : i < l.length) (k : Int) (tx : List UInt8) (htx : tx.length ≤ 1048576) {tg : Bool} (htg : tg = isL k) {ns : List (List UInt8)} {ns' : List SToken} (h1 : ns.length ≤ i) (h2 : ns'.length ≤ i) :
  PB l i (some (⟨⟨k, 0, tx, [], []⟩, tg⟩, ((i + 1 : Nat) : Int), false, ns)) (some (⟨[⟨k, 0, tx, [], []⟩], false⟩, ((i + 1 : Nat) : Int), false, ns')) := by
 refine PD.pb ⟨by omega, by omega, by omega, by omega, (fun x hx => ?_), by simp, fun _ => ⟨by omega, ?_, ?_, ?_⟩⟩
 ·rw [List.mem_singleton.1 hx]; exact ⟨by simp, htx, by simp⟩
 ·simp [lst, lsts, endsT]
 ·rw [htg]; rfl
 ·simp [szT, szTs]

theorem ndL {l : List SToken} (hl : l.length ≤ 3000) {N i q : Nat} (hN : 1048577 < N) (k : Int) (tx : List UInt8) (htx : tx.length ≤ 1048576) {tg : Bool} (htg : tg = isL k) (hiq : i + 2 ≤ q) {ts : List STree} {Ls : List (List SNode)} {j : Nat} {b : Bool} {ns : List (List UInt8)} {ns' : List SToken} (h : LP l q ts Ls j b ns ns') :
  ∃ r, ms_l6Make N ⟨k, 0, tx, [], []⟩ Ls = some r ∧ PB l i (some (⟨⟨k, 0, tx, [], ts⟩, tg⟩, (j : Int), b, ns)) (some (⟨r, false⟩, (j : Int), b, ns')) := by
 obtain ⟨a1, a2, a3, a4, a5, a6, a7, a8⟩ := h
 exact fin_PB hl hN k 0 tx htx tg ts Ls b ns ns' (by omega) a2 a3 a4 (by omega) (by omega) a5 htg fun hb => by
  obtain ⟨c1, c2⟩ := a8 hb
  exact ⟨by omega, c1, by omega⟩
theorem nd1 {l : List SToken} (hl : l.length ≤ 3000) {N i i2 : Nat} (hN : 1048577 < N) (k op : Int) {tg : Bool} (htg : tg = isL k) (hi : i + 1 ≤ i2) {p : SPart} {X : SL11X} {j : Nat} {b : Bool} {ns : List (List UInt8)} {ns' : List SToken} (h : PD l i2 p X j b ns ns') :
  ∃ r, ms_l6Make N ⟨k, op, [], [], []⟩ [X.l] = some r ∧ PB l i (some (⟨⟨k, op, [], [], [p.tree]⟩, tg⟩, (j : Int), b, ns)) (some (⟨r, false⟩, (j : Int), b, ns')) := by
 obtain ⟨a1, a2, a3, a4, a5, a6, a7⟩ := h
 exact fin_PB hl hN k op [] (by simp) tg [p.tree] [X.l] b ns ns' (by omega) a2 a3 a4 (by simp only [lenS_cons]; show _ + 0 ≤ _; omega) (by simp) (fun L hL => by rw [List.mem_singleton.1 hL]; exact a5) htg fun hb => by
  obtain ⟨c1, c2, c3, c4⟩ := a7 hb
  exact ⟨by omega, by simp [c2], by simp only [szTs]; omega⟩
theorem nd1p {l : List SToken} (hl : l.length ≤ 3000) {N i : Nat} (hN : 1048577 < N) (k op : Int) {tg : Bool} (htg : tg = isL k) {p : SPart} {X : SL11X} {j : Nat} {ns : List (List UInt8)} {ns' : List SToken} (h : PD l i p X j false ns ns') (hj : j < l.length) :
  ∃ r, ms_l6Make N ⟨k, op, [], [], []⟩ [X.l] = some r ∧ PB l i (some (⟨⟨k, op, [], [], [p.tree]⟩, tg⟩, ((j + 1 : Nat) : Int), false, ns)) (some (⟨r, false⟩, ((j + 1 : Nat) : Int), false, ns')) := by
 obtain ⟨a1, a2, a3, a4, a5, a6, a7⟩ := h
 obtain ⟨c1, c2, c3, c4⟩ := a7 rfl
 exact fin_PB hl hN k op [] (by simp) tg [p.tree] [X.l] false ns ns' (by omega) (by omega) (by omega) (by omega) (by simp only [lenS_cons]; show _ + 0 ≤ _; omega) (by simp) (fun L hL => by rw [List.mem_singleton.1 hL]; exact a5) htg fun hb => ⟨by omega, by simp [c2], by simp only [szTs]; omega⟩

section
set_option linter.unusedSectionVars false
variable {l : List SToken} (hl : l.length ≤ 3000) (hst : ∀ t, t ∈ l → t.Text.length ≤ 1048576) {i : Nat} (IH : ∀ i' lv, i < i' → i' ≤ l.length → 1 ≤ lv → lv ≤ 15 → LV l i' lv)
include hl hst IH

theorem name_PB (h6 : kd l i = 6) (M M' : Nat) (hM : 1099900 + 100 * (l.length - i) ≤ M) (hM' : 1099900 + 100 * (l.length - i) ≤ M') (ns : List (List UInt8)) (ns' : List SToken) (h1 : ns.length ≤ i) (h2 : ns'.length ≤ i) :
  PB l i ((scc2 M).mp_variable l (i : Int) false ns) ((scc1 M').ms_l11Name l (i : Int) false ns') := by
 obtain ⟨M, rfl⟩ : ∃ k, M = k + 3 := ⟨M - 3, by omega⟩
 obtain ⟨M', rfl⟩ : ∃ k, M' = k + 2 := ⟨M' - 2, by omega⟩
 have hi := kd_lt (l := l) (i := i) (by rw [h6]; decide)
 show PB l i (mp_variable_F (M + 2) (scc2 (M + 2)) l (i : Int) false ns) (ms_l11Name_F (M' + 1) (scc1 (M' + 1)) l (i : Int) false ns')
 unfold mp_variable_F ms_l11Name_F
 simp only [textI false ns hi (by omega), takeS_yes ns' hi (by omega) h6, Option.bind_some, kindI, kindS]
 by_cases h34 : kd l (i + 1) = 34
 ·have hi1 := kd_lt (l := l) (i := i + 1) (by rw [h34]; decide)
  simp only [h34, beq_self_eq_true, bne_self_eq_false, cond_true, cond_false, takeS_yes ns' hi1 (by omega) h34, Option.bind_some]
  rw [wrap64 (by omega) (by omega), show (((i + 1 : Nat) : Int) + 1) = ((i + 1 + 1 : Nat) : Int) by omega]
  obtain ⟨ts, Ls, j, b, ms, ms', g1, g2, g3, _⟩ := lists hl (q := i + 1 + 1) (fun i' ha hb => IH i' 1 (by omega) hb (by decide) (by decide)) (M := M) (M' := M') (by omega) (by omega) 35 1 (by omega) (by decide) (by simp) ns ns' (by omega) (by omega)
  rw [g2, g3, Option.bind_some, Option.bind_some]
  obtain ⟨r, r1, r2⟩ := ndL hl (N := M' + 1) (i := i) (by omega) 5 l[i].Text (hst _ (List.getElem_mem hi)) (tg := true) rfl (by omega) g1
  simp only [r1, Option.bind_some]
  exact r2
 ·have e1 : (kd l (i + 1) == 34) = false := by simpa using h34
  have e2 : (kd l (i + 1) != 34) = true := by simpa using h34
  simp only [e1, e2, cond_true, cond_false]
  exact leaf_PB hi 1 l[i].Text (hst _ (List.getElem_mem hi)) rfl h1 h2

theorem call_core (a : Int) (ha : isL a = false) (tx : List UInt8) (htx : tx.length ≤ 1048576) (hi : i < l.length) (M M' : Nat) (hM : 1099900 + 100 * (l.length - i) ≤ M) (hM' : 1099900 + 100 * (l.length - i) ≤ M') (ns : List (List UInt8)) (ns' : List SToken) (h1 : ns.length ≤ i) (h2 : ns'.length ≤ i) :
  PB l i (mp_primary_k2 (M + 2) (scc2 (M + 2)) l ((tx, ((i + 1 : Nat) : Int)), false, ns, a))
   (Option.bind (ms_l11Take 32 l ((i + 1 : Nat) : Int) false ns') fun r12 => Option.bind ((scc1 (M' + 2)).ms_l11List 33 0 l r12.2.1 r12.2.2 ns') fun r15 => Option.bind (ms_l6Make (M' + 2) (⟨a, 0, tx, [], []⟩ : SNode) r15.1) fun r16 => some ((⟨r16, false⟩ : SL11X), r15.2.1, r15.2.2.1, r15.2.2.2)) := by
 unfold mp_primary_k2
 simp only []
 by_cases h32 : kd l (i + 1) = 32
 ·have hi1 := kd_lt (l := l) (i := i + 1) (by rw [h32]; decide)
  simp only [takeI_yes ns (show i + 1 ≤ 100000 by omega) h32, takeS_yes ns' hi1 (by omega) h32, Option.bind_some, cond_true]
  obtain ⟨ts, Ls, j, b, ms, ms', g1, g2, g3, _⟩ := lists hl (q := i + 1 + 1) (fun i' ha hb => IH i' 1 (by omega) hb (by decide) (by decide)) (M := M) (M' := M' + 1) (by omega) (by omega) 33 0 (by omega) (by decide) (by simp) ns ns' (by omega) (by omega)
  rw [g2, g3, Option.bind_some, Option.bind_some]
  obtain ⟨r, r1, r2⟩ := ndL hl (N := M' + 2) (i := i) (by omega) a tx htx (tg := false) ha.symm (by omega) g1
  simp only [r1, Option.bind_some]
  exact r2
 ·simp only [takeI_no false ns h32, takeS_no false ns' h32, Option.bind_some, cond_false, listF_bad]
  obtain ⟨r, r1, r2⟩ := fin_PB hl (N := M' + 2) (i := i) (j := i + 1) (by omega) a 0 tx htx false [] [] true ns ns' (by omega) (by omega) (by omega) (by omega) (by simp [lenS]) (by simp) (fun L hL => by cases hL) ha.symm (fun h => by cases h)
  simp only [r1, Option.bind_some]
  exact r2

theorem primary_PB (hil : i ≤ l.length) (M M' : Nat) (hM : 1100000 + 100 * (l.length - i) ≤ M) (hM' : 1100000 + 100 * (l.length - i) ≤ M') (ns : List (List UInt8)) (ns' : List SToken) (h1 : ns.length ≤ i) (h2 : ns'.length ≤ i) :
  PB l i ((scc2 M).mp_primary l (i : Int) false ns) ((scc1 M').ms_l11Primary l (i : Int) false ns') := by
 obtain ⟨M, rfl⟩ : ∃ k, M = k + 4 := ⟨M - 4, by omega⟩
 obtain ⟨M', rfl⟩ : ∃ k, M' = k + 4 := ⟨M' - 4, by omega⟩
 show PB l i (mp_primary_F (M + 3) (scc2 (M + 3)) l (i : Int) false ns) (ms_l11Primary_F (M' + 3) (scc1 (M' + 3)) l (i : Int) false ns')
 unfold mp_primary_F ms_l11Primary_F
 simp only [cond_false, kindI, kindS, Option.bind_some]
 by_cases hlf : kd l i = 3 ∨ kd l i = 4 ∨ kd l i = 5
 ·have hi := kd_lt (l := l) (i := i) (by rcases hlf with h | h | h <;> rw [h] <;> decide)
  have hx : ∀ k : Int, ms_l11Leaf k l (i : Int) false ns' = some (⟨[⟨k, 0, l[i].Text, [], []⟩], false⟩, ((i + 1 : Nat) : Int), false) := fun k => by
   unfold ms_l11Leaf
   rw [ix_nat hi, Option.bind_some, takeS_yes ns' hi (by omega) (kd_at hi), Option.bind_some]
  rcases hlf with h | h | h <;> simp only [h, Int.reduceBEq, cond_true, cond_false, hx, textI false ns hi (by omega), Option.bind_some] <;> exact leaf_PB hi _ l[i].Text (hst _ (List.getElem_mem hi)) rfl h1 h2
 ·have n3 : (kd l i == 3) = false := by rw [beq_eq_false_iff_ne]; exact fun h => hlf (Or.inl h)
  have n4 : (kd l i == 4) = false := by rw [beq_eq_false_iff_ne]; exact fun h => hlf (Or.inr (Or.inl h))
  have n5 : (kd l i == 5) = false := by rw [beq_eq_false_iff_ne]; exact fun h => hlf (Or.inr (Or.inr h))
  simp only [n3, n4, n5, cond_false]
  by_cases h6 : kd l i = 6
  ·simp only [h6, beq_self_eq_true, cond_true, bind_eta4]
   exact name_PB hl hst IH h6 (M + 3) (M' + 3) (by omega) (by omega) ns ns' h1 h2
  ·have n6 : (kd l i == 6) = false := by simpa using h6
   simp only [n6, cond_false]
   by_cases h7 : kd l i = 7
   ·have hi := kd_lt (l := l) (i := i) (by rw [h7]; decide)
    simp only [h7, Int.reduceBEq, cond_true, bind_eta4]
    unfold mp_primary_k1
    simp only [cond_true, textI false ns hi (by omega), Option.bind_some, Int.reduceBEq, cond_false]
    show PB l i _ (ms_l11Call_F (M' + 2) (scc1 (M' + 2)) 7 l (i : Int) false ns')
    unfold ms_l11Call_F
    simp only [kindS, Option.bind_some, takeS_yes ns' hi (by omega) rfl, Int.reduceBEq, cond_false]
    exact call_core hl hst IH 7 rfl l[i].Text (hst _ (List.getElem_mem hi)) hi (M + 1) M' (by omega) (by omega) ns ns' h1 h2
   ·have n7 : (kd l i == 7) = false := by simpa using h7
    simp only [n7, cond_false]
    unfold mp_primary_k1
    by_cases h8 : kd l i = 8
    ·have hi := kd_lt (l := l) (i := i) (by rw [h8]; decide)
     simp only [h8, beq_self_eq_true, cond_true, bind_eta4, textI false ns hi (by omega), Option.bind_some]
     show PB l i _ (ms_l11Call_F (M' + 2) (scc1 (M' + 2)) 8 l (i : Int) false ns')
     unfold ms_l11Call_F
     simp only [kindI, kindS, Option.bind_some, takeS_yes ns' hi (by omega) rfl, beq_self_eq_true, cond_true]
     cases ht : (l[i].Text == [108, 101, 110, 103, 116, 104]) with
     | true =>
      cases hk : (kd l (i + 1) != 32) with
      | true =>
       simp only [cond_true, Option.bind_some]
       exact leaf_PB hi 8 l[i].Text (hst _ (List.getElem_mem hi)) rfl h1 h2
      | false =>
       simp only [cond_true, cond_false, Option.bind_some]
       exact call_core hl hst IH 8 rfl l[i].Text (hst _ (List.getElem_mem hi)) hi (M + 1) M' (by omega) (by omega) ns ns' h1 h2
     | false =>
      have e : (bif kd l (i + 1) != 32 then some false else some false) = some false := by cases (kd l (i + 1) != 32) <;> rfl
      simp only [e, cond_false, Option.bind_some]
      exact call_core hl hst IH 8 rfl l[i].Text (hst _ (List.getElem_mem hi)) hi (M + 1) M' (by omega) (by omega) ns ns' h1 h2
    ·have n8 : (kd l i == 8) = false := by simpa using h8
     simp only [n8, cond_false]
     have hT : ms_Top = some ⟨1, false, false, false, false⟩ := rfl
     by_cases h32 : kd l i = 32
     ·have hi := kd_lt (l := l) (i := i) (by rw [h32]; decide)
      simp only [h32, beq_self_eq_true, cond_true, takeS_yes ns' hi (by omega) h32, hT, Option.bind_some]
      rw [wrap64 (by omega) (by omega), show ((i : Int) + 1) = ((i + 1 : Nat) : Int) by omega]
      obtain ⟨p3, X3, j3, b3, ns3, ns3', e1, e2, hd⟩ := (IH (i + 1) 1 (by omega) (by omega) (by decide) (by decide) (M + 3) (M' + 3) ⟨false, false⟩ ⟨1, false, false, false, false⟩ ns ns' (by omega) (by omega) (by omega) (by omega) rfl rfl rfl).out
      have e1 : (scc2 (M + 3)).mp_assign ⟨false, false⟩ l ((i + 1 : Nat) : Int) false ns = some (p3, (j3 : Int), b3, ns3) := e1
      rw [e1, e2, Option.bind_some, Option.bind_some]
      cases b3 with
      | true =>
       simp only [takeI_bad, takeS_bad, Option.bind_some]
       exact (PD.bad (i := i) (q := ⟨p3.tree, false⟩) (Y := ⟨X3.l, true⟩) hd (by omega) rfl).pb
      | false =>
       obtain ⟨a1, a2, a3, a4, a5, a6, a7⟩ := hd
       obtain ⟨c1, c2, c3, c4⟩ := a7 rfl
       by_cases h33 : kd l j3 = 33
       ·have hj3 := kd_lt (l := l) (i := j3) (by rw [h33]; decide)
        simp only [takeI_yes ns3 (show j3 ≤ 100000 by omega) h33, takeS_yes ns3' hj3 (by omega) h33, Option.bind_some]
        exact PD.pb ⟨by omega, by omega, by omega, by omega, a5, by show X3.l.length ≤ _; omega, fun _ => ⟨by omega, c2, rfl, by show szT p3.tree + 1 ≤ _; omega⟩⟩
       ·simp only [takeI_no false ns3 h33, takeS_no false ns3' h33, Option.bind_some]
        exact PD.pb ⟨by omega, a2, a3, a4, a5, by show X3.l.length ≤ _; omega, fun h => by cases h⟩
     ·have n32 : (kd l i == 32) = false := by simpa using h32
      simp only [n32, cond_false, takeS_no false ns' h32, hT, Option.bind_some]
      rw [show M' + 3 = (M' + 2) + 1 from rfl, atS_bad]
      simp only [Option.bind_some, takeS_bad]
      unfold mp_fail
      exact (PD_bad0 hil _ true h1 h2).pb
end

def stB (k : Int) : Bool := k == 51 || k == 52
theorem stS (k : Int) : ms_l11Signs k = some (stB k) := by
 unfold ms_l11Signs stB
 cases k == 51 <;> rfl
theorem stI (k : Int) : mi_isStep k = some (stB k) := stS k
def asB (k : Int) : Bool := k == 54 || (decide (k ≥ 38) && decide (k ≤ 43))
theorem asS (k : Int) : ms_l7IsAssign k = some (asB k) := by
 unfold ms_l7IsAssign ms_l1In asB
 cases k == 54 <;> cases decide (k ≥ 38) <;> rfl
theorem asI (k : Int) : mi_isAssign k = some (asB k) := asS k
theorem asB_ne {k : Int} (h : asB k = true) : k ≠ 0 := fun e => by rw [e] at h; revert h; decide
theorem stB_ne {k : Int} (h : stB k = true) : k ≠ 0 := fun e => by rw [e] at h; revert h; decide

section
set_option linter.unusedSectionVars false
variable {l : List SToken} (hl : l.length ≤ 3000) (hst : ∀ t, t ∈ l → t.Text.length ≤ 1048576) {i : Nat} (hil : i ≤ l.length) (IH : ∀ i' lv, i < i' → i' ≤ l.length → 1 ≤ lv → lv ≤ 15 → LV l i' lv)
include hl hst hil IH

theorem pre_PB (hk : stB (kd l i) = true) (p : SPos) (M M' : Nat) (hM : 1099990 + 100 * (l.length - i) ≤ M) (hM' : 1099990 + 100 * (l.length - i) ≤ M') (ns : List (List UInt8)) (ns' : List SToken) (h1 : ns.length ≤ i) (h2 : ns'.length ≤ i) :
  PB l i ((scc2 M).mp_before l (i : Int) false ns) ((scc1 M').ms_l11Pre p l (i : Int) false ns') := by
 have hi := kd_lt (l := l) (i := i) (stB_ne hk)
 obtain ⟨M, rfl⟩ : ∃ k, M = k + 4 := ⟨M - 4, by omega⟩
 obtain ⟨M', rfl⟩ : ∃ k, M' = k + 4 := ⟨M' - 4, by omega⟩
 have hl14 := IH (i + 1) 14 (by omega) (by omega) (by decide) (by decide)
 show PB l i (mp_before_F (M + 3) (scc2 (M + 3)) l (i : Int) false ns) (ms_l11Pre_F (M' + 3) (scc1 (M' + 3)) p l (i : Int) false ns')
 unfold mp_before_F ms_l11Pre_F
 simp only [kindI, kindS, takeS_yes ns' hi (show l.length ≤ 100000 by omega) rfl, Option.bind_some]
 rw [wrap64 (by omega) (by omega), show ((i : Int) + 1) = ((i + 1 : Nat) : Int) by omega]
 have fin : ∀ b : Bool, PB l (i + 1) ((scc2 (M + 3)).mp_lvalue l ((i + 1 : Nat) : Int) false ns) ((scc1 (M' + 3)).ms_l11At ⟨14, false, p.NoIn, p.NoGt, false⟩ l ((i + 1 : Nat) : Int) b ns') →
   PB l i (Option.bind ((scc2 (M + 3)).mp_lvalue l ((i + 1 : Nat) : Int) false ns) fun r4 => some ((⟨(⟨9, kd l i, [], [], [r4.1.tree]⟩ : STree), false⟩ : SPart), r4.2.1, r4.2.2.1, r4.2.2.2)) (ms_l11Pre_k1 (M' + 3) (scc1 (M' + 3)) l (kd l i, (l[i], ((i + 1 : Nat) : Int), false), p, ns', b)) := fun b h => by
  obtain ⟨p3, X3, j3, b3, ns3, ns3', e1, e2, hd⟩ := h.out
  unfold ms_l11Pre_k1 ms_l11Part ms_l11Over
  simp only [e1, e2, Option.bind_some]
  obtain ⟨r, r1, r2⟩ := nd1 hl (N := M' + 3) (i := i) (by omega) 9 (kd l i) (tg := false) rfl (by omega) hd
  rw [r1, Option.bind_some, Option.bind_some]
  exact r2
 by_cases h68 : kd l (i + 1) = 68
 ·simp only [h68, Int.reduceBNe, cond_true, bne_self_eq_false, Option.bind_some, cond_false]
  refine fin false ?_
  have e : (scc2 (M + 3)).mp_lvalue l ((i + 1 : Nat) : Int) false ns = (scc2 (M + 2)).mp_field l ((i + 1 : Nat) : Int) false ns := by
   show mp_lvalue_F (M + 2) (scc2 (M + 2)) l ((i + 1 : Nat) : Int) false ns = _
   unfold mp_lvalue_F
   simp only [cond_false, kindI, h68, beq_self_eq_true, cond_true, Option.bind_some, bind_eta4]
  rw [e]
  exact hl14 (M + 2) (M' + 3) ⟨p.NoIn, p.NoGt⟩ ⟨14, false, p.NoIn, p.NoGt, false⟩ ns ns' (by omega) (by omega) (by omega) (by omega) rfl rfl rfl
 ·by_cases h6 : kd l (i + 1) = 6
  ·simp only [h6, bne_self_eq_false, cond_false, Option.bind_some]
   refine fin false ?_
   have e : (scc2 (M + 3)).mp_lvalue l ((i + 1 : Nat) : Int) false ns = (scc2 (M + 4)).mp_field l ((i + 1 : Nat) : Int) false ns := by
    show mp_lvalue_F (M + 2) (scc2 (M + 2)) l ((i + 1 : Nat) : Int) false ns = mp_field_F (M + 3) (scc2 (M + 3)) l ((i + 1 : Nat) : Int) false ns
    unfold mp_lvalue_F mp_field_F
    simp only [cond_false, kindI, h6, Int.reduceBEq, Int.reduceBNe, cond_true, Option.bind_some, bind_eta4]
    show _ = mp_primary_F (M + 2) (scc2 (M + 2)) l ((i + 1 : Nat) : Int) false ns
    unfold mp_primary_F
    simp only [cond_false, kindI, h6, Int.reduceBEq, cond_true, Option.bind_some, bind_eta4]
   rw [e]
   exact hl14 (M + 4) (M' + 3) ⟨p.NoIn, p.NoGt⟩ ⟨14, false, p.NoIn, p.NoGt, false⟩ ns ns' (by omega) (by omega) (by omega) (by omega) rfl rfl rfl
  ·have n68 : (kd l (i + 1) != 68) = true := by simpa using h68
   have n6 : (kd l (i + 1) != 6) = true := by simpa using h6
   simp only [n68, n6, cond_true, Option.bind_some]
   refine fin true ?_
   have m68 : (kd l (i + 1) == 68) = false := by simpa using h68
   have m6 : (kd l (i + 1) == 6) = false := by simpa using h6
   show PB l (i + 1) (mp_lvalue_F (M + 2) (scc2 (M + 2)) l ((i + 1 : Nat) : Int) false ns) _
   unfold mp_lvalue_F
   simp only [cond_false, kindI, m68, m6, Option.bind_some]
   rw [show M' + 3 = (M' + 2) + 1 from rfl, atS_bad]
   exact (PD_bad0 (by omega) _ false (by omega) (by omega)).pb

theorem at_dir (M : Nat) (p : SPos) (ns : List SToken) :
  (p.Level = 1 → (scc1 (M + 1)).ms_l11At p l (i : Int) false ns = (scc1 M).ms_l11Assign p l (i : Int) false ns) ∧
  (p.Level = 2 → (scc1 (M + 1)).ms_l11At p l (i : Int) false ns = (scc1 M).ms_l11Cond p l (i : Int) false ns) ∧
  (p.Level = 5 → (scc1 (M + 1)).ms_l11At p l (i : Int) false ns = (scc1 M).ms_l11In p l (i : Int) false ns) ∧
  (p.Level = 11 → (scc1 (M + 1)).ms_l11At p l (i : Int) false ns = (scc1 M).ms_l11Unary p l (i : Int) false ns) ∧
  (p.Level = 12 → (scc1 (M + 1)).ms_l11At p l (i : Int) false ns = (scc1 M).ms_l11Pow p l (i : Int) false ns) ∧
  (p.Level = 13 → (scc1 (M + 1)).ms_l11At p l (i : Int) false ns = (scc1 M).ms_l11Incr p l (i : Int) false ns) ∧
  (p.Level = 14 → (scc1 (M + 1)).ms_l11At p l (i : Int) false ns = (scc1 M).ms_l11Field p l (i : Int) false ns) ∧
  (p.Level = 15 → (scc1 (M + 1)).ms_l11At p l (i : Int) false ns = (scc1 M).ms_l11Primary l (i : Int) false ns) := by
 refine ⟨fun hp => ?_, fun hp => ?_, fun hp => ?_, fun hp => ?_, fun hp => ?_, fun hp => ?_, fun hp => ?_, fun hp => ?_⟩
 all_goals
  show ms_l11At_F M (scc1 M) p l (i : Int) false ns = _
  unfold ms_l11At_F
  simp only [cond_false, hp, Int.reduceBEq, cond_true, bind_eta4]
 all_goals
  unfold ms_l11At_k1
  simp only [cond_false, hp, Int.reduceBEq, cond_true, bind_eta4]
  unfold ms_l11At_k2
  simp only [cond_false, hp, Int.reduceBEq, cond_true, bind_eta4]

theorem lv_primary : LV l i 15 := by
 intro M M' r p ns ns' hM hM' hn hn' hp hin hgt
 obtain ⟨M', rfl⟩ : ∃ k, M' = k + 1 := ⟨M' - 1, by omega⟩
 rw [(at_dir hl hst hil IH M' p ns').2.2.2.2.2.2.2 hp]
 exact primary_PB hl hst IH hil M M' (by omega) (by omega) ns ns' hn hn'

theorem lv_field : LV l i 14 := by
 intro M M' r p ns ns' hM hM' hn hn' hp hin hgt
 obtain ⟨M, rfl⟩ : ∃ k, M = k + 1 := ⟨M - 1, by omega⟩
 obtain ⟨M', rfl⟩ : ∃ k, M' = k + 2 := ⟨M' - 2, by omega⟩
 rw [(at_dir hl hst hil IH (M' + 1) p ns').2.2.2.2.2.2.1 hp]
 show PB l i (mp_field_F M (scc2 M) l (i : Int) false ns) (ms_l11Field_F M' (scc1 M') p l (i : Int) false ns')
 unfold mp_field_F ms_l11Field_F
 simp only [cond_false, kindI, kindS, Option.bind_some]
 by_cases h68 : kd l i = 68
 ·have hi := kd_lt (l := l) (i := i) (by rw [h68]; decide)
  simp only [h68, bne_self_eq_false, cond_false, takeS_yes ns' hi (by omega) h68, Option.bind_some]
  rw [wrap64 (by omega) (by omega), show ((i : Int) + 1) = ((i + 1 : Nat) : Int) by omega]
  simp only [kindI, kindS, stI, stS, Option.bind_some]
  cases hs : stB (kd l (i + 1)) with
  | true =>
   simp only [cond_true]
   obtain ⟨p3, X3, j3, b3, ns3, ns3', e1, e2, hd⟩ := (pre_PB (i := i + 1) hl hst (by omega) (fun i' lv a b c d => IH i' lv (by omega) b c d) hs p M M' (by omega) (by omega) ns ns' (by omega) (by omega)).out
   rw [e1, e2, Option.bind_some, Option.bind_some]
   obtain ⟨r, r1, r2⟩ := nd1 hl (N := M') (i := i) (by omega) 6 0 (tg := true) rfl (by omega) hd
   unfold mp_field_k1 ms_l11Field_k1 ms_l11Over
   simp only [r1, Option.bind_some]
   obtain ⟨⟨tk, tp, tt, tu, ts⟩, tg⟩ := p3
   exact r2
  | false =>
   simp only [cond_false]
   unfold ms_l11Part
   rw [Option.bind_some]
   obtain ⟨p3, X3, j3, b3, ns3, ns3', e1, e2, hd⟩ := (IH (i + 1) 14 (by omega) (by omega) (by decide) (by decide) M M' r ⟨14, false, p.NoIn, p.NoGt, false⟩ ns ns' (by omega) (by omega) (by omega) (by omega) rfl hin hgt).out
   have e1 : (scc2 M).mp_field l ((i + 1 : Nat) : Int) false ns = some (p3, (j3 : Int), b3, ns3) := e1
   rw [e1, e2, Option.bind_some, Option.bind_some]
   obtain ⟨rr, r1, r2⟩ := nd1 hl (N := M') (i := i) (by omega) 6 0 (tg := true) rfl (by omega) hd
   unfold mp_field_k1 ms_l11Field_k1 ms_l11Over
   simp only [r1, Option.bind_some]
   obtain ⟨⟨tk, tp, tt, tu, ts⟩, tg⟩ := p3
   exact r2
 ·have n68 : (kd l i != 68) = true := by simpa using h68
  simp only [n68, cond_true, bind_eta4]
  exact primary_PB hl hst IH hil M M' (by omega) (by omega) ns ns' hn hn'

theorem lv_incr (hS : LV l i 14) : LV l i 13 := by
 intro M M' r p ns ns' hM hM' hn hn' hp hin hgt
 obtain ⟨M, rfl⟩ : ∃ k, M = k + 1 := ⟨M - 1, by omega⟩
 obtain ⟨M', rfl⟩ : ∃ k, M' = k + 2 := ⟨M' - 2, by omega⟩
 rw [(at_dir hl hst hil IH (M' + 1) p ns').2.2.2.2.2.1 hp]
 show PB l i (mp_incr_F M (scc2 M) l (i : Int) false ns) (ms_l11Incr_F M' (scc1 M') p l (i : Int) false ns')
 unfold mp_incr_F ms_l11Incr_F
 simp only [Bool.not_false, cond_true, kindI, kindS, stI, stS, Option.bind_some]
 cases hs : stB (kd l i) with
 | true =>
  simp only [cond_true, bind_eta4]
  exact pre_PB hl hst hil IH hs p M M' (by omega) (by omega) ns ns' hn hn'
 | false =>
  simp only [cond_false]
  unfold ms_l11Part
  rw [Option.bind_some]
  obtain ⟨p3, X3, j3, b3, ns3, ns3', e1, e2, hd⟩ := (hS M M' r ⟨14, false, p.NoIn, p.NoGt, false⟩ ns ns' (by omega) (by omega) hn hn' rfl hin hgt).out
  have e1 : (scc2 M).mp_field l (i : Int) false ns = some (p3, (j3 : Int), b3, ns3) := e1
  simp only [e1, e2, Option.bind_some, kindI, kindS]
  cases b3 with
  | true => simp only [cond_true, Option.bind_some]; exact hd.pb
  | false =>
   obtain ⟨c1, c2, c3, c4⟩ := hd.2.2.2.2.2.2 rfl
   have hp2 : ms_l11Put X3 = some p3.target := by
    have := put_lst p3.tree X3.held (by have := hd.2.1; omega)
    rw [← c2] at this
    rw [c3]; exact this
   simp only [cond_false, hp2, Option.bind_some]
   cases hs3 : stB (kd l j3) with
   | true =>
    have hj3 := kd_lt (l := l) (i := j3) (stB_ne hs3)
    cases ht : p3.target with
    | true =>
     simp only [Bool.not_true, cond_false, Option.bind_some, takeS_yes ns3' hj3 (show l.length ≤ 100000 by omega) rfl]
     obtain ⟨rr, r1, r2⟩ := nd1p hl (N := M') (i := i) (by omega) 10 (kd l j3) (tg := false) rfl hd hj3
     unfold ms_l11Over
     rw [r1, Option.bind_some, Option.bind_some, wrap64 (by omega) (by omega)]
     exact r2
    | false => simp only [Bool.not_true, Bool.not_false, cond_true, cond_false, Option.bind_some]; exact hd.pb
   | false =>
    simp only [Bool.not_false, cond_true, Option.bind_some]
    cases ht : p3.target <;> exact hd.pb

theorem pow_PB (hS : LV l i 13) (M M' : Nat) (hM : 1100000 + 100 * (l.length - i) + 16 ≤ M) (hM' : 1100000 + 100 * (l.length - i) + 14 ≤ M') (r : SRules) (p : SPos) (ns : List (List UInt8)) (ns' : List SToken) (hn : ns.length ≤ i) (hn' : ns'.length ≤ i) (hin : p.NoIn = r.noIn) (hgt : p.NoGt = r.noGt) :
  PB l i ((scc2 M).mp_pow r l (i : Int) false ns) ((scc1 M').ms_l11Pow p l (i : Int) false ns') := by
 obtain ⟨M, rfl⟩ : ∃ k, M = k + 1 := ⟨M - 1, by omega⟩
 obtain ⟨M', rfl⟩ : ∃ k, M' = k + 1 := ⟨M' - 1, by omega⟩
 show PB l i (mp_pow_F M (scc2 M) r l (i : Int) false ns) (ms_l11Pow_F M' (scc1 M') p l (i : Int) false ns')
 unfold mp_pow_F ms_l11Pow_F ms_l11Part ms_l11Over mi_bin
 simp only [Option.bind_some]
 obtain ⟨p3, X3, j3, b3, ns3, ns3', e1, e2, hd⟩ := (hS M M' r ⟨13, false, p.NoIn, p.NoGt, false⟩ ns ns' (by omega) (by omega) hn hn' rfl hin hgt).out
 have e1 : (scc2 M).mp_incr l (i : Int) false ns = some (p3, (j3 : Int), b3, ns3) := e1
 simp only [e1, e2, Option.bind_some, kindI, kindS]
 cases b3 with
 | true => simp only [cond_true, Option.bind_some]; exact hd.pb
 | false =>
  simp only [cond_false, Option.bind_some]
  by_cases h60 : kd l j3 = 60
  ·have hj3 := kd_lt (l := l) (i := j3) (by rw [h60]; decide)
   have hij := (hd.2.2.2.2.2.2 rfl).1
   have hns := hd.2.2.1
   have hns' := hd.2.2.2.1
   simp only [h60, bne_self_eq_false, cond_false, takeS_yes ns3' hj3 (show l.length ≤ 100000 by omega) h60, Option.bind_some]
   rw [wrap64 (by omega) (by omega), show ((j3 : Int) + 1) = ((j3 + 1 : Nat) : Int) by omega]
   obtain ⟨p4, X4, j4, b4, ns4, ns4', f1, f2, hd4⟩ := (IH (j3 + 1) 11 (by omega) (by omega) (by decide) (by decide) M M' r ⟨11, false, p.NoIn, p.NoGt, false⟩ ns3 ns3' (by omega) (by omega) (by omega) (by omega) rfl hin hgt).out
   have f1 : (scc2 M).mp_unary r l ((j3 + 1 : Nat) : Int) false ns3 = some (p4, (j4 : Int), b4, ns4) := f1
   simp only [f1, f2, Option.bind_some]
   obtain ⟨rr, r1, r2⟩ := nd2 hl (N := M') (i := i) (by omega) 12 60 rfl hd (by omega) hd4
   rw [r1, Option.bind_some, Option.bind_some]
   exact r2.pb
  ·have n60 : (kd l j3 != 60) = true := by simpa using h60
   simp only [n60, cond_true]
   exact hd.pb

theorem lv_pow (hS : LV l i 13) : LV l i 12 := by
 intro M M' r p ns ns' hM hM' hn hn' hp hin hgt
 obtain ⟨M', rfl⟩ : ∃ k, M' = k + 1 := ⟨M' - 1, by omega⟩
 rw [(at_dir hl hst hil IH M' p ns').2.2.2.2.1 hp]
 exact pow_PB hl hst hil IH hS M M' (by omega) (by omega) r p ns ns' hn hn' hin hgt

theorem lv_unary (hS : LV l i 13) : LV l i 11 := by
 intro M M' r p ns ns' hM hM' hn hn' hp hin hgt
 obtain ⟨M, rfl⟩ : ∃ k, M = k + 1 := ⟨M - 1, by omega⟩
 obtain ⟨M', rfl⟩ : ∃ k, M' = k + 2 := ⟨M' - 2, by omega⟩
 rw [(at_dir hl hst hil IH (M' + 1) p ns').2.2.2.1 hp]
 show PB l i (mp_unary_F M (scc2 M) r l (i : Int) false ns) (ms_l11Unary_F M' (scc1 M') p l (i : Int) false ns')
 unfold mp_unary_F ms_l11Unary_F ms_l11Part ms_l11Over
 simp only [cond_false, kindI, kindS, Option.bind_some]
 by_cases hu : kd l i = 56 ∨ kd l i = 55 ∨ kd l i = 61
 ·have hi := kd_lt (l := l) (i := i) (by rcases hu with h | h | h <;> rw [h] <;> decide)
  have e1 : (bif kd l i == 56 then some true else bif kd l i == 55 then some true else some (kd l i == 61)) = some true := by rcases hu with h | h | h <;> rw [h] <;> rfl
  have e2 : (bif kd l i != 55 then bif kd l i != 56 then some (kd l i != 61) else some false else some false) = some false := by rcases hu with h | h | h <;> rw [h] <;> rfl
  simp only [e1, e2, Option.bind_some, cond_true, cond_false, takeS_yes ns' hi (show l.length ≤ 100000 by omega) rfl]
  rw [wrap64 (by omega) (by omega), show ((i : Int) + 1) = ((i + 1 : Nat) : Int) by omega]
  obtain ⟨p4, X4, j4, b4, ns4, ns4', f1, f2, hd4⟩ := (IH (i + 1) 11 (by omega) (by omega) (by decide) (by decide) M M' r ⟨11, false, p.NoIn, p.NoGt, false⟩ ns ns' (by omega) (by omega) (by omega) (by omega) rfl hin hgt).out
  have f1 : (scc2 M).mp_unary r l ((i + 1 : Nat) : Int) false ns = some (p4, (j4 : Int), b4, ns4) := f1
  simp only [f1, f2, Option.bind_some]
  obtain ⟨rr, r1, r2⟩ := nd1 hl (N := M') (i := i) (by omega) 11 (kd l i) (tg := false) rfl (by omega) hd4
  rw [r1, Option.bind_some, Option.bind_some]
  exact r2
 ·have n56 : kd l i ≠ 56 := fun h => hu (Or.inl h)
  have n55 : kd l i ≠ 55 := fun h => hu (Or.inr (Or.inl h))
  have n61 : kd l i ≠ 61 := fun h => hu (Or.inr (Or.inr h))
  have e1 : (bif kd l i == 56 then some true else bif kd l i == 55 then some true else some (kd l i == 61)) = some false := by
   rw [beq_eq_false_iff_ne.2 n56, beq_eq_false_iff_ne.2 n55, beq_eq_false_iff_ne.2 n61]; rfl
  have e2 : (bif kd l i != 55 then bif kd l i != 56 then some (kd l i != 61) else some false else some false) = some true := by
   rw [bne_iff_ne.2 n56, bne_iff_ne.2 n55, bne_iff_ne.2 n61]; rfl
  simp only [e1, e2, Option.bind_some, cond_true, cond_false, bind_eta4]
  exact pow_PB hl hst hil IH hS M M' (by omega) (by omega) r p ns ns' hn hn' hin hgt

theorem lv_assign (hS : LV l i 2) : LV l i 1 := by
 intro M M' r p ns ns' hM hM' hn hn' hp hin hgt
 obtain ⟨M, rfl⟩ : ∃ k, M = k + 1 := ⟨M - 1, by omega⟩
 obtain ⟨M', rfl⟩ : ∃ k, M' = k + 2 := ⟨M' - 2, by omega⟩
 rw [(at_dir hl hst hil IH (M' + 1) p ns').1 hp]
 show PB l i (mp_assign_F M (scc2 M) r l (i : Int) false ns) (ms_l11Assign_F M' (scc1 M') p l (i : Int) false ns')
 unfold mp_assign_F ms_l11Assign_F ms_l11Part ms_l11Over
 simp only [Option.bind_some]
 obtain ⟨p3, X3, j3, b3, ns3, ns3', e1, e2, hd⟩ := (hS M M' r ⟨2, false, p.NoIn, p.NoGt, false⟩ ns ns' (by omega) (by omega) hn hn' rfl hin hgt).out
 have e1 : (scc2 M).mp_cond r l (i : Int) false ns = some (p3, (j3 : Int), b3, ns3) := e1
 simp only [e1, e2, Option.bind_some, kindI, kindS]
 cases b3 with
 | true => simp only [cond_true, Option.bind_some]; exact hd.pb
 | false =>
  obtain ⟨c1, c2, c3, c4⟩ := hd.2.2.2.2.2.2 rfl
  have hp2 : ms_l11Put X3 = some p3.target := by
   have := put_lst p3.tree X3.held (by have := hd.2.1; omega)
   rw [← c2] at this
   rw [c3]; exact this
  simp only [cond_false, hp2, Option.bind_some, asI, asS]
  cases ht : p3.target with
  | false => simp only [Bool.not_false, cond_true, Option.bind_some]; exact hd.pb
  | true =>
   simp only [Bool.not_true, cond_false, Option.bind_some]
   cases hs3 : asB (kd l j3) with
   | false => simp only [Bool.not_false, cond_true]; exact hd.pb
   | true =>
    have hj3 := kd_lt (l := l) (i := j3) (asB_ne hs3)
    have hns := hd.2.2.1
    have hns' := hd.2.2.2.1
    simp only [Bool.not_true, cond_false, Option.bind_some, takeS_yes ns3' hj3 (show l.length ≤ 100000 by omega) rfl]
    rw [wrap64 (by omega) (by omega), show ((j3 : Int) + 1) = ((j3 + 1 : Nat) : Int) by omega]
    obtain ⟨p4, X4, j4, b4, ns4, ns4', f1, f2, hd4⟩ := (IH (j3 + 1) 1 (by omega) (by omega) (by decide) (by decide) M M' r ⟨1, false, p.NoIn, p.NoGt, false⟩ ns3 ns3' (by omega) (by omega) (by omega) (by omega) rfl hin hgt).out
    have f1 : (scc2 M).mp_assign r l ((j3 + 1 : Nat) : Int) false ns3 = some (p4, (j4 : Int), b4, ns4) := f1
    simp only [f1, f2, Option.bind_some]
    obtain ⟨rr, r1, r2⟩ := nd2 hl (N := M') (i := i) (by omega) 15 (kd l j3) rfl hd (by omega) hd4
    rw [r1, Option.bind_some, Option.bind_some]
    exact r2.pb
end

end Go.Proofs.Tryz
