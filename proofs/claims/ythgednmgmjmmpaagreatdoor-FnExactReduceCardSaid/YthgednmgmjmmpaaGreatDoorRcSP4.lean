/-
 Plain lemmas on the models, part 4.
-/
import Derived.Test.YthgednmgmjmmpaaGreatDoorRcSP3
namespace Go.Proofs.Tryz
open Go.Av
set_option maxRecDepth 100000
set_option linter.unusedSimpArgs false
set_option linter.unusedVariables false

def kd (l : List SToken) (i : Nat) : Int := (l[i]?.map (·.Kind)).getD 0
theorem kindI (l : List SToken) (i : Nat) (b : Bool) (ns : List (List UInt8)) : mp_kind l (i : Int) b ns = some (kd l i) := by
 unfold mp_kind kd
 by_cases h : i < l.length
 ·have : decide ((i : Int) ≥ (l.length : Int)) = false := by simp; omega
  rw [this, cond_false, ix_nat h, Option.bind_some, List.getElem?_eq_getElem h]; rfl
 ·have : decide ((i : Int) ≥ (l.length : Int)) = true := by simp; omega
  rw [this, cond_true, List.getElem?_eq_none (by omega)]; rfl

def SmN (L : List SNode) : Prop := ∀ x, x ∈ L → x.Kids.length ≤ 20000 ∧ x.Text.length ≤ 1048576 ∧ x.Other.length ≤ 1048576

theorem shiftE_l2 (N : Nat) (kb : (List SNode × Int × Int × List SNode) → Option (List SNode)) (a : List SNode) (d : Int) (i : Nat) (hi : i < a.length) (hi2 : i ≤ 1000000) (out : List SNode) (ho : out.length ≤ 1000000) (hk : a[i].Kids.length ≤ 20000) :
  ∀ (n j : Nat) (ks : List Int), a[i].Kids.length - j < n → j ≤ a[i].Kids.length → ks.length = j →
   ∃ x : SNode, (x.Kids.length = a[i].Kids.length ∧ x.Text = a[i].Text ∧ x.Other = a[i].Other) ∧ ms_l6Shift_l2 N kb n (a, d, (i : Int), out, a[i], (j : Int), ks) = kb (a, d, ((i + 1 : Nat) : Int), out ++ [x]) := by
 intro n
 induction n with
 | zero => intro j ks h; omega
 | succ n ih =>
  intro j ks hn hj hks
  rw [ms_l6Shift_l2, ix_nat hi, Option.bind_some]
  by_cases h : j < a[i].Kids.length
  ·simp only [lt_true h, cond_true, ix_nat hi, ix_nat h, Option.bind_some, step64 h (by simp only [maxLen]; omega)]
   rw [app_some (by simp; omega), Option.bind_some]
   exact ih (j + 1) _ (by omega) (by omega) (by simp [hks])
  ·simp only [lt_false h, cond_false]
   rw [app_some (by simp; omega), Option.bind_some, wrap64 (by omega) (by omega)]
   exact ⟨⟨a[i].Kind, a[i].Op, a[i].Text, a[i].Other, ks⟩, ⟨by show ks.length = _; omega, rfl, rfl⟩, rfl⟩

theorem shiftE_l1 (N : Nat) (a : List SNode) (d : Int) (hN : 1048577 < N) (ha : a.length ≤ 500000) (hs : SmN a) :
  ∀ (n i : Nat) (out : List SNode), a.length - i < n → i ≤ a.length → out.length = i → SmN out → ∃ r, ms_l6Shift_l1 N n (a, d, (i : Int), out) = some r ∧ r.length = a.length ∧ SmN r := by
 intro n
 induction n with
 | zero => intro i out h; omega
 | succ n ih =>
  intro i out hn hi ho hso
  rw [ms_l6Shift_l1]
  by_cases h : i < a.length
  ·have hx := hs _ (List.getElem_mem h)
   simp only [lt_true h, cond_true, ix_nat h, Option.bind_some]
   obtain ⟨x, x1, x2⟩ := shiftE_l2 N (ms_l6Shift_l1 N n) a d i h (by omega) out (by omega) hx.1 N 0 [] (by omega) (by omega) rfl
   obtain ⟨r, r1, r2, r3⟩ := ih (i + 1) (out ++ [x]) (by omega) (by omega) (by simp [ho]) (fun z hz => by
    rcases List.mem_append.1 hz with hz | hz
    ·exact hso z hz
    ·rw [List.mem_singleton.1 hz, x1.1, x1.2.1, x1.2.2]; exact hx)
   exact ⟨r, Eq.trans x2 r1, r2, r3⟩
  ·simp only [lt_false h, cond_false]
   exact ⟨out, rfl, by omega, hso⟩

theorem shiftE (N : Nat) (a : List SNode) (d : Int) (hN : 1048577 < N) (ha : a.length ≤ 500000) (hs : SmN a) : ∃ r, ms_l6Shift N a d = some r ∧ r.length = a.length ∧ SmN r :=
 shiftE_l1 N a d hN ha hs N 0 [] (by omega) (by omega) rfl fun z hz => by cases hz

def lenS (Ls : List (List SNode)) : Nat := (Ls.map (·.length)).sum
theorem lenS_cons (L : List SNode) (Ls : List (List SNode)) : lenS (L :: Ls) = L.length + lenS Ls := by simp [lenS]
theorem lenS_app (a b : List (List SNode)) : lenS (a ++ b) = lenS a + lenS b := by simp [lenS]

theorem makeE_l (N : Nat) (n0 : SNode) (Ls : List (List SNode)) (hN : 1048577 < N) (hnt : n0.Text.length ≤ 1048576 ∧ n0.Other.length ≤ 1048576) (hl : lenS Ls ≤ 400000) (hk : Ls.length ≤ 10000) (hs : ∀ L, L ∈ Ls → SmN L) : ∀ (n i : Nat) (acc : List SNode) (ids : List Int), Ls.length - i < n → i ≤ Ls.length → acc.length + lenS (Ls.drop i) = lenS Ls → ids.length = i → SmN acc →
  ∃ r, ms_l6Make_l1 N n (Ls, n0, (i : Int), acc, ids) = some r ∧ r.length = lenS Ls + 1 ∧ SmN r := by
 intro n
 induction n with
 | zero => intro i acc ids h; omega
 | succ n ih =>
  intro i acc ids hn hi hacc hids hsa
  rw [ms_l6Make_l1]
  by_cases h : i < Ls.length
  ·rw [drop_cons h, lenS_cons] at hacc
   obtain ⟨r, r1, r2, r3⟩ := shiftE N Ls[i] (acc.length : Int) hN (by omega) (hs _ (List.getElem_mem h))
   simp only [lt_true h, cond_true, ix_nat h, Option.bind_some, r1]
   rw [app_some (by omega), Option.bind_some, app_some (by simp; omega), Option.bind_some, wrap64 (n := (i : Int) + 1) (by omega) (by omega)]
   exact ih (i + 1) (acc ++ r) _ (by omega) (by omega) (by rw [List.length_append, r2]; omega) (by simp [hids]) (fun z hz => by
    rcases List.mem_append.1 hz with hz | hz
    ·exact hsa z hz
    ·exact r3 z hz)
  ·simp only [lt_false h, cond_false]
   rw [drop_nil h] at hacc
   have h0 : lenS [] = 0 := rfl
   rw [app_some (by simp; omega), Option.bind_some]
   refine ⟨_, rfl, by simp; omega, fun z hz => ?_⟩
   rcases List.mem_append.1 hz with hz | hz
   ·exact hsa z hz
   ·rw [List.mem_singleton.1 hz]; exact ⟨by show ids.length ≤ _; omega, hnt.1, hnt.2⟩

theorem makeE (N : Nat) (n0 : SNode) (Ls : List (List SNode)) (hN : 1048577 < N) (hnt : n0.Text.length ≤ 1048576 ∧ n0.Other.length ≤ 1048576) (hl : lenS Ls ≤ 400000) (hk : Ls.length ≤ 10000) (hs : ∀ L, L ∈ Ls → SmN L) : ∃ r, ms_l6Make N n0 Ls = some r ∧ r.length = lenS Ls + 1 ∧ SmN r :=
 makeE_l N n0 Ls hN hnt hl hk hs N 0 [] [] (by omega) (by omega) (by rw [List.drop_zero]; simp) rfl fun z hz => by cases hz

abbrev PI := Option (SPart × Int × Bool × List (List UInt8))
abbrev PS := Option (SL11X × Int × Bool × List SToken)
def PB (l : List SToken) (i : Nat) (x : PI) (y : PS) : Prop :=
 ∃ (p : SPart) (X : SL11X) (j : Nat) (b : Bool) (ns : List (List UInt8)) (ns' : List SToken), x = some (p, (j : Int), b, ns) ∧ y = some (X, (j : Int), b, ns') ∧ i ≤ j ∧ j ≤ l.length ∧ ns.length ≤ j ∧ ns'.length ≤ j ∧ SmN X.l ∧ X.l.length ≤ 2 * (j - i) + 1 ∧
  (b = false → i < j ∧ X.l = lst 0 p.tree ∧ p.target = (!X.held && isL p.tree.kind) ∧ szT p.tree + 1 ≤ 2 * (j - i))

theorem fin_PB {l : List SToken} (hl : l.length ≤ 3000) {N i j : Nat} (hN : 1048577 < N) (k op : Int) (tx : List UInt8) (htx : tx.length ≤ 1048576) (tg : Bool) (ps : List STree) (Ls : List (List SNode)) (b : Bool) (ns : List (List UInt8)) (ns' : List SToken) (hij : i ≤ j) (hj : j ≤ l.length) (hn : ns.length ≤ j) (hn' : ns'.length ≤ j)
  (hLs : lenS Ls ≤ 2 * (j - i)) (hLk : Ls.length ≤ 10000) (hsm : ∀ L, L ∈ Ls → SmN L) (htg : tg = isL k) (hok : b = false → i < j ∧ Ls = ps.map (lst 0) ∧ szTs ps + 2 ≤ 2 * (j - i)) :
  ∃ r, ms_l6Make N ⟨k, op, tx, [], []⟩ Ls = some r ∧ PB l i (some (⟨⟨k, op, tx, [], ps⟩, tg⟩, (j : Int), b, ns)) (some (⟨r, false⟩, (j : Int), b, ns')) := by
 obtain ⟨r, r1, r2, r3⟩ := makeE N ⟨k, op, tx, [], []⟩ Ls hN ⟨htx, by simp⟩ (by omega) hLk hsm
 refine ⟨r, r1, _, _, j, b, ns, ns', rfl, rfl, hij, hj, hn, hn', r3, (by show r.length ≤ _; omega), fun hb => ?_⟩
 obtain ⟨h1, h2, h3⟩ := hok hb
 have hm := make_is N ⟨k, op, tx, [], []⟩ ps hN (by omega)
 rw [← h2, r1] at hm
 refine ⟨h1, Option.some.inj hm, ?_, by rw [szT]; omega⟩
 rw [htg]; rfl

theorem bind_eta4 {α β γ δ : Type} (x : Option (α × β × γ × δ)) : (Option.bind x fun r => some (r.1, r.2.1, r.2.2.1, r.2.2.2)) = x := by
 cases x <;> rfl

theorem kindS (l : List SToken) (i : Nat) (b : Bool) (ns : List SToken) : ms_l11Kind l (i : Int) b ns = some (kd l i) := by
 unfold ms_l11Kind kd
 by_cases h : i < l.length
 ·have : decide ((i : Int) ≥ (l.length : Int)) = false := by simp; omega
  rw [this, cond_false, ix_nat h, Option.bind_some, List.getElem?_eq_getElem h]; rfl
 ·have : decide ((i : Int) ≥ (l.length : Int)) = true := by simp; omega
  rw [this, cond_true, List.getElem?_eq_none (by omega)]; rfl

theorem kd_lt {l : List SToken} {i : Nat} (h : kd l i ≠ 0) : i < l.length := by
 cases Nat.lt_or_ge i l.length with
 | inl h => exact h
 | inr g => exfalso; apply h; unfold kd; rw [List.getElem?_eq_none (by omega)]; rfl
theorem kd_at {l : List SToken} {i : Nat} (h : i < l.length) : kd l i = l[i].Kind := by unfold kd; rw [List.getElem?_eq_getElem h]; rfl

theorem takeS_bad (k : Int) (l : List SToken) (i : Nat) (ns : List SToken) : ms_l11Take k l (i : Int) true ns = some (⟨0, [], 0⟩, (i : Int), true) := by
 unfold ms_l11Take
 simp only [cond_true, Option.bind_some]
theorem takeS_no {k : Int} {l : List SToken} {i : Nat} (b : Bool) (ns : List SToken) (h : kd l i ≠ k) : ms_l11Take k l (i : Int) b ns = some (⟨0, [], 0⟩, (i : Int), true) := by
 unfold ms_l11Take
 have e : (kd l i != k) = true := by simpa using h
 cases b <;> simp only [cond_true, cond_false, kindS, Option.bind_some, e]
theorem takeS_yes {k : Int} {l : List SToken} {i : Nat} (ns : List SToken) (hi : i < l.length) (hl : l.length ≤ 100000) (h : kd l i = k) : ms_l11Take k l (i : Int) false ns = some (l[i], ((i + 1 : Nat) : Int), false) := by
 unfold ms_l11Take
 have e : (kd l i != k) = false := by simp [h]
 simp only [cond_false, kindS, Option.bind_some, e, ix_nat hi]
 rw [wrap64 (by omega) (by omega)]
 rfl
theorem takeI_bad (k : Int) (l : List SToken) (i : Nat) (ns : List (List UInt8)) : mp_take k l (i : Int) true ns = some (false, (i : Int), true) := by
 unfold mp_take
 simp only [cond_true, Option.bind_some]
theorem takeI_no {k : Int} {l : List SToken} {i : Nat} (b : Bool) (ns : List (List UInt8)) (h : kd l i ≠ k) : mp_take k l (i : Int) b ns = some (false, (i : Int), true) := by
 unfold mp_take
 have e : (kd l i != k) = true := by simpa using h
 cases b <;> simp only [cond_true, cond_false, kindI, Option.bind_some, e]
theorem takeI_yes {k : Int} {l : List SToken} {i : Nat} (ns : List (List UInt8)) (hi : i ≤ 100000) (h : kd l i = k) : mp_take k l (i : Int) false ns = some (true, ((i + 1 : Nat) : Int), false) := by
 unfold mp_take
 have e : (kd l i != k) = false := by simp [h]
 simp only [cond_false, kindI, Option.bind_some, e]
 rw [wrap64 (by omega) (by omega)]
 rfl
theorem textI {l : List SToken} {i : Nat} (b : Bool) (ns : List (List UInt8)) (hi : i < l.length) (hl : l.length ≤ 100000) : mp_text l (i : Int) b ns = some (l[i].Text, ((i + 1 : Nat) : Int)) := by
 unfold mp_text
 rw [ix_nat hi, Option.bind_some, wrap64 (by omega) (by omega)]
 rfl
theorem nameI_no {l : List SToken} {i : Nat} (b : Bool) (ns : List (List UInt8)) (h : kd l i ≠ 6) : mp_name l (i : Int) b ns = some ([], (i : Int), true) := by
 unfold mp_name
 have e : (kd l i != 6) = true := by simpa using h
 cases b <;> simp only [cond_true, cond_false, kindI, Option.bind_some, e]
theorem nameI_yes {l : List SToken} {i : Nat} (ns : List (List UInt8)) (hi : i < l.length) (hl : l.length ≤ 100000) (h : kd l i = 6) : mp_name l (i : Int) false ns = some (l[i].Text, ((i + 1 : Nat) : Int), false) := by
 unfold mp_name
 have e : (kd l i != 6) = false := by simp [h]
 simp only [cond_false, kindI, Option.bind_some, e, textI false ns hi hl]

theorem opens_is (k : Int) : mi_opens k = ms_l10Open k := by
 unfold mi_opens ms_l10Open
 rfl
theorem shuts_is (k : Int) : mi_shuts k = ms_l10Close k := by
 unfold mi_shuts ms_l10Close
 rfl

theorem nl_l (l : List SToken) (hl : l.length ≤ 3000) (N N' : Nat) : ∀ (n n' i : Nat) (ns : List (List UInt8)) (ns' : List SToken), l.length - i < n → l.length - i < n' → i ≤ l.length → ns.length ≤ i → ns'.length ≤ i →
  ∃ (j : Nat) (ms : List (List UInt8)) (ms' : List SToken), i ≤ j ∧ j ≤ l.length ∧ ms.length ≤ j ∧ ms'.length ≤ j ∧ mp_newlines_l1 N l false n ((i : Int), ns) = some ((j : Int), ms) ∧ ms_l11Lines_l1 N' l false n' ((i : Int), ns') = some ((j : Int), ms') := by
 intro n
 induction n with
 | zero => intro n' i ns ns' h; omega
 | succ n ih =>
  intro n' i ns ns' hn hn' hi h1 h2
  cases n' with
  | zero => omega
  | succ n' =>
   rw [mp_newlines_l1, ms_l11Lines_l1]
   simp only [Bool.not_false, cond_true, kindI, kindS, Option.bind_some]
   by_cases e1 : kd l i = 1
   ·have hlt := kd_lt (l := l) (i := i) (by rw [e1]; decide)
    have e2 : (kd l i == 2) = false := by rw [e1]; decide
    simp only [e1, beq_self_eq_true, cond_true, Option.bind_some, Int.reduceBEq, cond_false]
    unfold mp_newlines_k2 ms_l11Lines_k2
    simp only []
    rw [wrap64 (by omega) (by omega)]
    obtain ⟨j, ms, ms', a1, a2, a3, a4, a5, a6⟩ := ih n' (i + 1) ns ns' (by omega) (by omega) (by omega) (by omega) (by omega)
    exact ⟨j, ms, ms', by omega, a2, a3, a4, a5, a6⟩
   ·have f1 : (kd l i == 1) = false := by simpa using e1
    by_cases e2 : kd l i = 2
    ·have hlt := kd_lt (l := l) (i := i) (by rw [e2]; decide)
     simp only [e2, Int.reduceBEq, cond_true, cond_false, Option.bind_some, ix_nat hlt]
     rw [app_some (by simp; omega), app_some (by simp; omega)]
     simp only [Option.bind_some]
     unfold mp_newlines_k2 ms_l11Lines_k2
     simp only []
     rw [wrap64 (by omega) (by omega)]
     obtain ⟨j, ms, ms', a1, a2, a3, a4, a5, a6⟩ := ih n' (i + 1) (ns ++ [l[i].Text]) (ns' ++ [l[i]]) (by omega) (by omega) (by omega) (by simp; omega) (by simp; omega)
     exact ⟨j, ms, ms', by omega, a2, a3, a4, a5, a6⟩
    ·have f2 : (kd l i == 2) = false := by simpa using e2
     simp only [f1, f2, cond_false, Option.bind_some]
     exact ⟨i, ns, ns', by omega, hi, h1, h2, rfl, rfl⟩
theorem nl_is {l : List SToken} (hl : l.length ≤ 3000) {N N' : Nat} (hN : 3000 < N) (hN' : 3000 < N') {i : Nat} (ns : List (List UInt8)) (ns' : List SToken) (hi : i ≤ l.length) (h1 : ns.length ≤ i) (h2 : ns'.length ≤ i) :
  ∃ (j : Nat) (ms : List (List UInt8)) (ms' : List SToken), i ≤ j ∧ j ≤ l.length ∧ ms.length ≤ j ∧ ms'.length ≤ j ∧ mp_newlines N l (i : Int) false ns = some ((j : Int), ms) ∧ ms_l11Lines N' l (i : Int) false ns' = some ((j : Int), ms') :=
 nl_l l hl N N' N N' i ns ns' (by omega) (by omega) hi h1 h2
theorem nlS_bad (l : List SToken) {N' : Nat} (hN' : 0 < N') (i : Nat) (ns' : List SToken) : ms_l11Lines N' l (i : Int) true ns' = some ((i : Int), ns') := by
 obtain ⟨n, rfl⟩ : ∃ n, N' = n + 1 := ⟨N' - 1, by omega⟩
 unfold ms_l11Lines
 rw [ms_l11Lines_l1]
 simp only [Bool.not_true, cond_false, Option.bind_some]

def opB (k : Int) : Bool := k == 32 || (k == 34 || k == 30)
def clB (k : Int) : Bool := k == 33 || (k == 35 || k == 31)
theorem opI (k : Int) : mi_opens k = some (opB k) := by
 unfold mi_opens opB
 cases (k == 32) <;> cases (k == 34) <;> rfl
theorem clI (k : Int) : mi_shuts k = some (clB k) := by
 unfold mi_shuts clB
 cases (k == 33) <;> cases (k == 35) <;> rfl
theorem opS (k : Int) : ms_l10Open k = some (opB k) := by rw [← opens_is]; exact opI k
theorem clS (k : Int) : ms_l10Close k = some (clB k) := by rw [← shuts_is]; exact clI k
theorem op_cl {k : Int} (h : opB k = true) : clB k = false ∧ (k == 36) = false := by
 unfold opB at h
 simp only [Bool.or_eq_true, beq_iff_eq] at h
 rcases h with h | h | h <;> subst h <;> decide
theorem cl_36 {k : Int} (h : clB k = true) : (k == 36) = false := by
 unfold clB at h
 simp only [Bool.or_eq_true, beq_iff_eq] at h
 rcases h with h | h | h <;> subst h <;> decide

theorem la_l (l : List SToken) (hl : l.length ≤ 3000) (N N' i : Nat) (b b' : Bool) (q : Int) (ns : List (List UInt8)) (ns' : List SToken) : ∀ (n n' j d : Nat), l.length - j < n → l.length - j < n' → i ≤ j → 1 ≤ d → d ≤ j →
  ∃ r, mp_listAhead_l2 N l q b ns n (l.drop i, (d : Int), ((j - i : Nat) : Int)) = some r ∧ ms_l11Comma_l1 N' l q b' ns' n' ((d : Int), (j : Int)) = some r ∧ (r = true → d = 1 → kd l j ≠ 33) := by
 intro n
 induction n with
 | zero => intro n' j d h; omega
 | succ n ih =>
  intro n' j d hn hn' hij hd hdj
  cases n' with
  | zero => omega
  | succ n' =>
   rw [mp_listAhead_l2, ms_l11Comma_l1]
   by_cases hj : j < l.length
   ·have hj' : j - i < (l.drop i).length := by rw [List.length_drop]; omega
    have he : (l.drop i)[j - i] = l[j] := by rw [List.getElem_drop]; congr 1; omega
    simp only [lt_true hj, lt_true hj', cond_true, ix_nat hj, ix_nat hj', he, Option.bind_some, opI, opS, clI]
    rw [kd_at hj]
    have next : ∀ d' : Nat, 1 ≤ d' → d' ≤ j + 1 → ∃ r, mp_listAhead_l2 N l q b ns n (l.drop i, (d' : Int), (IntKind.wrap .i64 (((j - i : Nat) : Int) + 1))) = some r ∧ ms_l11Comma_l1 N' l q b' ns' n' ((d' : Int), (IntKind.wrap .i64 ((j : Int) + 1))) = some r := fun d' g1 g2 => by
     rw [wrap64 (by omega) (by omega), wrap64 (by omega) (by omega)]
     obtain ⟨r, r1, r2, _⟩ := ih n' (j + 1) d' (by omega) (by omega) (by omega) g1 g2
     refine ⟨r, ?_, r2⟩
     rw [show (((j - i : Nat) : Int) + 1) = ((j + 1 - i : Nat) : Int) by omega]; exact r1
    cases ho : opB l[j].Kind with
    | true =>
     obtain ⟨o1, o2⟩ := op_cl ho
     simp only [cond_true]
     unfold mp_listAhead_k3 ms_l11Comma_k2
     simp only [ix_nat hj, Option.bind_some, clS, o1, cond_false]
     unfold ms_l11Comma_k3
     simp only [ix_nat hj, Option.bind_some, o2]
     rw [wrap64 (n := (d : Int) + 1) (by omega) (by omega)]
     have g1 : decide (((d : Int) + 1) ≤ 0) = false := by rw [decide_eq_false_iff_not]; omega
     have g2 : (((d : Int) + 1) == 0) = false := by rw [beq_eq_false_iff_ne]; omega
     have g3 : (((d : Int) + 1) == 1) = false := by rw [beq_eq_false_iff_ne]; omega
     simp only [g1, g2, g3, cond_false, Option.bind_some]
     obtain ⟨r, r1, r2⟩ := next (d + 1) (by omega) (by omega)
     refine ⟨r, r1, r2, fun _ _ hk => ?_⟩
     rw [hk] at ho; revert ho; decide
    | false =>
     simp only [cond_false]
     unfold ms_l11Comma_k2
     simp only [ix_nat hj, Option.bind_some, clS]
     cases hc : clB l[j].Kind with
     | true =>
      have o2 := cl_36 hc
      simp only [cond_true]
      unfold mp_listAhead_k3 ms_l11Comma_k3
      simp only [ix_nat hj, Option.bind_some, o2]
      rw [wrap64 (n := (d : Int) - 1) (by omega) (by omega)]
      by_cases hd1 : d = 1
      ·subst hd1
       exact ⟨false, rfl, rfl, fun h => by cases h⟩
      ·have g1 : decide (((d : Int) - 1) ≤ 0) = false := by simp; omega
       have g2 : (((d : Int) - 1) == 0) = false := by simp; omega
       simp only [g1, g2, cond_false]
       obtain ⟨r, r1, r2⟩ := next (d - 1) (by omega) (by omega)
       rw [show (((d - 1 : Nat)) : Int) = (d : Int) - 1 by omega] at r1 r2
       refine ⟨r, r1, ?_, fun _ h => absurd h hd1⟩
       cases (((d : Int) - 1) == 1) <;> exact r2
     | false =>
      simp only [cond_false]
      unfold mp_listAhead_k3 ms_l11Comma_k3
      simp only [ix_nat hj, Option.bind_some]
      have g1 : decide ((d : Int) ≤ 0) = false := by simp; omega
      have g2 : ((d : Int) == 0) = false := by simp; omega
      simp only [g1, g2, cond_false]
      have n33 : l[j].Kind ≠ 33 := fun hk => by rw [hk] at hc; revert hc; decide
      cases h36 : (l[j].Kind == 36) with
      | true =>
       cases h1 : ((d : Int) == 1) with
       | true => exact ⟨true, rfl, rfl, fun _ _ => n33⟩
       | false =>
        simp only [cond_true, cond_false, Option.bind_some]
        obtain ⟨r, r1, r2⟩ := next d hd (by omega)
        exact ⟨r, r1, r2, fun _ _ => n33⟩
      | false =>
       obtain ⟨r, r1, r2⟩ := next d hd (by omega)
       refine ⟨r, ?_, ?_, fun _ _ => n33⟩
       ·simp only [cond_false, Option.bind_some]; exact r1
       ·cases ((d : Int) == 1) <;> exact r2
   ·have hj' : ¬ (j - i < (l.drop i).length) := by rw [List.length_drop]; omega
    simp only [lt_false hj, lt_false hj', cond_false]
    exact ⟨false, rfl, rfl, fun h => by cases h⟩

theorem la_is {l : List SToken} (hl : l.length ≤ 3000) {N N' : Nat} (hN : 3001 < N) (hN' : 3001 < N') {i : Nat} (ns : List (List UInt8)) (ns' : List SToken) (h32 : kd l i = 32) :
  ∃ r, mp_listAhead N l (i : Int) false ns = some r ∧ ms_l11Comma N' l (i : Int) false ns' = some r ∧ (r = true → kd l (i + 1) ≠ 33) := by
 have hi : i < l.length := kd_lt (by rw [h32]; decide)
 have h32' : l[i].Kind = 32 := by rw [← kd_at hi]; exact h32
 unfold mp_listAhead ms_l11Comma
 rw [cut_nat (by omega) (by omega)]
 have hd : (l.drop i).take (l.length - i) = l.drop i := List.take_of_length_le (by simp)
 rw [hd]
 obtain ⟨n, rfl⟩ : ∃ n, N = n + 1 := ⟨N - 1, by omega⟩
 obtain ⟨n', rfl⟩ : ∃ n', N' = n' + 1 := ⟨N' - 1, by omega⟩
 obtain ⟨r, r1, r2, r3⟩ := la_l l hl (n + 1) (n' + 1) i false false (i : Int) ns ns' n n' (i + 1) 1 (by omega) (by omega) (by omega) (by omega) (by omega)
 refine ⟨r, ?_, ?_, fun h => r3 h rfl⟩
 ·have hj' : 0 < (l.drop i).length := by rw [List.length_drop]; omega
  have he : (l.drop i)[0] = l[i] := by rw [List.getElem_drop]; rfl
  rw [show i + 1 - i = 1 by omega] at r1
  rw [Option.bind_some, mp_listAhead_l2]
  have c1 : decide ((0 : Int) < ((l.drop i).length : Int)) = true := by simp only [decide_eq_true_eq]; omega
  have c2 : ix (l.drop i) (0 : Int) = some l[i] := by rw [← he]; exact ix_nat (i := 0) hj'
  simp only [c1, c2, cond_true, Option.bind_some, opI, h32']
  exact r1
 ·simp only [cond_false, kindS, h32, Option.bind_some, bne_self_eq_false]
  rw [ms_l11Comma_l1]
  simp only [lt_true hi, cond_true, ix_nat hi, Option.bind_some, opS, h32']
  have o : opB 32 = true := by decide
  simp only [o, cond_true]
  unfold ms_l11Comma_k2
  simp only [ix_nat hi, Option.bind_some, clS, h32']
  have c : clB 32 = false := by decide
  simp only [c, cond_false]
  unfold ms_l11Comma_k3
  simp only [ix_nat hi, Option.bind_some, h32']
  rw [wrap64 (n := (i : Int) + 1) (by omega) (by omega)]
  exact r2

theorem root_lst (t : STree) (hb : Bool) (h : szT t ≤ 1000000) : ∃ nd, ms_l11Root ⟨lst 0 t, hb⟩ = some nd ∧ nd.Kind = t.kind := by
 have hl := lst_len t 0
 have hp := szT_pos t
 unfold ms_l11Root
 simp only []
 have c1 : (((lst 0 t).length : Int) == 0) = false := by rw [beq_eq_false_iff_ne]; omega
 have c2 : (lst 0 t).length - 1 < (lst 0 t).length := by omega
 rw [c1, cond_false, wrap64 (by omega) (by omega), show ((lst 0 t).length : Int) - 1 = (((lst 0 t).length - 1 : Nat) : Int) by omega, ix_nat c2]
 refine ⟨_, rfl, ?_⟩
 cases t with
 | mk k o tx ot ks =>
  simp only [lst]
  simp

theorem put_lst (t : STree) (hb : Bool) (h : szT t ≤ 1000000) : ms_l11Put ⟨lst 0 t, hb⟩ = some (!hb && isL t.kind) := by
 obtain ⟨nd, h1, h2⟩ := root_lst t hb h
 unfold ms_l11Put
 cases hb with
 | true => rfl
 | false => simp only [Bool.not_false, cond_true, h1, Option.bind_some, isL_spec, h2, Bool.true_and]

def opl (k : Int) : Int := if k = 44 then 3 else if k = 45 then 4 else if k = 67 then 6 else if k = 46 then 6 else if k = 63 then 7 else if k = 48 then 7 else if k = 47 then 7 else if k = 50 then 7 else if k = 62 then 7 else if k = 49 then 7 else if k = 99 then 8 else if k = 55 then 9 else if k = 56 then 9 else if k = 57 then 10 else if k = 58 then 10 else if k = 59 then 10 else if k = 60 then 12 else 0
theorem oplS (k : Int) : ms_OpLevel k = some (opl k) := by
 by_cases h1 : k = 44; · subst h1; rfl
 by_cases h2 : k = 45; · subst h2; rfl
 by_cases h3 : k = 67; · subst h3; rfl
 by_cases h4 : k = 46; · subst h4; rfl
 by_cases h5 : k = 63; · subst h5; rfl
 by_cases h6 : k = 48; · subst h6; rfl
 by_cases h7 : k = 47; · subst h7; rfl
 by_cases h8 : k = 50; · subst h8; rfl
 by_cases h9 : k = 62; · subst h9; rfl
 by_cases h10 : k = 49; · subst h10; rfl
 by_cases h11 : k = 99; · subst h11; rfl
 by_cases h12 : k = 55; · subst h12; rfl
 by_cases h13 : k = 56; · subst h13; rfl
 by_cases h14 : k = 57; · subst h14; rfl
 by_cases h15 : k = 58; · subst h15; rfl
 by_cases h16 : k = 59; · subst h16; rfl
 by_cases h17 : k = 60; · subst h17; rfl
 unfold ms_OpLevel opl
 simp only [h1, h2, h3, h4, h5, h6, h7, h8, h9, h10, h11, h12, h13, h14, h15, h16, h17, beq_eq_false_iff_ne.2, ne_eq, not_false_eq_true, cond_false, if_false, ms_OpLevel_k1, ms_OpLevel_k2, ms_OpLevel_k3, ms_OpLevel_k4]
theorem oplI (k : Int) : mi_OpLevel k = some (opl k) := oplS k
theorem opl_or (k : Int) : (opl k == 3) = (k == 44) := by
 by_cases h : k = 44
 ·subst h; rfl
 ·rw [beq_eq_false_iff_ne.2 h, beq_eq_false_iff_ne]
  unfold opl; rw [if_neg h]; intro e; repeat (first | omega | split at e)
theorem opl_and (k : Int) : (opl k == 4) = (k == 45) := by
 by_cases h : k = 45
 ·subst h; rfl
 ·rw [beq_eq_false_iff_ne.2 h, beq_eq_false_iff_ne]
  unfold opl; intro e; repeat (first | omega | split at e)
theorem opl_match (k : Int) : (opl k == 6) = (k == 67 || k == 46) := by
 by_cases h : k = 67
 ·subst h; rfl
 ·by_cases h2 : k = 46
  ·subst h2; rfl
  ·rw [beq_eq_false_iff_ne.2 h, beq_eq_false_iff_ne.2 h2, Bool.or_false, beq_eq_false_iff_ne]
   unfold opl; intro e; repeat (first | omega | split at e)

def bgB (k : Int) : Bool := k == 3 || (k == 4 || (k == 6 || (k == 7 || (k == 8 || (k == 32 || k == 68)))))
theorem bgS (k : Int) : ms_BeginsOperand k = some (bgB k) := by
 unfold ms_BeginsOperand bgB
 cases k == 3
 ·cases k == 4
  ·cases k == 6
   ·cases k == 7
    ·cases k == 8
     ·cases k == 32
      ·cases k == 68 <;> rfl
      ·rfl
     ·rfl
    ·rfl
   ·rfl
  ·rfl
 ·rfl
theorem bgI (k : Int) : mi_BeginsOperand k = some (bgB k) := bgS k

def goB (lv : Nat) (r : SRules) (k : Int) : Bool := bif lv == 8 then bgB k else opl k == (lv : Int) && !(k == 62 && r.noGt)
theorem go_lt {lv : Nat} (h : lv ≠ 0) {r : SRules} {l : List SToken} {j : Nat} (hg : goB lv r (kd l j) = true) : j < l.length := by
 apply kd_lt
 intro e
 rw [e] at hg
 unfold goB at hg
 cases h8 : (lv == 8) with
 | true => rw [h8, cond_true] at hg; revert hg; decide
 | false =>
  rw [h8, cond_false, Bool.and_eq_true] at hg
  have : opl 0 = (lv : Int) := by simpa using hg.1
  have e0 : opl 0 = 0 := by decide
  omega

theorem isOpS {lv : Nat} (p : SPos) (r : SRules) (hr : p.NoGt = r.noGt) (h0 : lv ≠ 0) (l : List SToken) (j : Nat) (ns : List SToken) : ms_l11Is (lv : Int) p l (j : Int) false ns = some (goB lv r (kd l j)) := by
  unfold ms_l11Is goB
  simp only [kindS, Option.bind_some, cond_false]
  cases h8 : (lv == 8) with
  | true =>
    have e : lv = 8 := by simpa using h8
    subst e
    simp only [bgS, Bool.not_false, cond_true, Option.bind_some]
    rfl
  | false =>
    have e : lv ≠ 8 := by simpa using h8
    have e2 : ((lv : Int) == 8) = false := by rw [beq_eq_false_iff_ne]; omega
    simp only [e2, cond_false, oplS, Option.bind_some, hr]
    by_cases k0 : kd l j = 0
    · rw [k0]
      have : (opl 0 == (lv : Int)) = false := by rw [beq_eq_false_iff_ne]; have e0 : opl 0 = 0 := by decide
                                                 omega
      rw [this]; rfl
    · by_cases k99 : kd l j = 99
      · rw [k99]
        have : (opl 99 == (lv : Int)) = false := by rw [beq_eq_false_iff_ne]; have e0 : opl 99 = 8 := by decide
                                                    omega
        rw [this]; rfl
      · have a1 : (kd l j != 0) = true := by simpa using k0
        have a2 : (kd l j != 99) = true := by simpa using k99
        simp only [a1, a2, cond_true]
        cases opl (kd l j) == (lv : Int)
        · rfl
        · by_cases k62 : kd l j = 62
          · rw [k62]; cases r.noGt <;> rfl
          · have a3 : (kd l j != 62) = true := by simpa using k62
            have a4 : (kd l j == 62) = false := by simpa using k62
            rw [a3, a4]; rfl

theorem chS_bad (N : Nat) (R : Rec1) (l : List SToken) (n : Nat) (a m : Int) (s : Int × Int) (p : SPos) (c : Int) (j : Nat) (held : Bool) (ns : List SToken) (L : List SNode) :
  ms_l11Chain_l2 N R l (n + 1) (a, m, s, p, c, (j : Int), true, held, ns, L) = some (⟨L, held⟩, (j : Int), true, ns) := by
 rw [ms_l11Chain_l2]
 unfold ms_l11Is
 simp only [kindS, cond_true, Bool.not_true, cond_false, Option.bind_some]
 cases decide (c < m) <;> rfl
theorem chS_stop (N : Nat) (R : Rec1) (l : List SToken) (n : Nat) {lv : Nat} (m : Int) (s : Int × Int) (p : SPos) (r : SRules) (hr : p.NoGt = r.noGt) (h0 : lv ≠ 0) (c : Int) (j : Nat) (held : Bool) (ns : List SToken) (L : List SNode) (h : ¬ (c < m) ∨ goB lv r (kd l j) = false) :
  ms_l11Chain_l2 N R l (n + 1) ((lv : Int), m, s, p, c, (j : Int), false, held, ns, L) = some (⟨L, held⟩, (j : Int), false, ns) := by
 rw [ms_l11Chain_l2]
 simp only [isOpS p r hr h0, Option.bind_some]
 rcases h with h | h
 ·have : decide (c < m) = false := by simpa using h
  simp only [this, cond_false, Option.bind_some]
 ·rw [h]
  cases decide (c < m) <;> rfl
def opI1 (lv j : Nat) : Nat := bif lv == 8 then j else j + 1
def opK (lv : Nat) (k : Int) : Int := bif lv == 8 then 99 else k
def NLr (lv : Nat) (M M' : Nat) (l : List SToken) (j1 j2 : Nat) (ns ms : List (List UInt8)) (ns' ms' : List SToken) : Prop :=
 if lv = 3 ∨ lv = 4 then mp_newlines M l (j1 : Int) false ns = some ((j2 : Int), ms) ∧ ms_l11Lines M' l (j1 : Int) false ns' = some ((j2 : Int), ms') else j2 = j1 ∧ ms = ns ∧ ms' = ns'
theorem chS_go (N M : Nat) (R : Rec1) (l : List SToken) (n : Nat) {lv : Nat} (m s : Int) (p : SPos) (r : SRules) (hr : p.NoGt = r.noGt) (h0 : lv ≠ 0) (c j j2 : Nat) (hj : j ≤ 3000) (hc0 : c ≤ 3000) (held : Bool) (ns ms : List (List UInt8)) (ns' ms' : List SToken) (L : List SNode) (hc : (c : Int) < m) (hg : goB lv r (kd l j) = true)
    (hnl : NLr lv M N l (opI1 lv j) j2 ns ms ns' ms') (X3 : SL11X) (j3 : Int) (b3 : Bool) (ns3 : List SToken) (hat : R.ms_l11At ⟨((lv + 1 : Nat) : Int), false, p.NoIn, p.NoGt, false⟩ l (j2 : Int) false ms' = some (X3, j3, b3, ns3)) (L2 : List SNode) (hmk : ms_l6Make N ⟨12, opK lv (kd l j), [], [], []⟩ [L, X3.l] = some L2) :
    ms_l11Chain_l2 N R l (n + 1) ((lv : Int), m, (s, ((lv + 1 : Nat) : Int)), p, (c : Int), (j : Int), false, held, ns', L) = ms_l11Chain_l2 N R l n ((lv : Int), m, (s, ((lv + 1 : Nat) : Int)), p, ((c + 1 : Nat) : Int), j3, b3, false, ns3, L2) := by
  rw [ms_l11Chain_l2]
  have hcd : decide ((c : Int) < m) = true := by simpa using hc
  simp only [isOpS p r hr h0, Option.bind_some, hcd, cond_true, hg, kindS]
  have k4 : ∀ op : Int, op = opK lv (kd l j) → ms_l11Chain_k4 N R l (ms_l11Chain_l2 N R l n) ((lv : Int), m, (s, ((lv + 1 : Nat) : Int)), (c : Int), op, false, p, held, L, (j2 : Int), ms') = ms_l11Chain_l2 N R l n ((lv : Int), m, (s, ((lv + 1 : Nat) : Int)), p, ((c + 1 : Nat) : Int), j3, b3, false, ns3, L2) := fun op hop => by
    subst hop
    unfold ms_l11Chain_k4 ms_l11Part ms_l11Over
    simp only [Option.bind_some, hat, hmk]
    rw [wrap64 (by omega) (by omega)]
    rfl
  have k3 : ∀ op : Int, op = opK lv (kd l j) → ms_l11Chain_k3 N R l (ms_l11Chain_l2 N R l n) ((lv : Int), m, (s, ((lv + 1 : Nat) : Int)), (c : Int), false, p, held, ns', L, op, ((opI1 lv j : Nat) : Int)) = ms_l11Chain_l2 N R l n ((lv : Int), m, (s, ((lv + 1 : Nat) : Int)), p, ((c + 1 : Nat) : Int), j3, b3, false, ns3, L2) := fun op hop => by
    unfold ms_l11Chain_k3
    simp only []
    unfold NLr at hnl
    by_cases h34 : lv = 3 ∨ lv = 4
    · rw [if_pos h34] at hnl
      have e : (bif ((lv : Int) == 3) then some true else (some ((lv : Int) == 4))) = some true := by
        rcases h34 with h | h <;> subst h <;> rfl
      simp only [e, Option.bind_some, cond_true, hnl.2]
      exact k4 op hop
    · rw [if_neg h34] at hnl
      have e3 : ((lv : Int) == 3) = false := by rw [beq_eq_false_iff_ne]; omega
      have e4 : ((lv : Int) == 4) = false := by rw [beq_eq_false_iff_ne]; omega
      simp only [e3, e4, cond_false, Option.bind_some]
      rw [← hnl.1, ← hnl.2.2]
      exact k4 op hop
  cases h8 : (lv == 8) with
  | true =>
    have e : ((lv : Int) != 8) = false := by have : lv = 8 := by simpa using h8
                                             subst this; rfl
    rw [e, cond_false]
    have := k3 99 (by unfold opK; rw [h8]; rfl)
    unfold opI1 at this
    rw [h8, cond_true] at this
    exact this
  | false =>
    have e : ((lv : Int) != 8) = true := by have : lv ≠ 8 := by simpa using h8
                                            rw [bne_iff_ne]; omega
    rw [e, cond_true]
    have := k3 (kd l j) (by unfold opK; rw [h8]; rfl)
    unfold opI1 at this
    rw [h8, cond_false] at this
    rw [wrap64 (by omega) (by omega)]
    exact this

abbrev IR := Rec2
def IL (lv : Nat) (R : IR) (r : SRules) (l : List SToken) (i : Int) (b : Bool) (ns : List (List UInt8)) : PI :=
 match lv with
 | 1 => R.mp_assign r l i b ns
 | 2 => R.mp_cond r l i b ns
 | 3 => R.mp_or r l i b ns
 | 4 => R.mp_and r l i b ns
 | 5 => R.mp_in r l i b ns
 | 6 => R.mp_match r l i b ns
 | 7 => R.mp_compare r l i b ns
 | 8 => R.mp_cat r l i b ns
 | 9 => R.mp_add r l i b ns
 | 10 => R.mp_mul r l i b ns
 | 11 => R.mp_unary r l i b ns
 | 12 => R.mp_pow r l i b ns
 | 13 => R.mp_incr l i b ns
 | 14 => R.mp_field l i b ns
 | _ => R.mp_primary l i b ns
def LV (l : List SToken) (i lv : Nat) : Prop := ∀ (M M' : Nat) (r : SRules) (p : SPos) (ns : List (List UInt8)) (ns' : List SToken), 1100000 + 100 * (l.length - i) + 4 * (16 - lv) ≤ M → 1100000 + 100 * (l.length - i) + 4 * (16 - lv) ≤ M' → ns.length ≤ i → ns'.length ≤ i → p.Level = (lv : Int) → p.NoIn = r.noIn → p.NoGt = r.noGt →
 PB l i (IL lv (scc2 M) r l (i : Int) false ns) ((scc1 M').ms_l11At p l (i : Int) false ns')

def PD (l : List SToken) (i : Nat) (p : SPart) (X : SL11X) (j : Nat) (b : Bool) (ns : List (List UInt8)) (ns' : List SToken) : Prop :=
 i ≤ j ∧ j ≤ l.length ∧ ns.length ≤ j ∧ ns'.length ≤ j ∧ SmN X.l ∧ X.l.length ≤ 2 * (j - i) + 1 ∧
  (b = false → i < j ∧ X.l = lst 0 p.tree ∧ p.target = (!X.held && isL p.tree.kind) ∧ szT p.tree + 1 ≤ 2 * (j - i))
theorem PB.out {l : List SToken} {i : Nat} {x : PI} {y : PS} (h : PB l i x y) : ∃ (p : SPart) (X : SL11X) (j : Nat) (b : Bool) (ns : List (List UInt8)) (ns' : List SToken), x = some (p, (j : Int), b, ns) ∧ y = some (X, (j : Int), b, ns') ∧ PD l i p X j b ns ns' := h
theorem PD.pb {l : List SToken} {i : Nat} {p : SPart} {X : SL11X} {j : Nat} {b : Bool} {ns : List (List UInt8)} {ns' : List SToken} (h : PD l i p X j b ns ns') : PB l i (some (p, (j : Int), b, ns)) (some (X, (j : Int), b, ns')) := ⟨p, X, j, b, ns, ns', rfl, rfl, h⟩

theorem PD.bad {l : List SToken} {i i' : Nat} {p q : SPart} {X Y : SL11X} {j : Nat} {ns : List (List UInt8)} {ns' : List SToken} (h : PD l i' p X j true ns ns') (hi : i ≤ i') (hy : Y.l = X.l) : PD l i q Y j true ns ns' := by
 obtain ⟨h1, h2, h3, h4, h5, h6, h7⟩ := h
 exact ⟨by omega, h2, h3, h4, by rw [hy]; exact h5, by rw [hy]; omega, fun h => by cases h⟩

theorem nd2 {l : List SToken} (hl : l.length ≤ 3000) {N i j j2 : Nat} (hN : 1048577 < N) (k op : Int) (hk : isL k = false) {p p3 : SPart} {X X3 : SL11X} {ns ns3 : List (List UInt8)} {ns' ns3' : List SToken} {j3 : Nat} {b3 : Bool} (hL : PD l i p X j false ns ns') (hj : j ≤ j2) (hR : PD l j2 p3 X3 j3 b3 ns3 ns3') :
  ∃ r, ms_l6Make N ⟨k, op, [], [], []⟩ [X.l, X3.l] = some r ∧ PD l i ⟨⟨k, op, [], [], [p.tree, p3.tree]⟩, false⟩ ⟨r, false⟩ j3 b3 ns3 ns3' := by
 obtain ⟨a1, a2, a3, a4, a5, a6, a7⟩ := hL
 obtain ⟨b1, b2, b3', b4, b5, b6, b7⟩ := hR
 obtain ⟨c1, c2, c3, c4⟩ := a7 rfl
 have hlen : X.l.length = szT p.tree := by rw [c2, lst_len]
 obtain ⟨r, r1, r2⟩ := fin_PB hl hN k op [] (by simp) false [p.tree, p3.tree] [X.l, X3.l] b3 ns3 ns3' (i := i) (j := j3) (by omega) b2 b3' b4 (by simp only [lenS_cons]; show _ + (_ + 0) ≤ _; omega) (by simp) (fun L hL => by
  simp only [List.mem_cons, List.not_mem_nil, or_false] at hL
  rcases hL with h | h <;> subst h <;> assumption) hk.symm (fun hb => by
  obtain ⟨d1, d2, d3, d4⟩ := b7 hb
  refine ⟨by omega, by simp [c2, d2], ?_⟩
  simp only [szTs]; omega)
 obtain ⟨p', X', j', b', n1, n2, e1, e2, hd⟩ := r2.out
 simp only [Option.some.injEq, Prod.mk.injEq, Int.natCast_inj] at e1 e2
 obtain ⟨rfl, rfl, rfl, rfl⟩ := e1
 obtain ⟨rfl, -, -, rfl⟩ := e2
 exact ⟨r, r1, hd⟩

abbrev LSt := SRules × Int × Bool × Int × Int × (List UInt8) × (List UInt8) × (List STree) × Bool × (List (List UInt8))
section chain
variable {l : List SToken} (hl : l.length ≤ 3000) {i lv : Nat} (h0 : lv ≠ 0) (IH : ∀ i', i < i' → i' ≤ l.length → LV l i' (lv + 1)) {M M' : Nat} (hM : 1100000 + 100 * (l.length - i) ≤ M) (hM' : 1100000 + 100 * (l.length - i) ≤ M') (r : SRules) (p0 : SPos) (hin : p0.NoIn = r.noIn) (hgt : p0.NoGt = r.noGt) (s : Int)
include hl h0 IH hM hM' hin hgt

theorem ch_step {j : Nat} {p : SPart} {X : SL11X} {ns : List (List UInt8)} {ns' : List SToken} (hd : PD l i p X j false ns ns') (hg : goB lv r (kd l j) = true) (m : Int) (c : Nat) (hc : (c : Int) < m) (hc0 : c ≤ 3000) :
  ∃ (j2 : Nat) (ms : List (List UInt8)) (ms' : List SToken) (q : SPart) (j3 : Nat) (b3 : Bool) (ns3 : List (List UInt8)) (ns3' : List SToken) (L2 : List SNode), i < j2 ∧ j ≤ j2 ∧ NLr lv M M' l (opI1 lv j) j2 ns ms ns' ms' ∧
   IL (lv + 1) (scc2 M) r l (j2 : Int) false ms = some (q, (j3 : Int), b3, ns3) ∧
   (∀ n, ms_l11Chain_l2 M' (scc1 M') l (n + 1) ((lv : Int), m, (s, ((lv + 1 : Nat) : Int)), p0, (c : Int), (j : Int), false, X.held, ns', X.l) = ms_l11Chain_l2 M' (scc1 M') l n ((lv : Int), m, (s, ((lv + 1 : Nat) : Int)), p0, ((c + 1 : Nat) : Int), (j3 : Int), b3, false, ns3', L2)) ∧
   PD l i ⟨⟨12, opK lv (kd l j), [], [], [p.tree, q.tree]⟩, false⟩ ⟨L2, false⟩ j3 b3 ns3 ns3' ∧ (b3 = false → j < j3) := by
 have hjl := go_lt h0 hg
 obtain ⟨a1, a2, a3, a4, a5, a6, a7⟩ := id hd
 have hij : i < j := (a7 rfl).1
 have hnl : ∃ (j2 : Nat) (ms : List (List UInt8)) (ms' : List SToken), j ≤ j2 ∧ j2 ≤ l.length ∧ ms.length ≤ j2 ∧ ms'.length ≤ j2 ∧ NLr lv M M' l (opI1 lv j) j2 ns ms ns' ms' := by
  unfold NLr
  by_cases h34 : lv = 3 ∨ lv = 4
  ·have e : opI1 lv j = j + 1 := by unfold opI1; rcases h34 with h | h <;> subst h <;> rfl
   obtain ⟨j2, ms, ms', b1, b2, b3, b4, b5, b6⟩ := nl_is hl (N := M) (N' := M') (by omega) (by omega) (i := j + 1) ns ns' (by omega) (by omega) (by omega)
   refine ⟨j2, ms, ms', by omega, b2, b3, b4, ?_⟩
   rw [if_pos h34, e]
   exact ⟨b5, b6⟩
  ·have e : j ≤ opI1 lv j ∧ opI1 lv j ≤ j + 1 := by
    unfold opI1
    cases (lv == 8)
    ·rw [cond_false]; omega
    ·rw [cond_true]; omega
   refine ⟨opI1 lv j, ns, ns', e.1, by omega, by omega, by omega, ?_⟩
   rw [if_neg h34]
   exact ⟨rfl, rfl, rfl⟩
 obtain ⟨j2, ms, ms', g1, g2, g3, g4, g5⟩ := hnl
 obtain ⟨q, X3, j3, b3, ns3, ns3', e1, e2, hd3⟩ := (IH j2 (by omega) g2 M M' r ⟨((lv + 1 : Nat) : Int), false, p0.NoIn, p0.NoGt, false⟩ ms ms' (by omega) (by omega) g3 g4 rfl hin hgt).out
 obtain ⟨L2, m1, m2⟩ := nd2 hl (N := M') (by omega) 12 (opK lv (kd l j)) rfl hd g1 hd3
 refine ⟨j2, ms, ms', q, j3, b3, ns3, ns3', L2, by omega, g1, g5, e1, fun n => ?_, m2, fun hb => ?_⟩
 ·exact chS_go M' M (scc1 M') l n m s p0 r hgt h0 c j j2 (by omega) hc0 X.held ns ms ns' ms' X.l hc hg g5 X3 j3 b3 ns3' e2 L2 m1
 ·have := (hd3.2.2.2.2.2.2 hb).1; omega

theorem chain_l (lp : Nat → LSt → PI)
  (H1 : ∀ (n j : Nat) (b : Bool) (t : STree) (tg : Bool) (ns : List (List UInt8)), (b = true ∨ goB lv r (kd l j) = false) → lp (n + 1) (r, (j : Int), b, t.kind, t.op, t.text, t.other, t.kids, tg, ns) = some (⟨t, tg⟩, (j : Int), b, ns))
  (H2 : ∀ (n j j2 : Nat) (t : STree) (tg : Bool) (ns ms : List (List UInt8)) (ns' ms' : List SToken), goB lv r (kd l j) = true → j < l.length → NLr lv M M' l (opI1 lv j) j2 ns ms ns' ms' → lp (n + 1) (r, (j : Int), false, t.kind, t.op, t.text, t.other, t.kids, tg, ns) = Option.bind (IL (lv + 1) (scc2 M) r l (j2 : Int) false ms) fun q => lp n (r, q.2.1, q.2.2.1, 12, opK lv (kd l j), [], [], [t, q.1.tree], false, q.2.2.2)) :
  ∀ (n n' c : Nat) (p : SPart) (X : SL11X) (j : Nat) (b : Bool) (ns : List (List UInt8)) (ns' : List SToken), 0 < n → 0 < n' → (b = false → l.length - j < n ∧ l.length - j < n' ∧ c ≤ j) → PD l i p X j b ns ns' →
   PB l i (lp n (r, (j : Int), b, p.tree.kind, p.tree.op, p.tree.text, p.tree.other, p.tree.kids, p.target, ns)) (ms_l11Chain_l2 M' (scc1 M') l n' ((lv : Int), 3000, (s, ((lv + 1 : Nat) : Int)), p0, (c : Int), (j : Int), b, X.held, ns', X.l)) := by
 intro n
 induction n with
 | zero => intro n' c p X j b ns ns' h; omega
 | succ n ih =>
  intro n' c p X j b ns ns' _ hn' hb hd
  obtain ⟨n', rfl⟩ : ∃ k, n' = k + 1 := ⟨n' - 1, by omega⟩
  cases b with
  | true =>
   rw [H1 n j true p.tree p.target ns (Or.inl rfl), chS_bad]
   exact hd.pb
  | false =>
   obtain ⟨k1, k2, k3⟩ := hb rfl
   cases hg : goB lv r (kd l j) with
   | false =>
    rw [H1 n j false p.tree p.target ns (Or.inr hg), chS_stop M' _ l n' 3000 _ p0 r hgt h0 c j X.held ns' X.l (Or.inr hg)]
    exact hd.pb
   | true =>
    have hjl := go_lt h0 hg
    obtain ⟨j2, ms, ms', q, j3, b3, ns3, ns3', L2, f1, f1', f2, f3, f4, f5, f6⟩ := ch_step hl h0 IH hM hM' r p0 hin hgt s hd hg 3000 c (by omega) (by omega)
    rw [H2 n j j2 p.tree p.target ns ms ns' ms' hg hjl f2, f3, Option.bind_some, f4 n']
    exact ih n' (c + 1) ⟨⟨12, opK lv (kd l j), [], [], [p.tree, q.tree]⟩, false⟩ ⟨L2, false⟩ j3 b3 ns3 ns3' (by omega) (by omega) (fun h => by have := f6 h; omega) f5

theorem chain_1 (g : (SPart × Int × Bool × List (List UInt8)) → PI) (h34 : ¬ (lv = 3 ∨ lv = 4))
  (H1 : ∀ (j : Nat) (b : Bool) (p : SPart) (ns : List (List UInt8)), (b = true ∨ goB lv r (kd l j) = false) → g (p, (j : Int), b, ns) = some (p, (j : Int), b, ns))
  (H2 : ∀ (j : Nat) (p : SPart) (ns : List (List UInt8)), goB lv r (kd l j) = true → j < l.length → g (p, (j : Int), false, ns) = Option.bind (IL (lv + 1) (scc2 M) r l ((opI1 lv j : Nat) : Int) false ns) fun q => some (⟨⟨12, opK lv (kd l j), [], [], [p.tree, q.1.tree]⟩, false⟩, q.2.1, q.2.2.1, q.2.2.2))
  (p : SPart) (X : SL11X) (j : Nat) (b : Bool) (ns : List (List UInt8)) (ns' : List SToken) (n' : Nat) (hn' : 1 < n') (hd : PD l i p X j b ns ns') :
   PB l i (g (p, (j : Int), b, ns)) (ms_l11Chain_l2 M' (scc1 M') l n' ((lv : Int), 1, (s, ((lv + 1 : Nat) : Int)), p0, 0, (j : Int), b, X.held, ns', X.l)) := by
 obtain ⟨n', rfl⟩ : ∃ k, n' = k + 1 + 1 := ⟨n' - 2, by omega⟩
 cases b with
 | true =>
  rw [H1 j true p ns (Or.inl rfl), chS_bad]
  exact hd.pb
 | false =>
  cases hg : goB lv r (kd l j) with
  | false =>
   rw [H1 j false p ns (Or.inr hg), chS_stop M' _ l (n' + 1) 1 _ p0 r hgt h0 0 j X.held ns' X.l (Or.inr hg)]
   exact hd.pb
  | true =>
   have hjl := go_lt h0 hg
   obtain ⟨j2, ms, ms', q, j3, b3, ns3, ns3', L2, f1, f1', f2, f3, f4, f5, f6⟩ := ch_step hl h0 IH hM hM' r p0 hin hgt s hd hg 1 0 (by omega) (by omega)
   unfold NLr at f2
   rw [if_neg h34] at f2
   obtain ⟨rfl, rfl, rfl⟩ := f2
   have f4' := f4 (n' + 1)
   rw [show ((0 : Nat) : Int) = 0 from rfl] at f4'
   rw [H2 j p ms hg hjl, f3, Option.bind_some, f4']
   cases b3 with
   | true => rw [chS_bad]; exact f5.pb
   | false =>
    rw [chS_stop M' _ l n' 1 _ p0 r hgt h0 _ j3 false ns3' L2 (Or.inl (by omega))]
    exact f5.pb
end chain

theorem go_opl {lv : Nat} (h7 : lv ≠ 7) (h8 : lv ≠ 8) (r : SRules) (k : Int) : goB lv r k = (opl k == (lv : Int)) := by
  unfold goB
  have e : (lv == 8) = false := by simpa using h8
  rw [e, cond_false]
  by_cases k62 : k = 62
  · subst k62
    have e0 : (opl 62 == (lv : Int)) = false := by rw [beq_eq_false_iff_ne]; have : opl 62 = 7 := by decide
                                                   omega
    rw [e0]; rfl
  · rw [beq_eq_false_iff_ne.2 k62]; simp

section
set_option linter.unusedSectionVars false
variable {l : List SToken} (hl : l.length ≤ 3000) {i : Nat}
include hl

theorem chain_top {lv : Nat} (h0 : lv ≠ 0) (hlv : lv < 15) (IH : ∀ i', i < i' → i' ≤ l.length → LV l i' (lv + 1)) (hS : LV l i (lv + 1)) {M M' : Nat} (hM : 1100000 + 100 * (l.length - i) + 4 * (16 - lv) ≤ M + 4) (hM' : 1100000 + 100 * (l.length - i) + 4 * (16 - lv) ≤ M' + 4) (r : SRules) (p0 : SPos) (hin : p0.NoIn = r.noIn) (hgt : p0.NoGt = r.noGt) (s : Int)
  (lp : Nat → LSt → PI)
  (H1 : ∀ (n j : Nat) (b : Bool) (t : STree) (tg : Bool) (ns : List (List UInt8)), (b = true ∨ goB lv r (kd l j) = false) → lp (n + 1) (r, (j : Int), b, t.kind, t.op, t.text, t.other, t.kids, tg, ns) = some (⟨t, tg⟩, (j : Int), b, ns))
  (H2 : ∀ (n j j2 : Nat) (t : STree) (tg : Bool) (ns ms : List (List UInt8)) (ns' ms' : List SToken), goB lv r (kd l j) = true → j < l.length → NLr lv M M' l (opI1 lv j) j2 ns ms ns' ms' → lp (n + 1) (r, (j : Int), false, t.kind, t.op, t.text, t.other, t.kids, tg, ns) = Option.bind (IL (lv + 1) (scc2 M) r l (j2 : Int) false ms) fun q => lp n (r, q.2.1, q.2.2.1, 12, opK lv (kd l j), [], [], [t, q.1.tree], false, q.2.2.2))
  (ns : List (List UInt8)) (ns' : List SToken) (hn : ns.length ≤ i) (hn' : ns'.length ≤ i) :
  PB l i (Option.bind (IL (lv + 1) (scc2 M) r l (i : Int) false ns) fun q => lp M (r, q.2.1, q.2.2.1, q.1.tree.kind, q.1.tree.op, q.1.tree.text, q.1.tree.other, q.1.tree.kids, q.1.target, q.2.2.2))
   (Option.bind ((scc1 M').ms_l11At ⟨((lv + 1 : Nat) : Int), false, p0.NoIn, p0.NoGt, false⟩ l (i : Int) false ns') fun q => ms_l11Chain_l2 M' (scc1 M') l M' ((lv : Int), 3000, (s, ((lv + 1 : Nat) : Int)), p0, 0, q.2.1, q.2.2.1, q.1.held, q.2.2.2, q.1.l)) := by
 obtain ⟨q, X, j, b, ns3, ns3', e1, e2, hd⟩ := (hS M M' r ⟨((lv + 1 : Nat) : Int), false, p0.NoIn, p0.NoGt, false⟩ ns ns' (by omega) (by omega) hn hn' rfl hin hgt).out
 rw [e1, e2, Option.bind_some, Option.bind_some]
 exact chain_l hl h0 IH (by omega) (by omega) r p0 hin hgt s lp H1 H2 M M' 0 q X j b ns3 ns3' (by omega) (by omega) (fun _ => by have := hd.1; omega) hd

theorem chain_top1 {lv : Nat} (h0 : lv ≠ 0) (hlv : lv < 15) (h34 : ¬ (lv = 3 ∨ lv = 4)) (IH : ∀ i', i < i' → i' ≤ l.length → LV l i' (lv + 1)) (hS : LV l i (lv + 1)) {M M' : Nat} (hM : 1100000 + 100 * (l.length - i) + 4 * (16 - lv) ≤ M + 4) (hM' : 1100000 + 100 * (l.length - i) + 4 * (16 - lv) ≤ M' + 4) (r : SRules) (p0 : SPos) (hin : p0.NoIn = r.noIn) (hgt : p0.NoGt = r.noGt) (s : Int)
  (g : (SPart × Int × Bool × List (List UInt8)) → PI)
  (H1 : ∀ (j : Nat) (b : Bool) (p : SPart) (ns : List (List UInt8)), (b = true ∨ goB lv r (kd l j) = false) → g (p, (j : Int), b, ns) = some (p, (j : Int), b, ns))
  (H2 : ∀ (j : Nat) (p : SPart) (ns : List (List UInt8)), goB lv r (kd l j) = true → j < l.length → g (p, (j : Int), false, ns) = Option.bind (IL (lv + 1) (scc2 M) r l ((opI1 lv j : Nat) : Int) false ns) fun q => some (⟨⟨12, opK lv (kd l j), [], [], [p.tree, q.1.tree]⟩, false⟩, q.2.1, q.2.2.1, q.2.2.2))
  (ns : List (List UInt8)) (ns' : List SToken) (hn : ns.length ≤ i) (hn' : ns'.length ≤ i) :
  PB l i (Option.bind (IL (lv + 1) (scc2 M) r l (i : Int) false ns) g)
   (Option.bind ((scc1 M').ms_l11At ⟨((lv + 1 : Nat) : Int), false, p0.NoIn, p0.NoGt, false⟩ l (i : Int) false ns') fun q => ms_l11Chain_l2 M' (scc1 M') l M' ((lv : Int), 1, (s, ((lv + 1 : Nat) : Int)), p0, 0, q.2.1, q.2.2.1, q.1.held, q.2.2.2, q.1.l)) := by
 obtain ⟨q, X, j, b, ns3, ns3', e1, e2, hd⟩ := (hS M M' r ⟨((lv + 1 : Nat) : Int), false, p0.NoIn, p0.NoGt, false⟩ ns ns' (by omega) (by omega) hn hn' rfl hin hgt).out
 rw [e1, e2, Option.bind_some, Option.bind_some]
 exact chain_1 hl h0 IH (by omega) (by omega) r p0 hin hgt s g h34 H1 H2 q X j b ns3 ns3' M' (by omega) hd

theorem atChain (lv : Nat) (m s : Int) (h : (lv = 3 ∧ m = 3000 ∧ s = 3) ∨ (lv = 4 ∧ m = 3000 ∧ s = 4) ∨ (lv = 6 ∧ m = 1 ∧ s = 7) ∨ (lv = 7 ∧ m = 1 ∧ s = 8) ∨ (lv = 8 ∧ m = 3000 ∧ s = 8) ∨ (lv = 9 ∧ m = 3000 ∧ s = 9) ∨ (lv = 10 ∧ m = 3000 ∧ s = 10)) (M : Nat) (p : SPos) (hp : p.Level = (lv : Int)) (ns : List SToken) :
    (scc1 (M + 2)).ms_l11At p l (i : Int) false ns = Option.bind ((scc1 M).ms_l11At ⟨((lv + 1 : Nat) : Int), false, p.NoIn, p.NoGt, false⟩ l (i : Int) false ns) fun q => ms_l11Chain_l2 M (scc1 M) l M ((lv : Int), m, (s, ((lv + 1 : Nat) : Int)), p, 0, q.2.1, q.2.2.1, q.1.held, q.2.2.2, q.1.l) := by
  show ms_l11At_F (M + 1) (scc1 (M + 1)) p l (i : Int) false ns = _
  unfold ms_l11At_F
  rcases h with ⟨rfl, rfl, rfl⟩ | ⟨rfl, rfl, rfl⟩ | ⟨rfl, rfl, rfl⟩ | ⟨rfl, rfl, rfl⟩ | ⟨rfl, rfl, rfl⟩ | ⟨rfl, rfl, rfl⟩ | ⟨rfl, rfl, rfl⟩
  all_goals
    simp only [cond_false, hp, Int.cast_ofNat_Int, Int.reduceBEq, cond_true]
    unfold ms_l11At_k1
    simp only [hp, Int.cast_ofNat_Int, Int.reduceBEq, cond_true, cond_false]
    first
    | (rw [bind_eta4]; rfl)
    | (unfold ms_l11At_k2
       simp only [cond_true, cond_false, hp, Int.cast_ofNat_Int]
       rw [bind_eta4]; rfl)

theorem lv_mul (IH : ∀ i', i < i' → i' ≤ l.length → LV l i' 11) (hS : LV l i 11) : LV l i 10 := by
 intro M M' r p ns ns' hM hM' hn hn' hp hin hgt
 obtain ⟨M, rfl⟩ : ∃ k, M = k + 1 := ⟨M - 1, by omega⟩
 obtain ⟨M', rfl⟩ : ∃ k, M' = k + 2 := ⟨M' - 2, by omega⟩
 rw [atChain hl 10 3000 10 (by simp) M' p hp ns']
 refine chain_top hl (lv := 10) (by decide) (by decide) IH hS (by omega) (by omega) r p hin hgt 10 (mp_mul_l1 M (scc2 M) l) ?_ ?_ ns ns' hn hn'
 ·intro n j b t tg ns h
  obtain ⟨tk, tp, tt, tu, ts⟩ := t
  rw [mp_mul_l1]
  cases b with
  | true => simp only [Bool.not_true, cond_false, Option.bind_some]
  | false =>
   have h := h.resolve_left (by simp)
   rw [go_opl (by decide) (by decide)] at h
   simp only [Bool.not_false, cond_true, kindI, oplI, Option.bind_some]
   rw [show ((10 : Nat) : Int) = 10 from rfl] at h
   rw [h]; rfl
 ·intro n j j2 t tg ns ms ns' ms' h hj hnl
  obtain ⟨tk, tp, tt, tu, ts⟩ := t
  unfold NLr at hnl
  rw [if_neg (by decide)] at hnl
  obtain ⟨rfl, rfl, rfl⟩ := hnl
  rw [go_opl (by decide) (by decide), show ((10 : Nat) : Int) = 10 from rfl] at h
  rw [mp_mul_l1]
  simp only [Bool.not_false, cond_true, kindI, oplI, Option.bind_some, h]
  rw [wrap64 (by omega) (by omega)]
  rfl

theorem lv_add (IH : ∀ i', i < i' → i' ≤ l.length → LV l i' 10) (hS : LV l i 10) : LV l i 9 := by
 intro M M' r p ns ns' hM hM' hn hn' hp hin hgt
 obtain ⟨M, rfl⟩ : ∃ k, M = k + 1 := ⟨M - 1, by omega⟩
 obtain ⟨M', rfl⟩ : ∃ k, M' = k + 2 := ⟨M' - 2, by omega⟩
 rw [atChain hl 9 3000 9 (by simp) M' p hp ns']
 refine chain_top hl (lv := 9) (by decide) (by decide) IH hS (by omega) (by omega) r p hin hgt 9 (mp_add_l1 M (scc2 M) l) ?_ ?_ ns ns' hn hn'
 ·intro n j b t tg ns h
  obtain ⟨tk, tp, tt, tu, ts⟩ := t
  rw [mp_add_l1]
  cases b with
  | true => simp only [Bool.not_true, cond_false, Option.bind_some]
  | false =>
   have h := h.resolve_left (by simp)
   rw [go_opl (by decide) (by decide)] at h
   simp only [Bool.not_false, cond_true, kindI, oplI, Option.bind_some]
   rw [show ((9 : Nat) : Int) = 9 from rfl] at h
   rw [h]; rfl
 ·intro n j j2 t tg ns ms ns' ms' h hj hnl
  obtain ⟨tk, tp, tt, tu, ts⟩ := t
  unfold NLr at hnl
  rw [if_neg (by decide)] at hnl
  obtain ⟨rfl, rfl, rfl⟩ := hnl
  rw [go_opl (by decide) (by decide), show ((9 : Nat) : Int) = 9 from rfl] at h
  rw [mp_add_l1]
  simp only [Bool.not_false, cond_true, kindI, oplI, Option.bind_some, h]
  rw [wrap64 (by omega) (by omega)]
  rfl

theorem lv_cat (IH : ∀ i', i < i' → i' ≤ l.length → LV l i' 9) (hS : LV l i 9) : LV l i 8 := by
 intro M M' r p ns ns' hM hM' hn hn' hp hin hgt
 obtain ⟨M, rfl⟩ : ∃ k, M = k + 1 := ⟨M - 1, by omega⟩
 obtain ⟨M', rfl⟩ : ∃ k, M' = k + 2 := ⟨M' - 2, by omega⟩
 rw [atChain hl 8 3000 8 (by simp) M' p hp ns']
 refine chain_top hl (lv := 8) (by decide) (by decide) IH hS (by omega) (by omega) r p hin hgt 8 (mp_cat_l1 M (scc2 M) l) ?_ ?_ ns ns' hn hn'
 ·intro n j b t tg ns h
  obtain ⟨tk, tp, tt, tu, ts⟩ := t
  rw [mp_cat_l1]
  cases b with
  | true => simp only [Bool.not_true, cond_false, Option.bind_some]
  | false =>
   have h : bgB (kd l j) = false := h.resolve_left (by simp)
   simp only [Bool.not_false, cond_true, kindI, bgI, Option.bind_some, h, cond_false]
 ·intro n j j2 t tg ns ms ns' ms' h hj hnl
  obtain ⟨tk, tp, tt, tu, ts⟩ := t
  unfold NLr at hnl
  rw [if_neg (by decide)] at hnl
  have h : bgB (kd l j) = true := h
  obtain ⟨rfl, rfl, rfl⟩ := hnl
  rw [mp_cat_l1]
  simp only [Bool.not_false, cond_true, kindI, bgI, Option.bind_some, h]
  rfl

theorem lv_or (IH : ∀ i', i < i' → i' ≤ l.length → LV l i' 4) (hS : LV l i 4) : LV l i 3 := by
 intro M M' r p ns ns' hM hM' hn hn' hp hin hgt
 obtain ⟨M, rfl⟩ : ∃ k, M = k + 1 := ⟨M - 1, by omega⟩
 obtain ⟨M', rfl⟩ : ∃ k, M' = k + 2 := ⟨M' - 2, by omega⟩
 rw [atChain hl 3 3000 3 (by simp) M' p hp ns']
 refine chain_top hl (lv := 3) (by decide) (by decide) IH hS (by omega) (by omega) r p hin hgt 3 (mp_or_l1 M (scc2 M) l) ?_ ?_ ns ns' hn hn'
 ·intro n j b t tg ns h
  obtain ⟨tk, tp, tt, tu, ts⟩ := t
  rw [mp_or_l1]
  cases b with
  | true => simp only [Bool.not_true, cond_false, Option.bind_some]
  | false =>
   have h := h.resolve_left (by simp)
   rw [go_opl (by decide) (by decide)] at h
   rw [show ((3 : Nat) : Int) = 3 from rfl, opl_or] at h
   simp only [Bool.not_false, cond_true, kindI, Option.bind_some, h, cond_false]
 ·intro n j j2 t tg ns ms ns' ms' h hj hnl
  obtain ⟨tk, tp, tt, tu, ts⟩ := t
  unfold NLr at hnl
  rw [if_pos (by decide)] at hnl
  have e : opI1 3 j = j + 1 := rfl
  rw [e] at hnl
  rw [go_opl (by decide) (by decide), show ((3 : Nat) : Int) = 3 from rfl, opl_or] at h
  have hk : kd l j = 44 := by simpa using h
  rw [mp_or_l1]
  simp only [Bool.not_false, cond_true, kindI, Option.bind_some, h]
  rw [wrap64 (by omega) (by omega), show ((j : Int) + 1) = ((j + 1 : Nat) : Int) by omega, hnl.1, Option.bind_some, hk]
  rfl

theorem lv_and (IH : ∀ i', i < i' → i' ≤ l.length → LV l i' 5) (hS : LV l i 5) : LV l i 4 := by
 intro M M' r p ns ns' hM hM' hn hn' hp hin hgt
 obtain ⟨M, rfl⟩ : ∃ k, M = k + 1 := ⟨M - 1, by omega⟩
 obtain ⟨M', rfl⟩ : ∃ k, M' = k + 2 := ⟨M' - 2, by omega⟩
 rw [atChain hl 4 3000 4 (by simp) M' p hp ns']
 refine chain_top hl (lv := 4) (by decide) (by decide) IH hS (by omega) (by omega) r p hin hgt 4 (mp_and_l1 M (scc2 M) l) ?_ ?_ ns ns' hn hn'
 ·intro n j b t tg ns h
  obtain ⟨tk, tp, tt, tu, ts⟩ := t
  rw [mp_and_l1]
  cases b with
  | true => simp only [Bool.not_true, cond_false, Option.bind_some]
  | false =>
   have h := h.resolve_left (by simp)
   rw [go_opl (by decide) (by decide)] at h
   rw [show ((4 : Nat) : Int) = 4 from rfl, opl_and] at h
   simp only [Bool.not_false, cond_true, kindI, Option.bind_some, h, cond_false]
 ·intro n j j2 t tg ns ms ns' ms' h hj hnl
  obtain ⟨tk, tp, tt, tu, ts⟩ := t
  unfold NLr at hnl
  rw [if_pos (by decide)] at hnl
  have e : opI1 4 j = j + 1 := rfl
  rw [e] at hnl
  rw [go_opl (by decide) (by decide), show ((4 : Nat) : Int) = 4 from rfl, opl_and] at h
  have hk : kd l j = 45 := by simpa using h
  rw [mp_and_l1]
  simp only [Bool.not_false, cond_true, kindI, Option.bind_some, h]
  rw [wrap64 (by omega) (by omega), show ((j : Int) + 1) = ((j + 1 : Nat) : Int) by omega, hnl.1, Option.bind_some, hk]
  rfl

theorem lv_compare (IH : ∀ i', i < i' → i' ≤ l.length → LV l i' 8) (hS : LV l i 8) : LV l i 7 := by
 intro M M' r p ns ns' hM hM' hn hn' hp hin hgt
 obtain ⟨M, rfl⟩ : ∃ k, M = k + 1 := ⟨M - 1, by omega⟩
 obtain ⟨M', rfl⟩ : ∃ k, M' = k + 2 := ⟨M' - 2, by omega⟩
 rw [atChain hl 7 1 8 (by simp) M' p hp ns']
 refine chain_top1 hl (lv := 7) (by decide) (by decide) (by decide) IH hS (by omega) (by omega) r p hin hgt 8 _ ?_ ?_ ns ns' hn hn'
 ·intro j b q ns h
  cases b with
  | true => rfl
  | false =>
   have h : (opl (kd l j) == 7 && !(kd l j == 62 && r.noGt)) = false := h.resolve_left (by simp)
   simp only [cond_false, kindI, oplI, Option.bind_some]
   cases ho : opl (kd l j) == 7 with
   | false => rw [show (opl (kd l j) != 7) = true by rw [bne, ho]; rfl]; rfl
   | true =>
    rw [show (opl (kd l j) != 7) = false by rw [bne, ho]; rfl, cond_false]
    rw [ho, Bool.true_and, Bool.not_eq_false', Bool.and_eq_true] at h
    rw [h.1, h.2]; rfl
 ·intro j q ns h hj
  have h : (opl (kd l j) == 7 && !(kd l j == 62 && r.noGt)) = true := h
  rw [Bool.and_eq_true, Bool.not_eq_true'] at h
  simp only [cond_false, kindI, oplI, Option.bind_some]
  rw [show (opl (kd l j) != 7) = false by rw [bne, h.1]; rfl, cond_false]
  have e : (bif r.noGt then some (kd l j == 62) else some false) = some false := by
   have h2 := h.2
   revert h2
   cases r.noGt <;> cases (kd l j == 62) <;> simp
  rw [e, Option.bind_some, cond_false, wrap64 (by omega) (by omega)]
  rfl

theorem lv_match (IH : ∀ i', i < i' → i' ≤ l.length → LV l i' 7) (hS : LV l i 7) : LV l i 6 := by
 intro M M' r p ns ns' hM hM' hn hn' hp hin hgt
 obtain ⟨M, rfl⟩ : ∃ k, M = k + 1 := ⟨M - 1, by omega⟩
 obtain ⟨M', rfl⟩ : ∃ k, M' = k + 2 := ⟨M' - 2, by omega⟩
 rw [atChain hl 6 1 7 (by simp) M' p hp ns']
 refine chain_top1 hl (lv := 6) (by decide) (by decide) (by decide) IH hS (by omega) (by omega) r p hin hgt 7 _ ?_ ?_ ns ns' hn hn'
 ·intro j b q ns h
  cases b with
  | true => rfl
  | false =>
   have h := h.resolve_left (by simp)
   rw [go_opl (by decide) (by decide), show ((6 : Nat) : Int) = 6 from rfl, opl_match, Bool.or_eq_false_iff] at h
   simp only [cond_false, kindI, Option.bind_some, bne, h.1, h.2]
   rfl
 ·intro j q ns h hj
  rw [go_opl (by decide) (by decide), show ((6 : Nat) : Int) = 6 from rfl, opl_match] at h
  simp only [cond_false, kindI, Option.bind_some, bne]
  have e : (bif !(kd l j == 67) then some !(kd l j == 46) else some false) = some false := by
   revert h
   cases (kd l j == 67) <;> cases (kd l j == 46) <;> simp
  rw [e, Option.bind_some, cond_false, wrap64 (by omega) (by omega)]
  rfl
end

end Go.Proofs.Tryz
