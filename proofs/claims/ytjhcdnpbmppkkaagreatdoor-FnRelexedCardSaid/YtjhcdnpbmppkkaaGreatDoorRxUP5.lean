/-
 Plain lemmas on the models, part 5.
-/
import Derived.Test.YtjhcdnpbmppkkaaGreatDoorRxUP4
namespace Go.Proofs.Tryz
open Go.Av
set_option maxRecDepth 100000
set_option linter.unusedSimpArgs false
set_option linter.unusedVariables false

mutual
def dz : SDoc → Nat
 | ⟨_, _, _, ks, _⟩ => dzs ks + 1
def dzs : List SDoc → Nat
 | [] => 0
 | t :: ts => dz t + dzs ts
end
mutual
def dl (b : Nat) : SDoc → List SDNode
 | ⟨k, o, t, ks, p⟩ => dls b ks ++ [⟨k, o, t, dE b ks⟩]
def dls (b : Nat) : List SDoc → List SDNode
 | [] => []
 | t :: ts => dl b t ++ dls (b + dz t) ts
def dE (b : Nat) : List SDoc → List Int
 | [] => []
 | t :: ts => (((b + dz t : Nat) : Int) - 1) :: dE (b + dz t) ts
end
mutual
theorem SDoc.ind {P : SDoc → Prop} (h : ∀ t : SDoc, (∀ k, k ∈ t.kids → P k) → P t) : ∀ t, P t
 | ⟨k, o, x, ks, y⟩ => h ⟨k, o, x, ks, y⟩ (SDoc.inds h ks)
theorem SDoc.inds {P : SDoc → Prop} (h : ∀ t : SDoc, (∀ k, k ∈ t.kids → P k) → P t) : ∀ (ks : List SDoc) k, k ∈ ks → P k
 | [], k, hk => by cases hk
 | t :: ts, k, hk => (List.mem_cons.1 hk).elim (fun e => e ▸ SDoc.ind h t) (SDoc.inds h ts k)
end
mutual
theorem dl_len : ∀ (t : SDoc) (b : Nat), (dl b t).length = dz t
 | ⟨k, o, x, ks, y⟩, b => by rw [dl, dz, List.length_append, dls_len ks b]; rfl
theorem dls_len : ∀ (ts : List SDoc) (b : Nat), (dls b ts).length = dzs ts
 | [], b => by rw [dls, dzs]; rfl
 | t :: ts, b => by rw [dls, dzs, List.length_append, dl_len t b, dls_len ts _]
end
theorem dz_pos (t : SDoc) : 1 ≤ dz t := by cases t; rw [dz]; omega
theorem dzs_len : ∀ ts : List SDoc, ts.length ≤ dzs ts
 | [] => by simp [dzs]
 | t :: ts => by have := dz_pos t; have := dzs_len ts; rw [dzs]; simp only [List.length_cons]; omega
theorem dzs_app : ∀ (a b : List SDoc), dzs (a ++ b) = dzs a + dzs b
 | [], b => by simp [dzs]
 | t :: a, b => by rw [List.cons_append, dzs, dzs, dzs_app a b]; omega
theorem dls_app : ∀ (a b : List SDoc) (s : Nat), dls s (a ++ b) = dls s a ++ dls (s + dzs a) b
 | [], b, s => by simp [dls, dzs]
 | t :: a, b, s => by rw [List.cons_append, dls, dls, dzs, dls_app a b, List.append_assoc, Nat.add_assoc]
theorem dE_app : ∀ (a b : List SDoc) (s : Nat), dE s (a ++ b) = dE s a ++ dE (s + dzs a) b
 | [], b, s => by simp [dE, dzs]
 | t :: a, b, s => by rw [List.cons_append, dE, dE, dzs, dE_app a b, Nat.add_assoc]; rfl
theorem dE_len : ∀ (ts : List SDoc) (b : Nat), (dE b ts).length = ts.length
 | [], b => rfl
 | t :: ts, b => by rw [dE, List.length_cons, List.length_cons, dE_len ts _]

def shD (d : Int) (x : SDNode) : SDNode := ⟨x.Kind, x.N, x.Text, x.Kids.map (· + d)⟩
mutual
theorem dl_sh : ∀ (t : SDoc) (b d : Nat), dl (b + d) t = (dl b t).map (shD d)
 | ⟨k, o, x, ks, y⟩, b, d => by
  rw [dl, dl, List.map_append, dls_sh ks b d, dE_sh ks b d]
  rfl
theorem dls_sh : ∀ (ts : List SDoc) (b d : Nat), dls (b + d) ts = (dls b ts).map (shD d)
 | [], b, d => rfl
 | t :: ts, b, d => by
  rw [dls, dls, List.map_append, dl_sh t b d, Nat.add_right_comm, dls_sh ts _ d]
theorem dE_sh : ∀ (ts : List SDoc) (b d : Nat), dE (b + d) ts = (dE b ts).map (· + (d : Int))
 | [], b, d => rfl
 | t :: ts, b, d => by
  rw [dE, dE, List.map_cons, Nat.add_right_comm, dE_sh ts _ d]
  congr 1
  omega
end
theorem dE_range : ∀ (ts : List SDoc) (b : Nat) (k : Int), k ∈ dE b ts → 0 ≤ k ∧ k < b + dzs ts
 | [], b, k, h => by cases h
 | t :: ts, b, k, h => by
  rw [dE] at h
  rw [dzs]
  have := dz_pos t
  rcases List.mem_cons.1 h with rfl | h
  ·omega
  ·have := dE_range ts _ k h; omega
mutual
theorem dl_range : ∀ (t : SDoc) (b : Nat) (x : SDNode), x ∈ dl b t → ∀ k, k ∈ x.Kids → 0 ≤ k ∧ k < b + dz t
 | ⟨kd, o, x, ks, y⟩, b, n, h, k, hk => by
  rw [dl] at h
  rw [dz]
  rcases List.mem_append.1 h with h | h
  ·have := dls_range ks b n h k hk; omega
  ·rw [List.mem_singleton.1 h] at hk
   have := dE_range ks b k hk; omega
theorem dls_range : ∀ (ts : List SDoc) (b : Nat) (x : SDNode), x ∈ dls b ts → ∀ k, k ∈ x.Kids → 0 ≤ k ∧ k < b + dzs ts
 | [], b, n, h, k, hk => by rw [dls] at h; cases h
 | t :: ts, b, n, h, k, hk => by
  rw [dls] at h
  rw [dzs]
  rcases List.mem_append.1 h with h | h
  ·have := dl_range t b n h k hk; omega
  ·have := dls_range ts _ n h k hk; omega
end

theorem dshift_l2 (N : Nat) (kb : (List SDNode × Int × Int × List SDNode) → Option (List SDNode)) (a : List SDNode) (d : Int) (i : Nat) (hi : i < a.length) (hi2 : i ≤ 1048576) (out : List SDNode) (ho : out.length = i) (hk : a[i].Kids.length ≤ 1048576)
  (hr : ∀ k, k ∈ a[i].Kids → -9223372036854775808 ≤ k + d ∧ k + d ≤ 9223372036854775807) :
  ∀ (n j : Nat) (ks : List Int), a[i].Kids.length - j < n → j ≤ a[i].Kids.length → ks.length = j →
   ms_l15Shift_l2 N kb n (a, d, (i : Int), out, a[i], (j : Int), ks) = kb (a, d, ((i + 1 : Nat) : Int), out ++ [⟨a[i].Kind, a[i].N, a[i].Text, ks ++ (a[i].Kids.drop j).map (· + d)⟩]) := by
 intro n
 induction n with
 | zero => intro j ks h; omega
 | succ n ih =>
  intro j ks hn hj hks
  rw [ms_l15Shift_l2, ix_nat hi, Option.bind_some]
  by_cases h : j < a[i].Kids.length
  ·have hx := hr _ (List.getElem_mem h)
   simp only [lt_true h, cond_true, ix_nat hi, ix_nat h, Option.bind_some, step64 h (by simp only [maxLen]; omega)]
   rw [wrap64 hx.1 hx.2, app_some (by simp; omega), Option.bind_some, ih (j + 1) _ (by omega) (by omega) (by simp [hks]), drop_cons h]
   simp only [List.map_cons, List.append_assoc, List.cons_append, List.nil_append]
  ·simp only [lt_false h, cond_false]
   rw [app_some (by simp; omega), Option.bind_some, drop_nil h, wrap64 (by omega) (by omega)]
   simp

theorem dshift_l1 (N : Nat) (a : List SDNode) (d : Int) (hN : 1048577 < N) (ha : a.length ≤ 1048576) (hs : ∀ x, x ∈ a → x.Kids.length ≤ 1048576) (hr : ∀ x, x ∈ a → ∀ k, k ∈ x.Kids → -9223372036854775808 ≤ k + d ∧ k + d ≤ 9223372036854775807) :
  ∀ (n i : Nat) (out : List SDNode), a.length - i < n → i ≤ a.length → out.length = i → ms_l15Shift_l1 N n (a, d, (i : Int), out) = some (out ++ (a.drop i).map (shD d)) := by
 intro n
 induction n with
 | zero => intro i out h; omega
 | succ n ih =>
  intro i out hn hi ho
  rw [ms_l15Shift_l1]
  by_cases h : i < a.length
  ·have hx := hs _ (List.getElem_mem h)
   simp only [lt_true h, cond_true, ix_nat h, Option.bind_some]
   have := dshift_l2 N (ms_l15Shift_l1 N n) a d i h (by omega) out ho (by omega) (hr _ (List.getElem_mem h)) N 0 [] (by omega) (by omega) rfl
   simp only [List.drop_zero, List.nil_append] at this
   refine Eq.trans this ?_
   rw [ih (i + 1) _ (by omega) (by omega) (by simp [ho]), drop_cons h]
   simp only [List.map_cons, List.append_assoc, List.cons_append, List.nil_append, shD]
  ·simp only [lt_false h, cond_false]
   rw [drop_nil h]
   simp

theorem dshift_is (N : Nat) (a : List SDNode) (d : Int) (hN : 1048577 < N) (ha : a.length ≤ 1048576) (hs : ∀ x, x ∈ a → x.Kids.length ≤ 1048576) (hr : ∀ x, x ∈ a → ∀ k, k ∈ x.Kids → -9223372036854775808 ≤ k + d ∧ k + d ≤ 9223372036854775807) :
  ms_l15Shift N a d = some (a.map (shD d)) := by
 have := dshift_l1 N a d hN ha hs hr N 0 [] (by omega) (by omega) rfl
 rw [List.drop_zero, List.nil_append] at this
 exact this

mutual
theorem dl_kids : ∀ (t : SDoc) (b : Nat) (x : SDNode), x ∈ dl b t → x.Kids.length < dz t
 | ⟨kd, o, x, ks, y⟩, b, n, h => by
  rw [dl] at h
  rw [dz]
  rcases List.mem_append.1 h with h | h
  ·have := dls_kids ks b n h; omega
  ·rw [List.mem_singleton.1 h]
   have := dzs_len ks
   simp only [dE_len]
   omega
theorem dls_kids : ∀ (ts : List SDoc) (b : Nat) (x : SDNode), x ∈ dls b ts → x.Kids.length < dzs ts
 | [], b, n, h => by rw [dls] at h; cases h
 | t :: ts, b, n, h => by
  rw [dls] at h
  rw [dzs]
  rcases List.mem_append.1 h with h | h
  ·have := dl_kids t b n h; omega
  ·have := dls_kids ts _ n h; omega
end

theorem dshiftT_is (N : Nat) (t : SDoc) (b d : Nat) (hN : 1048577 < N) (h : b + d + dz t ≤ 1000000) : ms_l15Shift N (dl b t) (d : Int) = some (dl (b + d) t) := by
 rw [dl_sh]
 exact dshift_is N _ _ hN (by rw [dl_len]; omega) (fun x hx => by have := dl_kids t b x hx; omega) fun x hx k hk => by have := dl_range t b x hx k hk; omega

theorem over_l (N : Nat) (k0 n0 : Int) (ts : List SDoc) (hN : 1048577 < N) (hsz : dzs ts ≤ 900000) : ∀ (rest done : List SDoc) (n : Nat), done ++ rest = ts → rest.length < n →
  ms_l15Over_l1 N n (ts.map (dl 0), k0, n0, (done.length : Int), dls 0 done, dE 0 done) = some (dl 0 ⟨k0, n0, [], ts, 0⟩)
 | [], done, n, hd, hn => by
  obtain ⟨n, rfl⟩ : ∃ m, n = m + 1 := ⟨n - 1, by simp at hn; omega⟩
  rw [List.append_nil] at hd
  subst hd
  have hl := dzs_len done
  have : ¬ done.length < (done.map (dl 0)).length := by simp
  rw [ms_l15Over_l1]
  simp only [lt_false this, cond_false]
  rw [app_some (by rw [dls_len]; simp; omega), Option.bind_some, dl]
 | t :: rest, done, n, hd, hn => by
  simp only [List.length_cons] at hn
  obtain ⟨n, rfl⟩ : ∃ m, n = m + 1 := ⟨n - 1, by omega⟩
  have hlt : done.length < (ts.map (dl 0)).length := by rw [← hd]; simp
  have hlt2 : done.length < ts.length := by simpa using hlt
  have hx : (ts.map (dl 0))[done.length]'hlt = dl 0 t := by simp [← hd]
  have hsum : dzs done + dz t + dzs rest = dzs ts := by rw [← hd, dzs_app, dzs]; omega
  have hl := dzs_len done
  have hp := dz_pos t
  rw [ms_l15Over_l1]
  simp only [lt_true hlt, cond_true, ix_nat hlt, Option.bind_some, hx, dls_len]
  have hsh := dshiftT_is N t 0 (dzs done) hN (by omega)
  rw [Nat.zero_add] at hsh
  rw [hsh, Option.bind_some, app_some (by rw [dls_len, dl_len]; omega), Option.bind_some, List.length_append, dls_len, dl_len, wrap64 (n := ((dzs done + dz t : Nat) : Int) - 1) (by omega) (by omega), app_some (by rw [dE_len]; simp; omega), Option.bind_some, wrap64 (by omega) (by omega)]
  have := over_l N k0 n0 ts hN hsz rest (done ++ [t]) n (by simpa using hd) (by omega)
  rw [dls_app, dE_app, Nat.zero_add] at this
  simp only [dls, dE, List.append_nil, List.length_append, List.length_cons, List.length_nil] at this
  exact this

theorem over_is (N : Nat) (k0 n0 : Int) (ts : List SDoc) (hN : 1048577 < N) (hsz : dzs ts ≤ 900000) : ms_l15Over N k0 n0 (ts.map (dl 0)) = some (dl 0 ⟨k0, n0, [], ts, 0⟩) :=
 over_l N k0 n0 ts hN hsz ts [] N rfl (by have := dzs_len ts; omega)

def pre (s : List UInt8) (i : Nat) (e : List UInt8) : Bool := decide (e.length ≤ s.length - i) && (s.drop i).take e.length == e

theorem op_l2 (N M : Nat) (s : List UInt8) (hs : s.length ≤ 4194304) (i : Nat) (hi : i < s.length) : ∀ (n m j : Nat) (k b : Int), 39 - j < n → 39 - j < m → j ≤ 39 → 0 ≤ b → b ≤ s.length - i → (k = 0 ↔ b = 0) → (k = 0 ∨ (30 ≤ k ∧ k ≤ 68)) →
  ∃ k' b' : Int, ms_OpAt_l1 N n (s, (i : Int), tab_signs, k, b, (j : Int)) = some (k', b') ∧ mi_OpAt_l1 M m (s, (i : Int), k, b, (j : Int)) = some (k', b') ∧ 0 ≤ b' ∧ b' ≤ s.length - i ∧ (k' = 0 ↔ b' = 0) ∧ (k' = 0 ∨ (30 ≤ k' ∧ k' ≤ 68)) := by
 have hl : tab_signs.length = 39 := rfl
 have hlen : ∀ e, e ∈ tab_signs → e.length ≤ 2 := by decide
 intro n
 induction n with
 | zero => intro m j k b h; omega
 | succ n ih =>
  intro m j k b hn hm hj hb0 hb1 hkb hk0
  obtain ⟨m, rfl⟩ : ∃ k, m = k + 1 := ⟨m - 1, by omega⟩
  rw [ms_OpAt_l1, mi_OpAt_l1]
  by_cases h : j < 39
  ·have hj' : j < tab_signs.length := by omega
   have hst : IntKind.wrap .i64 ((j : Int) + 1) = ((j + 1 : Nat) : Int) := by rw [wrap64 (by omega) (by omega)]; omega
   have hd1 : decide ((j : Int) < (tab_signs.length : Int)) = true := lt_true hj'
   have hd2 : decide ((j : Int) < 39) = true := decide_eq_true (by omega)
   have hw : IntKind.wrap .i64 (30 + (j : Int)) = 30 + (j : Int) := wrap64 (by omega) (by omega)
   have hel := hlen _ (List.getElem_mem hj')
   generalize hE : tab_signs[j] = E at hel
   rw [hd1, hd2, cond_true, cond_true, ix_nat hj', hE, Option.bind_some, Option.bind_some]
   -- both tests
   have hspec : (bif (decide ((i : Int) ≥ 0)) then bif (decide ((i : Int) ≤ (s.length : Int))) then bif (decide ((E.length : Int) ≤ (IntKind.wrap .i64 ((s.length : Int) - (i : Int))))) then (cut s (i : Int) (IntKind.wrap .i64 ((i : Int) + (E.length : Int)))).bind fun s109 => (some E).bind fun e110 => bif (s109 == e110) then some (decide ((E.length : Int) > b)) else (some false) else (some false) else (some false) else (some false)) = some (pre s i E && decide ((E.length : Int) > b)) := by
    rw [decide_eq_true (by omega : (i : Int) ≥ 0), decide_eq_true (by omega : (i : Int) ≤ (s.length : Int)), cond_true, cond_true, wrap64 (n := (s.length : Int) - i) (by omega) (by omega)]
    unfold pre
    by_cases hfit : E.length ≤ s.length - i
    ·rw [decide_eq_true (by omega : (E.length : Int) ≤ (s.length : Int) - i), cond_true, wrap64 (n := (i : Int) + E.length) (by omega) (by omega), show (i : Int) + E.length = ((i + E.length : Nat) : Int) by omega, cut_nat (by omega) (by omega), Option.bind_some, Option.bind_some, Nat.add_sub_cancel_left, decide_eq_true hfit, Bool.true_and]
     cases ((s.drop i).take E.length == E) <;> rfl
    ·rw [decide_eq_false (by omega : ¬ (E.length : Int) ≤ (s.length : Int) - i), decide_eq_false hfit]
     rfl
   have himpl : (bif (decide ((E.length : Int) > b)) then (cut s (i : Int) (s.length : Int)).bind fun s111 => (m_strings_HasPrefix s111 E).bind fun r112 => some r112 else (some false)) = some (pre s i E && decide ((E.length : Int) > b)) := by
    cases hgt : decide ((E.length : Int) > b) with
    | false => rw [Bool.and_false]; rfl
    | true =>
     rw [cond_true, cut_nat (by omega) (Nat.le_refl _), Option.bind_some, Bool.and_true]
     have ht : (s.drop i).take (s.length - i) = s.drop i := List.take_of_length_le (by simp)
     rw [ht]
     unfold m_strings_HasPrefix m_stringslite_HasPrefix pre
     have hdl : (s.drop i).length = s.length - i := by simp
     rw [hdl]
     by_cases hfit : E.length ≤ s.length - i
     ·have hc := cut_nat (l := s.drop i) (Nat.zero_le E.length) (by omega)
      simp only [List.drop_zero, Nat.sub_zero, Int.natCast_zero] at hc
      rw [decide_eq_true (by omega : ((s.length - i : Nat) : Int) ≥ (E.length : Int)), cond_true, hc, decide_eq_true hfit]
      rfl
     ·rw [decide_eq_false (by omega : ¬ ((s.length - i : Nat) : Int) ≥ (E.length : Int)), decide_eq_false hfit]
      rfl
   rw [hspec, himpl, Option.bind_some, Option.bind_some]
   simp only [ms_OpAt_k2, mi_OpAt_k2, hst, hw]
   cases hc : (pre s i E && decide ((E.length : Int) > b)) with
   | true =>
    simp only [Bool.and_eq_true, decide_eq_true_eq, pre] at hc
    refine ih m (j + 1) (30 + j) E.length (by omega) (by omega) (by omega) (by omega) (by omega) ?_ (by omega)
    constructor <;> intro h <;> omega
   | false => exact ih m (j + 1) k b (by omega) (by omega) (by omega) hb0 hb1 hkb hk0
  ·have hd1 : decide ((j : Int) < (tab_signs.length : Int)) = false := lt_false (by omega)
   have hd2 : decide ((j : Int) < 39) = false := decide_eq_false (by omega)
   rw [hd1, hd2]
   exact ⟨k, b, rfl, rfl, hb0, hb1, hkb, hk0⟩

theorem op_ex2 (N M : Nat) (s : List UInt8) (hs : s.length ≤ 4194304) (hN : 100 < N) (hM : 100 < M) (i : Nat) (hi : i < s.length) :
  ∃ k b : Int, ms_OpAt N s (i : Int) = some (k, b) ∧ mi_OpAt M s (i : Int) = some (k, b) ∧ 0 ≤ b ∧ b ≤ s.length - i ∧ (k = 0 ↔ b = 0) ∧ (k = 0 ∨ (30 ≤ k ∧ k ≤ 68)) := by
 unfold ms_OpAt mi_OpAt
 rw [signs_is, Option.bind_some, within_is', wrap64 (n := (s.length : Int) - 1) (by omega) (by omega), decide_eq_true (by omega : (i : Int) ≥ 0), decide_eq_true (by omega : (i : Int) ≤ (s.length : Int) - 1), Option.bind_some, Bool.and_self, Bool.not_true, cond_false]
 exact op_l2 N M s hs i hi N M 0 0 0 (by omega) (by omega) (by omega) (by omega) (by omega) (by simp) (by omega)

theorem gapS_ex (a b : SToken) (ha : a.Text.length ≤ 2000000) (hb : b.Text.length ≤ 2000000) : ∃ g : Bool, ∀ N : Nat, 100 < N → ms_NeedsGap N a b = some g := by
 by_cases h0 : (a.Text == [] || (b.Text == [] || (a.Kind == 2 || (a.Kind == 1 || b.Kind == 1)))) = true
 ·refine ⟨false, fun N _ => ?_⟩
  unfold ms_NeedsGap
  simp only [bo_or, Option.bind_some, h0, cond_true]
 ·have h0' : (a.Text == [] || (b.Text == [] || (a.Kind == 2 || (a.Kind == 1 || b.Kind == 1)))) = false := by simpa using h0
  have h1 := h0'
  simp only [Bool.or_eq_false_iff] at h1
  have hal : 0 < a.Text.length := by
   cases hx : a.Text with
   | nil => rw [hx] at h1; simp at h1
   | cons _ _ => simp
  have hbl : 0 < b.Text.length := by
   cases hx : b.Text with
   | nil => rw [hx] at h1; simp at h1
   | cons _ _ => simp
  have i1 : ix b.Text 0 = some b.Text[0] := ix_nat hbl
  have i2 : ix a.Text (IntKind.wrap .i64 ((a.Text.length : Int) - 1)) = some (a.Text[a.Text.length - 1]'(by omega)) := by
   rw [wrap64 (by omega) (by omega), show (a.Text.length : Int) - 1 = ((a.Text.length - 1 : Nat) : Int) by omega]
   exact ix_nat (by omega)
  have hc : cat a.Text b.Text = some (a.Text ++ b.Text) := cat_some (by simp only [maxLen]; omega)
  have hs : (a.Text ++ b.Text).length ≤ 4194304 := by simp; omega
  obtain ⟨k, b', q1, q2, _⟩ := op_ex2 200 200 (a.Text ++ b.Text) hs (by omega) (by omega) 0 (by simp; omega)
  have hop : ∀ N : Nat, 100 < N → ms_OpAt N (a.Text ++ b.Text) 0 = some (k, b') := fun N hN => by
   obtain ⟨k2, b2, r1, r2, _⟩ := op_ex2 N 200 (a.Text ++ b.Text) hs hN (by omega) 0 (by simp; omega)
   have r1 : ms_OpAt N (a.Text ++ b.Text) 0 = some (k2, b2) := r1
   rw [q2] at r2
   cases r2
   exact r1
  have ws : ∀ c : Int, ms_IsWordByte c = some (wordB c) := word_spec
  refine ⟨(wordB (IntKind.wrap .i64 (((a.Text[a.Text.length - 1]'(by omega)).toNat : Nat) : Int)) && wordB (IntKind.wrap .i64 ((b.Text[0].toNat : Nat) : Int))) || ((a.Kind == 3 && (wordB (IntKind.wrap .i64 ((b.Text[0].toNat : Nat) : Int)) || (IntKind.wrap .i64 ((b.Text[0].toNat : Nat) : Int)) == 46)) || ((a.Kind == 6 && b.Kind == 32) || ((decide (a.Kind ≥ 30) && decide (a.Kind ≤ 68)) && decide (b' > (a.Text.length : Int))))), fun N hN => ?_⟩
  have o1 := hop N hN
  unfold ms_NeedsGap
  simp only [bo_or, bo_and, Option.bind_some, h0', cond_false, i1, i2, ws, hc, o1, l1In_is', bo_not, Bool.not_not]
  first | rfl | skip

def gapB (a b : SToken) : Bool := (ms_NeedsGap 200 a b).getD false
theorem gapS_is (a b : SToken) (ha : a.Text.length ≤ 2000000) (hb : b.Text.length ≤ 2000000) (N : Nat) (hN : 100 < N) : ms_NeedsGap N a b = some (gapB a b) := by
 obtain ⟨g, h⟩ := gapS_ex a b ha hb
 have e : gapB a b = g := by unfold gapB; rw [h 200 (by omega)]; rfl
 rw [e]
 exact h N hN
theorem spl_len (k : Int) : (spl k).length ≤ 20 := by
 have h1 : ∀ e, e ∈ tab_keywords → e.length ≤ 20 := by decide
 have h2 : ∀ e, e ∈ tab_signs → e.length ≤ 20 := by decide
 have h := spl_is k
 unfold ms_SpellOf at h
 rw [words_is, signs_is] at h
 simp only [Option.bind_some] at h
 rcases cond_some h with ⟨_, h⟩ | ⟨_, h⟩
 ·have e := Option.some.inj h
  rw [← e]; decide
 ·obtain ⟨b, _, h⟩ := bind_some h
  rcases cond_some h with ⟨_, h⟩ | ⟨_, h⟩
  ·obtain ⟨e, he, h⟩ := bind_some h
   have e2 := Option.some.inj h
   rw [← e2]
   exact h1 _ (List.mem_of_getElem? (ix_some he).2)
  ·obtain ⟨b, _, h⟩ := bind_some h
   rcases cond_some h with ⟨_, h⟩ | ⟨_, h⟩
   ·obtain ⟨e, he, h⟩ := bind_some h
    have e2 := Option.some.inj h
    rw [← e2]
    exact h2 _ (List.mem_of_getElem? (ix_some he).2)
   ·have e := Option.some.inj h
    rw [← e]; decide

def txD (x : List UInt8) : SDoc := ⟨1, 0, x, [], 0⟩
def lnD : SDoc := ⟨2, 0, [], [], 0⟩
def ctD (l : List SDoc) : SDoc := ⟨6, 0, [], l, 0⟩
def nsD (d : SDoc) : SDoc := ⟨4, 4, [], [d], 0⟩
def grD (d : SDoc) : SDoc := ⟨5, 0, [], [d], 0⟩
def parD (b : Bool) (x y : SDoc) : SDoc := bif b then ctD [txD [40], y, txD [41]] else x
def commaD : Bool → List SDoc → List SDoc
 | _, [] => []
 | b, x :: xs => (bif b then [txD [44], lnD] else []) ++ (x :: commaD true xs)
def listD (l : List SDoc) : SDoc := grD (nsD (ctD (commaD false l)))
def kd0 (l : List SDoc) (j : Nat) : SDoc := l.getD j lnD
def kt0 (l : List (List SToken)) : SToken := (l.getD 0 []).headD ⟨0, [], 0⟩
def asmD (k o : Int) (x : List UInt8) (ts : List (List SToken)) (l : List SDoc) : SDoc :=
 bif k == 1 || (k == 2 || (k == 3 || k == 4)) then txD x
 else bif k == 5 then ctD [txD (x ++ [91]), listD l, txD [93]]
 else bif k == 7 || k == 8 then ctD [txD (x ++ [40]), listD l, txD [41]]
 else bif k == 9 then ctD [txD (spl o), kd0 l 0]
 else bif k == 10 then ctD [kd0 l 0, txD (spl o)]
 else bif k == 6 then ctD [txD [36], kd0 l 0]
 else bif k == 11 then ctD [txD (spl o ++ (bif gapB (sg o) (kt0 ts) then [32] else [])), kd0 l 0]
 else bif k == 14 then ctD [kd0 l 0, txD [32, 63, 32], kd0 l 1, txD [32, 58, 32], kd0 l 2]
 else bif k == 13 then (bif decide (l.length > 1) then ctD [txD [40], listD l, txD ([41, 32, 105, 110, 32] ++ x)] else ctD [kd0 l 0, txD ([32, 105, 110, 32] ++ x)])
 else bif k == 12 && o == 99 then ctD [kd0 l 0, txD [32], kd0 l 1]
 else bif k == 12 && (o == 45 || o == 44) then grD (nsD (ctD [kd0 l 0, txD ([32] ++ spl o), lnD, kd0 l 1]))
 else ctD [kd0 l 0, txD ([32] ++ spl o ++ [32]), kd0 l 1]
mutual
def dcB : STree → SPos → SDoc
 | ⟨k, o, x, y, ks⟩, p => asmD k o x (tokKs false k o ks.length 0 p ks) (dcKs k o ks.length 0 p ks)
def dcKs (k o : Int) (n j : Nat) (p : SPos) : List STree → List SDoc
 | [] => []
 | t :: ts => (bif tgt k j then dcB t (kidP k o n j p) else parD (!fitB t.kind t.op (kidP k o n j p)) (dcB t (kidP k o n j p)) (dcB t topP)) :: dcKs k o n (j + 1) p ts
end
def dcE (t : STree) (p : SPos) : SDoc := parD (!fitB t.kind t.op p) (dcB t p) (dcB t topP)
def kidDc (k o : Int) (n j : Nat) (p : SPos) (t : STree) : SDoc := bif tgt k j then dcB t (kidP k o n j p) else dcE t (kidP k o n j p)
theorem dcKs_cons (k o : Int) (n j : Nat) (p : SPos) (t : STree) (ts : List STree) : dcKs k o n j p (t :: ts) = kidDc k o n j p t :: dcKs k o n (j + 1) p ts := by rw [dcKs]; rfl
theorem dcKs_len (k o : Int) (n : Nat) (p : SPos) : ∀ (ts : List STree) (j : Nat), (dcKs k o n j p ts).length = ts.length
 | [], j => by rw [dcKs]; rfl
 | t :: ts, j => by rw [dcKs_cons, List.length_cons, dcKs_len k o n p ts, List.length_cons]
theorem dcB_eq (t : STree) (p : SPos) : dcB t p = asmD t.kind t.op t.text (tokKs false t.kind t.op t.kids.length 0 p t.kids) (dcKs t.kind t.op t.kids.length 0 p t.kids) := by
 obtain ⟨k, o, x, y, ks⟩ := t
 rw [dcB]

theorem doc_rel : ∀ t : STree, allT GN t → (∀ p q, RelK t.kind p q → dcB t p = dcB t q) ∧ (∀ p q, RelP p q → dcE t p = dcE t q) := by
 intro t
 induction t using STree.ind with
 | h t ih =>
  intro h
  have g := allT_hd h
  have hk := allT_kids h
  have hB : ∀ p q, RelK t.kind p q → dcB t p = dcB t q := fun p q hr => by
   have key : ∀ (ts : List STree) (j : Nat), (∀ k, k ∈ ts → k ∈ t.kids) → (j = 0 → ∀ k, ts[0]? = some k → t.kids[0]? = some k) → tokKs false t.kind t.op t.kids.length j p ts = tokKs false t.kind t.op t.kids.length j q ts ∧ dcKs t.kind t.op t.kids.length j p ts = dcKs t.kind t.op t.kids.length j q ts := by
    intro ts
    induction ts with
    | nil => intro j _ _; rw [tokKs, tokKs, dcKs, dcKs]; exact ⟨rfl, rfl⟩
    | cons u ts ih2 =>
     intro j hm h0
     have hu := hm u (by simp)
     have hrel := kid_rel (o := t.op) (n := t.kids.length) (j := j) g.e hr
     obtain ⟨z1, z2⟩ := ih2 (j + 1) (fun k hk => hm k (by simp [hk])) (fun e => by omega)
     rw [tokKs_cons, tokKs_cons, dcKs_cons, dcKs_cons, z1, z2]
     have hh : kidTok false t.kind t.op t.kids.length j p u = kidTok false t.kind t.op t.kids.length j q u ∧ kidDc t.kind t.op t.kids.length j p u = kidDc t.kind t.op t.kids.length j q u := by
      unfold kidTok kidDc
      cases ht : tgt t.kind j with
      | true =>
       have hj : j = 0 := by
        unfold tgt at ht
        simp only [Bool.and_eq_true, beq_iff_eq] at ht
        omega
       have hk9 : u.kind ≤ 9 := low9 (g.kl u (h0 hj u rfl) (by
        unfold tgt at ht
        simp only [Bool.and_eq_true, Bool.or_eq_true, beq_iff_eq] at ht
        exact ht.2))
       exact ⟨(tok_rel false u (hk u hu)).1 _ _ (.inr hk9), (ih u hu (hk u hu)).1 _ _ (.inr hk9)⟩
      | false => exact ⟨(tok_rel false u (hk u hu)).2 _ _ hrel, (ih u hu (hk u hu)).2 _ _ hrel⟩
     rw [hh.1, hh.2]
     exact ⟨rfl, rfl⟩
   obtain ⟨z1, z2⟩ := key t.kids 0 (fun k hk => hk) (fun _ k hk => hk)
   rw [dcB_eq, dcB_eq, z1, z2]
  refine ⟨hB, fun p q hr => ?_⟩
  obtain ⟨h1, h2⟩ := fit_rel (o := t.op) g.e hr
  unfold dcE
  rw [h1]
  cases hf : fitB t.kind t.op q with
  | true => exact hB p q (h2 (by rw [h1]; exact hf))
  | false => rfl

theorem dz_tx (x : List UInt8) : dz (txD x) = 1 := by unfold txD; rw [dz, dzs]
theorem dz_ln : dz lnD = 1 := by unfold lnD; rw [dz, dzs]
theorem dz_ct (l : List SDoc) : dz (ctD l) = dzs l + 1 := by unfold ctD; rw [dz]
theorem dz_ns (d : SDoc) : dz (nsD d) = dz d + 1 := by unfold nsD; rw [dz, dzs, dzs, Nat.add_zero]
theorem dz_gr (d : SDoc) : dz (grD d) = dz d + 1 := by unfold grD; rw [dz, dzs, dzs, Nat.add_zero]
theorem dzs_comma : ∀ (l : List SDoc) (b : Bool), dzs (commaD b l) ≤ dzs l + 2 * l.length
 | [], b => by rw [commaD]; simp [dzs]
 | x :: xs, b => by
  have := dzs_comma xs true
  rw [commaD, dzs_app, dzs, dzs]
  simp only [List.length_cons]
  cases b
  ·simp only [cond_false, dzs]; omega
  ·simp only [cond_true, dzs, dz_tx, dz_ln]; omega
theorem dz_list (l : List SDoc) : dz (listD l) ≤ dzs l + 2 * l.length + 3 := by
 have := dzs_comma l false
 unfold listD
 rw [dz_gr, dz_ns, dz_ct]; omega
theorem dzs_kd0 (l : List SDoc) : dz (kd0 l 0) + dz (kd0 l 1) + dz (kd0 l 2) ≤ dzs l + 3 := by
 unfold kd0
 match l with
 | [] => simp [dz_ln, dzs]
 | [a] => simp [dz_ln, dzs]
 | [a, b] => simp [dz_ln, dzs]
 | a :: b :: c :: r => simp [dzs]; omega
theorem asmD_sz (k o : Int) (x : List UInt8) (ts : List (List SToken)) (l : List SDoc) : dz (asmD k o x ts l) ≤ dzs l + 2 * l.length + 9 := by
 have h := dzs_kd0 l
 have hl := dz_list l
 have p0 := dz_pos (kd0 l 0)
 have p1 := dz_pos (kd0 l 1)
 have p2 := dz_pos (kd0 l 2)
 have key : ∀ (b : Bool) (x y : SDoc) (n : Nat), dz x ≤ n → dz y ≤ n → dz (bif b then x else y) ≤ n := fun b x y n hx hy => by cases b <;> assumption
 unfold asmD
 repeat' (refine key _ _ _ _ ?_ ?_)
 all_goals simp only [dz_tx, dz_ct, dz_gr, dz_ns, dz_ln, dzs]
 all_goals omega
mutual
theorem dcB_sz : ∀ (t : STree) (p : SPos), dz (dcB t p) + 5 ≤ 16 * szT t
 | ⟨k, o, x, y, ks⟩, p => by
  have h1 := asmD_sz k o x (tokKs false k o ks.length 0 p ks) (dcKs k o ks.length 0 p ks)
  have h2 := dcKs_sz k o ks.length p ks 0
  have h3 := dcKs_len k o ks.length p ks 0
  rw [dcB, szT]
  omega
theorem dcKs_sz (k o : Int) (n : Nat) (p : SPos) : ∀ (ts : List STree) (j : Nat), dzs (dcKs k o n j p ts) + 2 * ts.length ≤ 16 * szTs ts
 | [], j => by rw [dcKs, dzs]; simp
 | t :: ts, j => by
  have h1 := dcKs_sz k o n p ts (j + 1)
  have h2 := dcB_sz t (kidP k o n j p)
  have h3 := dcB_sz t topP
  rw [dcKs, szTs, dzs]
  simp only [List.length_cons]
  cases tgt k j <;> simp only [cond_true, cond_false]
  ·unfold parD
   cases fitB t.kind t.op (kidP k o n j p) <;> simp only [Bool.not_true, Bool.not_false, cond_true, cond_false, dz_ct, dz_tx, dzs] <;> omega
  ·omega
end
theorem dcE_sz (t : STree) (p : SPos) : dz (dcE t p) + 2 ≤ 16 * szT t := by
 have h2 := dcB_sz t p
 have h3 := dcB_sz t topP
 unfold dcE parD
 cases fitB t.kind t.op p <;> simp only [Bool.not_true, Bool.not_false, cond_true, cond_false, dz_ct, dz_tx, dzs] <;> omega
theorem kidDc_sz (k o : Int) (n j : Nat) (p : SPos) (t : STree) : dz (kidDc k o n j p t) + 2 ≤ 16 * szT t := by
 unfold kidDc
 have h1 := dcB_sz t (kidP k o n j p)
 have h2 := dcE_sz t (kidP k o n j p)
 cases tgt k j <;> simp only [cond_true, cond_false] <;> omega

theorem tokB_ne (f : Bool) : ∀ t : STree, allT GN t → ∀ p, tokB f t p ≠ [] := by
 intro t
 induction t using STree.ind with
 | h t ih =>
  intro hall p
  have g := allT_hd hall
  have hk := allT_kids hall
  rw [tokB_eq]
  have key : ∀ (b : Bool) (x y : List SToken), x ≠ [] → y ≠ [] → (bif b then x else y) ≠ [] := fun b x y hx hy => by cases b <;> assumption
  have first : t.kind = 12 ∨ t.kind = 15 ∨ t.kind = 14 → (tokKs f t.kind t.op t.kids.length 0 p t.kids).getD 0 [] ≠ [] := fun hc => by
   obtain ⟨kid, rest, hkr⟩ : ∃ kid rest, t.kids = kid :: rest := by
    cases hx : t.kids with
    | nil =>
     exfalso
     rcases hc with e | e | e
     ·have := g.a2 (.inl e); rw [hx] at this; cases this
     ·have := g.a2 (.inr e); rw [hx] at this; cases this
     ·have := g.a3 e; rw [hx] at this; cases this
    | cons u us => exact ⟨u, us, rfl⟩
   have hm : kid ∈ t.kids := by rw [hkr]; simp
   rw [hkr, tokKs_cons]
   show kidTok f t.kind t.op (kid :: rest).length 0 p kid ≠ []
   have hne := ih kid hm (hk kid hm)
   unfold kidTok tokE parT
   refine key _ _ _ (hne _) (key _ _ _ (by simp) (hne _))
  have hc := kinds g.e
  unfold asmT
  by_cases h3 : t.kind = 12 ∨ t.kind = 15 ∨ t.kind = 14
  ·have hf := first h3
   repeat' (refine key _ _ _ ?_ ?_)
   all_goals first
    | exact fun h => hf (List.append_eq_nil_iff.1 h).1
    | simp
  ·have h3' : t.kind ≠ 12 ∧ t.kind ≠ 15 ∧ t.kind ≠ 14 := ⟨fun e => h3 (.inl e), fun e => h3 (.inr (.inl e)), fun e => h3 (.inr (.inr e))⟩
   rcases hc with e | e | e | e | e | e | e | e | e | e | e | e | e | e | e <;> rw [e] <;> first
    | (exfalso; omega)
    | (simp; done)

end Go.Proofs.Tryz
