/-
 Plain lemmas on the models, part 14.
-/
import Derived.Test.YtjhcdnpbmppkkaaGreatDoorRxUP13
namespace Go.Proofs.Tryz
open Go.Av
set_option maxRecDepth 100000
set_option linter.unusedSimpArgs false
set_option linter.unusedVariables false

theorem ord_len {s : List UInt8} : ∀ {l : List SToken} {lo : Nat}, OrdT s lo l → ∀ (j : Nat) (t : SToken), l[j]? = some t → ∃ a : Nat, t.At = (a : Int) ∧ lo + j ≤ a ∧ 1 ≤ t.Text.length ∧ a + t.Text.length ≤ s.length
 | [], lo, _, j, t, h => by simp at h
 | u :: r, lo, ⟨_, a, h2, h3, h4, h5, h6⟩, j, t, h => by
  cases j with
  | zero =>
   have : u = t := by simpa using h
   subst this
   exact ⟨a, h2, by omega, h4, h5⟩
  | succ j =>
   obtain ⟨c, g1, g2, g3, g4⟩ := ord_len h6 j t (by simpa using h)
   exact ⟨c, g1, by omega, g3, g4⟩
section
set_option linter.unusedSectionVars false
variable {s x : List UInt8} {c : Nat} (hs : s.length ≤ 3000) (hx : x.length ≤ 3000) (hcs : c ≤ s.length) (hcx : c ≤ x.length) (hag : s.take c = x.take c) (N : Nat) (hN : 5000 < N)
include hs hx hcs hcx hag hN
theorem run_loc : ∀ (n i : Nat) (p : Int) (out new : List SToken), ms_Lex_l1 N n (s, p, (i : Int), out) = some (out ++ new, ⟨0, 0⟩) → i ≤ s.length → ∀ k, k ≤ new.length → (∀ (j : Nat) (t : SToken), j < k → new[j]? = some t → t.At + t.Text.length + 2 < (c : Int)) →
  ∃ (n' i' : Nat) (p' : Int), ms_Lex_l1 N n (x, p, (i : Int), out) = ms_Lex_l1 N n' (x, p', (i' : Int), out ++ new.take k) ∧ i ≤ i' ∧ i' ≤ c + i ∧ n + i ≤ n' + i' ∧ (k = 0 → i' = i ∧ p' = p) ∧ (∀ t, 1 ≤ k → new[k - 1]? = some t → (i' : Int) = t.At + t.Text.length ∧ p' = t.Kind) := by
 intro n
 induction n with
 | zero => intro i p out new h; cases h
 | succ n ih =>
  intro i p out new hrun hi k hk hkt
  cases k with
  | zero => exact ⟨n + 1, i, p, by rw [List.take_zero, List.append_nil], Nat.le_refl _, by omega, Nat.le_refl _, fun _ => ⟨rfl, rfl⟩, fun t h => by omega⟩
  | succ k =>
   obtain ⟨_, new', e1, ho⟩ := (lex_ord_l N s hs (by omega) (n + 1) i p out _ ⟨0, 0⟩ hi hrun).1 rfl
   have e1 : new' = new := (List.append_cancel_left e1).symm
   subst e1
   cases new' with
   | nil => simp at hk
   | cons t0 r =>
    have ho0 := ho
    obtain ⟨_, a, a1, a2, a3, a4, a5⟩ := ho0
    have hb0 := hkt 0 t0 (by omega) rfl
    rw [a1] at hb0
    have hic : i + 3 < c := by omega
    have hlt : i < s.length := by omega
    have hltx : i < x.length := by omega
    have hb : x[i] = s[i] := by
     have := ag_get hs hx hcs hcx hag N hN (show i < c by omega)
     rw [List.getElem?_eq_getElem hlt, List.getElem?_eq_getElem hltx] at this
     exact (Option.some.inj this).symm
    have hst := step_i (by omega : s.length ≤ 1048576) (by omega : i ≤ s.length + 1)
    have h1 := ag_at hs hx hcs hcx hag N hN (show i + 1 < c by omega)
    rw [ms_Lex_l1] at hrun
    have hxr := ms_Lex_l1.eq_2 N n x p (i : Int) out
    rw [hxr]
    simp only [lt_true hlt, cond_true, ix_nat hlt, Option.bind_some, hst, l4Byte_is] at hrun
    simp only [lt_true hltx, cond_true, ix_nat hltx, Option.bind_some, hst, l4Byte_is, hb, h1]
    obtain ⟨bl, hbl, hrun⟩ := bind_some hrun
    rw [hbl, Option.bind_some]
    cases bl with
    | true =>
     rw [cond_true] at hrun ⊢
     obtain ⟨n', i', p', g1, g2, g3, g4, g5, g6⟩ := ih (i + 1) p out (t0 :: r) hrun (by omega) (k + 1) hk hkt
     exact ⟨n', i', p', g1, by omega, by
      have := g6
      obtain ⟨tk, htk⟩ : ∃ tk, (t0 :: r)[k]? = some tk := ⟨_, List.getElem?_eq_getElem (by omega)⟩
      have h6 := (g6 tk (by omega) htk).1
      have h7 := hkt k tk (by omega) htk
      omega, by omega, fun h => by omega, g6⟩
    | false =>
     rw [cond_false] at hrun ⊢
     obtain ⟨es, hes, hrun⟩ := bind_some hrun
     rw [hes, Option.bind_some]
     cases es with
     | true =>
      rw [cond_true, wrap64 (n := (i : Int) + 2) (by omega) (by omega), show (i : Int) + 2 = ((i + 2 : Nat) : Int) by omega] at hrun
      rw [cond_true, wrap64 (n := (i : Int) + 2) (by omega) (by omega), show (i : Int) + 2 = ((i + 2 : Nat) : Int) by omega]
      obtain ⟨n', i', p', g1, g2, g3, g4, g5, g6⟩ := ih (i + 2) p out (t0 :: r) hrun (by omega) (k + 1) hk hkt
      exact ⟨n', i', p', g1, by omega, by
       obtain ⟨tk, htk⟩ : ∃ tk, (t0 :: r)[k]? = some tk := ⟨_, List.getElem?_eq_getElem (by omega)⟩
       have h6 := (g6 tk (by omega) htk).1
       have h7 := hkt k tk (by omega) htk
       omega, by omega, fun h => by omega, g6⟩
     | false =>
      rw [cond_false] at hrun ⊢
      obtain ⟨en, hen, hrun⟩ := bind_some hrun
      rw [hen, Option.bind_some]
      obtain ⟨t, ht, hrA⟩ := bind_some hrun
      rcases cond_some hrA with ⟨_, hrB⟩ | ⟨hk0, hrB⟩
      ·exfalso
       have := congrArg (fun o => o.map (·.2.Kind)) hrB
       simp at this
      ·have hk0' : t.Kind ≠ 0 := by simpa using hk0
       rcases cond_some hrB with ⟨_, hrC⟩ | ⟨h3000, hrC⟩
       ·exfalso
        have := congrArg (fun o => o.map (·.2.Kind)) hrC
        simp at this
       ·obtain ⟨y, hy, hrD⟩ := bind_some hrC
        have hy' : y = out ++ [t] := by
         unfold app at hy
         split at hy
         ·exact (Option.some.inj hy).symm
         ·cases hy
        subst hy'
        obtain ⟨b', e1', e2'⟩ := ends_ex p
        obtain ⟨t', u', q1, q2, q3⟩ := tok_ex N s (by omega) (by omega) i hlt p b' e2'
        have hen2 : b' = en := Option.some.inj (e1'.symm.trans hen)
        subst hen2
        rw [ht] at q1
        cases q1
        rcases q3 with ⟨z1, _⟩ | ⟨_, z1, z2, z3, z4⟩
        ·exact absurd z1 hk0'
        rw [wrap64 (n := (i : Int) + t.Text.length) (by omega) (by omega), show (i : Int) + t.Text.length = ((i + t.Text.length : Nat) : Int) by omega] at hrD
        obtain ⟨_, r', e3, _⟩ := (lex_ord_l N s hs (by omega) n (i + t.Text.length) t.Kind (out ++ [t]) _ ⟨0, 0⟩ (by omega) hrD).1 rfl
        have e4 : t0 :: r = t :: r' := by
         rw [List.append_assoc] at e3
         exact List.append_cancel_left e3
        injection e4 with e5 e6
        subst e5
        subst e6
        rw [next_loc hs hx hcs hcx hag N hN hlt (!b') ht hk0' (by have := hb0; omega), Option.bind_some, hk0, cond_false, h3000, cond_false, hy, Option.bind_some, wrap64 (n := (i : Int) + t0.Text.length) (by omega) (by omega), show (i : Int) + t0.Text.length = ((i + t0.Text.length : Nat) : Int) by omega]
        have hrun' : ms_Lex_l1 N n (s, t0.Kind, ((i + t0.Text.length : Nat) : Int), out ++ [t0]) = some ((out ++ [t0]) ++ r, ⟨0, 0⟩) := by rw [hrD, List.append_assoc]; rfl
        obtain ⟨n', i', p', g1, g2, g3, g4, g5, g6⟩ := ih (i + t0.Text.length) t0.Kind (out ++ [t0]) r hrun' (by omega) k (by simp only [List.length_cons] at hk; omega) (fun j u hj hu => hkt (j + 1) u (by omega) (by simpa using hu))
        refine ⟨n', i', p', by rw [g1, List.append_assoc]; rfl, by omega, ?_, by omega, fun h => by omega, fun u _ hu => ?_⟩
        ·cases k with
         | zero => have := (g5 rfl).1; omega
         | succ k =>
          obtain ⟨tk, htk⟩ : ∃ tk, r[k]? = some tk := ⟨_, List.getElem?_eq_getElem (by simp only [List.length_cons] at hk; omega)⟩
          have h6 := (g6 tk (by omega) (by rw [Nat.add_sub_cancel]; exact htk)).1
          have h7 := hkt (k + 1) tk (by omega) (by simpa using htk)
          omega
        ·rw [Nat.add_sub_cancel] at hu
         cases k with
         | zero =>
          have : t0 = u := by simpa using hu
          subst this
          obtain ⟨w1, w2⟩ := g5 rfl
          exact ⟨by rw [z2]; omega, w2⟩
         | succ k => exact g6 u (by omega) (by rw [Nat.add_sub_cancel]; simpa using hu)
end
def preF (o : List SToken) (r : List SToken × SFault) : List SToken × SFault := bif r.2.Kind == 0 then (o ++ r.1, r.2) else r
theorem preF_ok {o ts : List SToken} {f : SFault} (h : (f.Kind == 0) = true) : preF o (ts, f) = (o ++ ts, f) := by
 unfold preF
 simp only [h, cond_true]
theorem preF_no {o ts : List SToken} {f : SFault} (h : (f.Kind == 0) = false) : preF o (ts, f) = (ts, f) := by
 unfold preF
 simp only [h, cond_false]
theorem pre_l (N : Nat) (x : List UInt8) (hx : x.length ≤ 3000) (hN : x.length + 200 < N) (o : List SToken) : ∀ (n i : Nat) (p : Int) (o2 : List SToken), o.length + o2.length ≤ i → i ≤ x.length → ms_Lex_l1 N n (x, p, (i : Int), o ++ o2) = (ms_Lex_l1 N n (x, p, (i : Int), o2)).map (preF o) := by
 intro n
 induction n with
 | zero => intro i p o2 _ _; rfl
 | succ n ih =>
  intro i p o2 ho hi
  rw [ms_Lex_l1, ms_Lex_l1]
  by_cases h : i < x.length
  ·have hbl : ∀ c : Int, ms_IsBlank c = some (c == 32 || c == 9) := by
    intro c
    unfold ms_IsBlank
    cases (c == 32) <;> rfl
   have hst := step_i (by omega : x.length ≤ 1048576) (by omega : i ≤ x.length + 1)
   simp only [lt_true h, cond_true, ix_nat h, Option.bind_some, hbl, hst]
   cases ((IntKind.wrap .i64 ((x[i].toNat : Nat) : Int) == 32) || (IntKind.wrap .i64 ((x[i].toNat : Nat) : Int) == 9)) with
   | true =>
    rw [cond_true, cond_true]
    exact ih (i + 1) p o2 (by omega) (by omega)
   | false =>
    have hesc : (bif ((x[i].toNat : Int) == 92) then (ms_l4Byte x ((i + 1 : Nat) : Int)).bind fun r => some (r == 10) else (some false)) = some (((x[i].toNat : Int) == 92) && (atB x (i + 1) == 10)) := by
     rw [l4Byte_is]
     cases ((x[i].toNat : Int) == 92) <;> rfl
    rw [cond_false, cond_false, hesc, Option.bind_some, Option.bind_some]
    cases hq : (((x[i].toNat : Int) == 92) && (atB x (i + 1) == 10)) with
    | true =>
     have hlt : i + 1 < x.length := by
      refine atB_in fun e => ?_
      rw [e] at hq
      simp at hq
     rw [cond_true, cond_true, wrap64 (n := (i : Int) + 2) (by omega) (by omega), show (i : Int) + 2 = ((i + 2 : Nat) : Int) by omega]
     exact ih (i + 2) p o2 (by omega) (by omega)
    | false =>
     obtain ⟨b, e1, e2⟩ := ends_ex p
     obtain ⟨t, u, h1, h2, h3⟩ := tok_ex N x (by omega) hN i h p b e2
     rw [cond_false, cond_false, e1, Option.bind_some, Option.bind_some, h1, Option.bind_some, Option.bind_some]
     rcases h3 with ⟨k1, k2⟩ | ⟨rfl, k1, k2, k3, k4⟩
     ·rw [beq_iff_eq.2 k1, cond_true, cond_true]
      rfl
     ·have hk0 : (t.Kind == 0) = false := by
       cases e : (t.Kind == 0) with
       | false => rfl
       | true => exact absurd (eq_of_beq e) (okKind_ne k1)
      have hc1 : (((o ++ o2).length : Int) == 3000) = false := by rw [beq_eq_false_iff_ne, List.length_append]; omega
      have hc2 : ((o2.length : Int) == 3000) = false := by rw [beq_eq_false_iff_ne]; omega
      rw [hk0, cond_false, cond_false, hc1, hc2, cond_false, cond_false, app_some (by simp; omega), app_some (by simp; omega), Option.bind_some, Option.bind_some, wrap64 (n := (i : Int) + t.Text.length) (by omega) (by omega), show (i : Int) + t.Text.length = ((i + t.Text.length : Nat) : Int) by omega, List.append_assoc]
      exact ih (i + t.Text.length) t.Kind (o2 ++ [t]) (by simp; omega) (by omega)
  ·rw [lt_false h, cond_false, cond_false]
   rfl
theorem keptI_l (N : Nat) (a : List SToken) (p : Nat) (ha : a.length ≤ 3000) (hs : ∀ (j : Nat) (t : SToken), a[j]? = some t → 0 ≤ t.At ∧ t.At ≤ 100000 ∧ t.Text.length ≤ 100000) (hp : p ≤ 100000) : ∀ (n i : Nat), a.length - i < n → i ≤ a.length → (∀ (j : Nat) (t : SToken), j < i → a[j]? = some t → t.At + t.Text.length + 2 < (p : Int)) →
  ∃ r : Nat, mi_KeptTokens_l1 N n (a, (p : Int), (i : Int)) = some (r : Int) ∧ r ≤ a.length ∧ ∀ (j : Nat) (t : SToken), j < r → a[j]? = some t → t.At + t.Text.length + 2 < (p : Int) := by
 intro n
 induction n with
 | zero => intro i h; omega
 | succ n ih =>
  intro i hn hi hk
  rw [mi_KeptTokens_l1]
  by_cases h : i < a.length
  ·have hst : IntKind.wrap .i64 ((i : Int) + 1) = ((i + 1 : Nat) : Int) := by rw [wrap64 (by omega) (by omega)]; omega
   obtain ⟨t0, t1, t2⟩ := hs i a[i] (List.getElem?_eq_getElem h)
   have hl2 : IntKind.wrap .i64 ((a[i].Text.length : Int) + 2) = (a[i].Text.length : Int) + 2 := wrap64 (by omega) (by omega)
   rw [lt_true h, cond_true, ix_nat h]
   simp only [Option.bind_some, within_is', hst, hl2]
   cases h1 : (decide (a[i].At ≥ 0) && decide (a[i].At ≤ (p : Int))) with
   | false => exact ⟨i, rfl, by omega, hk⟩
   | true =>
    rw [wrap64 (n := (p : Int) - a[i].At) (by omega) (by omega)]
    by_cases h2 : (a[i].Text.length : Int) + 2 < p - a[i].At
    ·rw [decide_eq_false (by omega : ¬ (p : Int) - a[i].At ≤ (a[i].Text.length : Int) + 2)]
     refine ih (i + 1) (by omega) (by omega) fun j t hj hjt => ?_
     by_cases hji : j < i
     ·exact hk j t hji hjt
     ·have : j = i := by omega
      subst this
      rw [List.getElem?_eq_getElem h] at hjt
      cases hjt
      omega
    ·rw [decide_eq_true (by omega : (p : Int) - a[i].At ≤ (a[i].Text.length : Int) + 2)]
     exact ⟨i, rfl, by omega, hk⟩
  ·rw [lt_false h]
   have : i = a.length := by omega
   subst this
   exact ⟨a.length, rfl, Nat.le_refl _, hk⟩
theorem spliceI (s t : List UInt8) (ht : t.length ≤ 3000) (hs : s.length ≤ 3000) (a m : Int) : (∃ p q : Nat, a = (p : Int) ∧ m = (q : Int) ∧ p + q ≤ s.length ∧ mi_Splice s a m t = some (s.take p ++ t ++ s.drop (p + q), true)) ∨ (mi_Splice s a m t = some (s, false) ∧ ms_Splice s a m t = some (s, false)) := by
 unfold mi_Splice ms_Splice
 rw [within_is', l1In_is']
 simp only [Option.bind_some]
 cases h1 : (decide (a ≥ 0) && decide (a ≤ (s.length : Int))) with
 | false => exact .inr ⟨rfl, rfl⟩
 | true =>
  simp only [Bool.and_eq_true, decide_eq_true_eq] at h1
  obtain ⟨p, rfl⟩ := Int.eq_ofNat_of_zero_le h1.1
  rw [wrap64 (n := (s.length : Int) - p) (by omega) (by omega), within_is', l1In_is']
  simp only [Option.bind_some, Bool.not_true, cond_false]
  cases h2 : (decide (m ≥ 0) && decide (m ≤ (s.length : Int) - p)) with
  | false => exact .inr ⟨rfl, rfl⟩
  | true =>
   simp only [Bool.and_eq_true, decide_eq_true_eq] at h2
   obtain ⟨q, rfl⟩ := Int.eq_ofNat_of_zero_le h2.1
   refine .inl ⟨p, q, rfl, rfl, by omega, ?_⟩
   have c0 : cut s 0 (p : Int) = some (s.take p) := by
    have := cut_nat (l := s) (a := 0) (b := p) (by omega) (by omega)
    simpa using this
   have w : IntKind.wrap .i64 ((p : Int) + (q : Int)) = ((p + q : Nat) : Int) := by rw [wrap64 (by omega) (by omega)]; omega
   have c1 : cut s ((p + q : Nat) : Int) (s.length : Int) = some (s.drop (p + q)) := by
    rw [cut_nat (by omega) (by omega), List.take_of_length_le (by rw [List.length_drop]; omega)]
   simp only [Bool.not_true, cond_false, c0, Option.bind_some, w, c1]
   rw [cat_some (by simp only [maxLen, List.length_take]; omega), Option.bind_some, cat_some (by simp only [maxLen, List.length_append, List.length_take, List.length_drop]; omega), Option.bind_some]
theorem relexI (N : Nat) (hN : 10000 < N) (s t : List UInt8) (hs : s.length ≤ 3000) (ht : t.length ≤ 3000) (l : List SToken) (hl : ms_Lex N s = some (l, ⟨0, 0⟩)) (p q : Nat) (hpq : p + q ≤ s.length) (hsp : mi_Splice s (p : Int) (q : Int) t = some (s.take p ++ t ++ s.drop (p + q), true)) :
  ∃ (k : Nat) (y : List SToken) (f : SFault), mi_KeptTokens N l (p : Int) = some (k : Int) ∧ k ≤ l.length ∧ mi_Relex N l s (p : Int) (q : Int) t = some (y, f) ∧ ms_Lex N (s.take p ++ t ++ s.drop (p + q)) = some (y, f) ∧ (∀ (i : Nat) (u : SToken), i < k → y[i]? = some u → l[i]? = some u) ∧ y.length ≤ 6000 := by
 have hl0 := hl
 unfold ms_Lex at hl
 rw [decide_eq_false (by omega : ¬ (s.length : Int) > 3000), cond_false] at hl
 obtain ⟨_, l', e1, ho⟩ := (lex_ord_l N s hs (by omega) N 0 0 [] l ⟨0, 0⟩ (by omega) hl).1 rfl
 rw [List.nil_append] at e1
 subst e1
 have hlen : l.length ≤ s.length := by
  cases hq : l.length with
  | zero => omega
  | succ j =>
   obtain ⟨a, g1, g2, g3, g4⟩ := ord_len ho j (l[j]'(by omega)) (List.getElem?_eq_getElem (by omega))
   omega
 obtain ⟨k, k1, k2, k3⟩ := keptI_l N l p (by omega) (fun j t hj => by
  obtain ⟨a, g1, g2, g3, g4⟩ := ord_len ho j t hj
  omega) (by omega) N 0 (by omega) (by omega) (fun j t h => by omega)
 have k1 : mi_KeptTokens N l (p : Int) = some (k : Int) := k1
 generalize hxd : s.take p ++ t ++ s.drop (p + q) = x at *
 have hxl : x.length = s.length - q + t.length := by
  rw [← hxd, List.length_append, List.length_append, List.length_take, List.length_drop]
  omega
 unfold mi_Relex
 rw [hsp, Option.bind_some]
 by_cases hx : x.length ≤ 3000
 ·have hd : decide ((x.length : Int) > 3000) = false := decide_eq_false (by omega)
  have hcut : cut l 0 (k : Int) = some (l.take k) := by
   have := cut_nat (l := l) (a := 0) (b := k) (by omega) (by omega)
   simpa using this
  have hcl : m_slices_Clone_Token (l.take k) = some (l.take k) := by
   unfold m_slices_Clone_Token
   rw [app_some (by simp; omega), Option.bind_some, List.nil_append]
  simp only [Bool.not_true, cond_false, Option.bind_some, hd, k1, hcut, hcl]
  have hag : s.take p = x.take p := by
   rw [← hxd, List.append_assoc, List.take_append_of_le_length (by rw [List.length_take]; omega), List.take_take, Nat.min_self]
  have hrun : ms_Lex_l1 N N (s, 0, ((0 : Nat) : Int), []) = some ([] ++ l, ⟨0, 0⟩) := hl
  obtain ⟨n', i', p', g1, g2, g3, g4, g5, g6⟩ := run_loc hs hx (by omega) (by omega : p ≤ x.length) hag N (by omega) N 0 0 [] l hrun (by omega) k k2 k3
  rw [List.nil_append] at g1
  have hki : k ≤ i' := by
   cases k with
   | zero => omega
   | succ k =>
    obtain ⟨a, q1, q2, q3, q4⟩ := ord_len ho k (l[k]'(by omega)) (List.getElem?_eq_getElem (by omega))
    have := (g6 (l[k]'(by omega)) (by omega) (by rw [Nat.add_sub_cancel]; exact List.getElem?_eq_getElem (by omega))).1
    omega
  have hi' : i' ≤ x.length := by omega
  obtain ⟨ts, f, h1, h2, _, h4, h5⟩ := lex_l N N x hx (by omega) (by omega) n' N i' p' [] (by omega) (by omega) hi' (by simp) (fun t ht => by cases ht)
  have hpre := pre_l N x hx (by omega) (l.take k) n' i' p' [] (by rw [List.length_take]; simp only [List.length_nil]; omega) hi'
  rw [List.append_nil, h1, Option.map_some] at hpre
  have hspec : ms_Lex N x = some (preF (l.take k) (ts, f)) := by
   unfold ms_Lex
   rw [hd, cond_false]
   have g1 : ms_Lex_l1 N N (x, 0, 0, []) = _ := g1
   rw [g1, hpre]
  have hfrom : mi_lexFrom N x (i' : Int) p' = some (ts, f) := h2
  have hk1 : ∀ pos kd, pos = (i' : Int) → kd = p' → mi_Relex_k1 N ((x, true), l.take k, pos, kd) = some (preF (l.take k) (ts, f)) := fun pos kd e1 e2 => by
   rw [e1, e2]
   unfold mi_Relex_k1
   simp only [hfrom, Option.bind_some]
   rcases h4 with rfl | h4
   ·have e : (!(((⟨0, 0⟩ : SFault).Kind == 0) && (((⟨0, 0⟩ : SFault).At == 0) && true))) = false := rfl
    rw [e, cond_false, app_some (by rw [List.length_take]; omega), Option.bind_some]
    rfl
   ·have e : (f.Kind == 0) = false := by rw [h4]; rfl
    unfold preF
    simp only [e, Bool.false_and, Bool.not_false, cond_true, cond_false]
    congr 2
    cases ts with
    | nil => rfl
    | cons t0 ts0 =>
     exfalso
     have hh := (lex_ord_l N x hx (by omega) n' i' p' [] _ f hi' h1).2 (by rw [h4]; decide)
     cases hh
  have himpl : (bif (decide (((l.take k).length : Int) > 0)) then (ix (l.take k) (IntKind.wrap .i64 (((l.take k).length : Int) - 1))).bind fun e20 => mi_Relex_k1 N ((x, true), l.take k, (IntKind.wrap .i64 (e20.At + (e20.Text.length : Int))), e20.Kind) else (mi_Relex_k1 N ((x, true), l.take k, 0, 0))) = some (preF (l.take k) (ts, f)) := by
   have hlt : (l.take k).length = k := by rw [List.length_take]; omega
   rw [hlt]
   cases k with
   | zero =>
    obtain ⟨w1, w2⟩ := g5 rfl
    have e : decide (((0 : Nat) : Int) > 0) = false := rfl
    rw [e, cond_false]
    exact hk1 0 0 (by omega) w2.symm
   | succ k =>
    have hkl : k < l.length := by omega
    have e : decide (((k + 1 : Nat) : Int) > 0) = true := decide_eq_true (by omega)
    have hg : (l.take (k + 1))[k]? = some l[k] := by rw [List.getElem?_take, if_pos (by omega)]; exact List.getElem?_eq_getElem hkl
    have hg' : ix (l.take (k + 1)) (k : Int) = some l[k] := ix_get hg
    rw [e, cond_true, wrap64 (n := ((k + 1 : Nat) : Int) - 1) (by omega) (by omega), show ((k + 1 : Nat) : Int) - 1 = (k : Int) by omega, hg', Option.bind_some]
    obtain ⟨w1, w2⟩ := g6 l[k] (by omega) (by rw [Nat.add_sub_cancel]; exact List.getElem?_eq_getElem hkl)
    exact hk1 _ _ (by rw [← w1, wrap64 (by omega) (by omega)]) w2.symm
  refine ⟨k, (preF (l.take k) (ts, f)).1, (preF (l.take k) (ts, f)).2, (by first | exact k1 | rfl), k2, himpl, hspec, fun i u hi hu => ?_, ?_⟩
  ·cases hf : f.Kind == 0 with
   | true =>
    rw [preF_ok hf] at hu
    simp only at hu
    rw [List.getElem?_append_left (by rw [List.length_take]; omega), List.getElem?_take, if_pos hi] at hu
    exact hu
   | false =>
    rw [preF_no hf] at hu
    simp only at hu
    have hh := (lex_ord_l N x hx (by omega) n' i' p' [] ts f hi' h1).2 (by simpa using hf)
    rw [hh] at hu
    simp at hu
  ·cases hf : f.Kind == 0 with
   | true => rw [preF_ok hf]; simp only [List.length_append, List.length_take]; omega
   | false => rw [preF_no hf]; simp only; omega
 ·have hd : decide ((x.length : Int) > 3000) = true := decide_eq_true (by omega)
  simp only [Bool.not_true, cond_false, Option.bind_some, hd, cond_true]
  refine ⟨k, [], ⟨1, 0⟩, (by first | exact k1 | rfl), k2, rfl, ?_, fun i u _ h => by simp at h, by simp⟩
  unfold ms_Lex
  rw [hd]
  rfl
theorem rel_l1 (N : Nat) (k : Nat) (r6 : List SToken × List UInt8 × Int × Int × List UInt8) (y : List SToken) (f : SFault) (hy : y.length ≤ 6000) (hk : ∀ (i : Nat) (u : SToken), i < k → y[i]? = some u → r6.1[i]? = some u) : ∀ (n i : Nat), y.length - i < n → i ≤ y.length → ml_FnRelexed_l1 N n ((k : Int), r6, (y, f), (y, f), (i : Int)) = some true := by
 intro n
 induction n with
 | zero => intro i h; omega
 | succ n ih =>
  intro i hn hi
  rw [ml_FnRelexed_l1]
  by_cases h : i < y.length
  ·have hst : IntKind.wrap .i64 ((i : Int) + 1) = ((i + 1 : Nat) : Int) := by rw [wrap64 (by omega) (by omega)]; omega
   have e : ix y (i : Int) = some y[i] := ix_nat h
   simp only [lt_true h, cond_true, e, Option.bind_some, beq_self_eq_true, Bool.and_self, Bool.not_true, cond_false, hst]
   by_cases hik : i < k
   ·have e2 : ix r6.1 (i : Int) = some y[i] := ix_get (hk i y[i] hik (List.getElem?_eq_getElem h))
    rw [lt_true hik, cond_true, e2, Option.bind_some]
    simp only [beq_self_eq_true, Bool.and_self, Bool.not_true, Option.bind_some, cond_false]
    exact ih (i + 1) (by omega) (by omega)
   ·rw [lt_false hik]
    simp only [cond_false, Option.bind_some]
    exact ih (i + 1) (by omega) (by omega)
  ·rw [lt_false h, cond_false]
theorem relexed_is (N : Nat) (hN : 10000 < N) (s t : List UInt8) (ht : t.length ≤ 3000) (l : List SToken) (hl : ms_Lex N s = some (l, ⟨0, 0⟩)) (a m : Int) :
  ((mi_Splice s a m t).bind fun r8 => (mi_Relex N l s a m t).bind fun r10 => bif (!r8.2) then (ms_Splice s a m t).bind fun r15 => (bif (!r15.2) then bif (r8.1 == s) then bif (r10.2.Kind == 1) then some ((r10.1.length : Int) == 0) else (some false) else (some false) else (some false)).bind fun y16 => some y16 else ((ms_Lex N r8.1).bind fun r18 => (mi_KeptTokens N l a).bind fun r20 => (bif (decide (r20 < 0)) then some true else (bif (decide (r20 > (l.length : Int))) then some true else (bif (!((r10.2.Kind == r18.2.Kind) && ((r10.2.At == r18.2.At) && true))) then some true else (bif ((r10.1.length : Int) != (r18.1.length : Int)) then some true else (some ((r8.1.length : Int) != (IntKind.wrap .i64 ((IntKind.wrap .i64 ((s.length : Int) - m)) + (t.length : Int))))))))).bind fun y22 => bif y22 then some false else (ml_FnRelexed_l1 N N (r20, (l, s, a, m, t), r10, r18, 0)))) = some true := by
 have hs : s.length ≤ 3000 := by
  cases Nat.lt_or_ge 3000 s.length with
  | inr h => exact h
  | inl h =>
   unfold ms_Lex at hl
   rw [decide_eq_true (by omega : (s.length : Int) > 3000)] at hl
   cases hl
 rcases spliceI s t ht hs a m with ⟨p, q, rfl, rfl, hpq, hsp⟩ | ⟨h1, h2⟩
 ·obtain ⟨k, y, f, k1, k2, hr, hlx, hyl, hy6⟩ := relexI N hN s t hs ht l hl p q hpq hsp
  rw [hsp, Option.bind_some, hr, Option.bind_some]
  have hlen : (s.take p ++ t ++ s.drop (p + q)).length = s.length - q + t.length := by
   rw [List.length_append, List.length_append, List.length_take, List.length_drop]
   omega
  have hw : IntKind.wrap .i64 ((IntKind.wrap .i64 ((s.length : Int) - q)) + (t.length : Int)) = ((s.length - q + t.length : Nat) : Int) := by rw [wrap64 (n := (s.length : Int) - q) (by omega) (by omega), wrap64 (by omega) (by omega)]; omega
  have d1 : decide ((k : Int) < 0) = false := decide_eq_false (by omega)
  have d2 : decide ((k : Int) > (l.length : Int)) = false := decide_eq_false (by omega)
  simp only [Bool.not_true, cond_false, hlx, Option.bind_some, k1, d1, d2, beq_self_eq_true, Bool.and_self, bne_self_eq_false, hlen, hw]
  exact rel_l1 N k (l, s, (p : Int), (q : Int), t) y f hy6 hyl N 0 (by omega) (by omega)
 ·have hr : mi_Relex N l s a m t = some ([], ⟨1, 0⟩) := by
   unfold mi_Relex
   rw [h1]
   rfl
  rw [h1, Option.bind_some, hr, Option.bind_some]
  simp only [Bool.not_false, cond_true, h2, Option.bind_some, beq_self_eq_true]
  rfl
section
set_option linter.unusedSectionVars false
variable (b : List UInt8) (hb : b.length ≤ 1048576) (N : Nat) (hN : 2100000 ≤ N)
include hb hN
theorem draw36_ex (h : Int) : ∃ (s : List UInt8) (a m : Int) (t : List UInt8) (i k : Int), ms_l36Draw N b 0 h = some (s, a, m, t, i, k) ∧ t.length ≤ 3000 := by
 unfold ms_l36Draw
 obtain ⟨s, i, h, e1, hs, i0, i1⟩ := any_dr b hb N hN 0 h (by omega) (by omega)
 have hs : s.length ≤ 900000 := hs
 rw [e1, Option.bind_some]
 dsimp only
 obtain ⟨r4, i, h, e2, _, i0, i1⟩ := below_dr b hb (IntKind.wrap .i64 ((s.length : Int) + 1)) i h i0 i1
 rw [e2, Option.bind_some]
 dsimp only
 obtain ⟨r6, i, h, e3, _, i0, i1⟩ := below_dr b hb (IntKind.wrap .i64 ((if (IntKind.wrap .i64 ((s.length : Int) - r4)) < 6 then (IntKind.wrap .i64 ((s.length : Int) - r4)) else 6) + 1)) i h i0 i1
 rw [e3, Option.bind_some]
 dsimp only
 obtain ⟨r9, i, h, e4, h9, i0, i1⟩ := l5source_dr b hb N hN i h i0 i1
 have h9 : r9.length ≤ 2000 := h9
 rw [e4, Option.bind_some]
 dsimp only
 obtain ⟨t, i, h, e5, ht, i0, i1⟩ := pick_dr b hb (P := fun x => x.length ≤ 2000) [[], [32], [120], [43], [47], [34], [10], [40], [35, 32], [49], [105, 102], r9] i h i0 i1 (by simp) (fun x hx => by
  simp only [List.mem_cons, List.not_mem_nil, or_false] at hx
  rcases hx with rfl | rfl | rfl | rfl | rfl | rfl | rfl | rfl | rfl | rfl | rfl | rfl <;> first | exact h9 | simp)
 rw [e5, Option.bind_some]
 dsimp only
 obtain ⟨o, i, h, e6, _, i0, i1⟩ := once_dr b hb 12 i h i0 i1
 rw [e6, Option.bind_some]
 dsimp only
 unfold ms_l36Draw_k1
 cases o with
 | false => exact ⟨_, _, _, t, _, _, rfl, by omega⟩
 | true =>
  obtain ⟨r24, i, h, e7, _, i0, i1⟩ := pickInt_dr b hb (P := fun _ => True) [(-1), 9999, r6] i h i0 i1 (by simp) (fun _ _ => trivial)
  rw [cond_true, e7, Option.bind_some]
  dsimp only
  obtain ⟨r26, i, h, e8, _, i0, i1⟩ := pickInt_dr b hb (P := fun _ => True) [(-1), (IntKind.wrap .i64 ((s.length : Int) + 1)), r4] i h i0 i1 (by simp) (fun _ _ => trivial)
  rw [e8, Option.bind_some]
  exact ⟨_, _, _, t, _, _, rfl, by omega⟩
end
theorem lexS (N : Nat) (s : List UInt8) (hN : 4000 < N) : ∃ ts f, ms_Lex N s = some (ts, f) ∧ (f = ⟨0, 0⟩ ∨ f.Kind ≠ 0) := by
 unfold ms_Lex
 by_cases hs : s.length ≤ 3000
 ·obtain ⟨ts, f, h1, _, _, h4, _⟩ := lex_l N N s hs (by omega) (by omega) N N 0 0 [] (by omega) (by omega) (by omega) (by simp) (fun t ht => by cases ht)
  have h1 : ms_Lex_l1 N N (s, 0, 0, []) = some (ts, f) := h1
  rw [decide_eq_false (by omega : ¬ (s.length : Int) > 3000), cond_false]
  refine ⟨ts, f, h1, ?_⟩
  rcases h4 with h4 | h4
  ·exact .inl h4
  ·exact .inr (by rw [h4]; decide)
 ·rw [decide_eq_true (by omega : (s.length : Int) > 3000)]
  exact ⟨[], ⟨1, 0⟩, rfl, .inr (by decide)⟩
theorem const_lex : (ms_Lex 2100000 [120, 32, 61, 32, 49, 10, 121, 32, 61, 32, 50, 10]).map (·.2.Kind) = some 0 := by kernel_rfl
theorem const_lex2 (N : Nat) (hN : N = 2100000) : ∃ l, ms_Lex N [120, 32, 61, 32, 49, 10, 121, 32, 61, 32, 50, 10] = some (l, ⟨0, 0⟩) := by
 obtain ⟨ts, f, h1, h3⟩ := lexS N [120, 32, 61, 32, 49, 10, 121, 32, 61, 32, 50, 10] (by omega)
 have hc := const_lex
 rw [← hN, h1] at hc
 have hf : f.Kind = 0 := by simpa using hc
 rcases h3 with rfl | h
 ·exact ⟨ts, h1⟩
 ·exact absurd hf h

end Go.Proofs.Tryz
