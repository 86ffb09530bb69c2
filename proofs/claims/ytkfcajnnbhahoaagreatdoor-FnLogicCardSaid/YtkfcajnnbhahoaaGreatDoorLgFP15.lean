/-
 Plain lemmas on the models, part 15.
-/
import Derived.Test.YtkfcajnnbhahoaaGreatDoorLgFP14
namespace Go.Proofs.Tryz
open Go.Av
set_option maxRecDepth 100000
set_option linter.unusedSimpArgs false
set_option linter.unusedVariables false

theorem wr64 (n : Int) : -9223372036854775808 ≤ IntKind.wrap .i64 n ∧ IntKind.wrap .i64 n ≤ 9223372036854775807 := by
 rw [IntKind.wrap_i64]; omega
theorem var27_l (env : List SBind) (x : List UInt8) (henv : env.length ≤ 100) : ∀ (n m i N N' : Nat), env.length - i < n → env.length - i < m → i ≤ env.length → ms_VarOf_l1 N n (env, x, (i : Int)) = ms_VarOf_l1 N' m (env, x, (i : Int)) ∧ (ms_VarOf_l1 N n (env, x, (i : Int))).isSome = true := by
 intro n
 induction n with
 | zero => intro m i N N' h; omega
 | succ n ih =>
  intro m i N N' hn hm hi
  obtain ⟨m, rfl⟩ : ∃ k, m = k + 1 := ⟨m - 1, by omega⟩
  rw [ms_VarOf_l1, ms_VarOf_l1]
  by_cases h : i < env.length
  ·simp only [lt_true h, cond_true, ix_nat h, oBs]
   cases (env[i].Name == x) with
   | true => exact ⟨rfl, rfl⟩
   | false =>
    rw [cond_false, cond_false, wrap64 (by omega) (by omega), show (i : Int) + 1 = ((i + 1 : Nat) : Int) by omega]
    exact ih m (i + 1) N N' (by omega) (by omega) (by omega)
  ·simp only [lt_false h, cond_false]
   first | exact ⟨rfl, rfl⟩ | exact ⟨trivial, rfl⟩
def vr27 (env : List SBind) (x : List UInt8) : Int := (ms_VarOf 200 env x).getD 0
theorem var27_is (env : List SBind) (x : List UInt8) (henv : env.length ≤ 100) (M : Nat) (hM : 200 ≤ M) : ms_VarOf M env x = some (vr27 env x) := by
 obtain ⟨e, hs⟩ := var27_l env x henv 200 M 0 200 M (by omega) (by omega) (by omega)
 have e : ms_VarOf 200 env x = ms_VarOf M env x := e
 have hs : (ms_VarOf 200 env x).isSome = true := hs
 unfold vr27
 rw [← e]
 cases hx : ms_VarOf 200 env x with
 | none => rw [hx] at hs; cases hs
 | some v => rfl
theorem tdiv_abs {v : Int} {d : Nat} (h : v.natAbs < 10 ^ (d + 1)) : (Int.tdiv v 10).natAbs < 10 ^ d := by
 have : (Int.tdiv v 10).natAbs = v.natAbs / 10 := by rw [Int.natAbs_tdiv]; rfl
 rw [Nat.pow_succ] at h
 omega
theorem dec27_l : ∀ (d n m N N' : Nat) (a v : Int) (acc : List UInt8), v.natAbs < 10 ^ d → -9223372036854775808 ≤ v → v ≤ 9223372036854775807 → d < n → d < m → acc.length + d ≤ 1000 → ms_Dec_l1 N n (a, v, acc) = ms_Dec_l1 N' m (a, v, acc) ∧ (ms_Dec_l1 N n (a, v, acc)).isSome = true := by
 intro d
 induction d with
 | zero =>
  intro n m N N' a v acc hv h1 h2 hn hm ha
  obtain ⟨n, rfl⟩ : ∃ k, n = k + 1 := ⟨n - 1, by omega⟩
  obtain ⟨m, rfl⟩ : ∃ k, m = k + 1 := ⟨m - 1, by omega⟩
  have : v = 0 := by simp at hv; omega
  subst this
  rw [ms_Dec_l1, ms_Dec_l1]
  refine ⟨rfl, ?_⟩
  rw [show ((0 : Int) != 0) = false from rfl, cond_false]
  cases decide (a < 0) with
  | false => rfl
  | true => rw [cond_true, cat_some (by simp only [maxLen, List.length_cons, List.length_nil]; omega)]; rfl
 | succ d ih =>
  intro n m N N' a v acc hv h1 h2 hn hm ha
  obtain ⟨n, rfl⟩ : ∃ k, n = k + 1 := ⟨n - 1, by omega⟩
  obtain ⟨m, rfl⟩ : ∃ k, m = k + 1 := ⟨m - 1, by omega⟩
  rw [ms_Dec_l1, ms_Dec_l1]
  cases h0 : (v != 0) with
  | false =>
   rw [cond_false, cond_false]
   refine ⟨rfl, ?_⟩
   cases decide (a < 0) with
   | false => rfl
   | true => rw [cond_true, cat_some (by simp only [maxLen, List.length_cons, List.length_nil]; omega)]; rfl
  | true =>
   have hd := tdiv_abs hv
   have hb : -9223372036854775808 ≤ Int.tdiv v 10 ∧ Int.tdiv v 10 ≤ 9223372036854775807 := by
    have : (Int.tdiv v 10).natAbs = v.natAbs / 10 := by rw [Int.natAbs_tdiv]; rfl
    omega
   have step : ∀ (g : Int), ms_Dec_k2 N (ms_Dec_l1 N n) (v, acc, a, g) = ms_Dec_k2 N' (ms_Dec_l1 N' m) (v, acc, a, g) ∧ (ms_Dec_k2 N (ms_Dec_l1 N n) (v, acc, a, g)).isSome = true := fun g => by
    unfold ms_Dec_k2
    dsimp only
    rw [cat_some (by simp only [maxLen, List.length_cons, List.length_nil]; omega), oBs, oBs, wrap64 hb.1 hb.2]
    exact ih n m N N' a _ _ hd hb.1 hb.2 (by omega) (by omega) (by simp; omega)
   rw [cond_true, cond_true]
   cases decide (Int.tmod v 10 < 0) with
   | true => exact step _
   | false => exact step _
theorem dec27 (N N' : Nat) (v : Int) (h1 : -9223372036854775808 ≤ v) (h2 : v ≤ 9223372036854775807) (hN : 100 ≤ N) (hN' : 100 ≤ N') : ms_Dec N v = ms_Dec N' v ∧ (ms_Dec N v).isSome = true := by
 unfold ms_Dec
 cases (v == 0) with
 | true => exact ⟨rfl, rfl⟩
 | false =>
  have : (10 : Nat) ^ 20 = 100000000000000000000 := by decide
  exact dec27_l 20 N N' N N' v v [] (by rw [this]; omega) h1 h2 (by omega) (by omega) (by simp)
theorem rd27_k3 (N N' : Nat) (hN : 100 ≤ N) (hN' : 100 ≤ N') (kb kb' : (List UInt8 × Int × Int × Int) → Option (Int × Bool)) (x : List UInt8) (c v : Int) (h1 : -9223372036854775808 ≤ v) (h2 : v ≤ 9223372036854775807) : ms_ReadDec_k3 N kb (x, c, v) = ms_ReadDec_k3 N' kb' (x, c, v) ∧ (ms_ReadDec_k3 N kb (x, c, v)).isSome = true := by
 obtain ⟨e, hs⟩ := dec27 N N' v h1 h2 hN hN'
 unfold ms_ReadDec_k3
 dsimp only
 rw [← e]
 cases hx : ms_Dec N v with
 | none => rw [hx] at hs; cases hs
 | some s =>
  refine ⟨rfl, ?_⟩
  cases decide (c > 9) with
  | true => rfl
  | false =>
   cases decide ((x.length : Int) > 10) with
   | true => rfl
   | false => cases hb : (!(s == x)) <;> simp [hb]
theorem rd27_l (x : List UInt8) (hx : x.length ≤ 1048576) : ∀ (d n m N N' i : Nat) (v c : Int), 11 - i ≤ d → i ≤ 11 → d < n → d < m → 100 ≤ N → 100 ≤ N' → -9223372036854775808 ≤ v → v ≤ 9223372036854775807 → ms_ReadDec_l1 N n (x, v, c, (i : Int)) = ms_ReadDec_l1 N' m (x, v, c, (i : Int)) ∧ (ms_ReadDec_l1 N n (x, v, c, (i : Int))).isSome = true := by
 intro d
 induction d with
 | zero =>
  intro n m N N' i v c hd hi hn hm hN hN' h1 h2
  obtain ⟨n, rfl⟩ : ∃ k, n = k + 1 := ⟨n - 1, by omega⟩
  obtain ⟨m, rfl⟩ : ∃ k, m = k + 1 := ⟨m - 1, by omega⟩
  obtain rfl : i = 11 := by omega
  have e : (bif (decide (((11 : Nat) : Int) < (x.length : Int))) then some (decide (((11 : Nat) : Int) < 11)) else some false) = some false := by
   cases decide (((11 : Nat) : Int) < (x.length : Int)) <;> rfl
  rw [ms_ReadDec_l1, ms_ReadDec_l1, e]
  simp only [oBs, cond_false]
  have hw := wr64 (0 - v)
  have hz : ∃ z, (bif (decide ((x.length : Int) > 0)) then (ix x 0).bind fun b133 => some (((b133).toNat : Int) == 45) else some false) = some z := by
   by_cases h0 : 0 < x.length
   ·have hix : ix x 0 = some x[0] := ix_nat (i := 0) h0
    rw [hix]
    exact ⟨bif (decide ((x.length : Int) > 0)) then ((x[0].toNat : Int) == 45) else false, by cases decide ((x.length : Int) > 0) <;> rfl⟩
   ·rw [decide_eq_false (by omega)]; exact ⟨false, rfl⟩
  obtain ⟨z, hz⟩ := hz
  rw [hz]
  simp only [oBs]
  cases z with
  | true =>
   simp only [cond_true]
   exact rd27_k3 N N' hN hN' (ms_ReadDec_l1 N n) (ms_ReadDec_l1 N' m) x c _ hw.1 hw.2
  | false =>
   simp only [cond_false]
   exact rd27_k3 N N' hN hN' (ms_ReadDec_l1 N n) (ms_ReadDec_l1 N' m) x c v h1 h2
 | succ d ih =>
  intro n m N N' i v c hd hi hn hm hN hN' h1 h2
  obtain ⟨n, rfl⟩ : ∃ k, n = k + 1 := ⟨n - 1, by omega⟩
  obtain ⟨m, rfl⟩ : ∃ k, m = k + 1 := ⟨m - 1, by omega⟩
  rw [ms_ReadDec_l1, ms_ReadDec_l1]
  by_cases hlt : i < x.length ∧ i < 11
  ·have e : (bif (decide ((i : Int) < (x.length : Int))) then some (decide ((i : Int) < 11)) else some false) = some true := by
    rw [lt_true hlt.1, cond_true, decide_eq_true (by omega)]
   rw [e]
   simp only [oBs, cond_true, ix_nat hlt.1]
   have step : ∀ (v' c' : Int), -9223372036854775808 ≤ v' → v' ≤ 9223372036854775807 → ms_ReadDec_k2 N (ms_ReadDec_l1 N n) (x, (i : Int), v', c') = ms_ReadDec_k2 N' (ms_ReadDec_l1 N' m) (x, (i : Int), v', c') ∧ (ms_ReadDec_k2 N (ms_ReadDec_l1 N n) (x, (i : Int), v', c')).isSome = true := fun v' c' g1 g2 => by
    unfold ms_ReadDec_k2
    dsimp only
    rw [wrap64 (n := (i : Int) + 1) (by omega) (by omega), show (i : Int) + 1 = ((i + 1 : Nat) : Int) by omega]
    exact ih n m N N' (i + 1) v' c' (by omega) (by omega) (by omega) (by omega) hN hN' g1 g2
   have hz : ∃ z, (bif (decide (((x[i].toNat : Nat) : Int) ≥ 48)) then some (decide (((x[i].toNat : Nat) : Int) ≤ 57)) else some false) = some z := by
    cases decide (((x[i].toNat : Nat) : Int) ≥ 48)
    ·exact ⟨_, rfl⟩
    ·exact ⟨_, rfl⟩
   obtain ⟨z, hz⟩ := hz
   rw [hz]
   simp only [oBs]
   cases z with
   | true =>
    rw [cond_true, cond_true]
    have hw := wr64 (IntKind.wrap .i64 (v * 10) + IntKind.wrap .i64 (IntKind.wrap .u8 (((x[i].toNat : Nat) : Int) - 48)))
    exact step _ _ hw.1 hw.2
   | false =>
    rw [cond_false, cond_false]
    exact step _ _ h1 h2
  ·have e : (bif (decide ((i : Int) < (x.length : Int))) then some (decide ((i : Int) < 11)) else some false) = some false := by
    by_cases hi2 : i < x.length
    ·rw [lt_true hi2, cond_true, decide_eq_false (by omega)]
    ·rw [lt_false hi2, cond_false]
   rw [e]
   simp only [oBs, cond_false]
   have hw := wr64 (0 - v)
   have hz : ∃ z, (bif (decide ((x.length : Int) > 0)) then (ix x 0).bind fun b133 => some (((b133).toNat : Int) == 45) else some false) = some z := by
    by_cases h0 : 0 < x.length
    ·have hix : ix x 0 = some x[0] := ix_nat (i := 0) h0
     rw [hix]
     exact ⟨bif (decide ((x.length : Int) > 0)) then ((x[0].toNat : Int) == 45) else false, by cases decide ((x.length : Int) > 0) <;> rfl⟩
    ·rw [decide_eq_false (by omega)]; exact ⟨false, rfl⟩
   obtain ⟨z, hz⟩ := hz
   rw [hz]
   simp only [oBs]
   cases z with
   | true =>
    simp only [cond_true]
    exact rd27_k3 N N' hN hN' (ms_ReadDec_l1 N n) (ms_ReadDec_l1 N' m) x c _ hw.1 hw.2
   | false =>
    simp only [cond_false]
    exact rd27_k3 N N' hN hN' (ms_ReadDec_l1 N n) (ms_ReadDec_l1 N' m) x c v h1 h2
def nm27 (x : List UInt8) : Int × Bool := (ms_Numeral 200 x).getD (0, false)
theorem num27_is (x : List UInt8) (hx : x.length ≤ 1048576) (M : Nat) (hM : 200 ≤ M) : ms_Numeral M x = some (nm27 x) := by
 obtain ⟨e, hs⟩ := rd27_l x hx 11 200 M 200 M 0 0 0 (by omega) (by omega) (by omega) (by omega) (by omega) (by omega) (by omega) (by omega)
 have e : ms_ReadDec 200 x = ms_ReadDec M x := e
 have hs : (ms_ReadDec 200 x).isSome = true := hs
 unfold nm27 ms_Numeral
 rw [← e]
 cases hr : ms_ReadDec 200 x with
 | none => rw [hr] at hs; cases hs
 | some r =>
  simp only [oBs]
  cases (!r.2) with
  | true => rfl
  | false =>
   rw [cond_false, oBs]
   cases decide (r.1 < 0) <;> rfl
theorem at27 (a : List SNode) (env : List SBind) (henv : env.length ≤ 100) (hs : ∀ z, z ∈ a → smNode z) : ∀ (t : STree), AllT ArP t → ∀ (s i M : Nat), TA a t s i → 1000 + 3 * szT t ≤ M → (scc9 M).ms_l27At a (i : Int) env = some (evT nm27 (vr27 env) t) := by
 intro t
 induction t using STree.ind with
 | h t ih =>
  intro har s i M h hM
  obtain ⟨M, rfl⟩ : ∃ m, M = m + 3 := ⟨M - 3, by have := szT_pos t; omega⟩
  have hse := szT_eq t
  obtain ⟨n, hn, e1, e2, e3, e4, hka, hkl⟩ := h.node
  obtain ⟨k, o, x, y, ts⟩ := t
  rw [AllT] at har
  obtain ⟨ha, hall⟩ := har
  have e1 : k = n.Kind := e1
  have e2 : o = n.Op := e2
  have e3 : x = n.Text := e3
  have hkl : ts.length = n.Kids.length := hkl
  have hse : szT ⟨k, o, x, y, ts⟩ = szTs ts + 1 := hse
  have hxl : x.length ≤ 1048576 := by
   have := hs n (List.mem_of_getElem? hn)
   unfold smNode at this
   rw [e3]; omega
  -- a kid's value
  have kid : ∀ (j : Nat) (u : STree) (m : Nat), ts[j]? = some u → 1000 + 3 * szTs ts ≤ m → ∃ e, ix n.Kids (j : Int) = some e ∧ (scc9 m).ms_l27At a e env = some (evT nm27 (vr27 env) u) := fun j u m hu hm => by
   obtain ⟨kk, s', hk, hTx, _⟩ := hka.get j u hu
   have hmem := List.mem_of_getElem? hu
   exact ⟨_, ix_get hk, ih u hmem (hall.mem u hmem) s' kk m hTx (by have := szTs_mem hmem; omega)⟩
  have node : (scc9 (M + 2)).ms_l27Node a n env = some (ev27 nm27 (vr27 env) k o x (evTs nm27 (vr27 env) ts)) := by
   show ms_l27Node_F (M + 1) (scc9 (M + 1)) a n env = _
   unfold ms_l27Node_F ev27
   rw [← e1, ← e2, ← e3]
   by_cases h1 : k = 1
   ·have : (k == 1) = true := by simpa using h1
    rw [this, cond_true, cond_true, var27_is env x henv (M + 1) (by omega)]; rfl
   have : (k == 1) = false := by simpa using h1
   rw [this, cond_false, cond_false]
   by_cases h2 : k = 2
   ·have : (k == 2) = true := by simpa using h2
    rw [this, cond_true, cond_true, num27_is x hxl (M + 1) (by omega)]; rfl
   have : (k == 2) = false := by simpa using h2
   rw [this, cond_false, cond_false]
   by_cases h11 : k = 11
   ·have : (k == 11) = true := by simpa using h11
    rw [this, cond_true, cond_true]
    obtain ⟨u, rfl⟩ := List.length_eq_one_iff.1 (ha.1 h11)
    obtain ⟨e, g1, g2⟩ := kid 0 u (M + 1) rfl (by omega)
    have g1 : ix n.Kids 0 = some e := g1
    rw [g1, oBs, g2, oBs, evTs, evTs]
    have hg : g27 [evT nm27 (vr27 env) u] 0 = evT nm27 (vr27 env) u := rfl
    rw [hg]
    cases (o == 61) with
    | true =>
     rw [cond_true, cond_true, bool27, bool27]
     cases ((evT nm27 (vr27 env) u).1 == 0) <;> rfl
    | false =>
     rw [cond_false, cond_false]
     cases (o == 56) <;> rfl
   have : (k == 11) = false := by simpa using h11
   rw [this, cond_false, cond_false]
   by_cases h14 : k = 14
   ·have : (k == 14) = true := by simpa using h14
    rw [this, cond_true, cond_true]
    have hl : ts.length = 3 := ha.2.2.1 h14
    obtain ⟨u, v, w, rfl⟩ : ∃ u v w, ts = [u, v, w] := by
     match ts, hl with
     | [u, v, w], _ => exact ⟨u, v, w, rfl⟩
    obtain ⟨e, g1, g2⟩ := kid 0 u (M + 1) rfl (by omega)
    obtain ⟨e', g3, g4⟩ := kid 1 v (M + 1) rfl (by omega)
    obtain ⟨e'', g5, g6⟩ := kid 2 w (M + 1) rfl (by omega)
    have g1 : ix n.Kids 0 = some e := g1
    have g3 : ix n.Kids 1 = some e' := g3
    have g5 : ix n.Kids 2 = some e'' := g5
    rw [g1, oBs, g2, oBs, evTs, evTs, evTs, evTs]
    unfold ms_l27Node_k1
    dsimp only
    rw [g3, g5, oBs, oBs, g4, g6, oBs, oBs]
    have hg0 : g27 [evT nm27 (vr27 env) u, evT nm27 (vr27 env) v, evT nm27 (vr27 env) w] 0 = evT nm27 (vr27 env) u := rfl
    have hg1 : g27 [evT nm27 (vr27 env) u, evT nm27 (vr27 env) v, evT nm27 (vr27 env) w] 1 = evT nm27 (vr27 env) v := rfl
    have hg2 : g27 [evT nm27 (vr27 env) u, evT nm27 (vr27 env) v, evT nm27 (vr27 env) w] 2 = evT nm27 (vr27 env) w := rfl
    rw [hg0, hg1, hg2]
    cases ((evT nm27 (vr27 env) u).1 != 0) <;> cases (!(evT nm27 (vr27 env) u).2) <;> rfl
   have : (k == 14) = false := by simpa using h14
   rw [this, cond_false, cond_false]
   by_cases h12 : k = 12
   ·have : (k == 12) = true := by simpa using h12
    rw [this, cond_true, cond_true]
    obtain ⟨u, v, rfl⟩ := ar_two h12 ha
    rw [evTs, evTs, evTs]
    have hg0 : g27 [evT nm27 (vr27 env) u, evT nm27 (vr27 env) v] 0 = evT nm27 (vr27 env) u := rfl
    have hg1 : g27 [evT nm27 (vr27 env) u, evT nm27 (vr27 env) v] 1 = evT nm27 (vr27 env) v := rfl
    rw [hg0, hg1]
    have hor : (bif (o == 45) then some true else some (o == 44)) = some (o == 45 || o == 44) := by cases (o == 45) <;> rfl
    rw [hor, oBs]
    cases hl : (o == 45 || o == 44) with
    | true =>
     rw [cond_true, cond_true]
     obtain ⟨e, g1, g2⟩ := kid 0 u M rfl (by omega)
     obtain ⟨e', g3, g4⟩ := kid 1 v M rfl (by omega)
     have g1 : ix n.Kids 0 = some e := g1
     have g3 : ix n.Kids 1 = some e' := g3
     have lz : (scc9 (M + 1)).ms_l27Lazy a n env = some (bif !(evT nm27 (vr27 env) u).2 then (0, false) else bif ((evT nm27 (vr27 env) u).1 != 0) == (o == 44) then (b2i ((evT nm27 (vr27 env) u).1 != 0), true) else (b2i ((evT nm27 (vr27 env) v).1 != 0), (evT nm27 (vr27 env) v).2)) := by
      show ms_l27Lazy_F M (scc9 M) a n env = _
      unfold ms_l27Lazy_F
      rw [g1, oBs, g2, oBs, g3, oBs, g4, oBs, bool27, bool27, ← e2]
      cases (!(evT nm27 (vr27 env) u).2) with
      | true => rfl
      | false => cases (((evT nm27 (vr27 env) u).1 != 0) == (o == 44)) <;> rfl
     rw [lz]; rfl
    | false =>
     rw [cond_false, cond_false]
     obtain ⟨e, g1, g2⟩ := kid 0 u (M + 1) rfl (by omega)
     obtain ⟨e', g3, g4⟩ := kid 1 v (M + 1) rfl (by omega)
     have g1 : ix n.Kids 0 = some e := g1
     have g3 : ix n.Kids 1 = some e' := g3
     rw [g1, oBs, g2, oBs, g3, oBs, g4, oBs, two_is, oBs]
     cases (two27 o (evT nm27 (vr27 env) u).1 (evT nm27 (vr27 env) v).1).2 <;> cases (evT nm27 (vr27 env) u).2 <;> cases (evT nm27 (vr27 env) v).2 <;> rfl
   have : (k == 12) = false := by simpa using h12
   rw [this, cond_false, cond_false]
  show ms_l27At_F (M + 2) (scc9 (M + 2)) a (i : Int) env = _
  unfold ms_l27At_F
  rw [ix_get hn, oBs, node, oBs, l1In_is, evT]
  unfold cl27
  generalize ev27 nm27 (vr27 env) k o x (evTs nm27 (vr27 env) ts) = v
  rw [oBs]
  cases v.2 with
  | false => rfl
  | true =>
   cases (decide (v.1 ≥ -1000000000) && decide (v.1 ≤ 1000000000)) <;> rfl

end Go.Proofs.Tryz
