/-
 Plain lemmas on the models, part 6.
-/
import Derived.Test.YthgednmgmjmmpaaGreatDoorRcSP5
namespace Go.Proofs.Tryz
open Go.Av
set_option maxRecDepth 100000
set_option linter.unusedSimpArgs false
set_option linter.unusedVariables false

section
set_option linter.unusedSectionVars false
variable {l : List SToken} (hl : l.length ≤ 3000) (hst : ∀ t, t ∈ l → t.Text.length ≤ 1048576) {i : Nat} (hil : i ≤ l.length) (IH : ∀ i' lv, i < i' → i' ≤ l.length → 1 ≤ lv → lv ≤ 15 → LV l i' lv)
include hl hst hil IH

theorem lv_cond (hS : LV l i 3) : LV l i 2 := by
 intro M M' r p ns ns' hM hM' hn hn' hp hin hgt
 obtain ⟨M, rfl⟩ : ∃ k, M = k + 1 := ⟨M - 1, by omega⟩
 obtain ⟨M', rfl⟩ : ∃ k, M' = k + 3 := ⟨M' - 3, by omega⟩
 rw [(at_dir hl hst hil IH (M' + 2) p ns').2.1 hp]
 show PB l i (mp_cond_F M (scc2 M) r l (i : Int) false ns) (ms_l11Cond_F (M' + 1) (scc1 (M' + 1)) p l (i : Int) false ns')
 unfold mp_cond_F ms_l11Cond_F ms_l11Part ms_l11Over
 simp only [Option.bind_some]
 obtain ⟨p1, X1, j1, b1, ns1, ns1', e1, e2, hd1⟩ := (hS M (M' + 1) r ⟨3, false, p.NoIn, p.NoGt, false⟩ ns ns' (by omega) (by omega) hn hn' rfl hin hgt).out
 have e1 : (scc2 M).mp_or r l (i : Int) false ns = some (p1, (j1 : Int), b1, ns1) := e1
 simp only [e1, e2, Option.bind_some, kindI, kindS]
 cases b1 with
 | true => simp only [cond_true, Option.bind_some]; exact hd1.pb
 | false =>
  simp only [cond_false, Option.bind_some]
  by_cases h65 : kd l j1 = 65
  ·have hj1 := kd_lt (l := l) (i := j1) (by rw [h65]; decide)
   obtain ⟨a1, a2, a3, a4, a5, a6, a7⟩ := id hd1
   obtain ⟨c1, c2, c3, c4⟩ := a7 rfl
   have len1 : X1.l.length = szT p1.tree := by rw [c2, lst_len]
   simp only [h65, bne_self_eq_false, cond_false, takeS_yes ns1' hj1 (show l.length ≤ 100000 by omega) h65, Option.bind_some]
   rw [wrap64 (by omega) (by omega), show ((j1 : Int) + 1) = ((j1 + 1 : Nat) : Int) by omega]
   obtain ⟨p2, X2, j2, b2, ns2, ns2', f1, f2, hd2⟩ := (IH (j1 + 1) 2 (by omega) (by omega) (by decide) (by decide) M (M' + 1) r ⟨2, false, p.NoIn, p.NoGt, false⟩ ns1 ns1' (by omega) (by omega) (by omega) (by omega) rfl hin hgt).out
   have f1 : (scc2 M).mp_cond r l ((j1 + 1 : Nat) : Int) false ns1 = some (p2, (j2 : Int), b2, ns2) := f1
   obtain ⟨u1, u2, u3, u4, u5, u6, u7⟩ := id hd2
   simp only [f1, f2, Option.bind_some]
   -- the second part is bad, or no colon follows
   have stop : PB l i (some (⟨⟨0, 0, [], [], []⟩, false⟩, (j2 : Int), true, ns2)) (Option.bind (Option.bind (ms_l6Make (M' + 1) ⟨14, 0, [], [], []⟩ [X1.l, X2.l, []]) fun r2 => some (⟨r2, false⟩ : SL11X)) fun r24 => some (r24, (j2 : Int), true, ns2')) := by
    obtain ⟨rr, r1, r2⟩ := fin_PB hl (N := M' + 1) (i := i) (j := j2) (by omega) 14 0 [] (by simp) false [] [X1.l, X2.l, []] true ns2 ns2' (by omega) u2 u3 u4 (by simp only [lenS_cons, List.length_nil]; show _ + (_ + (0 + 0)) ≤ _; omega) (by simp) (fun L hL => by
     simp only [List.mem_cons, List.not_mem_nil, or_false] at hL
     rcases hL with h | h | h
     ·rw [h]; exact a5
     ·rw [h]; exact u5
     ·rw [h]; intro x hx; cases hx) rfl (fun h => by cases h)
    obtain ⟨p', X', j', b', n1, n2, g1, g2, hd⟩ := r2.out
    rw [r1, Option.bind_some, Option.bind_some, g2]
    simp only [Option.some.injEq, Prod.mk.injEq, Int.natCast_inj] at g1
    obtain ⟨-, rfl, rfl, rfl⟩ := g1
    exact (PD.bad (i := i) hd (by omega) rfl).pb
   cases b2 with
   | true =>
    simp only [takeI_bad, takeS_bad, Option.bind_some, cond_true]
    rw [atS_bad]
    simp only [Option.bind_some]
    exact stop
   | false =>
    by_cases h66 : kd l j2 = 66
    ·have hj2 := kd_lt (l := l) (i := j2) (by rw [h66]; decide)
     obtain ⟨v1, v2, v3, v4⟩ := u7 rfl
     have len2 : X2.l.length = szT p2.tree := by rw [v2, lst_len]
     simp only [takeI_yes ns2 (show j2 ≤ 100000 by omega) h66, takeS_yes ns2' hj2 (show l.length ≤ 100000 by omega) h66, Option.bind_some, cond_false]
     obtain ⟨p3, X3, j3, b3, ns3, ns3', g1, g2, hd3⟩ := (IH (j2 + 1) 2 (by omega) (by omega) (by decide) (by decide) M (M' + 1) r ⟨2, false, p.NoIn, p.NoGt, false⟩ ns2 ns2' (by omega) (by omega) (by omega) (by omega) rfl hin hgt).out
     have g1 : (scc2 M).mp_cond r l ((j2 + 1 : Nat) : Int) false ns2 = some (p3, (j3 : Int), b3, ns3) := g1
     simp only [g1, g2, Option.bind_some]
     obtain ⟨w1, w2, w3, w4, w5, w6, w7⟩ := hd3
     obtain ⟨rr, r1, r2⟩ := fin_PB hl (N := M' + 1) (i := i) (j := j3) (by omega) 14 0 [] (by simp) false [p1.tree, p2.tree, p3.tree] [X1.l, X2.l, X3.l] b3 ns3 ns3' (by omega) w2 w3 w4 (by simp only [lenS_cons]; show _ + (_ + (_ + 0)) ≤ _; omega) (by simp) (fun L hL => by
      simp only [List.mem_cons, List.not_mem_nil, or_false] at hL
      rcases hL with h | h | h <;> subst h <;> assumption) rfl (fun hb => by
      obtain ⟨y1, y2, y3, y4⟩ := w7 hb
      refine ⟨by omega, by simp [c2, v2, y2], ?_⟩
      simp only [szTs]; omega)
     rw [r1, Option.bind_some, Option.bind_some]
     exact r2
    ·simp only [takeI_no false ns2 h66, takeS_no false ns2' h66, Option.bind_some, cond_true]
     rw [atS_bad]
     simp only [Option.bind_some]
     exact stop
  ·have n65 : (kd l j1 != 65) = true := by simpa using h65
   simp only [n65, cond_true]
   exact hd1.pb

theorem inS_stop (N : Nat) (R : Rec1) (n : Nat) (p : SPos) (ns : List SToken) (j : Nat) (b held : Bool) (L : List SNode) (h : b = true ∨ p.NoIn = true ∨ kd l j ≠ 24) :
  ms_l11In_l2 N R l (n + 1) (p, ns, (j : Int), b, held, L) = some (⟨L, held⟩, (j : Int), b, ns) := by
 rw [ms_l11In_l2]
 cases b with
 | true => simp only [Bool.not_true, cond_false, Option.bind_some]
 | false =>
  simp only [Bool.not_false, cond_true, kindS, Option.bind_some]
  cases hni : p.NoIn with
  | true => simp only [Bool.not_true, cond_false, Option.bind_some]
  | false =>
   have h24 : kd l j ≠ 24 := by
    rcases h with h | h | h
    ·cases h
    ·rw [hni] at h; cases h
    ·exact h
   have n24 : (kd l j == 24) = false := by simpa using h24
   simp only [Bool.not_false, cond_true, n24, cond_false, Option.bind_some]

theorem inS_go {N : Nat} (hN : 1048577 < N) (R : Rec1) (p0 : SPos) (hni : p0.NoIn = false) {p : SPart} {X : SL11X} {j : Nat} {ns : List (List UInt8)} {ns' : List SToken} (hd : PD l i p X j false ns ns') (h24 : kd l j = 24) :
  ∃ (nm : List UInt8) (j2 : Nat) (b2 : Bool) (L2 : List SNode), mp_name l (IntKind.wrap .i64 ((j : Int) + 1)) false ns = some (nm, (j2 : Int), b2) ∧
   (∀ n, ms_l11In_l2 N R l (n + 1) (p0, ns', (j : Int), false, X.held, X.l) = ms_l11In_l2 N R l n (p0, ns', (j2 : Int), b2, false, L2)) ∧
   PD l i ⟨⟨13, 0, nm, [], [p.tree]⟩, false⟩ ⟨L2, false⟩ j2 b2 ns ns' ∧ j < j2 := by
 have hj := kd_lt (l := l) (i := j) (by rw [h24]; decide)
 obtain ⟨a1, a2, a3, a4, a5, a6, a7⟩ := hd
 obtain ⟨c1, c2, c3, c4⟩ := a7 rfl
 have len1 : X.l.length = szT p.tree := by rw [c2, lst_len]
 rw [wrap64 (by omega) (by omega), show ((j : Int) + 1) = ((j + 1 : Nat) : Int) by omega]
 have go : ∀ (tk : SToken) (j2 : Nat) (b2 : Bool) (L2 : List SNode), ms_l11Take 6 l ((j + 1 : Nat) : Int) false ns' = some (tk, (j2 : Int), b2) → ms_l6Make N ⟨13, 0, tk.Text, [], []⟩ [X.l] = some L2 → ∀ n, ms_l11In_l2 N R l (n + 1) (p0, ns', (j : Int), false, X.held, X.l) = ms_l11In_l2 N R l n (p0, ns', (j2 : Int), b2, false, L2) := fun tk j2 b2 L2 ht hm n => by
  rw [ms_l11In_l2]
  unfold ms_l11Over
  simp only [Bool.not_false, cond_true, kindS, hni, h24, beq_self_eq_true, Option.bind_some, takeS_yes ns' hj (show l.length ≤ 100000 by omega) h24, ht, hm]
 by_cases h6 : kd l (j + 1) = 6
 ·have hj1 := kd_lt (l := l) (i := j + 1) (by rw [h6]; decide)
  obtain ⟨rr, r1, r2⟩ := fin_PB hl (N := N) (i := i) (j := j + 1 + 1) hN 13 0 l[j + 1].Text (hst _ (List.getElem_mem hj1)) false [p.tree] [X.l] false ns ns' (by omega) (by omega) (by omega) (by omega) (by simp only [lenS_cons]; show _ + 0 ≤ _; omega) (by simp) (fun L hL => by rw [List.mem_singleton.1 hL]; exact a5) rfl (fun _ => ⟨by omega, by simp [c2], by simp only [szTs]; omega⟩)
  refine ⟨l[j + 1].Text, j + 1 + 1, false, rr, nameI_yes ns hj1 (by omega) h6, go _ _ _ _ (takeS_yes ns' hj1 (by omega) h6) r1, ?_, by omega⟩
  obtain ⟨p', X', j', b', n1, n2, g1, g2, hd⟩ := r2.out
  simp only [Option.some.injEq, Prod.mk.injEq, Int.natCast_inj] at g1 g2
  obtain ⟨rfl, rfl, rfl, rfl⟩ := g1
  obtain ⟨rfl, -, -, rfl⟩ := g2
  exact hd
 ·obtain ⟨rr, r1, r2⟩ := fin_PB hl (N := N) (i := i) (j := j + 1) hN 13 0 [] (by simp) false [p.tree] [X.l] true ns ns' (by omega) (by omega) (by omega) (by omega) (by simp only [lenS_cons]; show _ + 0 ≤ _; omega) (by simp) (fun L hL => by rw [List.mem_singleton.1 hL]; exact a5) rfl (fun h => by cases h)
  refine ⟨[], j + 1, true, rr, nameI_no false ns h6, go _ _ _ _ (takeS_no false ns' h6) r1, ?_, by omega⟩
  obtain ⟨p', X', j', b', n1, n2, g1, g2, hd⟩ := r2.out
  simp only [Option.some.injEq, Prod.mk.injEq, Int.natCast_inj] at g1 g2
  obtain ⟨rfl, rfl, rfl, rfl⟩ := g1
  obtain ⟨rfl, -, -, rfl⟩ := g2
  exact hd

theorem in_loop {N : Nat} (hN : 1048577 < N) (R : Rec1) (p0 : SPos) (hni : p0.NoIn = false) (ns : List (List UInt8)) (ns' : List SToken) (lp : Nat → (Int × Bool × List UInt8 × List STree) → PI)
  (H1 : ∀ (n j : Nat) (b : Bool) (nm : List UInt8) (ks : List STree), (b = true ∨ kd l j ≠ 24) → lp (n + 1) ((j : Int), b, nm, ks) = some (⟨⟨13, 0, nm, [], ks⟩, false⟩, (j : Int), b, ns))
  (H2 : ∀ (n j : Nat) (nm : List UInt8) (ks : List STree), kd l j = 24 → lp (n + 1) ((j : Int), false, nm, ks) = Option.bind (mp_name l (IntKind.wrap .i64 ((j : Int) + 1)) false ns) fun q => lp n (q.2.1, q.2.2, q.1, [⟨13, 0, nm, [], ks⟩])) :
  ∀ (n n' j : Nat) (b : Bool) (nm : List UInt8) (ks : List STree) (L : List SNode), 0 < n → 0 < n' → (b = false → l.length - j < n ∧ l.length - j < n') → PD l i ⟨⟨13, 0, nm, [], ks⟩, false⟩ ⟨L, false⟩ j b ns ns' →
   PB l i (lp n ((j : Int), b, nm, ks)) (ms_l11In_l2 N R l n' (p0, ns', (j : Int), b, false, L)) := by
 intro n
 induction n with
 | zero => intro n' j b nm ks L h; omega
 | succ n ih =>
  intro n' j b nm ks L _ hn' hb hd
  obtain ⟨n', rfl⟩ : ∃ k, n' = k + 1 := ⟨n' - 1, by omega⟩
  cases b with
  | true =>
   rw [H1 n j true nm ks (Or.inl rfl), inS_stop hl hst hil IH N R n' p0 ns' j true false L (Or.inl rfl)]
   exact hd.pb
  | false =>
   by_cases h24 : kd l j = 24
   ·have hj := kd_lt (l := l) (i := j) (by rw [h24]; decide)
    obtain ⟨k1, k2⟩ := hb rfl
    obtain ⟨nm2, j2, b2, L2, g1, g2, g3, g4⟩ := inS_go hl hst hil IH hN R p0 hni hd h24
    rw [H2 n j nm ks h24, g1, Option.bind_some, g2 n']
    exact ih n' j2 b2 nm2 _ L2 (by omega) (by omega) (fun _ => by omega) g3
   ·rw [H1 n j false nm ks (Or.inr h24), inS_stop hl hst hil IH N R n' p0 ns' j false false L (Or.inr (Or.inr h24))]
    exact hd.pb

theorem lv_in (hS : LV l i 6) : LV l i 5 := by
 intro M M' r p ns ns' hM hM' hn hn' hp hin hgt
 obtain ⟨M, rfl⟩ : ∃ k, M = k + 3 := ⟨M - 3, by omega⟩
 obtain ⟨M', rfl⟩ : ∃ k, M' = k + 3 := ⟨M' - 3, by omega⟩
 rw [(at_dir hl hst hil IH (M' + 2) p ns').2.2.1 hp]
 show PB l i (mp_in_F (M + 2) (scc2 (M + 2)) r l (i : Int) false ns) (ms_l11In_F (M' + 1) (scc1 (M' + 1)) p l (i : Int) false ns')
 unfold mp_in_F ms_l11In_F
 -- the two loops
 have lpA : ∀ (R1 : ((List STree) × Int × Bool × (List (List UInt8)))), r.noIn = false → (∀ (n j : Nat) (b : Bool) (nm : List UInt8) (ks : List STree), (b = true ∨ kd l j ≠ 24) → mp_in_l1 (M + 2) (scc2 (M + 2)) l (n + 1) (r, R1, (j : Int), b, nm, ks) = some (⟨⟨13, 0, nm, [], ks⟩, false⟩, (j : Int), b, R1.2.2.2)) ∧
   (∀ (n j : Nat) (nm : List UInt8) (ks : List STree), kd l j = 24 → mp_in_l1 (M + 2) (scc2 (M + 2)) l (n + 1) (r, R1, (j : Int), false, nm, ks) = Option.bind (mp_name l (IntKind.wrap .i64 ((j : Int) + 1)) false R1.2.2.2) fun q => mp_in_l1 (M + 2) (scc2 (M + 2)) l n (r, R1, q.2.1, q.2.2, q.1, [⟨13, 0, nm, [], ks⟩])) := fun R1 hno => by
  refine ⟨fun n j b nm ks h => ?_, fun n j nm ks h => ?_⟩
  ·rw [mp_in_l1]
   cases b with
   | true => simp only [Bool.not_true, cond_false, Option.bind_some]
   | false =>
    have n24 : (kd l j == 24) = false := by simpa using h
    simp only [Bool.not_false, cond_true, kindI, Option.bind_some, n24, cond_false]
  ·rw [mp_in_l1]
   simp only [Bool.not_false, cond_true, kindI, Option.bind_some, h, beq_self_eq_true, hno]
 have lpB : ∀ (R1 : (SPart × Int × Bool × (List (List UInt8)))), r.noIn = false → (∀ (n j : Nat) (b : Bool) (nm : List UInt8) (ks : List STree), (b = true ∨ kd l j ≠ 24) → mp_in_l2 (M + 2) (scc2 (M + 2)) l (n + 1) (r, R1, (j : Int), b, nm, ks) = some (⟨⟨13, 0, nm, [], ks⟩, false⟩, (j : Int), b, R1.2.2.2)) ∧
   (∀ (n j : Nat) (nm : List UInt8) (ks : List STree), kd l j = 24 → mp_in_l2 (M + 2) (scc2 (M + 2)) l (n + 1) (r, R1, (j : Int), false, nm, ks) = Option.bind (mp_name l (IntKind.wrap .i64 ((j : Int) + 1)) false R1.2.2.2) fun q => mp_in_l2 (M + 2) (scc2 (M + 2)) l n (r, R1, q.2.1, q.2.2, q.1, [⟨13, 0, nm, [], ks⟩])) := fun R1 hno => by
  refine ⟨fun n j b nm ks h => ?_, fun n j nm ks h => ?_⟩
  ·rw [mp_in_l2]
   cases b with
   | true => simp only [Bool.not_true, cond_false, Option.bind_some]
   | false =>
    have n24 : (kd l j == 24) = false := by simpa using h
    simp only [Bool.not_false, cond_true, kindI, Option.bind_some, n24, cond_false]
  ·rw [mp_in_l2]
   simp only [Bool.not_false, cond_true, kindI, Option.bind_some, h, beq_self_eq_true, hno]
 have hla : ∃ la : Bool, (bif (kd l i == 32) then bif (!r.noIn) then Option.bind (mp_listAhead (M + 2) l (i : Int) false ns) fun r19 => some r19 else (some false) else (some false)) = some la ∧
   (bif (!p.NoIn) then Option.bind (ms_l11Comma (M' + 1) l (i : Int) false ns') fun r119 => some r119 else (some false)) = some la ∧ (la = true → kd l i = 32 ∧ r.noIn = false ∧ kd l (i + 1) ≠ 33) := by
  rw [hin]
  cases hno : r.noIn with
  | true =>
   refine ⟨false, ?_, rfl, fun h => by cases h⟩
   cases kd l i == 32 <;> rfl
  | false =>
   by_cases h32 : kd l i = 32
   ·obtain ⟨la, g1, g2, g3⟩ := la_is hl (N := M + 2) (N' := M' + 1) (by omega) (by omega) ns ns' h32
    refine ⟨la, ?_, ?_, fun h => ⟨h32, rfl, g3 h⟩⟩
    ·rw [h32, g1]; rfl
    ·rw [g2]; rfl
   ·refine ⟨false, ?_, ?_, fun h => by cases h⟩
    ·rw [beq_eq_false_iff_ne.2 h32]; rfl
    ·unfold ms_l11Comma
     simp only [cond_false, kindS, Option.bind_some]
     rw [bne_iff_ne.2 h32]; rfl
 obtain ⟨la, la1, la2, la3⟩ := hla
 simp only [Bool.not_false, cond_true, kindI, Option.bind_some, la1, la2]
 cases la with
 | true =>
  obtain ⟨h32, hno, h33⟩ := la3 rfl
  have hi := kd_lt (l := l) (i := i) (by rw [h32]; decide)
  have hni : p.NoIn = false := by rw [hin]; exact hno
  simp only [cond_true, takeS_yes ns' hi (show l.length ≤ 100000 by omega) h32, Option.bind_some]
  rw [wrap64 (by omega) (by omega), show ((i : Int) + 1) = ((i + 1 : Nat) : Int) by omega]
  obtain ⟨ts, Ls, j, b, ms, ms', g1, g2, g3, g4⟩ := lists hl (q := i + 1) (fun i' ha hb => IH i' 1 (by omega) hb (by decide) (by decide)) (M := M) (M' := M') (by omega) (by omega) 33 1 (by omega) (by decide) (by
   rw [beq_eq_false_iff_ne.2 h33]; rfl) ns ns' (by omega) (by omega)
  rw [g2, g3, Option.bind_some, Option.bind_some]
  obtain ⟨a1, a2, a3, a4, a5, a6, a7, a8⟩ := id g1
  -- bad, or no "in"
  have stop : PB l i (some (⟨⟨0, 0, [], [], []⟩, false⟩, (j : Int), true, ms)) (Option.bind (ms_l6Make (M' + 1) ⟨13, 0, [], [], []⟩ Ls) fun r129 => ms_l11In_k1 (M' + 1) (scc1 (M' + 1)) l (p, (j : Int), true, false, ms', r129)) := by
   obtain ⟨rr, r1, r2⟩ := fin_PB hl (N := M' + 1) (i := i) (j := j) (by omega) 13 0 [] (by simp) false [] Ls true ms ms' (by omega) a2 a3 a4 (by omega) (by omega) a5 rfl (fun h => by cases h)
   obtain ⟨p', X', j', b', n1, n2, k1, k2, hd⟩ := r2.out
   rw [r1, Option.bind_some]
   unfold ms_l11In_k1
   simp only []
   rw [inS_stop hl hst hil IH (M' + 1) _ M' p ms' j true false rr (Or.inl rfl), k2]
   simp only [Option.some.injEq, Prod.mk.injEq, Int.natCast_inj] at k1
   obtain ⟨-, rfl, rfl, rfl⟩ := k1
   exact (PD.bad (i := i) hd (by omega) rfl).pb
  cases b with
  | true =>
   simp only [Bool.not_true, cond_false, Option.bind_some, takeS_bad]
   exact stop
  | false =>
   simp only [Bool.not_false, cond_true, kindI, Option.bind_some]
   by_cases h24 : kd l j = 24
   ·have hj := kd_lt (l := l) (i := j) (by rw [h24]; decide)
    simp only [h24, bne_self_eq_false, beq_self_eq_true, cond_true, cond_false, hno, Bool.not_false, takeS_yes ms' hj (show l.length ≤ 100000 by omega) h24, Option.bind_some]
    have hne : neN ts = some false := by
     have := g4 (by rw [beq_eq_false_iff_ne.2 h33]; rfl)
     cases ts with
     | nil => exact absurd rfl this
     | cons t ts => rfl
    obtain ⟨q1, q2⟩ := lpA (ts, (j : Int), false, ms) hno
    rw [hne, Option.bind_some, wrap64 (by omega) (by omega), show ((j : Int) + 1) = ((j + 1 : Nat) : Int) by omega]
    unfold ms_l11In_k1
    simp only []
    obtain ⟨c1, c2⟩ := a8 rfl
    by_cases h6 : kd l (j + 1) = 6
    ·have hj1 := kd_lt (l := l) (i := j + 1) (by rw [h6]; decide)
     obtain ⟨rr, r1, r2⟩ := fin_PB hl (N := M' + 1) (i := i) (j := j + 1 + 1) (by omega) 13 0 l[j + 1].Text (hst _ (List.getElem_mem hj1)) false ts Ls false ms ms' (by omega) (by omega) (by omega) (by omega) (by omega) (by omega) a5 rfl (fun _ => ⟨by omega, c1, by omega⟩)
     obtain ⟨p', X', j', b', n1, n2, k1, k2, hd⟩ := r2.out
     simp only [Option.some.injEq, Prod.mk.injEq, Int.natCast_inj] at k1 k2
     obtain ⟨rfl, rfl, rfl, rfl⟩ := k1
     obtain ⟨rfl, -, -, rfl⟩ := k2
     simp only [nameI_yes ms hj1 (show l.length ≤ 100000 by omega) h6, takeS_yes ms' hj1 (show l.length ≤ 100000 by omega) h6, Option.bind_some, r1]
     exact in_loop hl hst hil IH (N := M' + 1) (by omega) (scc1 (M' + 1)) p hni ms ms' (fun n s => mp_in_l1 (M + 2) (scc2 (M + 2)) l n (r, (ts, (j : Int), false, ms), s)) q1 q2 (M + 2) (M' + 1) (j + 1 + 1) false l[j + 1].Text ts rr (by omega) (by omega) (fun _ => by omega) hd
    ·obtain ⟨rr, r1, r2⟩ := fin_PB hl (N := M' + 1) (i := i) (j := j + 1) (by omega) 13 0 [] (by simp) false ts Ls true ms ms' (by omega) (by omega) (by omega) (by omega) (by omega) (by omega) a5 rfl (fun h => by cases h)
     obtain ⟨p', X', j', b', n1, n2, k1, k2, hd⟩ := r2.out
     simp only [Option.some.injEq, Prod.mk.injEq, Int.natCast_inj] at k1 k2
     obtain ⟨rfl, rfl, rfl, rfl⟩ := k1
     obtain ⟨rfl, -, -, rfl⟩ := k2
     simp only [nameI_no false ms h6, takeS_no false ms' h6, Option.bind_some, r1]
     exact in_loop hl hst hil IH (N := M' + 1) (by omega) (scc1 (M' + 1)) p hni ms ms' (fun n s => mp_in_l1 (M + 2) (scc2 (M + 2)) l n (r, (ts, (j : Int), false, ms), s)) q1 q2 (M + 2) (M' + 1) (j + 1) true [] ts rr (by omega) (by omega) (fun h => by cases h) hd
   ·have n24 : (kd l j != 24) = true := by simpa using h24
    unfold mp_fail
    simp only [n24, cond_true, Option.bind_some, takeS_no false ms' h24, takeS_bad]
    exact stop
 | false =>
  simp only [cond_false]
  unfold ms_l11Part ms_l11In_k1
  rw [Option.bind_some]
  obtain ⟨q, X, j, b, ms, ms', e1, e2, hd⟩ := (hS (M + 2) (M' + 1) r ⟨6, false, p.NoIn, p.NoGt, false⟩ ns ns' (by omega) (by omega) hn hn' rfl hin hgt).out
  have e1 : (scc2 (M + 2)).mp_match r l (i : Int) false ns = some (q, (j : Int), b, ms) := e1
  simp only [e1, e2, Option.bind_some, kindI]
  cases b with
  | true =>
   simp only [Bool.not_true, cond_false, Option.bind_some]
   rw [inS_stop hl hst hil IH (M' + 1) _ M' p ms' j true X.held X.l (Or.inl rfl)]
   exact hd.pb
  | false =>
   simp only [Bool.not_false, cond_true]
   by_cases hgo : kd l j = 24 ∧ r.noIn = false
   ·obtain ⟨h24, hno⟩ := hgo
    have hj := kd_lt (l := l) (i := j) (by rw [h24]; decide)
    have hni : p.NoIn = false := by rw [hin]; exact hno
    obtain ⟨nm, j2, b2, L2, k1, k2, k3, k4⟩ := inS_go hl hst hil IH (N := M' + 1) (by omega) (scc1 (M' + 1)) p hni hd h24
    simp only [h24, hno, beq_self_eq_true, Bool.not_false, cond_true, Option.bind_some, k1]
    rw [k2 M']
    obtain ⟨q1, q2⟩ := lpB (q, (j : Int), false, ms) hno
    exact in_loop hl hst hil IH (N := M' + 1) (by omega) (scc1 (M' + 1)) p hni ms ms' (fun n s => mp_in_l2 (M + 2) (scc2 (M + 2)) l n (r, (q, (j : Int), false, ms), s)) q1 q2 (M + 2) M' j2 b2 nm [q.tree] L2 (by omega) (by omega) (fun _ => by omega) k3
   ·have e : (bif kd l j == 24 then some !r.noIn else some false) = some false := by
     by_cases h24 : kd l j = 24
     ·have : r.noIn = true := by
       cases h : r.noIn with
       | true => rfl
       | false => exact absurd ⟨h24, h⟩ hgo
      rw [h24, this]; rfl
     ·rw [beq_eq_false_iff_ne.2 h24]; rfl
    simp only [e, Option.bind_some, cond_false]
    rw [inS_stop hl hst hil IH (M' + 1) _ M' p ms' j false X.held X.l (Or.inr (by
     by_cases h24 : kd l j = 24
     ·refine Or.inl ?_
      rw [hin]
      cases h : r.noIn with
      | true => rfl
      | false => exact absurd ⟨h24, h⟩ hgo
     ·exact Or.inr h24))]
    exact hd.pb

theorem lv_all : ∀ lv, 1 ≤ lv → lv ≤ 15 → LV l i lv := by
 have h15 := lv_primary hl hst hil IH
 have h14 := lv_field hl hst hil IH
 have h13 := lv_incr hl hst hil IH h14
 have h12 := lv_pow hl hst hil IH h13
 have h11 := lv_unary hl hst hil IH h13
 have ih : ∀ lv, 1 ≤ lv → lv ≤ 15 → ∀ i', i < i' → i' ≤ l.length → LV l i' lv := fun lv a b i' c d => IH i' lv c d a b
 have h10 := lv_mul hl (ih 11 (by decide) (by decide)) h11
 have h9 := lv_add hl (ih 10 (by decide) (by decide)) h10
 have h8 := lv_cat hl (ih 9 (by decide) (by decide)) h9
 have h7 := lv_compare hl (ih 8 (by decide) (by decide)) h8
 have h6 := lv_match hl (ih 7 (by decide) (by decide)) h7
 have h5 := lv_in hl hst hil IH h6
 have h4 := lv_and hl (ih 5 (by decide) (by decide)) h5
 have h3 := lv_or hl (ih 4 (by decide) (by decide)) h4
 have h2 := lv_cond hl hst hil IH h3
 have h1 := lv_assign hl hst hil IH h2
 intro lv a b
 match lv, a, b with
 | 1, _, _ => exact h1
 | 2, _, _ => exact h2
 | 3, _, _ => exact h3
 | 4, _, _ => exact h4
 | 5, _, _ => exact h5
 | 6, _, _ => exact h6
 | 7, _, _ => exact h7
 | 8, _, _ => exact h8
 | 9, _, _ => exact h9
 | 10, _, _ => exact h10
 | 11, _, _ => exact h11
 | 12, _, _ => exact h12
 | 13, _, _ => exact h13
 | 14, _, _ => exact h14
 | 15, _, _ => exact h15
end

theorem levels {l : List SToken} (hl : l.length ≤ 3000) (hst : ∀ t, t ∈ l → t.Text.length ≤ 1048576) : ∀ (d i : Nat), l.length - i = d → i ≤ l.length → ∀ lv, 1 ≤ lv → lv ≤ 15 → LV l i lv := by
 intro d
 induction d using Nat.strongRecOn with
 | _ d ih =>
  intro i hd hi
  exact lv_all hl hst hi fun i' lv a b c e => ih (l.length - i') (by omega) i' rfl b lv c e

mutual
def stT (b : Nat) : STree → List Int
 | ⟨_, _, _, _, ks⟩ => stTs b ks ++ [(b : Int)]
def stTs (b : Nat) : List STree → List Int
 | [] => []
 | t :: ts => stT b t ++ stTs (b + szT t) ts
end
mutual
theorem stT_len : ∀ (t : STree) (b : Nat), (stT b t).length = szT t
 | ⟨_, _, _, _, ks⟩, b => by rw [stT, szT, List.length_append, stTs_len ks b]; rfl
theorem stTs_len : ∀ (ts : List STree) (b : Nat), (stTs b ts).length = szTs ts
 | [], b => by rw [stTs, szTs]; rfl
 | t :: ts, b => by rw [stTs, szTs, List.length_append, stT_len t b, stTs_len ts _]
end
theorem stT_last (t : STree) (b : Nat) : (stT b t)[szT t - 1]? = some (b : Int) := by
 obtain ⟨k, o, x, y, ks⟩ := t
 rw [stT, szT, Nat.add_sub_cancel, List.getElem?_append_right (by rw [stTs_len]; omega), stTs_len, Nat.sub_self]
 rfl
theorem stTs_app : ∀ (a c : List STree) (b : Nat), stTs b (a ++ c) = stTs b a ++ stTs (b + szTs a) c
 | [], c, b => by simp [stTs, szTs]
 | t :: a, c, b => by rw [List.cons_append, stTs, stTs, szTs, stTs_app a c, List.append_assoc, Nat.add_assoc]

theorem walk_ends (b : Nat) (ts : List STree) : ∀ (m : Nat) (ts1 ts2 : List STree), ts1.length = m → ts1 ++ ts2 = ts → ∀ out : List Int, (∀ i, i < szTs ts → out[b + i]? = (stTs b ts)[i]?) → walk out ((b + szTs ts1 : Nat) : Int) (endsT b ts1).reverse = some (b : Int) := by
 intro m
 induction m with
 | zero =>
  intro ts1 ts2 hl _ out _
  have : ts1 = [] := List.length_eq_zero_iff.1 hl
  subst this
  simp [endsT, walk, szTs]
 | succ m ih =>
  intro ts1 ts2 hl he out ho
  obtain ⟨u, t, rfl⟩ : ∃ u t, ts1 = u ++ [t] := by
   rcases List.eq_nil_or_concat ts1 with rfl | ⟨u, t, rfl⟩
   ·cases hl
   ·exact ⟨u, t, by simp⟩
  have hp := szT_pos t
  have hsz : szTs (u ++ [t]) = szTs u + szT t := by rw [szTs_app, szTs, szTs]; omega
  rw [endsT_app, List.reverse_append, endsT, endsT, List.reverse_cons, List.reverse_nil, List.nil_append, List.singleton_append, walk, hsz]
  have hne : ¬ (((b + (szTs u + szT t) : Nat) : Int) = 0 ∨ (((b + szTs u + szT t : Nat) : Int) - 1) ≠ ((b + (szTs u + szT t) : Nat) : Int) - 1) := by omega
  rw [if_neg hne]
  have htot : szTs ts = szTs u + (szT t + szTs ts2) := by rw [← he, szTs_app, hsz]; omega
  have hi : (((b + (szTs u + szT t) : Nat) : Int) - 1).toNat = b + (szTs u + (szT t - 1)) := by omega
  rw [hi, ho _ (by omega)]
  have hst : stTs b ts = stTs b u ++ (stT (b + szTs u) t ++ stTs (b + szTs u + szT t) ts2) := by
   rw [← he, List.append_assoc, List.singleton_append, stTs_app, stTs]
  rw [hst, List.getElem?_append_right (by rw [stTs_len]; omega), stTs_len, Nat.add_sub_cancel_left, List.getElem?_append_left (by rw [stT_len]; omega), stT_last]
  exact ih u (t :: ts2) (by simpa using hl) (by rw [← he]; simp) out ho

mutual
theorem starts_lst : ∀ (t : STree) (b : Nat) (rest : List (List Int)) (out : List Int), out.length = b → starts (kidsN (lst b t) ++ rest) out = starts rest (out ++ stT b t)
 | ⟨k, o, x, y, ks⟩, b, rest, out, hb => by
  have h1 := starts_lsts ks b ([endsT b ks] ++ rest) out hb
  have hl : (out ++ stTs b ks).length = b + szTs ks := by rw [List.length_append, stTs_len, hb]
  rw [lst, stT]
  have e : kidsN (lsts b ks ++ [(⟨k, o, x, y, endsT b ks⟩ : SNode)]) ++ rest = kidsN (lsts b ks) ++ ([endsT b ks] ++ rest) := by
   unfold kidsN
   rw [List.map_append, List.append_assoc]
   rfl
  rw [e, h1, List.singleton_append, starts, hl]
  have := walk_ends b ks ks.length ks [] rfl (by simp) (out ++ stTs b ks) (fun i hi => by rw [List.getElem?_append_right (by omega), hb, Nat.add_sub_cancel_left])
  rw [this, Option.bind_some, List.append_assoc]
theorem starts_lsts : ∀ (ts : List STree) (b : Nat) (rest : List (List Int)) (out : List Int), out.length = b → starts (kidsN (lsts b ts) ++ rest) out = starts rest (out ++ stTs b ts)
 | [], b, rest, out, hb => by
  rw [lsts, stTs, List.append_nil]
  rfl
 | t :: ts, b, rest, out, hb => by
  rw [lsts, stTs]
  have e : kidsN (lst b t ++ lsts (b + szT t) ts) ++ rest = kidsN (lst b t) ++ (kidsN (lsts (b + szT t) ts) ++ rest) := by
   unfold kidsN
   rw [List.map_append, List.append_assoc]
  rw [e, starts_lst t b _ out hb, starts_lsts ts (b + szT t) rest _ (by rw [List.length_append, stT_len, hb]), List.append_assoc]
end

theorem shapeB_lst (t : STree) (h : szT t ≤ 400) : shapeB (lst 0 t) = true := by
 have hp := szT_pos t
 have hs := starts_lst t 0 [] [] rfl
 rw [List.append_nil, List.nil_append] at hs
 unfold shapeB
 rw [hs, lst_len]
 simp only [starts, rootAt, stT_last, Bool.and_eq_true, decide_eq_true_eq]
 exact ⟨⟨hp, h⟩, by simp⟩

def PR (a : List SNode) (b : Nat) (l : List SNode) : Prop := ∀ (i : Nat) (x : SNode), l[i]? = some x → a[b + i]? = some x
theorem PR.left {a l1 l2 : List SNode} {b : Nat} (h : PR a b (l1 ++ l2)) : PR a b l1 := fun i x hx => h i x (by rw [List.getElem?_append_left (List.getElem?_eq_some_iff.1 hx).1]; exact hx)
theorem PR.right {a l1 l2 : List SNode} {b : Nat} (h : PR a b (l1 ++ l2)) : PR a (b + l1.length) l2 := fun i x hx => by
 have := h (l1.length + i) x (by rw [List.getElem?_append_right (by omega), Nat.add_sub_cancel_left]; exact hx)
 rw [Nat.add_assoc]
 exact this
mutual
theorem TA_lst {a : List SNode} : ∀ (t : STree) (b : Nat), PR a b (lst b t) → TA a t b (b + szT t - 1)
 | ⟨k, o, x, y, ks⟩, b, h => by
  rw [lst] at h
  have h1 := KA_lst ks b h.left
  have h2 := h.right 0 _ rfl
  rw [lsts_len, Nat.add_zero] at h2
  rw [szT, show b + (szTs ks + 1) - 1 = b + szTs ks by omega, TA]
  exact ⟨_, h2, rfl, rfl, rfl, rfl, h1⟩
theorem KA_lst {a : List SNode} : ∀ (ts : List STree) (b : Nat), PR a b (lsts b ts) → KA a ts (endsT b ts) b (b + szTs ts)
 | [], b, h => by
  rw [KA, endsT, szTs]
  exact ⟨rfl, rfl⟩
 | t :: ts, b, h => by
  rw [lsts] at h
  have hp := szT_pos t
  have h1 := TA_lst t b h.left
  have h2 := KA_lst ts (b + szT t) (by have := h.right; rw [lst_len] at this; exact this)
  rw [KA, endsT, szTs]
  refine ⟨b + szT t - 1, endsT (b + szT t) ts, ?_, by omega, by omega, h1, ?_⟩
  ·congr 1
   omega
  ·rw [show b + szT t - 1 + 1 = b + szT t by omega, ← Nat.add_assoc]
   exact h2
end
theorem TA_self (t : STree) : TA (lst 0 t) t 0 ((lst 0 t).length - 1) := by
 have := TA_lst (a := lst 0 t) t 0 (fun i x hx => by rw [Nat.zero_add]; exact hx)
 rw [Nat.zero_add] at this
 rw [lst_len]
 exact this

def smTok (t : SToken) : Prop := t.Text.length ≤ 1048576

theorem ends_ex' (k : Int) : ∃ b : Bool, ms_EndsOperand k = some b ∧ mi_EndsOperand k = some b := by
 have e : mi_EndsOperand k = ms_EndsOperand k := rfl
 rw [e]
 have hk : ∀ b : Bool, ms_EndsOperand_k1 b = some b := by intro b; cases b <;> rfl
 have hb : ∀ (c d : Bool) (X : Option Bool), (∃ b, X = some b) → ∃ b, (bif c then some d else X) = some b := by
  intro c d X hX
  cases c
  ·exact hX
  ·exact ⟨d, rfl⟩
 unfold ms_EndsOperand
 simp only [hk]
 obtain ⟨b, h⟩ := hb (k == 3) (k == 3) _ (hb (k == 4) (k == 4) _ (hb (k == 5) (k == 5) _ (hb (k == 6) (k == 6) _ (hb (k == 8) (k == 8) _ (hb (k == 33) (k == 33) _ (hb (k == 35) (k == 35) _ (hb (k == 51) (k == 51) _ ⟨(k == 52), rfl⟩)))))))
 exact ⟨b, h, h⟩

theorem impl_zero (N M : Nat) (a : List SToken) (ha : a.length ≤ 3000) (hN : 1048576 + 300 < N) (hs : ∀ t, t ∈ a → smTok t) (m i : Nat) (p : Int) (hm : 0 < m) (h : i < a.length) (h0 : a[i].Kind = 0) : mi_TokensOk_l1 N m (a, p, (i : Int)) = some false := by
 obtain ⟨m, rfl⟩ : ∃ k, m = k + 1 := ⟨m - 1, by omega⟩
 have ht := hs _ (List.getElem_mem h)
 unfold smTok at ht
 obtain ⟨b, _, b2, b3⟩ := tokok_ex N a[i] ht (by omega)
 have hb := b3 h0
 subst hb
 have hk : ∀ K, mi_TokensOk_k2 N (mi_TokensOk_l1 N m) (a, p, (i : Int), a[i], K) = some false := by
  intro K
  simp only [mi_TokensOk_k2]
  rw [b2]
  rfl
 have hst : IntKind.wrap .i64 ((i : Int) + 1) = ((i + 1 : Nat) : Int) := by rw [wrap64 (by omega) (by omega)]; omega
 rw [mi_TokensOk_l1, lt_true h, cond_true, ix_nat h, Option.bind_some, hst]
 by_cases h1 : i + 1 < a.length
 ·rw [lt_true h1, cond_true, ix_nat h1, Option.bind_some, hk]
 ·rw [lt_false h1, cond_false, hk]

theorem toks_l (N : Nat) (a : List SToken) (ha : a.length ≤ 3000) (hN : 1048576 + 300 < N) (hs : ∀ t, t ∈ a → smTok t) : ∀ (n m i : Nat) (p : Int), a.length - i < n → a.length - i < m → i ≤ a.length →
  ∃ b : Bool, ms_TokensOk_l1 N n (a, p, (i : Int)) = some b ∧ mi_TokensOk_l1 N m (a, p, (i : Int)) = some b := by
 intro n
 induction n with
 | zero => intro m i p h; omega
 | succ n ih =>
  intro m i p hn hm hi
  obtain ⟨m, rfl⟩ : ∃ k, m = k + 1 := ⟨m - 1, by omega⟩
  by_cases h : i < a.length
  ·have hst : IntKind.wrap .i64 ((i : Int) + 1) = ((i + 1 : Nat) : Int) := by rw [wrap64 (by omega) (by omega)]; omega
   have ht := hs _ (List.getElem_mem h)
   unfold smTok at ht
   obtain ⟨b, b1, b2, _⟩ := tokok_ex N a[i] ht (by omega)
   obtain ⟨e, e1, e2⟩ := ends_ex' p
   obtain ⟨q, q1, q2⟩ := ih m (i + 1) a[i].Kind (by omega) (by omega) (by omega)
   -- with the next one's kind K; L: is there a next one
   have main : ∀ (K : Int), (K ≠ 0 ∧ i + 1 < a.length) ∨ (K = 0 ∧ ¬ i + 1 < a.length) ∨ (K = 0 ∧ i + 1 < a.length ∧ q = false) →
     ∃ r : Bool, ms_TokensOk_k2 N (ms_TokensOk_l1 N n) (a, p, (i : Int), K) = some r ∧ mi_TokensOk_k2 N (mi_TokensOk_l1 N m) (a, p, (i : Int), a[i], K) = some r := by
    intro K hK
    simp only [ms_TokensOk_k2, mi_TokensOk_k2, mi_TokensOk_k3, ix_nat h, Option.bind_some, b1, b2, e1, e2, hst, q1, q2]
    have hL : decide (((i + 1 : Nat) : Int) < (a.length : Int)) = true ∧ (i + 1 < a.length) ∨ decide (((i + 1 : Nat) : Int) < (a.length : Int)) = false ∧ ¬ (i + 1 < a.length) := by
     by_cases h1 : i + 1 < a.length
     ·exact .inl ⟨lt_true h1, h1⟩
     ·exact .inr ⟨lt_false h1, h1⟩
    generalize (a[i].Kind == 7) = c7
    generalize hc2 : (a[i].Kind == 2) = c2
    generalize hc5 : (a[i].Kind == 5) = c5
    generalize hc58 : (a[i].Kind == 58) = c58
    generalize hc41 : (a[i].Kind == 41) = c41
    generalize (K != 32) = k32
    generalize hk1 : (K != 1) = k1
    have h25 : c2 = true → c5 = false ∧ c58 = false ∧ c41 = false := by
     intro h
     rw [h] at hc2
     have := eq_of_beq hc2
     rw [this] at hc5 hc58 hc41
     exact ⟨hc5.symm, hc58.symm, hc41.symm⟩
    rcases hK with ⟨k0, hl⟩ | ⟨k0, hl⟩ | ⟨k0, hl, hq⟩
    ·have hk0 : (K != 0) = true := by simpa using k0
     rcases hL with ⟨hL, _⟩ | ⟨_, hL⟩
     ·rw [hL, hk0]
      cases b <;> cases c7 <;> cases c2 <;> cases c5 <;> cases c58 <;> cases c41 <;> cases k32 <;> cases k1 <;> cases e <;> exact ⟨_, rfl, rfl⟩
     ·exact absurd hl hL
    ·have hk0 : (K != 0) = false := by rw [k0]; rfl
     rcases hL with ⟨_, hL⟩ | ⟨hL, _⟩
     ·exact absurd hL hl
     ·rw [hL, hk0]
      cases b <;> cases c7 <;> cases c2 <;> cases c5 <;> cases c58 <;> cases c41 <;> cases k32 <;> cases k1 <;> cases e <;> exact ⟨_, rfl, rfl⟩
    ·have hk0 : (K != 0) = false := by rw [k0]; rfl
     have hk1' : k1 = true := by rw [← hk1, k0]; rfl
     rcases hL with ⟨hL, _⟩ | ⟨_, hL⟩
     ·subst hk1'
      rw [hL, hk0, hq]
      cases b <;> cases c7 <;> cases c2 <;> cases c5 <;> cases c58 <;> cases c41 <;> cases k32 <;> cases e <;> first
       | exact ⟨_, rfl, rfl⟩
       | (exfalso; have := h25 rfl; simp at this)
     ·exact absurd hl hL
   rw [ms_TokensOk_l1, mi_TokensOk_l1, lt_true h, cond_true, cond_true, ix_nat h, Option.bind_some, hst]
   by_cases h1 : i + 1 < a.length
   ·rw [lt_true h1, cond_true, cond_true, ix_nat h1, Option.bind_some, Option.bind_some]
    refine main a[i + 1].Kind ?_
    by_cases hz : a[i + 1].Kind = 0
    ·have := impl_zero N N a ha hN hs m (i + 1) a[i].Kind (by omega) h1 hz
     rw [q2] at this
     exact .inr (.inr ⟨hz, h1, by simpa using this⟩)
    ·exact .inl ⟨hz, h1⟩
   ·rw [lt_false h1, cond_false, cond_false]
    exact main 0 (.inr (.inl ⟨rfl, h1⟩))
  ·rw [ms_TokensOk_l1, mi_TokensOk_l1, lt_false h]
   exact ⟨true, rfl, rfl⟩

theorem toks_ex (N : Nat) (a : List SToken) (hN : 1048576 + 300 < N) (hs : ∀ t, t ∈ a → smTok t) : ∃ b : Bool, ms_TokensOk N a = some b ∧ mi_TokensOk N a = some b ∧ (b = true → a.length ≤ 3000) := by
 unfold ms_TokensOk mi_TokensOk
 by_cases h : a.length ≤ 3000
 ·obtain ⟨b, h1, h2⟩ := toks_l N a h hN hs N N 0 0 (by omega) (by omega) (by omega)
  rw [decide_eq_false (by omega : ¬ (a.length : Int) > 3000)]
  exact ⟨b, h1, h2, fun _ => h⟩
 ·rw [decide_eq_true (by omega : (a.length : Int) > 3000)]
  exact ⟨false, rfl, rfl, fun h => by cases h⟩

theorem size_l (G : Nat) (t : STree) (ht : szT t ≤ 1000000) (ih : ∀ k, k ∈ t.kids → (scc3 G).mi_tree__size k = some (szT k : Int)) : ∀ (ts : List STree) (n j m : Nat), t.kids.drop j = ts → ts.length < n → j ≤ t.kids.length → m + szTs ts ≤ 1000000 →
  mi_tree__size_l1 G (scc3 G) n (t, (m : Int), (j : Int)) = some ((m + szTs ts : Nat) : Int)
 | [], n, j, m, hd, hn, hj, hm => by
  obtain ⟨n, rfl⟩ : ∃ q, n = q + 1 := ⟨n - 1, by simp at hn; omega⟩
  have hlt : ¬ j < t.kids.length := by
   intro h
   rw [drop_cons h] at hd
   cases hd
  rw [mi_tree__size_l1]
  simp only [lt_false hlt, cond_false, szTs, Nat.add_zero]
 | k :: ts, n, j, m, hd, hn, hj, hm => by
  simp only [List.length_cons] at hn
  rw [szTs] at hm
  obtain ⟨n, rfl⟩ : ∃ q, n = q + 1 := ⟨n - 1, by omega⟩
  have hlt : j < t.kids.length := by
   cases Nat.lt_or_ge j t.kids.length with
   | inl h => exact h
   | inr h => rw [List.drop_of_length_le h] at hd; cases hd
  have htl := szTs_len t.kids
  have hs := szT_eq t
  rw [drop_cons hlt] at hd
  injection hd with hd1 hd2
  rw [mi_tree__size_l1]
  simp only [lt_true hlt, cond_true, ix_nat hlt, Option.bind_some, hd1, ih k (by rw [← hd1]; exact List.getElem_mem hlt)]
  rw [wrap64 (n := (m : Int) + (szT k : Int)) (by omega) (by omega), step64 hlt (by simp only [maxLen]; omega)]
  have := size_l G t ht ih ts n (j + 1) (m + szT k) hd2 (by omega) (by omega) (by omega)
  refine Eq.trans this ?_
  rw [szTs, Nat.add_assoc]

theorem size_is : ∀ (t : STree) (N : Nat), 2 * szT t + 2 ≤ N → szT t ≤ 1000000 → (scc3 N).mi_tree__size t = some (szT t : Int) := by
 intro t
 induction t using STree.ind with
 | h t ih =>
  intro N hN hsz
  obtain ⟨M, rfl⟩ : ∃ M, N = M + 1 := ⟨N - 1, by omega⟩
  have hs := szT_eq t
  have htl := szTs_len t.kids
  have := size_l M t hsz (fun k hk => ih k hk M (by have := szTs_mem hk; omega) (by have := szTs_mem hk; omega)) t.kids M 0 1 rfl (by omega) (by omega) (by omega)
  refine Eq.trans this ?_
  rw [hs, Nat.add_comm]


theorem nest_l (l : List SToken) (hl : l.length ≤ 3000) (N N' : Nat) : ∀ (n n' i d : Nat), l.length - i < n → l.length - i < n' → d ≤ i →
  ∃ r : Int, mi_NestOf_l1 N n (l, (d : Int), (i : Int)) = some r ∧ ms_NestOf_l1 N' n' (l, (d : Int), (i : Int)) = some r ∧ (r = -1 ∨ ∃ k : Nat, r = (k : Int) ∧ k < l.length) := by
 intro n
 induction n with
 | zero => intro n' i d h; omega
 | succ n ih =>
  intro n' i d hn hn' hd
  obtain ⟨n', rfl⟩ : ∃ k, n' = k + 1 := ⟨n' - 1, by omega⟩
  rw [mi_NestOf_l1, ms_NestOf_l1]
  by_cases hi : i < l.length
  ·simp only [lt_true hi, cond_true, ix_nat hi, Option.bind_some, opI, clI, clS]
   have next : ∀ d' : Nat, d' ≤ i + 1 → ∃ r : Int, mi_NestOf_k2 N (mi_NestOf_l1 N n) ((i : Int), l, (d' : Int)) = some r ∧ ms_NestOf_k3 N' (ms_NestOf_l1 N' n') (l, (i : Int), (d' : Int)) = some r ∧ (r = -1 ∨ ∃ k : Nat, r = (k : Int) ∧ k < l.length) := fun d' hd' => by
    unfold mi_NestOf_k2 ms_NestOf_k3
    simp only []
    cases decide ((d' : Int) > 40) with
    | true => exact ⟨_, rfl, rfl, Or.inr ⟨i, rfl, hi⟩⟩
    | false =>
     simp only [cond_false]
     rw [wrap64 (by omega) (by omega), show ((i : Int) + 1) = ((i + 1 : Nat) : Int) by omega]
     exact ih n' (i + 1) d' (by omega) (by omega) hd'
   cases ho : opB l[i].Kind with
   | true =>
    obtain ⟨o1, _⟩ := op_cl ho
    simp only [o1, cond_true, cond_false]
    unfold ms_NestOf_k2
    simp only [ix_nat hi, Option.bind_some, opS, ho, cond_true]
    rw [wrap64 (by omega) (by omega), show ((d : Int) + 1) = ((d + 1 : Nat) : Int) by omega]
    exact next (d + 1) (by omega)
   | false =>
    simp only [cond_false]
    cases hc : clB l[i].Kind with
    | true =>
     simp only [cond_true]
     unfold ms_NestOf_k2
     simp only [ix_nat hi, Option.bind_some, opS, ho, cond_false]
     rw [wrap64 (by omega) (by omega)]
     have e1 : (if 0 > (d : Int) - 1 then 0 else (d : Int) - 1) = ((d - 1 : Nat) : Int) := by split <;> omega
     have e2 : (if (d : Int) - 1 > 0 then (d : Int) - 1 else 0) = ((d - 1 : Nat) : Int) := by split <;> omega
     rw [e1, e2]
     exact next (d - 1) (by omega)
    | false =>
     simp only [cond_false]
     unfold ms_NestOf_k2
     simp only [ix_nat hi, Option.bind_some, opS, ho, cond_false]
     exact next d (by omega)
  ·simp only [lt_false hi, cond_false]
   exact ⟨-1, rfl, rfl, Or.inl rfl⟩

theorem fault_is (l : List SToken) (hl : l.length ≤ 3000) (j : Nat) : ∃ v, mi_placeOf l (j : Int) = some v ∧ ∀ k, ms_l11Fault l (j : Int) k = some ⟨k, v⟩ := by
 unfold mi_placeOf ms_l11Fault
 by_cases h : j < l.length
 ·simp only [lt_true h, cond_true, ix_nat h, Option.bind_some]
  exact ⟨_, rfl, fun k => rfl⟩
 ·simp only [lt_false h, cond_false]
  by_cases h0 : l.length = 0
  ·have e : ((l.length : Int) == 0) = true := by rw [beq_iff_eq]; omega
   simp only [e, cond_true]
   exact ⟨_, rfl, fun k => rfl⟩
  ·have e : ((l.length : Int) == 0) = false := by rw [beq_eq_false_iff_ne]; omega
   have h1 : l.length - 1 < l.length := by omega
   have w : IntKind.wrap .i64 ((l.length : Int) - 1) = ((l.length - 1 : Nat) : Int) := by rw [wrap64 (by omega) (by omega)]; omega
   simp only [e, cond_false, w, ix_nat h1, Option.bind_some]
   exact ⟨_, rfl, fun k => rfl⟩

theorem pos_ok (p : SPos) : ∃ b, ms_PosOk p = some b ∧ mi_PosOk p = some b ∧ (b = true → (∃ lv : Nat, p.Level = (lv : Int) ∧ 1 ≤ lv ∧ lv ≤ 15) ∧ (p.Dollar = true → p.Level = 14)) := by
 have e : mi_PosOk p = ms_PosOk p := rfl
 rw [e]
 unfold ms_PosOk
 simp only [l1In_is', Option.bind_some]
 by_cases h : 1 ≤ p.Level ∧ p.Level ≤ 15
 ·have h1 : (decide (p.Level ≥ 1) && decide (p.Level ≤ 15)) = true := by simp; omega
  rw [h1, cond_true]
  cases hd : p.Dollar with
  | false => exact ⟨true, rfl, rfl, fun _ => ⟨⟨p.Level.toNat, by omega, by omega, by omega⟩, fun h => by cases h⟩⟩
  | true => exact ⟨p.Level == 14, rfl, rfl, fun hb => ⟨⟨p.Level.toNat, by omega, by omega, by omega⟩, fun _ => by simpa using hb⟩⟩
 ·have h1 : (decide (p.Level ≥ 1) && decide (p.Level ≤ 15)) = false := by
   rw [Bool.and_eq_false_iff, decide_eq_false_iff_not, decide_eq_false_iff_not]; omega
  rw [h1]
  exact ⟨false, rfl, rfl, fun h => by cases h⟩

theorem level_IL {l : List SToken} (N : Nat) (p : SPos) {lv : Nat} (hp : p.Level = (lv : Int)) (h1 : 1 ≤ lv) (h15 : lv ≤ 15) (ns : List (List UInt8)) (hsg : (p.NoSign && !bgB (kd l 0)) = false) (hdl : (p.Dollar && stB (kd l 0)) = false) :
  mp_level N p l ((0 : Nat) : Int) false ns = IL lv (scc2 N) ⟨p.NoIn, p.NoGt⟩ l ((0 : Nat) : Int) false ns := by
 unfold mp_level
 simp only [kindI, bgI, stI, Option.bind_some]
 have e1 : (bif p.NoSign then some (!bgB (kd l 0)) else some false) = some false := by
  revert hsg; cases p.NoSign <;> cases bgB (kd l 0) <;> simp
 have e2 : (bif p.Dollar then some (stB (kd l 0)) else some false) = some false := by
  revert hdl; cases p.Dollar <;> cases stB (kd l 0) <;> simp
 simp only [e1, e2, Option.bind_some, cond_false, hp, bind_eta4]
 match lv, h1, h15 with
 | 1, _, _ => rfl
 | 2, _, _ => rfl
 | 3, _, _ => rfl
 | 4, _, _ => rfl
 | 5, _, _ => rfl
 | 6, _, _ => rfl
 | 7, _, _ => rfl
 | 8, _, _ => rfl
 | 9, _, _ => rfl
 | 10, _, _ => rfl
 | 11, _, _ => rfl
 | 12, _, _ => rfl
 | 13, _, _ => rfl
 | 14, _, _ => rfl
 | 15, _, _ => rfl

theorem parse_ex (N : Nat) (l : List SToken) (p : SPos) (hN : 2000000 < N) (hs : ∀ t, t ∈ l → t.Text.length ≤ 1048576) :
  ∃ (L : List SNode) (j : Nat) (f : SFault), ms_ParseExpr N l p = some (L, (j : Int), f) ∧ mi_ParseExpr N l p = some (L, (j : Int), f) ∧ L.length ≤ 400 ∧ (∀ x, x ∈ L → smNode x) ∧ (f = ⟨0, 0⟩ ∨ f.Kind ≠ 0 ∧ L = []) ∧ (f = ⟨0, 0⟩ → l.length ≤ 3000) := by
 unfold ms_ParseExpr mi_ParseExpr
 have nil : ∀ x : SNode, x ∈ ([] : List SNode) → smNode x := fun x h => by cases h
 obtain ⟨b1, p1, p2, p3⟩ := pos_ok p
 simp only [p1, p2, Option.bind_some]
 cases b1 with
 | false => exact ⟨[], 0, ⟨3, 0⟩, rfl, rfl, by simp, nil, Or.inr ⟨by simp, rfl⟩, fun h => by cases h⟩
 | true =>
  obtain ⟨⟨lv, hlv, h1, h15⟩, hdol⟩ := p3 rfl
  unfold mi_checked
  obtain ⟨b2, t1, t2, t3⟩ := toks_ex N l (by omega) hs
  simp only [t1, t2, Bool.not_true, cond_false, Option.bind_some]
  cases b2 with
  | false => exact ⟨[], 0, ⟨2, 0⟩, rfl, rfl, by simp, nil, Or.inr ⟨by simp, rfl⟩, fun h => by cases h⟩
  | true =>
   have hl := t3 rfl
   obtain ⟨r, r1, r2, r3⟩ := nest_l l hl N N N N 0 0 (by omega) (by omega) (by omega)
   have r1' : mi_NestOf N l = some r := r1
   have r2' : ms_NestOf N l = some r := r2
   simp only [r1', r2', Bool.not_true, cond_false, Option.bind_some]
   rcases r3 with rfl | ⟨k, rfl, hk⟩
   ·have hneg : decide ((-1 : Int) ≥ 0) = false := by decide
    simp only [hneg, cond_false, Option.bind_some]
    have hz : (!(((⟨0, 0⟩ : SFault).Kind == 0) && (((⟨0, 0⟩ : SFault).At == 0) && true))) = false := rfl
    simp only [hz, cond_false]
    -- the sign
    have hsign : (bif p.NoSign then bif ((l.length : Int) == 0) then some true else (Option.bind (ix l 0) fun e25 => Option.bind (ms_BeginsOperand e25.Kind) fun r26 => some (!r26)) else (some false)) = some (p.NoSign && !bgB (kd l 0)) := by
     cases p.NoSign with
     | false => rfl
     | true =>
      rw [cond_true, Bool.true_and]
      by_cases h0 : l.length = 0
      ·have e : ((l.length : Int) == 0) = true := by rw [beq_iff_eq]; omega
       have e2 : kd l 0 = 0 := by unfold kd; rw [List.getElem?_eq_none (by omega)]; rfl
       rw [e, e2]; rfl
      ·have e : ((l.length : Int) == 0) = false := by rw [beq_eq_false_iff_ne]; omega
       have h0' : 0 < l.length := by omega
       have hx : ix l (0 : Int) = some l[0] := ix_nat (i := 0) h0'
       rw [e, cond_false, hx, Option.bind_some, bgS, Option.bind_some, kd_at h0']
    rw [hsign, Option.bind_some]
    cases hsg : (p.NoSign && !bgB (kd l 0)) with
    | true =>
     obtain ⟨v, v1, v2⟩ := fault_is l hl 0
     have hlev : mp_level N p l ((0 : Nat) : Int) false [] = some (⟨⟨0, 0, [], [], []⟩, false⟩, ((0 : Nat) : Int), true, []) := by
      unfold mp_level mp_fail
      simp only [kindI, bgI, Option.bind_some]
      have e1 : (bif p.NoSign then some (!bgB (kd l 0)) else some false) = some true := by
       revert hsg; cases p.NoSign <;> cases bgB (kd l 0) <;> simp
      simp only [e1, Option.bind_some, cond_true]
     have v2' := v2 3
     rw [show ((0 : Nat) : Int) = 0 from rfl] at v1 v2' hlev
     simp only [cond_true, v2', Option.bind_some, hlev, v1]
     exact ⟨[], 0, ⟨3, v⟩, rfl, rfl, by simp, nil, Or.inr ⟨by simp, rfl⟩, fun h => by cases h⟩
    | false =>
     simp only [cond_false]
     have hk0 : ms_l11Kind l 0 false [] = some (kd l 0) := kindS l 0 false []
     have hd : (bif p.Dollar then Option.bind (ms_l11Kind l 0 false []) fun r56 => Option.bind (ms_l11Signs r56) fun r57 => some r57 else (some false)) = some (p.Dollar && stB (kd l 0)) := by
      cases p.Dollar with
      | false => rfl
      | true => rw [cond_true, hk0, Option.bind_some, stS]; rfl
     rw [hd, Option.bind_some]
     have IH0 : ∀ i' lv, 0 < i' → i' ≤ l.length → 1 ≤ lv → lv ≤ 15 → LV l i' lv := fun i' lv _ b c d => levels hl hs (l.length - i') i' rfl b lv c d
     -- what both have read
     have core : ∃ y, (bif (p.Dollar && stB (kd l 0)) then ms_l11Pre N p l 0 false [] else ms_l11At N p l 0 false []) = y ∧ PB l 0 (mp_level N p l ((0 : Nat) : Int) false []) y := by
      refine ⟨_, rfl, ?_⟩
      cases hdl : (p.Dollar && stB (kd l 0)) with
      | true =>
       rw [Bool.and_eq_true] at hdl
       have h14 : p.Level = 14 := hdol hdl.1
       have hlev : mp_level N p l ((0 : Nat) : Int) false [] = (scc2 N).mp_before l ((0 : Nat) : Int) false [] := by
        unfold mp_level
        simp only [kindI, bgI, stI, Option.bind_some]
        have e1 : (bif p.NoSign then some (!bgB (kd l 0)) else some false) = some false := by
         revert hsg; cases p.NoSign <;> cases bgB (kd l 0) <;> simp
        simp only [e1, Option.bind_some, cond_false, h14, Int.reduceBEq, cond_true, hdl.1, hdl.2, bind_eta4]
        rfl
       rw [hlev, cond_true]
       exact pre_PB hl hs (i := 0) (by omega) IH0 hdl.2 p N N (by omega) (by omega) [] [] (by simp) (by simp)
      | false =>
       rw [level_IL N p hlv h1 h15 [] hsg hdl, cond_false]
       exact levels hl hs (l.length - 0) 0 rfl (by omega) lv h1 h15 N N ⟨p.NoIn, p.NoGt⟩ p [] [] (by omega) (by omega) (by simp) (by simp) hlv rfl rfl
     obtain ⟨y, y1, y2⟩ := core
     obtain ⟨q, X, j, b, ns, ns', e1, e2, hd2⟩ := y2.out
     have hsp : (bif (p.Dollar && stB (kd l 0)) then Option.bind (ms_l11Pre N p l 0 false []) fun r59 => ms_ParseExpr_k1 N (l, r59.2.1, r59.2.2.1, r59.1.held, r59.2.2.2, r59.1.l) else (Option.bind (ms_l11At N p l 0 false []) fun r61 => ms_ParseExpr_k1 N (l, r61.2.1, r61.2.2.1, r61.1.held, r61.2.2.2, r61.1.l))) = ms_ParseExpr_k1 N (l, (j : Int), b, X.held, ns', X.l) := by
      rw [e2] at y1
      revert y1
      cases (p.Dollar && stB (kd l 0)) <;> intro y1
      ·rw [cond_false] at y1 ⊢; rw [y1]; rfl
      ·rw [cond_true] at y1 ⊢; rw [y1]; rfl
     rw [show ((0 : Nat) : Int) = 0 from rfl] at e1
     rw [hsp, e1, Option.bind_some]
     unfold ms_ParseExpr_k1
     simp only []
     cases b with
     | true =>
      obtain ⟨v, v1, v2⟩ := fault_is l hl j
      simp only [cond_true, v1, v2, Option.bind_some]
      exact ⟨[], 0, ⟨3, v⟩, rfl, rfl, by simp, nil, Or.inr ⟨by simp, rfl⟩, fun h => by cases h⟩
     | false =>
      obtain ⟨a1, a2, a3, a4, a5, a6, a7⟩ := hd2
      obtain ⟨c1, c2, c3, c4⟩ := a7 rfl
      have hsz := size_is q.tree N (by omega) (by omega)
      have hsz' : mi_tree__size N q.tree = some (szT q.tree : Int) := hsz
      have hlen : X.l.length = szT q.tree := by rw [c2, lst_len]
      simp only [cond_false]
      unfold mi_bounded ms_l11Size
      simp only [hsz', hlen, Option.bind_some]
      by_cases h4 : szT q.tree ≤ 400
      ·have g1 : decide ((szT q.tree : Int) > 400) = false := by simp; omega
       have hdep := depth_is q.tree N (by omega) (by omega)
       have hdep' : mi_tree__depth N q.tree = some (depT q.tree : Int) := hdep
       have hsm : ∀ x, x ∈ lst 0 q.tree → smNode x := fun x hx => by
        rw [← c2] at hx
        obtain ⟨s1, s2, s3⟩ := a5 x hx
        exact ⟨s2, s3, by omega⟩
       have hds := depthOf_spec N (lst 0 q.tree) (by omega) hsm (shapeB_lst q.tree h4) (TA_self q.tree)
       have hli := list_is N q.tree (by omega) (by omega)
       simp only [g1, cond_false, hdep', c2, hds, Option.bind_some, hli]
       cases decide ((depT q.tree : Int) > 40) with
       | true => exact ⟨[], 0, ⟨4, 0⟩, rfl, rfl, by simp, nil, Or.inr ⟨by simp, rfl⟩, fun h => by cases h⟩
       | false => exact ⟨lst 0 q.tree, j, ⟨0, 0⟩, rfl, rfl, by rw [lst_len]; exact h4, hsm, Or.inl rfl, fun _ => hl⟩
      ·have g1 : decide ((szT q.tree : Int) > 400) = true := by simp; omega
       simp only [g1, cond_true, Option.bind_some]
       exact ⟨[], 0, ⟨1, 0⟩, rfl, rfl, by simp, nil, Or.inr ⟨by simp, rfl⟩, fun h => by cases h⟩
   ·have hpos : decide ((k : Int) ≥ 0) = true := by simp
    obtain ⟨v, v1, v2⟩ := fault_is l hl k
    simp only [hpos, cond_true, v1, v2, Option.bind_some]
    exact ⟨[], 0, ⟨4, v⟩, rfl, rfl, by simp, nil, Or.inr ⟨by simp, rfl⟩, fun h => by cases h⟩

end Go.Proofs.Tryz
