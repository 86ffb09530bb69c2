/-
 Plain lemmas on the models, part 6.
-/
import Derived.Test.YtpognfncgfaogaaGreatDoorShAP5
namespace Go.Proofs.Tryz
open Go.Av
set_option maxRecDepth 100000
set_option linter.unusedSimpArgs false
set_option linter.unusedVariables false

abbrev PI := Option (SPart × Int × Bool × List (List UInt8))
abbrev IR := Rec1
abbrev r0 : SRules := ⟨false, false⟩
def IL (lv : Nat) (R : IR) (r : SRules) (l : List SToken) (i : Int) (b : Bool) (ns : List (List UInt8)) : PI :=
 match lv with
 | 1 => R.mp_assign r l i b ns
 | 2 => R.mp_cond r l i b ns
 | 3 => R.mp_or r l i b ns
 | 4 => R.mp_and r l i b ns
 | 5 => R.mp_in r l i b ns
 | 6 => R.mp_match r l i b ns
 | 7 => R.mp_compare r l i b ns
 | 8 => R.mp_cat r l i b ns
 | 9 => R.mp_add r l i b ns
 | 10 => R.mp_mul r l i b ns
 | 11 => R.mp_unary r l i b ns
 | 12 => R.mp_pow r l i b ns
 | 13 => R.mp_incr l i b ns
 | 14 => R.mp_field l i b ns
 | _ => R.mp_primary l i b ns

def Stop (lv : Int) (os : List Int) : Prop := ∀ o os', os = o :: os' → o = 0 ∨ opl o < lv ∨ opl o = 12 ∧ 11 ≤ lv
theorem Stop.push {lv k : Int} (h : opl k < lv ∨ opl k = 12 ∧ 11 ≤ lv) (os : List Int) : Stop lv (k :: os) := fun o os' e => by
 simp only [List.cons.injEq] at e
 obtain ⟨rfl, rfl⟩ := e
 exact .inr h
theorem Stop.keep {lv k : Int} {os : List Int} (h : Stop lv os) (hk : isOp k = true) (hv : lv ≤ opl k) : ∀ o os', os = o :: os' → badB o k = false ∧ firstB o k = false := fun o os' e => by
 have hx := isOp_ex hk
 have h := h o os' e
 unfold badB firstB
 by_cases h0 : o = 0
 ·subst h0; exact ⟨rfl, rfl⟩
 ·have e0 : (o == 0) = false := beq_eq_false_iff_ne.2 h0
  rw [e0]
  rcases h with h | h | h
  ·exact absurd h h0
  ·rw [beq_eq_false_iff_ne.2 (show opl o ≠ opl k by omega), decide_eq_true (show opl o < opl k by omega)]
   exact ⟨rfl, rfl⟩
  ·by_cases h12 : opl k = 12
   ·have hk60 : k = 60 := by omega
    subst hk60
    rw [h.1]
    exact ⟨rfl, rfl⟩
   ·rw [beq_eq_false_iff_ne.2 (show opl o ≠ opl k by omega), decide_eq_false (show ¬ opl o < opl k by omega)]
    exfalso
    omega

section
variable (N : Nat) (l : List SToken) (i : Nat)
def Pt (lv mb : Int) (t : STree) (j : Nat) : Prop :=
 txT t ∧ ∃ P Q, red P Q = some t ∧ (∀ o, o ∈ P → lv ≤ opl o ∧ opl o ≠ 0) ∧ szTs Q + P.length ≤ j - i ∧ (isOp (kd l j) = true → mb ≤ opl (kd l j) → BadAt P (opl (kd l j))) ∧
  ∀ os ts r, szTs ts + os.length ≤ i → Stop lv os → Yd N l j (P ++ os) (Q ++ ts) r → Yd N l i os ts r
def Dead (lv : Int) : Prop := ∀ os ts, szTs ts + os.length ≤ i → Stop lv os → Yd N l i os ts ([], false)
def Out (lv : Int) (d : Nat) (ns : List (List UInt8)) (x : PI) : Prop :=
 (∃ (p : SPart) (j : Nat) (ns' : List (List UInt8)), x = some (p, (j : Int), true, ns') ∧ Dead N l i lv) ∨
 (∃ (t : STree) (tg : Bool) (j : Nat), x = some (⟨t, tg⟩, (j : Int), false, ns) ∧ i < j ∧ j ≤ l.length ∧ sh false d (l.drop j) = true ∧ Pt N l i lv lv t j)
def SY (lv : Nat) : Prop := ∀ M ns d, 5000 + 100 * (l.length - i) + 4 * (16 - lv) ≤ M → sh true d (l.drop i) = true → Out N l i (lv : Int) d ns (IL lv (scc1 M) r0 l (i : Int) false ns)
end

theorem kd_have {l : List SToken} {j d : Nat} (h : sh false d (l.drop j) = true) : kd l j = 0 ∨ kd l j = 33 ∨ isOp (kd l j) = true := by
 rcases sh_have h with h | h | h
 ·exact .inl h.2.2
 ·exact .inr (.inl h.2.1)
 ·exact .inr (.inr h.2.1)
theorem kd_nums {l : List SToken} {j d : Nat} (h : sh false d (l.drop j) = true) : kd l j = 0 ∨ kd l j = 33 ∨ 44 ≤ kd l j ∧ kd l j ≤ 50 ∨ 55 ≤ kd l j ∧ kd l j ≤ 60 ∨ kd l j = 62 ∨ kd l j = 63 ∨ kd l j = 67 := by
 rcases kd_have h with h | h | h
 ·exact .inl h
 ·exact .inr (.inl h)
 ·have := isOp_ex h; omega

section
set_option linter.unusedSectionVars false
variable {N : Nat} (hN : 1048577 < N) {l : List SToken} (hl : l.length ≤ 3000) {i : Nat}

theorem Dead.pass {lv lv' : Int} (h : Dead N l i lv') (hv : lv ≤ lv') : Dead N l i lv := fun os ts hs hst => h os ts hs fun o os' e => by
 have := hst o os' e
 omega
theorem Out.pass {lv lv' : Int} {d : Nat} {ns : List (List UInt8)} {x : PI} (h : Out N l i lv' d ns x) (hv : lv ≤ lv') (hno : ∀ k, isOp k = true → lv ≤ opl k → lv' ≤ opl k) : Out N l i lv d ns x := by
 rcases h with ⟨p, j, ns', h1, h2⟩ | ⟨t, tg, j, h1, h2, h3, h4, hx, P, Q, p1, p2, p3, p4, p5⟩
 ·exact .inl ⟨p, j, ns', h1, h2.pass hv⟩
 ·refine .inr ⟨t, tg, j, h1, h2, h3, h4, hx, P, Q, p1, fun o ho => ⟨by have := (p2 o ho).1; omega, (p2 o ho).2⟩, p3, fun h5 h6 => p4 h5 (hno _ h5 h6), fun os ts r hs hst => p5 os ts r hs fun o os' e => ?_⟩
  have := hst o os' e
  omega
theorem Out.bind {lv : Int} {d : Nat} {ns : List (List UInt8)} {x : PI} {g : (SPart × Int × Bool × List (List UInt8)) → PI} (h : Out N l i lv d ns x)
  (hb : ∀ p j ns', ∃ p', g (p, j, true, ns') = some (p', j, true, ns')) (hg : ∀ t tg (j : Nat), i < j → j ≤ l.length → sh false d (l.drop j) = true → ∃ tg', g (⟨t, tg⟩, (j : Int), false, ns) = some (⟨t, tg'⟩, (j : Int), false, ns)) : Out N l i lv d ns (Option.bind x g) := by
 rcases h with ⟨p, j, ns', rfl, h2⟩ | ⟨t, tg, j, rfl, h2, h3, h4, h5⟩
 ·obtain ⟨p', e⟩ := hb p (j : Int) ns'
  exact .inl ⟨p', j, ns', by rw [Option.bind_some, e], h2⟩
 ·obtain ⟨tg', e⟩ := hg t tg j h2 h3 h4
  exact .inr ⟨t, tg', j, by rw [Option.bind_some, e], h2, h3, h4, h5⟩

include hN hl
theorem Pt.go {lv mb lv3 : Int} {t : STree} {j : Nat} (h : Pt N l i lv mb t j) (hij : i < j) (hj : j < l.length) (hk : isOp (kd l j) = true) (hpop : ∀ o, lv ≤ opl o → opl o ≠ 0 → badB o (kd l j) = false ∧ firstB o (kd l j) = true) (h3 : lv3 ≤ lv) (hk3 : lv3 ≤ opl (kd l j)) :
  ∀ os ts r, szTs ts + os.length ≤ i → Stop lv3 os → Yd N l (j + 1) (kd l j :: os) (t :: ts) r → Yd N l i os ts r := by
 intro os ts r hs hst hy
 obtain ⟨_, P, Q, p1, p2, p3, p4, p5⟩ := h
 refine p5 os ts r hs (fun o os' e => by have := hst o os' e; omega) ?_
 refine Yd.op hN hl hj (kd_at hj).symm hk p1 (fun o ho => hpop o (p2 o ho).1 (p2 o ho).2) (hst.keep hk hk3) ?_ hy
 rw [szTs_app, List.length_append]
 omega
theorem Pt.size {lv mb : Int} {t : STree} {j : Nat} (h : Pt N l i lv mb t j) : szT t ≤ j - i := by
 obtain ⟨_, P, Q, p1, p2, p3, p4, p5⟩ := h
 have := red_sz P Q t p1
 omega
theorem Pt.step {lv mb lv2 mb2 lv3 mb3 : Int} {t t2 : STree} {j j2 : Nat} (h : Pt N l i lv mb t j) (hij : i < j) (hj : j < l.length) (hk : isOp (kd l j) = true) (hpop : ∀ o, lv ≤ opl o → opl o ≠ 0 → badB o (kd l j) = false ∧ firstB o (kd l j) = true) (h3 : lv3 ≤ lv) (hk3 : lv3 ≤ opl (kd l j))
  (h2 : Pt N l (j + 1) lv2 mb2 t2 j2) (hj2 : j + 1 < j2) (hs2 : opl (kd l j) < lv2 ∨ opl (kd l j) = 12 ∧ 11 ≤ lv2) (hl2 : ∀ o, lv2 ≤ opl o → lv3 ≤ opl o)
  (hm : isOp (kd l j2) = true → mb3 ≤ opl (kd l j2) → mb2 ≤ opl (kd l j2) ∨ opl (kd l j2) = opl (kd l j) ∧ (opl (kd l j) = 6 ∨ opl (kd l j) = 7) ∧ opl (kd l j) < lv2) : Pt N l i lv3 mb3 (bin2 (kd l j) t t2) j2 := by
 have hgo := h.go hN hl hij hj hk hpop h3 hk3
 have hsz := h.size hN hl
 have hx1 := h.1
 obtain ⟨hx2, P2, Q2, q1, q2, q3, q4, q5⟩ := h2
 refine ⟨txT_mk (fun t' ht' => ?_) (by simp) (by simp), P2 ++ [kd l j], Q2 ++ [t], ?_, fun o ho => ?_, ?_, fun g1 g2 => ?_, fun os ts r hs hst hy => ?_⟩
 ·simp only [List.mem_cons, List.not_mem_nil, or_false] at ht'
  rcases ht' with e | e <;> rw [e] <;> assumption
 ·rw [red_app P2 Q2 t2 q1 (kd l j) [] t []]; rfl
 ·rcases List.mem_append.1 ho with ho | ho
  ·exact ⟨hl2 o (q2 o ho).1, (q2 o ho).2⟩
  ·rw [List.mem_singleton.1 ho]
   have := isOp_ex hk
   exact ⟨hk3, by omega⟩
 ·rw [szTs_app, List.length_append]
  simp only [szTs, List.length_cons, List.length_nil]
  omega
 ·rcases hm g1 g2 with g | ⟨ga, gb, gc⟩
  ·obtain ⟨P1, o, P3, rfl, c1, c2, c3⟩ := q4 g1 g
   exact ⟨P1, o, P3 ++ [kd l j], by simp, c1, c2, c3⟩
  ·exact ⟨P2, kd l j, [], rfl, ga.symm, by rw [ga]; exact gb, fun o ho => by have := (q2 o ho).1; omega⟩
 ·refine hgo os ts r hs hst (q5 (kd l j :: os) (t :: ts) r ?_ (Stop.push hs2 os) ?_)
  ·simp only [szTs, List.length_cons]; omega
  ·rw [List.append_assoc, List.append_assoc] at hy
   exact hy
theorem Pt.ddead {lv mb lv2 lv3 : Int} {t : STree} {j : Nat} (h : Pt N l i lv mb t j) (hij : i < j) (hj : j < l.length) (hk : isOp (kd l j) = true) (hpop : ∀ o, lv ≤ opl o → opl o ≠ 0 → badB o (kd l j) = false ∧ firstB o (kd l j) = true) (h3 : lv3 ≤ lv) (hk3 : lv3 ≤ opl (kd l j))
  (h2 : Dead N l (j + 1) lv2) (hs2 : opl (kd l j) < lv2 ∨ opl (kd l j) = 12 ∧ 11 ≤ lv2) : Dead N l i lv3 := by
 have hgo := h.go hN hl hij hj hk hpop h3 hk3
 have hsz := h.size hN hl
 exact fun os ts hs hst => hgo os ts _ hs hst (h2 (kd l j :: os) (t :: ts) (by simp only [szTs, List.length_cons]; omega) (Stop.push hs2 os))

abbrev LSt := SRules × Int × Bool × Int × Int × (List UInt8) × (List UInt8) × (List STree) × Bool × (List (List UInt8))
omit hN hl in
theorem pops_same {k o : Int} (hk : isOp k = true) (h60 : opl k ≠ 12) (h6 : opl k ≠ 6) (h7 : opl k ≠ 7) (h : opl k ≤ opl o) (h0 : opl o ≠ 0) : badB o k = false ∧ firstB o k = true := by
 rcases Int.lt_or_eq_of_le h with h | h
 ·exact pop_ok h
 ·have hx := isOp_ex hk
  have e0 : (o == 0) = false := by
   rw [beq_eq_false_iff_ne]; intro e; subst e
   exact h0 rfl
  unfold badB firstB
  rw [e0, beq_eq_false_iff_ne.2 h6, beq_eq_false_iff_ne.2 h7, decide_eq_false (show ¬ opl o < opl k by omega)]
  have : k ≠ 60 := fun e => by subst e; exact h60 rfl
  rw [bne_iff_ne.2 this]
  refine ⟨by simp, by simp⟩
theorem chain_sy {lv : Nat} (hlv : lv = 3 ∨ lv = 4 ∨ lv = 9 ∨ lv = 10) {M : Nat} (hM : 5000 + 100 * (l.length - i) ≤ M) (IH : ∀ i', i < i' → i' ≤ l.length → SY N l i' (lv + 1)) (lp : Nat → LSt → PI)
  (H1 : ∀ (n : Nat) (j : Int) (p : SPart) (ns : List (List UInt8)), ∃ p', lp (n + 1) (r0, j, true, p.tree.kind, p.tree.op, p.tree.text, p.tree.other, p.tree.kids, p.target, ns) = some (p', j, true, ns))
  (H2 : ∀ (n j d : Nat) (t : STree) (tg : Bool) (ns : List (List UInt8)), sh false d (l.drop j) = true → opl (kd l j) ≠ (lv : Int) → lp (n + 1) (r0, (j : Int), false, t.kind, t.op, t.text, t.other, t.kids, tg, ns) = some (⟨t, tg⟩, (j : Int), false, ns))
  (H3 : ∀ (n j d : Nat) (t : STree) (tg : Bool) (ns : List (List UInt8)), j < l.length → isOp (kd l j) = true → opl (kd l j) = (lv : Int) → sh true d (l.drop (j + 1)) = true → lp (n + 1) (r0, (j : Int), false, t.kind, t.op, t.text, t.other, t.kids, tg, ns) = (IL (lv + 1) (scc1 M) r0 l ((j + 1 : Nat) : Int) false ns).bind fun q => lp n (r0, q.2.1, q.2.2.1, 12, kd l j, [], [], [t, q.1.tree], false, q.2.2.2)) :
  ∀ (n j d : Nat) (t : STree) (tg : Bool) (ns : List (List UInt8)), l.length - j < n → i < j → j ≤ l.length → sh false d (l.drop j) = true → Pt N l i (lv : Int) ((lv + 1 : Nat) : Int) t j → Out N l i (lv : Int) d ns (lp n (r0, (j : Int), false, t.kind, t.op, t.text, t.other, t.kids, tg, ns)) := by
 intro n
 induction n with
 | zero => intro j d t tg ns h; omega
 | succ n ih =>
  intro j d t tg ns hn hij hj hsh hp
  by_cases ho : opl (kd l j) = (lv : Int)
  ·have hop : isOp (kd l j) = true ∧ j < l.length ∧ sh true d (l.drop (j + 1)) = true := by
    rcases sh_have hsh with h | h | h
    ·rw [h.2.2] at ho
     have : opl 0 = 0 := rfl
     omega
    ·rw [h.2.1] at ho
     have : opl 33 = 0 := rfl
     omega
    ·exact ⟨h.2.1, h.1, h.2.2⟩
   obtain ⟨hk, hjl, hsh2⟩ := hop
   rw [H3 n j d t tg ns hjl hk ho hsh2]
   have hpop : ∀ o, (lv : Int) ≤ opl o → opl o ≠ 0 → badB o (kd l j) = false ∧ firstB o (kd l j) = true := fun o h1 h2 => pops_same hk (by omega) (by omega) (by omega) (by omega) h2
   have := IH (j + 1) (by omega) (by omega) M ns d (by omega) hsh2
   rcases this with ⟨p, j2, ns', e, hd⟩ | ⟨t2, tg2, j2, e, k1, k2, k3, k4⟩
   ·rw [e, Option.bind_some]
    have hdead : Dead N l i (lv : Int) := hp.ddead hN hl hij hjl hk hpop (by omega) (by omega) hd (.inl (by omega))
    cases n with
    | zero => omega
    | succ n =>
     obtain ⟨p', e'⟩ := H1 n j2 ⟨bin2 (kd l j) t p.tree, false⟩ ns'
     exact .inl ⟨p', j2, ns', e', hdead⟩
   ·rw [e, Option.bind_some]
    refine ih j2 d (bin2 (kd l j) t t2) false ns (by omega) (by omega) k2 k3 ?_
    exact hp.step hN hl hij hjl hk hpop (by omega) (by omega) k4 k1 (.inl (by omega)) (fun o h => by omega) (fun _ h => .inl h)
  ·rw [H2 n j d t tg ns hsh ho]
   obtain ⟨hx, P, Q, p1, p2, p3, p4, p5⟩ := hp
   exact .inr ⟨t, tg, j, rfl, hij, hj, hsh, hx, P, Q, p1, p2, p3, fun h1 h2 => p4 h1 (by omega), p5⟩
theorem chain1_sy {lv lv1 lv2 : Nat} (hlv : lv = 6 ∧ lv1 = 7 ∧ lv2 = 7 ∨ lv = 7 ∧ lv1 = 8 ∧ lv2 = 8 ∨ lv = 12 ∧ lv1 = 13 ∧ lv2 = 11) {M : Nat} (hM : 5000 + 100 * (l.length - i) ≤ M) (IH : ∀ i', i < i' → i' ≤ l.length → SY N l i' lv2) {g : (SPart × Int × Bool × List (List UInt8)) → PI} {x : PI} {d : Nat} {ns : List (List UInt8)}
  (H1 : ∀ (j : Int) (p : SPart) (ns' : List (List UInt8)), g (p, j, true, ns') = some (p, j, true, ns'))
  (H2 : ∀ (j : Nat) (p : SPart), sh false d (l.drop j) = true → opl (kd l j) ≠ (lv : Int) → g (p, (j : Int), false, ns) = some (p, (j : Int), false, ns))
  (H3 : ∀ (j : Nat) (p : SPart), j < l.length → isOp (kd l j) = true → opl (kd l j) = (lv : Int) → g (p, (j : Int), false, ns) = (IL lv2 (scc1 M) r0 l ((j + 1 : Nat) : Int) false ns).bind fun q => some (⟨bin2 (kd l j) p.tree q.1.tree, false⟩, q.2.1, q.2.2.1, q.2.2.2))
  (hx : Out N l i (lv1 : Int) d ns x) : Out N l i (lv : Int) d ns (Option.bind x g) := by
 rcases hx with ⟨p, j, ns', rfl, hd⟩ | ⟨t, tg, j, rfl, h1, h2, hsh, hp⟩
 ·rw [Option.bind_some, H1]
  exact .inl ⟨p, j, ns', rfl, hd.pass (by omega)⟩
 ·rw [Option.bind_some]
  by_cases ho : opl (kd l j) = (lv : Int)
  ·have hop : isOp (kd l j) = true ∧ j < l.length ∧ sh true d (l.drop (j + 1)) = true := by
    rcases sh_have hsh with h | h | h
    ·rw [h.2.2] at ho
     have : opl 0 = 0 := rfl
     omega
    ·rw [h.2.1] at ho
     have : opl 33 = 0 := rfl
     omega
    ·exact ⟨h.2.1, h.1, h.2.2⟩
   obtain ⟨hk, hjl, hsh2⟩ := hop
   rw [H3 j ⟨t, tg⟩ hjl hk ho]
   have hpop : ∀ o, (lv1 : Int) ≤ opl o → opl o ≠ 0 → badB o (kd l j) = false ∧ firstB o (kd l j) = true := fun o h1 h2 => pop_ok (by omega)
   have := IH (j + 1) (by omega) (by omega) M ns d (by omega) hsh2
   rcases this with ⟨p, j2, ns', e, hd⟩ | ⟨t2, tg2, j2, e, k1, k2, k3, k4⟩
   ·rw [e, Option.bind_some]
    exact .inl ⟨_, j2, ns', rfl, hp.ddead hN hl h1 hjl hk hpop (by omega) (by omega) hd (by omega)⟩
   ·rw [e, Option.bind_some]
    refine .inr ⟨_, _, j2, rfl, by omega, k2, k3, ?_⟩
    refine hp.step hN hl h1 hjl hk hpop (by omega) (by omega) k4 k1 (by omega) (fun o h => ?_) (fun _ h => by omega)
    have := opl_ex o
    omega
  ·rw [H2 j ⟨t, tg⟩ hsh ho]
   obtain ⟨hx, P, Q, p1, p2, p3, p4, p5⟩ := hp
   refine .inr ⟨t, tg, j, rfl, h1, h2, hsh, hx, P, Q, p1, fun o ho => ⟨by have := (p2 o ho).1; omega, (p2 o ho).2⟩, p3, fun g1 g2 => p4 g1 (by have := isOp_ex g1; omega), fun os ts r hs hst => p5 os ts r hs fun o os' e => ?_⟩
   have := hst o os' e
   omega
end

theorem la_none (N : Nat) (p0 : List SToken) (q : Int) (b : Bool) (ns : List (List UInt8)) (l : List SToken) (hl : l.length ≤ 3000) (hc : ∀ t, t ∈ l → t.Kind ≠ 36) : ∀ (n j : Nat) (d : Int), l.length - j < n → 0 ≤ d → d ≤ 3000 + j → j ≤ l.length →
  mp_listAhead_l2 N p0 q b ns n (l, d, (j : Int)) = some false := by
 intro n
 induction n with
 | zero => intro j d h; omega
 | succ n ih =>
  intro j d hn hd1 hd2 hjl
  rw [mp_listAhead_l2]
  by_cases hj : j < l.length
  ·have h36 : (l[j].Kind == 36) = false := beq_eq_false_iff_ne.2 (hc _ (List.getElem_mem hj))
   simp only [lt_true hj, cond_true, ix_nat hj, Option.bind_some]
   have w : IntKind.wrap .i64 ((j : Int) + 1) = ((j + 1 : Nat) : Int) := by rw [wrap64 (by omega) (by omega)]; omega
   have next : ∀ d' : Int, d' ≤ d + 1 → mp_listAhead_k3 N p0 q b ns (mp_listAhead_l2 N p0 q b ns n) (l, (j : Int), d') = some false := fun d' g => by
    unfold mp_listAhead_k3
    by_cases h0 : d' ≤ 0
    ·simp only [decide_eq_true h0, cond_true]; rfl
    ·simp only [decide_eq_false h0, cond_false, w]
     exact ih (j + 1) d' (by omega) (by omega) (by omega) (by omega)
   unfold mi_opens mi_shuts
   have e1 : ∀ k : Int, (bif k == 32 then some true else bif k == 34 then some true else some (k == 30)) = some (k == 32 || (k == 34 || k == 30)) := fun k => by cases k == 32 <;> cases k == 34 <;> rfl
   have e2 : ∀ k : Int, (bif k == 33 then some true else bif k == 35 then some true else some (k == 31)) = some (k == 33 || (k == 35 || k == 31)) := fun k => by cases k == 33 <;> cases k == 35 <;> rfl
   simp only [e1, e2, Option.bind_some, h36, cond_false]
   rw [wrap64 (n := d + 1) (by omega) (by omega), wrap64 (n := d - 1) (by omega) (by omega), next (d + 1) (by omega), next (d - 1) (by omega), next d (by omega)]
   cases (l[j].Kind == 32 || (l[j].Kind == 34 || l[j].Kind == 30)) <;> cases (l[j].Kind == 33 || (l[j].Kind == 35 || l[j].Kind == 31)) <;> rfl
  ·simp only [lt_false hj, cond_false]
   rfl
theorem la_no {l : List SToken} (hl : l.length ≤ 3000) {N : Nat} (hN : 3001 < N) {i : Nat} (hi : i ≤ l.length) (b : Bool) (ns : List (List UInt8)) (hc : ∀ t, t ∈ l.drop i → t.Kind ≠ 36) : mp_listAhead N l (i : Int) b ns = some false := by
 unfold mp_listAhead
 rw [cut_nat (by omega) (by omega)]
 have hd : (l.drop i).take (l.length - i) = l.drop i := List.take_of_length_le (by simp)
 rw [hd, Option.bind_some]
 have hlen : (l.drop i).length ≤ 3000 := by rw [List.length_drop]; omega
 exact la_none N l (i : Int) b ns (l.drop i) hlen hc N 0 0 (by omega) (by omega) (by omega) (by omega)
theorem nl_no {l : List SToken} {M : Nat} (hM : 0 < M) {j : Nat} (ns : List (List UInt8)) (h1 : kd l j ≠ 1) (h2 : kd l j ≠ 2) : mp_newlines M l (j : Int) false ns = some ((j : Int), ns) := by
 obtain ⟨M, rfl⟩ : ∃ k, M = k + 1 := ⟨M - 1, by omega⟩
 unfold mp_newlines
 rw [mp_newlines_l1]
 simp only [Bool.not_false, cond_true, kindI, Option.bind_some, beq_eq_false_iff_ne.2 h1, beq_eq_false_iff_ne.2 h2, cond_false]
theorem isAssign_no {k : Int} (h : k ≠ 54 ∧ (k < 38 ∨ 43 < k)) : mi_isAssign k = some false := by
 unfold mi_isAssign
 have : (decide (k ≥ 38) && decide (k ≤ 43)) = false := by rw [Bool.and_eq_false_iff, decide_eq_false_iff_not, decide_eq_false_iff_not]; omega
 rw [beq_eq_false_iff_ne.2 h.1, within_is, this]
 rfl
theorem isStep_no {k : Int} (h : k ≠ 51 ∧ k ≠ 52) : mi_isStep k = some false := by
 unfold mi_isStep
 rw [beq_eq_false_iff_ne.2 h.1, beq_eq_false_iff_ne.2 h.2]
 rfl
theorem begins_no {k : Int} (h : k ≠ 3 ∧ k ≠ 4 ∧ k ≠ 6 ∧ k ≠ 7 ∧ k ≠ 8 ∧ k ≠ 32 ∧ k ≠ 68) : mi_BeginsOperand k = some false := by
 unfold mi_BeginsOperand
 simp only [beq_eq_false_iff_ne.2 h.1, beq_eq_false_iff_ne.2 h.2.1, beq_eq_false_iff_ne.2 h.2.2.1, beq_eq_false_iff_ne.2 h.2.2.2.1, beq_eq_false_iff_ne.2 h.2.2.2.2.1, beq_eq_false_iff_ne.2 h.2.2.2.2.2.1, beq_eq_false_iff_ne.2 h.2.2.2.2.2.2, cond_false]
 rfl
theorem opl_or (k : Int) : (k == 44) = (opl k == 3) := by
 have := opl_ex k
 cases h : (opl k == 3) with
 | true => rw [beq_iff_eq] at h ⊢; omega
 | false => rw [beq_eq_false_iff_ne] at h ⊢; intro e; subst e; exact h rfl
theorem opl_and (k : Int) : (k == 45) = (opl k == 4) := by
 have := opl_ex k
 cases h : (opl k == 4) with
 | true => rw [beq_iff_eq] at h ⊢; omega
 | false => rw [beq_eq_false_iff_ne] at h ⊢; intro e; subst e; exact h rfl

section
set_option linter.unusedSectionVars false
variable {N : Nat} (hN : 1048577 < N) {l : List SToken} (hl : l.length ≤ 3000) (hst : ∀ t, t ∈ l → t.Text.length ≤ 1048576) {i : Nat}
include hN hl hst

theorem leaf_Pt (lv k : Int) (hi : i < l.length) (hlv : 13 ≤ lv) (hk : l[i].Kind = 6 ∧ k = 1 ∨ l[i].Kind = 3 ∧ k = 2) : Pt N l i lv lv ⟨k, 0, l[i].Text, [], []⟩ (i + 1) := by
 refine ⟨txT_mk (fun t' ht' => (by cases ht')) (hst _ (List.getElem_mem hi)) (by simp), [], [⟨k, 0, l[i].Text, [], []⟩], rfl, fun o ho => (by cases ho), ?_, fun h1 h2 => ?_, fun os ts r hs hst hy => ?_⟩
 ·simp only [szTs, szT, List.length_nil]; omega
 ·have := isOp_ex h1; omega
 ·exact Yd.leaf hN hl hi k hk (by omega) hy

theorem sy_primary (IH : ∀ i', i < i' → i' ≤ l.length → SY N l i' 1) : SY N l i 15 := by
 intro M ns d hM hsh
 obtain ⟨M, rfl⟩ : ∃ k, M = k + 2 := ⟨M - 2, by omega⟩
 obtain ⟨hi, h⟩ := sh_want hsh
 have w : IntKind.wrap .i64 ((i : Int) + 1) = ((i + 1 : Nat) : Int) := by rw [wrap64 (by omega) (by omega)]; omega
 show Out N l i 15 d ns (mp_primary_F (M + 1) (scc1 (M + 1)) l (i : Int) false ns)
 unfold mp_primary_F
 rw [cond_false, kindI, Option.bind_some]
 rcases h with ⟨hk, h2⟩ | ⟨hk | hk, h2⟩
 ·simp only [hk, Int.reduceBEq, cond_false]
  unfold mp_primary_k1
  simp only [cond_false, Int.reduceBEq, cond_true, w]
  have hk' : l[i].Kind = 32 := by rw [← kd_at hi]; exact hk
  have hst0 : ∀ os, Stop 1 (0 :: os) := fun os o os' e => by
   simp only [List.cons.injEq] at e
   exact .inl e.1.symm
  have := IH (i + 1) (by omega) (by omega) (M + 1) ns (d + 1) (by omega) h2
  rcases this with ⟨p, j, ns', e, hd⟩ | ⟨t, tg, j, e, k1, k2, k3, k4⟩
  ·have e : (scc1 (M + 1)).mp_assign r0 l ((i + 1 : Nat) : Int) false ns = some (p, (j : Int), true, ns') := e
   have tk : ∀ j : Int, mp_take 33 l j true ns' = some (false, j, true) := fun j => by
    unfold mp_take
    simp only [cond_true, Option.bind_some]
   simp only [e, Option.bind_some, tk]
   exact .inl ⟨_, j, ns', rfl, fun os ts hs hst => Yd.opens hN hl hi hk' (by omega) (hd (0 :: os) ts (by simp only [List.length_cons]; omega) (hst0 os))⟩
  ·have e : (scc1 (M + 1)).mp_assign r0 l ((i + 1 : Nat) : Int) false ns = some (⟨t, tg⟩, (j : Int), false, ns) := e
   simp only [e, Option.bind_some]
   obtain ⟨hx, P, Q, p1, p2, p3, p4, p5⟩ := k4
   rcases sh_have k3 with ⟨g1, g2, g3⟩ | ⟨g1, g2, g3, g4⟩ | ⟨g1, g2, g3⟩
   ·omega
   ·simp only [takeI_yes ns (show j ≤ 100000 by omega) g2, Option.bind_some]
    rw [Nat.add_sub_cancel] at g4
    have hsz := red_sz P Q t p1
    refine .inr ⟨t, false, j + 1, rfl, by omega, by omega, g4, hx, [], [t], rfl, fun o ho => (by cases ho), ?_, fun h1 h2 => ?_, fun os ts r hs hst hy => ?_⟩
    ·simp only [szTs, List.length_nil]; omega
    ·have := isOp_ex h1; omega
    ·refine Yd.opens hN hl hi hk' (by omega) (p5 (0 :: os) ts r (by simp only [List.length_cons]; omega) (hst0 os) ?_)
     refine Yd.shuts hN hl g1 (by rw [← kd_at g1]; exact g2) p1 (fun o ho e => ?_) ?_ hy
     ·have := (p2 o ho).2
      rw [e] at this
      exact this rfl
     ·rw [szTs_app, List.length_append, List.length_cons]; omega
   ·have hne : kd l j ≠ 33 := by have := isOp_ex g2; omega
    simp only [takeI_no false ns hne, Option.bind_some]
    refine .inl ⟨_, j, ns, rfl, fun os ts hs hst => ?_⟩
    refine Yd.opens hN hl hi hk' (by omega) (p5 (0 :: os) ts _ (by simp only [List.length_cons]; omega) (hst0 os) ?_)
    refine Yd.dead hN hl g1 (kd_at g1).symm g2 p1 (p4 g2 (by have := isOp_ex g2; omega)) ?_
    rw [szTs_app, List.length_append, List.length_cons]; omega
 ·simp only [hk, Int.reduceBEq, cond_false, cond_true]
  show Out N l i 15 d ns ((mp_variable_F M (scc1 M) l (i : Int) false ns).bind fun r46 => some (r46.1, r46.2.1, r46.2.2.1, r46.2.2.2))
  unfold mp_variable_F
  have h34 : kd l (i + 1) ≠ 34 := by have := kd_nums h2; omega
  simp only [textI false ns hi (by omega), kindI, Option.bind_some, beq_eq_false_iff_ne.2 h34, cond_false]
  unfold mp_variable_k1
  simp only [Option.bind_some]
  exact .inr ⟨_, _, i + 1, rfl, by omega, by omega, h2, leaf_Pt hN hl hst 15 1 hi (by omega) (.inl ⟨by rw [← kd_at hi]; exact hk, rfl⟩)⟩
 ·simp only [hk, Int.reduceBEq, cond_false, cond_true, textI false ns hi (show l.length ≤ 100000 by omega), Option.bind_some]
  exact .inr ⟨_, _, i + 1, rfl, by omega, by omega, h2, leaf_Pt hN hl hst 15 2 hi (by omega) (.inr ⟨by rw [← kd_at hi]; exact hk, rfl⟩)⟩

omit hN hl hst in
theorem kd_wants {d : Nat} (hsh : sh true d (l.drop i) = true) : kd l i = 32 ∨ kd l i = 6 ∨ kd l i = 3 := by
 obtain ⟨_, h | h⟩ := sh_want hsh
 ·exact .inl h.1
 ·exact .inr h.1
theorem sy_field (hS : SY N l i 15) : SY N l i 14 := by
 intro M ns d hM hsh
 obtain ⟨M, rfl⟩ : ∃ k, M = k + 1 := ⟨M - 1, by omega⟩
 have hk := kd_wants hsh
 show Out N l i 14 d ns (mp_field_F M (scc1 M) l (i : Int) false ns)
 unfold mp_field_F
 have n68 : (kd l i != 68) = true := by rw [bne_iff_ne]; omega
 simp only [cond_false, kindI, Option.bind_some, n68, cond_true]
 refine Out.pass (lv' := 15) (Out.bind (hS M ns d (by omega) hsh) (fun p j ns' => ⟨p, rfl⟩) fun t tg j _ _ _ => ⟨tg, rfl⟩) (by omega) fun k hk hv => ?_
 have := isOp_ex hk
 omega
theorem sy_incr (hS : SY N l i 14) : SY N l i 13 := by
 intro M ns d hM hsh
 obtain ⟨M, rfl⟩ : ∃ k, M = k + 1 := ⟨M - 1, by omega⟩
 have hk := kd_wants hsh
 show Out N l i 13 d ns (mp_incr_F M (scc1 M) l (i : Int) false ns)
 unfold mp_incr_F
 have s0 : mi_isStep (kd l i) = some false := isStep_no (by omega)
 simp only [Bool.not_false, cond_true, kindI, Option.bind_some, s0, cond_false]
 refine Out.pass (lv' := 14) (Out.bind (hS M ns d (by omega) hsh) (fun p j ns' => ⟨p, rfl⟩) fun t tg j _ _ hj => ⟨tg, ?_⟩) (by omega) fun k hk hv => ?_
 ·have s1 : mi_isStep (kd l j) = some false := isStep_no (by have := kd_nums hj; omega)
  simp only [cond_false, kindI, Option.bind_some, s1]
  cases tg <;> rfl
 ·have := isOp_ex hk
  omega
theorem sy_pow (IH : ∀ i', i < i' → i' ≤ l.length → SY N l i' 11) (hS : SY N l i 13) : SY N l i 12 := by
 intro M ns d hM hsh
 obtain ⟨M, rfl⟩ : ∃ k, M = k + 1 := ⟨M - 1, by omega⟩
 show Out N l i ((12 : Nat) : Int) d ns (mp_pow_F M (scc1 M) r0 l (i : Int) false ns)
 unfold mp_pow_F
 refine chain1_sy hN hl (lv := 12) (lv1 := 13) (lv2 := 11) (M := M) (by simp) (by omega) IH ?_ ?_ ?_ (hS M ns d (by omega) hsh)
 ·intro j p ns'
  simp only [cond_true, Option.bind_some]
 ·intro j p hj ho
  have n60 : (kd l j != 60) = true := by rw [bne_iff_ne]; intro e; rw [e] at ho; exact ho rfl
  simp only [cond_false, kindI, Option.bind_some, n60, cond_true]
 ·intro j p hj hk ho
  have h60 : kd l j = 60 := by have := isOp_ex hk; omega
  have n60 : (kd l j != 60) = false := by rw [h60]; rfl
  simp only [cond_false, kindI, Option.bind_some, n60]
  rw [wrap64 (by omega) (by omega), h60]
  rfl
theorem sy_unary (hS : SY N l i 12) : SY N l i 11 := by
 intro M ns d hM hsh
 obtain ⟨M, rfl⟩ : ∃ k, M = k + 1 := ⟨M - 1, by omega⟩
 have hk := kd_wants hsh
 show Out N l i 11 d ns (mp_unary_F M (scc1 M) r0 l (i : Int) false ns)
 unfold mp_unary_F
 have n1 : (kd l i != 55) = true := by rw [bne_iff_ne]; omega
 have n2 : (kd l i != 56) = true := by rw [bne_iff_ne]; omega
 have n3 : (kd l i != 61) = true := by rw [bne_iff_ne]; omega
 simp only [cond_false, kindI, Option.bind_some, n1, n2, n3, cond_true]
 refine Out.pass (lv' := 12) (Out.bind (hS M ns d (by omega) hsh) (fun p j ns' => ⟨p, rfl⟩) fun t tg j _ _ _ => ⟨tg, rfl⟩) (by omega) fun k hk hv => ?_
 have := isOp_ex hk
 omega
theorem sy_chain {lv : Nat} (hlv : lv = 3 ∨ lv = 4 ∨ lv = 9 ∨ lv = 10) {M : Nat} (hM : 5000 + 100 * (l.length - i) + 4 * (16 - lv) ≤ M + 1) (IH : ∀ i', i < i' → i' ≤ l.length → SY N l i' (lv + 1)) (hS : SY N l i (lv + 1)) (ns : List (List UInt8)) (d : Nat) (hsh : sh true d (l.drop i) = true) (lp : Nat → LSt → PI)
  (H1 : ∀ (n : Nat) (j : Int) (p : SPart) (ns : List (List UInt8)), ∃ p', lp (n + 1) (r0, j, true, p.tree.kind, p.tree.op, p.tree.text, p.tree.other, p.tree.kids, p.target, ns) = some (p', j, true, ns))
  (H2 : ∀ (n j d : Nat) (t : STree) (tg : Bool) (ns : List (List UInt8)), sh false d (l.drop j) = true → opl (kd l j) ≠ (lv : Int) → lp (n + 1) (r0, (j : Int), false, t.kind, t.op, t.text, t.other, t.kids, tg, ns) = some (⟨t, tg⟩, (j : Int), false, ns))
  (H3 : ∀ (n j d : Nat) (t : STree) (tg : Bool) (ns : List (List UInt8)), j < l.length → isOp (kd l j) = true → opl (kd l j) = (lv : Int) → sh true d (l.drop (j + 1)) = true → lp (n + 1) (r0, (j : Int), false, t.kind, t.op, t.text, t.other, t.kids, tg, ns) = (IL (lv + 1) (scc1 M) r0 l ((j + 1 : Nat) : Int) false ns).bind fun q => lp n (r0, q.2.1, q.2.2.1, 12, kd l j, [], [], [t, q.1.tree], false, q.2.2.2)) :
  Out N l i (lv : Int) d ns ((IL (lv + 1) (scc1 M) r0 l (i : Int) false ns).bind fun r2 => lp M (r0, r2.2.1, r2.2.2.1, r2.1.tree.kind, r2.1.tree.op, r2.1.tree.text, r2.1.tree.other, r2.1.tree.kids, r2.1.target, r2.2.2.2)) := by
 rcases hS M ns d (by omega) hsh with ⟨p, j, ns', e, hd⟩ | ⟨t, tg, j, e, k1, k2, k3, k4⟩
 ·rw [e, Option.bind_some]
  obtain ⟨m, hm⟩ : ∃ m, M = m + 1 := ⟨M - 1, by omega⟩
  obtain ⟨p', e'⟩ := H1 m j p ns'
  rw [← hm] at e'
  exact .inl ⟨p', j, ns', e', hd.pass (by omega)⟩
 ·rw [e, Option.bind_some]
  refine chain_sy hN hl hlv (by omega) IH lp H1 H2 H3 M j d t tg ns (by omega) k1 k2 k3 ?_
  obtain ⟨hx, P, Q, p1, p2, p3, p4, p5⟩ := k4
  refine ⟨hx, P, Q, p1, fun o ho => ⟨by have := (p2 o ho).1; omega, (p2 o ho).2⟩, p3, p4, fun os ts r hs hst => p5 os ts r hs fun o os' e => ?_⟩
  have := hst o os' e
  omega
theorem sy_mul (IH : ∀ i', i < i' → i' ≤ l.length → SY N l i' 11) (hS : SY N l i 11) : SY N l i 10 := by
 intro M ns d hM hsh
 obtain ⟨M, rfl⟩ : ∃ k, M = k + 1 := ⟨M - 1, by omega⟩
 refine sy_chain hN hl hst (lv := 10) (by simp) hM IH hS ns d hsh (mp_mul_l1 M (scc1 M) l) ?_ ?_ ?_
 ·intro n j p ns
  rw [mp_mul_l1]
  simp only [Bool.not_true, cond_false, Option.bind_some]
  exact ⟨_, rfl⟩
 ·intro n j d t tg ns hj ho
  obtain ⟨tk, tp, tt, tu, ts⟩ := t
  rw [mp_mul_l1]
  have : (opl (kd l j) == 10) = false := beq_eq_false_iff_ne.2 ho
  simp only [Bool.not_false, cond_true, kindI, oplI, Option.bind_some, this, cond_false]
 ·intro n j d t tg ns hj hk ho hsh
  obtain ⟨tk, tp, tt, tu, ts⟩ := t
  rw [mp_mul_l1]
  have : (opl (kd l j) == 10) = true := beq_iff_eq.2 ho
  simp only [Bool.not_false, cond_true, kindI, oplI, Option.bind_some, this]
  rw [wrap64 (by omega) (by omega)]
  rfl
theorem sy_add (IH : ∀ i', i < i' → i' ≤ l.length → SY N l i' 10) (hS : SY N l i 10) : SY N l i 9 := by
 intro M ns d hM hsh
 obtain ⟨M, rfl⟩ : ∃ k, M = k + 1 := ⟨M - 1, by omega⟩
 refine sy_chain hN hl hst (lv := 9) (by simp) hM IH hS ns d hsh (mp_add_l1 M (scc1 M) l) ?_ ?_ ?_
 ·intro n j p ns
  rw [mp_add_l1]
  simp only [Bool.not_true, cond_false, Option.bind_some]
  exact ⟨_, rfl⟩
 ·intro n j d t tg ns hj ho
  obtain ⟨tk, tp, tt, tu, ts⟩ := t
  rw [mp_add_l1]
  have : (opl (kd l j) == 9) = false := beq_eq_false_iff_ne.2 ho
  simp only [Bool.not_false, cond_true, kindI, oplI, Option.bind_some, this, cond_false]
 ·intro n j d t tg ns hj hk ho hsh
  obtain ⟨tk, tp, tt, tu, ts⟩ := t
  rw [mp_add_l1]
  have : (opl (kd l j) == 9) = true := beq_iff_eq.2 ho
  simp only [Bool.not_false, cond_true, kindI, oplI, Option.bind_some, this]
  rw [wrap64 (by omega) (by omega)]
  rfl
theorem sy_cat (hS : SY N l i 9) : SY N l i 8 := by
 intro M ns d hM hsh
 obtain ⟨M, rfl⟩ : ∃ k, M = k + 1 := ⟨M - 1, by omega⟩
 show Out N l i 8 d ns (mp_cat_F M (scc1 M) r0 l (i : Int) false ns)
 unfold mp_cat_F
 obtain ⟨m, hm⟩ : ∃ m, M = m + 1 := ⟨M - 1, by omega⟩
 refine Out.pass (lv' := 9) (Out.bind (hS M ns d (by omega) hsh) (fun p j ns' => ?_) fun t tg j _ _ hj => ⟨tg, ?_⟩) (by omega) fun k hk hv => ?_
 ·have e : ∀ M', mp_cat_l1 M' (scc1 M) l (m + 1) (r0, j, true, p.tree.kind, p.tree.op, p.tree.text, p.tree.other, p.tree.kids, p.target, ns') = some (⟨⟨p.tree.kind, p.tree.op, p.tree.text, p.tree.other, p.tree.kids⟩, p.target⟩, j, true, ns') := fun M' => by
   rw [mp_cat_l1]
   simp only [Bool.not_true, cond_false, Option.bind_some]
  rw [← hm] at e
  exact ⟨_, e M⟩
 ·obtain ⟨tk, tp, tt, tu, ts⟩ := t
  have e : ∀ M', mp_cat_l1 M' (scc1 M) l (m + 1) (r0, (j : Int), false, tk, tp, tt, tu, ts, tg, ns) = some (⟨⟨tk, tp, tt, tu, ts⟩, tg⟩, (j : Int), false, ns) := fun M' => by
   rw [mp_cat_l1]
   simp only [Bool.not_false, cond_true, kindI, Option.bind_some, begins_no (k := kd l j) (by have := kd_nums hj; omega), cond_false]
  rw [← hm] at e
  exact e M
 ·have := isOp_ex hk
  omega
theorem sy_compare (IH : ∀ i', i < i' → i' ≤ l.length → SY N l i' 8) (hS : SY N l i 8) : SY N l i 7 := by
 intro M ns d hM hsh
 obtain ⟨M, rfl⟩ : ∃ k, M = k + 1 := ⟨M - 1, by omega⟩
 show Out N l i ((7 : Nat) : Int) d ns (mp_compare_F M (scc1 M) r0 l (i : Int) false ns)
 unfold mp_compare_F
 refine chain1_sy hN hl (lv := 7) (lv1 := 8) (lv2 := 8) (M := M) (by simp) (by omega) IH ?_ ?_ ?_ (hS M ns d (by omega) hsh)
 ·intro j p ns'
  simp only [cond_true, Option.bind_some]
 ·intro j p hj ho
  have n7 : (opl (kd l j) != 7) = true := by rw [bne_iff_ne]; exact ho
  simp only [cond_false, kindI, oplI, Option.bind_some, n7, cond_true]
 ·intro j p hj hk ho
  have n7 : (opl (kd l j) != 7) = false := by rw [ho]; rfl
  simp only [cond_false, kindI, oplI, Option.bind_some, n7]
  rw [wrap64 (by omega) (by omega)]
  rfl
theorem sy_match (IH : ∀ i', i < i' → i' ≤ l.length → SY N l i' 7) (hS : SY N l i 7) : SY N l i 6 := by
 intro M ns d hM hsh
 obtain ⟨M, rfl⟩ : ∃ k, M = k + 1 := ⟨M - 1, by omega⟩
 show Out N l i ((6 : Nat) : Int) d ns (mp_match_F M (scc1 M) r0 l (i : Int) false ns)
 unfold mp_match_F
 refine chain1_sy hN hl (lv := 6) (lv1 := 7) (lv2 := 7) (M := M) (by simp) (by omega) IH ?_ ?_ ?_ (hS M ns d (by omega) hsh)
 ·intro j p ns'
  simp only [cond_true, Option.bind_some]
 ·intro j p hj ho
  have n1 : (kd l j != 67) = true := by rw [bne_iff_ne]; intro e; rw [e] at ho; exact ho rfl
  have n2 : (kd l j != 46) = true := by rw [bne_iff_ne]; intro e; rw [e] at ho; exact ho rfl
  simp only [cond_false, kindI, Option.bind_some, n1, n2, cond_true]
 ·intro j p hj hk ho
  have hx := isOp_ex hk
  have hy : kd l j = 67 ∨ kd l j = 46 := by omega
  have e : (bif kd l j != 67 then some (kd l j != 46) else some false) = some false := by
   rcases hy with h | h <;> rw [h] <;> rfl
  simp only [cond_false, kindI, Option.bind_some, e]
  rw [wrap64 (by omega) (by omega)]
  rfl
theorem sy_in (hS : SY N l i 6) : SY N l i 5 := by
 intro M ns d hM hsh
 obtain ⟨M, rfl⟩ : ∃ k, M = k + 1 := ⟨M - 1, by omega⟩
 have hi := (sh_want hsh).1
 show Out N l i 5 d ns (mp_in_F M (scc1 M) r0 l (i : Int) false ns)
 unfold mp_in_F
 have hla := la_no hl (N := M) (i := i) (by omega) (by omega) false ns (sh_36 _ _ _ hsh)
 have e0 : (bif kd l i == 32 then some false else some false) = (some false : Option Bool) := by cases kd l i == 32 <;> rfl
 simp only [Bool.not_false, cond_true, kindI, Option.bind_some, hla, e0, cond_false]
 refine Out.pass (lv' := 6) (Out.bind (hS M ns d (by omega) hsh) (fun p j ns' => ⟨p, ?_⟩) fun t tg j _ _ hj => ⟨tg, ?_⟩) (by omega) fun k hk hv => ?_
 ·simp only [Bool.not_true, cond_false, Option.bind_some]
 ·have n24 : (kd l j == 24) = false := by rw [beq_eq_false_iff_ne]; have := kd_nums hj; omega
  simp only [Bool.not_false, cond_true, kindI, Option.bind_some, n24, cond_false]
 ·have := isOp_ex hk
  omega
theorem sy_and (IH : ∀ i', i < i' → i' ≤ l.length → SY N l i' 5) (hS : SY N l i 5) : SY N l i 4 := by
 intro M ns d hM hsh
 obtain ⟨M, rfl⟩ : ∃ k, M = k + 1 := ⟨M - 1, by omega⟩
 refine sy_chain hN hl hst (lv := 4) (by simp) hM IH hS ns d hsh (mp_and_l1 M (scc1 M) l) ?_ ?_ ?_
 ·intro n j p ns
  rw [mp_and_l1]
  simp only [Bool.not_true, cond_false, Option.bind_some]
  exact ⟨_, rfl⟩
 ·intro n j d t tg ns hj ho
  obtain ⟨tk, tp, tt, tu, ts⟩ := t
  rw [mp_and_l1]
  have : (opl (kd l j) == 4) = false := beq_eq_false_iff_ne.2 ho
  simp only [Bool.not_false, cond_true, kindI, opl_and, Option.bind_some, this, cond_false]
 ·intro n j d t tg ns hj hk ho hsh
  obtain ⟨tk, tp, tt, tu, ts⟩ := t
  rw [mp_and_l1]
  have : (opl (kd l j) == 4) = true := beq_iff_eq.2 ho
  have h45 : kd l j = 45 := by have := isOp_ex hk; omega
  have hw := kd_wants hsh
  have hnl := nl_no (l := l) (M := M) (j := j + 1) (by omega) ns (by omega) (by omega)
  simp only [Bool.not_false, cond_true, kindI, opl_and, Option.bind_some, this]
  rw [wrap64 (by omega) (by omega), show ((j : Int) + 1) = ((j + 1 : Nat) : Int) by omega, hnl, h45]
  rfl
theorem sy_or (IH : ∀ i', i < i' → i' ≤ l.length → SY N l i' 4) (hS : SY N l i 4) : SY N l i 3 := by
 intro M ns d hM hsh
 obtain ⟨M, rfl⟩ : ∃ k, M = k + 1 := ⟨M - 1, by omega⟩
 refine sy_chain hN hl hst (lv := 3) (by simp) hM IH hS ns d hsh (mp_or_l1 M (scc1 M) l) ?_ ?_ ?_
 ·intro n j p ns
  rw [mp_or_l1]
  simp only [Bool.not_true, cond_false, Option.bind_some]
  exact ⟨_, rfl⟩
 ·intro n j d t tg ns hj ho
  obtain ⟨tk, tp, tt, tu, ts⟩ := t
  rw [mp_or_l1]
  have : (opl (kd l j) == 3) = false := beq_eq_false_iff_ne.2 ho
  simp only [Bool.not_false, cond_true, kindI, opl_or, Option.bind_some, this, cond_false]
 ·intro n j d t tg ns hj hk ho hsh
  obtain ⟨tk, tp, tt, tu, ts⟩ := t
  rw [mp_or_l1]
  have : (opl (kd l j) == 3) = true := beq_iff_eq.2 ho
  have h44 : kd l j = 44 := by have := isOp_ex hk; omega
  have hw := kd_wants hsh
  have hnl := nl_no (l := l) (M := M) (j := j + 1) (by omega) ns (by omega) (by omega)
  simp only [Bool.not_false, cond_true, kindI, opl_or, Option.bind_some, this]
  rw [wrap64 (by omega) (by omega), show ((j : Int) + 1) = ((j + 1 : Nat) : Int) by omega, hnl, h44]
  rfl
theorem sy_cond (hS : SY N l i 3) : SY N l i 2 := by
 intro M ns d hM hsh
 obtain ⟨M, rfl⟩ : ∃ k, M = k + 1 := ⟨M - 1, by omega⟩
 show Out N l i 2 d ns (mp_cond_F M (scc1 M) r0 l (i : Int) false ns)
 unfold mp_cond_F
 refine Out.pass (lv' := 3) (Out.bind (hS M ns d (by omega) hsh) (fun p j ns' => ⟨p, ?_⟩) fun t tg j _ _ hj => ⟨tg, ?_⟩) (by omega) fun k hk hv => ?_
 ·simp only [cond_true, Option.bind_some]
 ·have n65 : (kd l j != 65) = true := by rw [bne_iff_ne]; have := kd_nums hj; omega
  simp only [cond_false, kindI, Option.bind_some, n65, cond_true]
 ·have := isOp_ex hk
  omega
theorem sy_assign (hS : SY N l i 2) : SY N l i 1 := by
 intro M ns d hM hsh
 obtain ⟨M, rfl⟩ : ∃ k, M = k + 1 := ⟨M - 1, by omega⟩
 show Out N l i 1 d ns (mp_assign_F M (scc1 M) r0 l (i : Int) false ns)
 unfold mp_assign_F
 refine Out.pass (lv' := 2) (Out.bind (hS M ns d (by omega) hsh) (fun p j ns' => ⟨p, ?_⟩) fun t tg j _ _ hj => ⟨tg, ?_⟩) (by omega) fun k hk hv => ?_
 ·simp only [cond_true, Option.bind_some]
 ·have na : mi_isAssign (kd l j) = some false := isAssign_no (by have := kd_nums hj; omega)
  simp only [cond_false, kindI, Option.bind_some, na, Bool.not_false]
  cases tg <;> rfl
 ·have := isOp_ex hk
  omega
theorem sy_all (IH : ∀ i' lv, i < i' → i' ≤ l.length → 1 ≤ lv → lv ≤ 15 → SY N l i' lv) : ∀ lv, 1 ≤ lv → lv ≤ 15 → SY N l i lv := by
 have ih : ∀ lv, 1 ≤ lv → lv ≤ 15 → ∀ i', i < i' → i' ≤ l.length → SY N l i' lv := fun lv a b i' c d => IH i' lv c d a b
 have h15 := sy_primary hN hl hst (ih 1 (by decide) (by decide))
 have h14 := sy_field hN hl hst h15
 have h13 := sy_incr hN hl hst h14
 have h12 := sy_pow hN hl hst (ih 11 (by decide) (by decide)) h13
 have h11 := sy_unary hN hl hst h12
 have h10 := sy_mul hN hl hst (ih 11 (by decide) (by decide)) h11
 have h9 := sy_add hN hl hst (ih 10 (by decide) (by decide)) h10
 have h8 := sy_cat hN hl hst h9
 have h7 := sy_compare hN hl hst (ih 8 (by decide) (by decide)) h8
 have h6 := sy_match hN hl hst (ih 7 (by decide) (by decide)) h7
 have h5 := sy_in hN hl hst h6
 have h4 := sy_and hN hl hst (ih 5 (by decide) (by decide)) h5
 have h3 := sy_or hN hl hst (ih 4 (by decide) (by decide)) h4
 have h2 := sy_cond hN hl hst h3
 have h1 := sy_assign hN hl hst h2
 intro lv a b
 match lv, a, b with
 | 1, _, _ => exact h1
 | 2, _, _ => exact h2
 | 3, _, _ => exact h3
 | 4, _, _ => exact h4
 | 5, _, _ => exact h5
 | 6, _, _ => exact h6
 | 7, _, _ => exact h7
 | 8, _, _ => exact h8
 | 9, _, _ => exact h9
 | 10, _, _ => exact h10
 | 11, _, _ => exact h11
 | 12, _, _ => exact h12
 | 13, _, _ => exact h13
 | 14, _, _ => exact h14
 | 15, _, _ => exact h15
end
theorem sy_levels {N : Nat} (hN : 1048577 < N) {l : List SToken} (hl : l.length ≤ 3000) (hst : ∀ t, t ∈ l → t.Text.length ≤ 1048576) : ∀ (d i : Nat), l.length - i = d → i ≤ l.length → ∀ lv, 1 ≤ lv → lv ≤ 15 → SY N l i lv := by
 intro d
 induction d using Nat.strongRecOn with
 | _ d ih =>
  intro i hd hi
  exact sy_all hN hl hst fun i' lv a b c e => ih (l.length - i') (by omega) i' rfl b lv c e

end Go.Proofs.Tryz
