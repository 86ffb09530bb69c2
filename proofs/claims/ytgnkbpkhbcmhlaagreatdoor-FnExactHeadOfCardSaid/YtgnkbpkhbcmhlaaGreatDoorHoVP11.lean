/-
 Plain lemmas on the models, part 11.
-/
import Derived.Test.YtgnkbpkhbcmhlaaGreatDoorHoVP10
namespace Go.Proofs.Tryz
open Go.Av
set_option maxRecDepth 100000
set_option linter.unusedSimpArgs false
set_option linter.unusedVariables false

def NX (t : STree) : Prop := t.text.contains 10 = false ∧ (t.kind = 9 ∨ t.kind = 10 ∨ t.kind = 11 ∨ t.kind = 12 ∨ t.kind = 15 → t.op ≠ 1)
theorem spl_nl (k : Int) (hk : k ≠ 1) : (spl k).contains 10 = false := by
 have h1 : ∀ e, e ∈ tab_keywords → e.contains 10 = false := by decide
 have h2 : ∀ e, e ∈ tab_signs → e.contains 10 = false := by decide
 have h := splI_is k
 unfold mi_SpellOf at h
 rcases cond_some h with ⟨hc, _⟩ | ⟨_, h⟩
 ·exfalso
  exact hk (by simpa using hc)
 ·obtain ⟨b, _, h⟩ := bind_some h
  rcases cond_some h with ⟨_, h⟩ | ⟨_, h⟩
  ·obtain ⟨e, he, h⟩ := bind_some h
   have e2 := Option.some.inj h
   rw [← e2]
   exact h1 _ (List.mem_of_getElem? (ix_some he).2)
  ·obtain ⟨b, _, h⟩ := bind_some h
   rcases cond_some h with ⟨_, h⟩ | ⟨_, h⟩
   ·obtain ⟨e, he, h⟩ := bind_some h
    have e2 := Option.some.inj h
    rw [← e2]
    exact h2 _ (List.mem_of_getElem? (ix_some he).2)
   ·have e := Option.some.inj h
    rw [← e]; decide

theorem kd_tx {x : List UInt8} (h : x.contains 10 = false) : allD KD (txD x) := by
 unfold txD; rw [allD, allDs]
 refine ⟨⟨by simp, fun ids hi => ?_⟩, trivial⟩
 have : ids = [] := List.length_eq_zero_iff.1 hi
 subst this
 show (!x.contains 10 && true) = true
 rw [h]; rfl
theorem kd_ln : allD KD lnD := by
 unfold lnD; rw [allD, allDs]
 refine ⟨⟨by simp, fun ids hi => ?_⟩, trivial⟩
 have : ids = [] := List.length_eq_zero_iff.1 hi
 subst this
 rfl
theorem kd_ct {l : List SDoc} (h : allDs KD l) : allD KD (ctD l) := by unfold ctD; rw [allD]; exact ⟨⟨by simp, fun ids _ => rfl⟩, h⟩
theorem kd_ns {d : SDoc} (h : allD KD d) : allD KD (nsD d) := by
 unfold nsD; rw [allD, allDs, allDs]
 refine ⟨⟨by simp, fun ids hi => ?_⟩, h, trivial⟩
 have hi : ids.length = 1 := hi
 show ((decide ((4 : Int) ≥ 0) && decide ((4 : Int) ≤ 40)) && ((ids.length : Int) == 1)) = true
 rw [hi]; rfl
theorem kd_gr {d : SDoc} (h : allD KD d) : allD KD (grD d) := by
 unfold grD; rw [allD, allDs, allDs]
 refine ⟨⟨by simp, fun ids hi => ?_⟩, h, trivial⟩
 have hi : ids.length = 1 := hi
 show ((ids.length : Int) == 1) = true
 rw [hi]; rfl
theorem kd_bif {c : Bool} {a b : SDoc} (ha : allD KD a) (hb : allD KD b) : allD KD (bif c then a else b) := by cases c <;> assumption
theorem kds_nil : allDs KD [] := by rw [allDs]; trivial
theorem kds_cons {a : SDoc} {l : List SDoc} (ha : allD KD a) (h : allDs KD l) : allDs KD (a :: l) := by rw [allDs]; exact ⟨ha, h⟩
theorem kds_get : ∀ {l : List SDoc} (_ : allDs KD l) (j : Nat), allD KD (kd0 l j)
 | [], _, j => kd_ln
 | d :: l, h, 0 => by rw [allDs] at h; exact h.1
 | d :: l, h, j + 1 => by rw [allDs] at h; exact kds_get h.2 j
theorem kds_comma : ∀ (l : List SDoc) (b : Bool), allDs KD l → allDs KD (commaD b l)
 | [], b, _ => by rw [commaD]; exact kds_nil
 | x :: xs, b, h => by
  rw [allDs] at h
  have := kds_cons h.1 (kds_comma xs true h.2)
  rw [commaD]
  cases b
  ·exact this
  ·exact kds_cons (kd_tx (by decide)) (kds_cons kd_ln this)
theorem nl_app {a b : List UInt8} (ha : a.contains 10 = false) (hb : b.contains 10 = false) : (a ++ b).contains 10 = false := by
 rw [List.contains_eq_any_beq] at ha hb ⊢
 rw [List.any_append, ha, hb]; rfl
theorem kd_asm (k o : Int) (x : List UInt8) (ts : List (List SToken)) (l : List SDoc) (he : isE k = true) (hx : x.contains 10 = false) (ho : k = 9 ∨ k = 10 ∨ k = 11 ∨ k = 12 ∨ k = 15 → o ≠ 1) (h : allDs KD l) : allD KD (asmD k o x ts l) := by
 have g := fun j => kds_get h j
 have hl : allD KD (listD l) := kd_gr (kd_ns (kd_ct (kds_comma l false h)))
 have n := kds_nil
 have sp : (k = 9 ∨ k = 10 ∨ k = 11 ∨ k = 12 ∨ k = 15) → (spl o).contains 10 = false := fun hk => spl_nl o (ho hk)
 have s2 : ([32] : List UInt8).contains 10 = false := by decide
 unfold asmD
 rcases kinds he with e | e | e | e | e | e | e | e | e | e | e | e | e | e | e <;> subst e
 ·exact kd_tx hx
 ·exact kd_tx hx
 ·exact kd_tx hx
 ·exact kd_tx hx
 ·exact kd_ct (kds_cons (kd_tx (nl_app hx (by decide))) (kds_cons hl (kds_cons (kd_tx (by decide)) n)))
 ·exact kd_ct (kds_cons (kd_tx (by decide)) (kds_cons (g 0) n))
 ·exact kd_ct (kds_cons (kd_tx (nl_app hx (by decide))) (kds_cons hl (kds_cons (kd_tx (by decide)) n)))
 ·exact kd_ct (kds_cons (kd_tx (nl_app hx (by decide))) (kds_cons hl (kds_cons (kd_tx (by decide)) n)))
 ·exact kd_ct (kds_cons (kd_tx (sp (by simp))) (kds_cons (g 0) n))
 ·exact kd_ct (kds_cons (g 0) (kds_cons (kd_tx (sp (by simp))) n))
 ·refine kd_ct (kds_cons (kd_tx (nl_app (sp (by simp)) ?_)) (kds_cons (g 0) n))
  cases gapB (sg o) (kt0 ts) <;> decide
 ·have c1 : allD KD (txD ([32] ++ spl o)) := kd_tx (nl_app s2 (sp (by simp)))
  have c2 : allD KD (txD ([32] ++ spl o ++ [32])) := kd_tx (nl_app (nl_app s2 (sp (by simp))) s2)
  show allD KD (bif o == 99 then ctD [kd0 l 0, txD [32], kd0 l 1] else bif (o == 45 || o == 44) then grD (nsD (ctD [kd0 l 0, txD ([32] ++ spl o), lnD, kd0 l 1])) else ctD [kd0 l 0, txD ([32] ++ spl o ++ [32]), kd0 l 1])
  exact kd_bif (kd_ct (kds_cons (g 0) (kds_cons (kd_tx s2) (kds_cons (g 1) n)))) (kd_bif (kd_gr (kd_ns (kd_ct (kds_cons (g 0) (kds_cons c1 (kds_cons kd_ln (kds_cons (g 1) n))))))) (kd_ct (kds_cons (g 0) (kds_cons c2 (kds_cons (g 1) n)))))
 ·have c1 : allD KD (txD ([41, 32, 105, 110, 32] ++ x)) := kd_tx (nl_app (by decide) hx)
  have c2 : allD KD (txD ([32, 105, 110, 32] ++ x)) := kd_tx (nl_app (by decide) hx)
  show allD KD (bif decide (l.length > 1) then ctD [txD [40], listD l, txD ([41, 32, 105, 110, 32] ++ x)] else ctD [kd0 l 0, txD ([32, 105, 110, 32] ++ x)])
  exact kd_bif (kd_ct (kds_cons (kd_tx (by decide)) (kds_cons hl (kds_cons c1 n)))) (kd_ct (kds_cons (g 0) (kds_cons c2 n)))
 ·exact kd_ct (kds_cons (g 0) (kds_cons (kd_tx (by decide)) (kds_cons (g 1) (kds_cons (kd_tx (by decide)) (kds_cons (g 2) n)))))
 ·have c2 : allD KD (txD ([32] ++ spl o ++ [32])) := kd_tx (nl_app (nl_app s2 (sp (by simp))) s2)
  exact kd_ct (kds_cons (g 0) (kds_cons c2 (kds_cons (g 1) n)))
theorem kd_par {b : Bool} {x y : SDoc} (hx : allD KD x) (hy : allD KD y) : allD KD (parD b x y) := kd_bif (kd_ct (kds_cons (kd_tx (by decide)) (kds_cons hy (kds_cons (kd_tx (by decide)) kds_nil)))) hx
mutual
theorem kd_doc : ∀ (t : STree) (p : SPos), allT GN t → allT NX t → allD KD (dcB t p)
 | ⟨k, o, x, y, ks⟩, p, hg, h => by
  rw [allT] at h hg
  rw [dcB]
  exact kd_asm k o x _ _ hg.1.e h.1.1 h.1.2 (kd_docs k o ks.length p ks 0 hg.2 h.2)
theorem kd_docs (k o : Int) (n : Nat) (p : SPos) : ∀ (ts : List STree) (j : Nat), allTs GN ts → allTs NX ts → allDs KD (dcKs k o n j p ts)
 | [], j, _, _ => by rw [dcKs]; exact kds_nil
 | t :: ts, j, hg, h => by
  rw [allTs] at h hg
  rw [dcKs]
  exact kds_cons (kd_bif (kd_doc t _ hg.1 h.1) (kd_par (kd_doc t _ hg.1 h.1) (kd_doc t _ hg.1 h.1))) (kd_docs k o n p ts (j + 1) hg.2 h.2)
end
theorem kd_docE (t : STree) (p : SPos) (hg : allT GN t) (h : allT NX t) : allD KD (dcE t p) := kd_par (kd_doc t _ hg h) (kd_doc t _ hg h)

def parK (k : Int) : Nat := if k = 1 ∨ k = 2 ∨ k = 3 ∨ k = 5 ∨ k = 7 ∨ k = 8 then 0 else 3
theorem fit_prim {k o : Int} {p : SPos} (hp : posB p = true) (h : parK k = 0) : fitB k o p = true := by
 have hk : k = 1 ∨ k = 2 ∨ k = 3 ∨ k = 5 ∨ k = 7 ∨ k = 8 := by
  unfold parK at h
  by_cases hk : k = 1 ∨ k = 2 ∨ k = 3 ∨ k = 5 ∨ k = 7 ∨ k = 8
  ·exact hk
  ·rw [if_neg hk] at h; cases h
 have hl : p.Level ≤ 15 := by
  unfold posB at hp
  simp only [Bool.and_eq_true, decide_eq_true_eq] at hp
  exact hp.1.2
 have hd : decide ((15 : Int) ≥ p.Level) = true := by simpa using hl
 rcases hk with e | e | e | e | e | e <;> subst e <;> unfold fitB lv <;> rw [hp] <;> simp [hl]
theorem dzs_comma1 : ∀ l : List SDoc, dzs (commaD true l) = dzs l + 2 * l.length
 | [] => by rw [commaD]; simp [dzs]
 | x :: xs => by
  have := dzs_comma1 xs
  rw [commaD, dzs_app, dzs, dzs, this]
  simp only [cond_true, dzs, dz_tx, dz_ln, List.length_cons]; omega
theorem dz_list1 (l : List SDoc) (h : l ≠ []) : dz (listD l) = dzs l + 2 * l.length + 1 := by
 cases l with
 | nil => exact absurd rfl h
 | cons x xs =>
  have := dzs_comma1 xs
  unfold listD
  rw [dz_gr, dz_ns, dz_ct, commaD, dzs_app, dzs, this, dzs]
  simp only [cond_false, dzs, List.length_cons]; omega
theorem asmD_sz2 {t : STree} (g : GN t) (x : List UInt8) (ts : List (List SToken)) (l : List SDoc) (hl : l.length = t.kids.length) : dz (asmD t.kind t.op x ts l) + parK t.kind ≤ dzs l + 2 * l.length + 8 := by
 have hlist := dz_list l
 obtain ⟨k, o, tx, ty, ks⟩ := t
 simp only at hl ⊢
 have e1 : ∀ {a : SDoc}, dzs [a] = dz a := fun {a} => by rw [dzs, dzs]; omega
 have e2 : ∀ {a b : SDoc}, dzs [a, b] = dz a + dz b := fun {a b} => by rw [dzs, dzs, dzs]; omega
 have one : ks.length = 1 → ∃ a, l = [a] := fun h => List.length_eq_one_iff.1 (by omega)
 unfold asmD
 rcases kinds g.e with e | e | e | e | e | e | e | e | e | e | e | e | e | e | e <;> simp only at e <;> subst e
 ·show dz (txD x) + 0 ≤ _; rw [dz_tx]; omega
 ·show dz (txD x) + 0 ≤ _; rw [dz_tx]; omega
 ·show dz (txD x) + 0 ≤ _; rw [dz_tx]; omega
 ·show dz (txD x) + 3 ≤ _; rw [dz_tx]; omega
 ·show dz (ctD [txD (x ++ [91]), listD l, txD [93]]) + 0 ≤ _; simp only [dz_ct, dzs, dz_tx]; omega
 ·obtain ⟨a, rfl⟩ := one (g.a1 (by simp))
  show dz (ctD [txD [36], a]) + 3 ≤ _; simp only [dz_ct, dzs, dz_tx, List.length_cons]; omega
 ·show dz (ctD [txD (x ++ [40]), listD l, txD [41]]) + 0 ≤ _; simp only [dz_ct, dzs, dz_tx]; omega
 ·show dz (ctD [txD (x ++ [40]), listD l, txD [41]]) + 0 ≤ _; simp only [dz_ct, dzs, dz_tx]; omega
 ·obtain ⟨a, rfl⟩ := one (g.a1 (by simp))
  show dz (ctD [txD (spl o), a]) + 3 ≤ _; simp only [dz_ct, dzs, dz_tx, List.length_cons]; omega
 ·obtain ⟨a, rfl⟩ := one (g.a1 (by simp))
  show dz (ctD [a, txD (spl o)]) + 3 ≤ _; simp only [dz_ct, dzs, dz_tx, List.length_cons]; omega
 ·obtain ⟨a, rfl⟩ := one (g.a1 (by simp))
  show dz (ctD [txD (spl o ++ (bif gapB (sg o) (kt0 ts) then [32] else [])), a]) + 3 ≤ _; simp only [dz_ct, dzs, dz_tx, List.length_cons]; omega
 ·have h2 : l.length = 2 := by rw [hl]; exact g.a2 (by simp)
  match l, h2 with
  | [a, b], _ =>
   show dz (bif o == 99 then ctD [a, txD [32], b] else bif (o == 45 || o == 44) then grD (nsD (ctD [a, txD ([32] ++ spl o), lnD, b])) else ctD [a, txD ([32] ++ spl o ++ [32]), b]) + 3 ≤ _
   cases o == 99 <;> cases (o == 45 || o == 44) <;> simp only [cond_true, cond_false, dz_gr, dz_ns, dz_ct, dzs, dz_tx, dz_ln, List.length_cons] <;> omega
 ·have h1 : 1 ≤ l.length := by rw [hl]; exact g.ai (by simp)
  have hne : l ≠ [] := by intro h; subst h; cases h1
  have hl1 := dz_list1 l hne
  show dz (bif decide (l.length > 1) then ctD [txD [40], listD l, txD ([41, 32, 105, 110, 32] ++ x)] else ctD [kd0 l 0, txD ([32, 105, 110, 32] ++ x)]) + 3 ≤ _
  cases hd : decide (l.length > 1) with
  | true => simp only [cond_true, dz_ct, dzs, dz_tx]; omega
  | false =>
   have : ¬ l.length > 1 := by simpa using hd
   obtain ⟨a, rfl⟩ := List.length_eq_one_iff.1 (by omega : l.length = 1)
   show dz (ctD [a, txD ([32, 105, 110, 32] ++ x)]) + 3 ≤ _
   simp only [dz_ct, dzs, dz_tx, List.length_cons]; omega
 ·have h3 : l.length = 3 := by rw [hl]; exact g.a3 rfl
  match l, h3 with
  | [a, b, c], _ =>
   show dz (ctD [a, txD [32, 63, 32], b, txD [32, 58, 32], c]) + 3 ≤ _
   simp only [dz_ct, dzs, dz_tx, List.length_cons]; omega
 ·have h2 : l.length = 2 := by rw [hl]; exact g.a2 (by simp)
  match l, h2 with
  | [a, b], _ =>
   show dz (ctD [a, txD ([32] ++ spl o ++ [32]), b]) + 3 ≤ _
   simp only [dz_ct, dzs, dz_tx, List.length_cons]; omega

theorem parD_sz {t : STree} {p : SPos} (hp : posB p = true) {x y : SDoc} {n : Nat} (hx : dz x + parK t.kind ≤ n) (hy : dz y + parK t.kind ≤ n) : dz (parD (!fitB t.kind t.op p) x y) ≤ n := by
 unfold parD
 cases hf : fitB t.kind t.op p with
 | true => simp only [Bool.not_true, cond_false]; omega
 | false =>
  have h3 : parK t.kind = 3 := by
   by_cases h0 : parK t.kind = 0
   ·rw [fit_prim hp h0] at hf; cases hf
   ·unfold parK at h0 ⊢
    split
    ·rename_i h; rw [if_pos h] at h0; exact absurd rfl h0
    ·rfl
  simp only [Bool.not_false, cond_true, dz_ct, dzs, dz_tx]; omega
theorem dcB_sz2 : ∀ (t : STree), allT GN t → ∀ p, dz (dcB t p) + parK t.kind + 2 ≤ 10 * szT t := by
 intro t
 induction t using STree.ind with
 | h t ih =>
  intro h p
  have g := allT_hd h
  have hk := allT_kids h
  have key : ∀ (ts : List STree) (j : Nat), (∀ k, k ∈ ts → k ∈ t.kids) → dzs (dcKs t.kind t.op t.kids.length j p ts) + 2 * ts.length ≤ 10 * szTs ts := by
   intro ts
   induction ts with
   | nil => intro j _; rw [dcKs, dzs]; simp
   | cons u ts ih2 =>
    intro j hm
    have hu := hm u (by simp)
    have h1 := ih2 (j + 1) (fun k hk => hm k (by simp [hk]))
    have ha := fun q => ih u hu (hk u hu) q
    have hpk := kid_pos (k := t.kind) (o := t.op) (n := t.kids.length) (j := j) (p := p) g.e
    have hkd : dz (kidDc t.kind t.op t.kids.length j p u) + 2 ≤ 10 * szT u := by
     unfold kidDc
     cases tgt t.kind j with
     | true => have := ha (kidP t.kind t.op t.kids.length j p); simp only [cond_true]; omega
     | false =>
      simp only [cond_false]
      have := parD_sz (t := u) hpk (x := dcB u (kidP t.kind t.op t.kids.length j p)) (y := dcB u topP) (n := 10 * szT u - 2) (by have := ha (kidP t.kind t.op t.kids.length j p); omega) (by have := ha topP; omega)
      have hp1 := ha topP
      unfold dcE
      omega
    rw [dcKs_cons, dzs, szTs, List.length_cons]
    omega
  have h1 := key t.kids 0 (fun k hk => hk)
  have h2 := asmD_sz2 g t.text (tokKs false t.kind t.op t.kids.length 0 p t.kids) (dcKs t.kind t.op t.kids.length 0 p t.kids) (dcKs_len _ _ _ _ _ _)
  have h3 := dcKs_len t.kind t.op t.kids.length p t.kids 0
  have h4 := szT_eq t
  rw [dcB_eq]
  omega
theorem dcE_sz2 (t : STree) (h : allT GN t) (p : SPos) (hp : posB p = true) : dz (dcE t p) + 2 ≤ 10 * szT t := by
 have ha := dcB_sz2 t h
 have := parD_sz (t := t) hp (x := dcB t p) (y := dcB t topP) (n := 10 * szT t - 2) (by have := ha p; omega) (by have := ha topP; omega)
 have := ha topP
 unfold dcE
 omega

end Go.Proofs.Tryz
