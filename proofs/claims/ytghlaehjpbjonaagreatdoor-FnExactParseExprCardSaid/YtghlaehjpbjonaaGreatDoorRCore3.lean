/-
 Abstract values, states, walks, part 3.
-/
import Derived.Test.YtghlaehjpbjonaaGreatDoorRCore2
import Derived.Laws.MakeOwn
import Derived.Laws.IdiomStrings
set_option linter.unusedSimpArgs false
set_option linter.unusedVariables false

namespace Go.Av

section
variable {P : Program} {G : Nat → Option (List V)}

structure Inv (ops : Array Oper) (Es : List (Bool × Eff)) (T0 : List V) (H0 : Hp) (L : Nat → Prop) (T : List V) (H : Hp) : Prop where
 len : T.length = T0.length
 set : ∀ s j o E, L j → ops[j]? = some o → o.dst = some s → Es[j]? = some E → T[s]? = (T0[s]?).map fun _ => E.2.v
 old : ∀ s, (∀ j o, L j → ops[j]? = some o → o.dst ≠ some s) → T[s]? = T0[s]?
 top : ∀ x j E, L j → Es[j]? = some E → E.2.touch x = true → (∀ j' E', L j' → Es[j']? = some E' → E'.2.touch x = true → j' ≤ j) → look H x = look E.2.new x
 bot : ∀ x, (∀ j E, L j → Es[j]? = some E → E.2.touch x = false) → look H x = look H0 x
 has : ∀ x, hasH x H = true → hasH x H0 = true ∨ ∃ j E, L j ∧ Es[j]? = some E ∧ hasH x E.2.new = true
 hasT : ∀ x, V.hasL x T = true → V.hasL x T0 = true ∨ ∃ j E, L j ∧ Es[j]? = some E ∧ E.2.v.has x = true

theorem Inv.start (ops : Array Oper) (Es : List (Bool × Eff)) (T0 : List V) (H0 : Hp) {L : Nat → Prop} (hL : ∀ j, ¬ L j) : Inv ops Es T0 H0 L T0 H0 :=
 ⟨rfl, fun _ j _ _ h => (hL j h).elim, fun _ _ => rfl, fun _ j _ h => (hL j h).elim, fun _ _ => rfl, fun _ h => .inl h, fun _ h => .inl h⟩

theorem setO_get {T : List V} {d : Option Tmp} {v : V} {s : Nat} : (setO T d v)[s]? = if d = some s then (T[s]?).map fun _ => v else T[s]? := by
 cases d with
 | none => simp [setO]
 | some t =>
  simp only [setO, List.getElem?_set, Option.some.injEq]
  by_cases h : t = s
  ·subst h
   simp only [if_true]
   split
   ·rw [List.getElem?_eq_getElem ‹_›]; rfl
   ·rw [List.getElem?_eq_none (by omega)]; rfl
  ·simp [h]

theorem setO_len (T : List V) (d : Option Tmp) (v : V) : (setO T d v).length = T.length := by cases d <;> simp [setO]

structure Fair (ops : Array Oper) (Es : List (Bool × Eff)) (T0 : List V) (H0 : Hp) : Prop where
 len : Es.length = ops.size
 back : ∀ (j : Nat) o (e : Edge), ops[j]? = some o → e ∈ o.after → Region.binds .any e = true → e.on < j
 fresh : ∀ (j : Nat) (E : Bool × Eff) k, Es[j]? = some E → k ∈ E.2.N → 100 ≤ k ∧ V.hasL k T0 = false ∧ hasH k H0 = false
 pair : ∀ i j, i < j → j < ops.size → pairOk ops (cloL ops.toList []) Es i j = true

theorem okAny_fair {ops : Array Oper} {T0 : List V} {H0 : Hp} {Es : List (Bool × Eff)} (hl : Es.length = ops.size) (h : okAny ops T0 H0 Es = true) : Fair ops Es T0 H0 := by
 unfold okAny at h
 simp only [List.all_eq_true, List.mem_range, Bool.and_eq_true] at h
 refine ⟨hl, fun j o e ho he hb => ?_, fun j E k hE hk => ?_, fun i j hij hj => (h j hj).2 i hij⟩
 ·have hj : j < ops.size := (Array.getElem?_eq_some_iff.1 ho).1
  have h1 := (h j hj).1.1
  rw [ho] at h1
  simp only [Array.all_eq_true_iff_forall_mem, Bool.or_eq_true, Bool.not_eq_true'] at h1
  rcases h1 e he with h1 | h1
  ·rw [hb] at h1; cases h1
  ·rw [Nat.blt_eq] at h1; exact h1
 ·have hj : j < ops.size := by rw [← hl]; exact (List.getElem?_eq_some_iff.1 hE).1
  have h1 := (h j hj).1.2
  rw [hE] at h1
  simp only [List.all_eq_true, Bool.and_eq_true, Bool.not_eq_true', Nat.ble_eq] at h1
  have := h1 k hk
  exact ⟨this.1.1, this.1.2, this.2⟩

theorem Fair.two {ops : Array Oper} {Es : List (Bool × Eff)} {T0 : List V} {H0 : Hp} (h : Fair ops Es T0 H0) {i j : Nat} (hij : i < j) {x y : Oper} {E F : Bool × Eff} (hx : ops[i]? = some x) (hy : ops[j]? = some y) (hE : Es[i]? = some E) (hF : Es[j]? = some F) :
  (∀ d, x.dst = some d → y.dst ≠ some d) ∧ (∀ k, k ∈ F.2.N → E.2.v.has k = false ∧ hasH k E.2.new = false) ∧
  (((cloL ops.toList []).getD j 0).testBit i = true ∨ ((∀ d, x.dst = some d → d ∉ y.looksAt ops) ∧ (∀ d, y.dst = some d → d ∉ x.looksAt ops) ∧
   (∀ k, k ∈ F.2.R ∨ F.2.touch k = true → E.2.touch k = false) ∧ (∀ k, k ∈ E.2.R ∨ E.2.touch k = true → F.2.touch k = false) ∧ (∀ k, k ∈ E.2.N → F.2.v.has k = false ∧ hasH k F.2.new = false))) := by
 have hp := h.pair i j hij (Array.getElem?_eq_some_iff.1 hy).1
 unfold pairOk at hp
 obtain ⟨b, E⟩ := E
 obtain ⟨c, F⟩ := F
 simp only [hx, hy, hE, hF, Bool.and_eq_true, Bool.or_eq_true, List.all_eq_true, Bool.not_eq_true'] at hp
 refine ⟨fun d hd hd' => ?_, fun k hk => hp.1.2 k hk, hp.2.imp id fun ha => ?_⟩
 ·have := hp.1.1
  rw [hd, hd'] at this
  simp at this
 ·unfold apartE at ha
  simp only [Bool.and_eq_true, List.all_eq_true, Bool.not_eq_true'] at ha
  obtain ⟨⟨⟨⟨⟨⟨⟨⟨a1, a2⟩, a3⟩, a4⟩, a5⟩, a6⟩, a7⟩, a8⟩, a9⟩ := ha
  have tc : ∀ (A B : Eff), (∀ i, i ∈ A.C → B.touch i = false) → (∀ p, p ∈ A.new → B.touch p.1 = false) → ∀ k, A.touch k = true → B.touch k = false := by
   intro A B h1 h2 k hk
   unfold Eff.touch at hk
   simp only [Bool.or_eq_true, List.contains_iff_mem] at hk
   rcases hk with hk | hk
   ·exact h1 k hk
   ·obtain ⟨o, ho⟩ := Option.isSome_iff_exists.1 hk
    have hmem : ∀ (A : Hp), look A k = some o → ∃ p, p ∈ A ∧ p.1 = k := by
     intro A
     induction A with
     | nil => intro h; cases h
     | cons q A ih =>
      obtain ⟨j, o'⟩ := q
      intro h
      simp only [look] at h
      split at h
      ·exact ⟨(j, o'), by simp, by simp_all⟩
      ·obtain ⟨p, hp, e⟩ := ih h
       exact ⟨p, by simp [hp], e⟩
    obtain ⟨p, hp, rfl⟩ := hmem A.new ho
    exact h2 p hp
  refine ⟨fun d hd => ?_, fun d hd => ?_, fun k hk => ?_, fun k hk => ?_, fun k hk => a9 k hk⟩
  ·rw [hd] at a1; simpa using a1
  ·rw [hd] at a2; simpa using a2
  ·rcases hk with hk | hk
   ·exact a3 k hk
   ·exact tc F E a6 a8 k hk
  ·rcases hk with hk | hk
   ·exact a4 k hk
   ·exact tc E F a5 a7 k hk

theorem before_mem {ops : Array Oper} {L : Nat → Prop} (hL : Down ops L) {i j : Nat} {o : Oper} (ho : ops[i]? = some o) (hd : ∀ e, e ∈ o.after → Region.binds .any e = true → L e.on)
  (hb : ((cloL ops.toList []).getD i 0).testBit j = true) : L j :=
 cloL_spec hL ops.toList [] (by simp) (by simp) (fun i j o hi => by simp at hi) i j o ho hd hb

theorem Inv.same {ops : Array Oper} {Es : List (Bool × Eff)} {T0 : List V} {H0 : Hp} (hF : Fair ops Es T0 H0) {L M : Nat → Prop} {T T' : List V} {H H' : Hp} (h : Inv ops Es T0 H0 L T H) (k : Inv ops Es T0 H0 M T' H')
  (hL : Down ops L) (hM : Down ops M) {i : Nat} {o : Oper} {E : Bool × Eff} (ho : ops[i]? = some o) (hE : Es[i]? = some E) (hiL : ¬ L i) (hiM : ¬ M i)
  (hdL : ∀ e, e ∈ o.after → Region.binds .any e = true → L e.on) (hdM : ∀ e, e ∈ o.after → Region.binds .any e = true → M e.on) (hLs : ∀ j, L j → j < ops.size) (_hMs : ∀ j, M j → j < ops.size) :
  (∀ d, d ∈ o.looksAt ops → T[d]? = T'[d]?) ∧ (∀ x, x ∈ E.2.R ∨ E.2.touch x = true → look H x = look H' x) ∧
  (∀ x j F, E.2.touch x = true → L j → Es[j]? = some F → F.2.touch x = true → j ≤ i) ∧ (∀ x j F, x ∈ E.2.R ∨ E.2.touch x = true → Es[j]? = some F → F.2.touch x = true → j ≠ i → (L j ↔ M j)) := by
 have hi : i < ops.size := (Array.getElem?_eq_some_iff.1 ho).1
 have getF : ∀ j, j < ops.size → ∃ y F, ops[j]? = some y ∧ Es[j]? = some F := fun j hj =>
  ⟨_, _, Array.getElem?_eq_getElem hj, List.getElem?_eq_getElem (by rw [hF.len]; exact hj)⟩
 -- a writer of a slot that i looks at
 have slotW : ∀ d j y, d ∈ o.looksAt ops → ops[j]? = some y → y.dst = some d → j ≠ i → (L j ↔ M j) := by
  intro d j y hd hy hyd hne
  obtain ⟨_, F, _, hFj⟩ := getF j (Array.getElem?_eq_some_iff.1 hy).1
  rcases Nat.lt_or_gt_of_ne hne with hlt | hgt
  ·rcases (hF.two hlt hy ho hFj hE).2.2 with hb | hb
   ·exact ⟨fun _ => before_mem hM ho hdM hb, fun _ => before_mem hL ho hdL hb⟩
   ·exact absurd hd (hb.1 d hyd)
  ·rcases (hF.two hgt ho hy hE hFj).2.2 with hb | hb
   ·exact ⟨fun h => absurd (before_mem hL hy (fun e he hb' => hL j y e h hy he hb') hb) hiL, fun h => absurd (before_mem hM hy (fun e he hb' => hM j y e h hy he hb') hb) hiM⟩
   ·exact absurd hd (hb.2.1 d hyd)
 have objW : ∀ x j F, x ∈ E.2.R ∨ E.2.touch x = true → Es[j]? = some F → F.2.touch x = true → j ≠ i → ((L j ↔ M j) ∧ (L j → j ≤ i) ∧ (M j → j ≤ i)) := by
  intro x j F hx hFj ht hne
  have hj : j < ops.size := by rw [← hF.len]; exact (List.getElem?_eq_some_iff.1 hFj).1
  obtain ⟨y, _, hy, _⟩ := getF j hj
  rcases Nat.lt_or_gt_of_ne hne with hlt | hgt
  ·refine ⟨?_, fun _ => by omega, fun _ => by omega⟩
   rcases (hF.two hlt hy ho hFj hE).2.2 with hb | hb
   ·exact ⟨fun _ => before_mem hM ho hdM hb, fun _ => before_mem hL ho hdL hb⟩
   ·have := hb.2.2.1 x hx; rw [ht] at this; cases this
  ·rcases (hF.two hgt ho hy hE hFj).2.2 with hb | hb
   ·have n1 : ¬ L j := fun h => hiL (before_mem hL hy (fun e he hb' => hL j y e h hy he hb') hb)
    have n2 : ¬ M j := fun h => hiM (before_mem hM hy (fun e he hb' => hM j y e h hy he hb') hb)
    exact ⟨⟨fun h => absurd h n1, fun h => absurd h n2⟩, fun h => absurd h n1, fun h => absurd h n2⟩
   ·have := hb.2.2.2.1 x hx; rw [ht] at this; cases this
 refine ⟨fun d hd => ?_, fun x hx => ?_, fun x j F hx hj hFj ht => ?_, fun x j F hx hFj ht hne => (objW x j F hx hFj ht hne).1⟩
 ·by_cases hw : ∃ j y, L j ∧ ops[j]? = some y ∧ y.dst = some d
  ·obtain ⟨j, y, hj, hy, hyd⟩ := hw
   obtain ⟨_, F, _, hFj⟩ := getF j (hLs j hj)
   have hne : j ≠ i := fun e => hiL (e ▸ hj)
   rw [h.set d j y F hj hy hyd hFj, k.set d j y F ((slotW d j y hd hy hyd hne).1 hj) hy hyd hFj]
  ·rw [h.old d fun j y hj hy hyd => hw ⟨j, y, hj, hy, hyd⟩]
   rw [k.old d fun j y hj hy hyd => hw ⟨j, y, (slotW d j y hd hy hyd (fun e => hiM (e ▸ hj))).2 hj, hy, hyd⟩]
 ·by_cases hw : ∃ j F, L j ∧ Es[j]? = some F ∧ F.2.touch x = true
  · -- the topmost
   have top : ∃ j F, L j ∧ Es[j]? = some F ∧ F.2.touch x = true ∧ ∀ j' F', L j' → Es[j']? = some F' → F'.2.touch x = true → j' ≤ j := by
    obtain ⟨j, F, hj⟩ := hw
    clear hx
    have : ∀ n j F, ops.size - j ≤ n → L j ∧ Es[j]? = some F ∧ F.2.touch x = true → ∃ j F, L j ∧ Es[j]? = some F ∧ F.2.touch x = true ∧ ∀ j' F', L j' → Es[j']? = some F' → F'.2.touch x = true → j' ≤ j := by
     intro n
     induction n with
     | zero => intro j F hn hj; have := hLs j hj.1; omega
     | succ n ih =>
      intro j F hn hj
      by_cases hm : ∃ j' F', L j' ∧ Es[j']? = some F' ∧ F'.2.touch x = true ∧ j < j'
      ·obtain ⟨j', F', h1, h2, h3, h4⟩ := hm
       exact ih j' F' (by have := hLs j' h1; omega) ⟨h1, h2, h3⟩
      ·refine ⟨j, F, hj.1, hj.2.1, hj.2.2, fun j' F' h1 h2 h3 => ?_⟩
       rcases Nat.lt_or_ge j j' with h4 | h4
       ·exact absurd ⟨j', F', h1, h2, h3, h4⟩ hm
       ·exact h4
    exact this _ j F (Nat.le_refl _) hj
   obtain ⟨j, F, hj, hFj, ht, hmax⟩ := top
   have hne : j ≠ i := fun e => hiL (e ▸ hj)
   rw [h.top x j F hj hFj ht hmax, k.top x j F ((objW x j F hx hFj ht hne).1.1 hj) hFj ht fun j' F' hj' hFj' ht' => ?_]
   have hne' : j' ≠ i := fun e => hiM (e ▸ hj')
   exact hmax j' F' ((objW x j' F' hx hFj' ht' hne').1.2 hj') hFj' ht'
  ·rw [h.bot x fun j F hj hFj => ?_, k.bot x fun j F hj hFj => ?_]
   ·cases ht : F.2.touch x with
    | false => rfl
    | true => exact absurd ⟨j, F, (objW x j F hx hFj ht (fun e => hiM (e ▸ hj))).1.2 hj, hFj, ht⟩ hw
   ·cases ht : F.2.touch x with
    | false => rfl
    | true => exact absurd ⟨j, F, hj, hFj, ht⟩ hw
 ·by_cases hne : j = i
  ·omega
  ·exact (objW x j F (.inr hx) hFj ht hne).2.1 hj

theorem Inv.step {ops : Array Oper} {Es : List (Bool × Eff)} {T0 : List V} {H0 : Hp} (hF : Fair ops Es T0 H0) {L : Nat → Prop} {T : List V} {H H' : Hp} (h : Inv ops Es T0 H0 L T H) {i : Nat} {o : Oper} {E : Bool × Eff} (ho : ops[i]? = some o) (hE : Es[i]? = some E)
  (hi : ¬ L i) (hle : ∀ x j F, E.2.touch x = true → L j → Es[j]? = some F → F.2.touch x = true → j ≤ i) (hH : ∀ x, look H' x = look (E.2.new ++ hrem E.2.C H) x) (hH2 : ∀ x, hasH x H' = true → hasH x E.2.new = true ∨ hasH x H = true) {L' : Nat → Prop} (hL' : ∀ j, L' j ↔ j = i ∨ L j) :
  Inv ops Es T0 H0 L' (setO T o.dst E.2.v) H' := by
 have dist : ∀ j y d, ops[j]? = some y → y.dst = some d → o.dst = some d → j = i := by
  intro j y d hy hyd hod
  obtain ⟨F, hFj⟩ : ∃ F, Es[j]? = some F := ⟨_, List.getElem?_eq_getElem (by rw [hF.len]; exact (Array.getElem?_eq_some_iff.1 hy).1)⟩
  rcases Nat.lt_trichotomy j i with hlt | he | hgt
  ·exact absurd hod ((hF.two hlt hy ho hFj hE).1 d hyd)
  ·exact he
  ·exact absurd hyd ((hF.two hgt ho hy hE hFj).1 d hod)
 refine ⟨by rw [setO_len, h.len], fun s j y F hj hy hyd hFj => ?_, fun s hs => ?_, fun x j F hj hFj ht hmax => ?_, fun x hx => ?_, fun x hx => ?_, fun x hx => ?_⟩
 ·rw [setO_get]
  split
  ·rename_i hod
   have := dist j y s hy hyd hod
   subst this
   rw [hE] at hFj; cases hFj
   have hlen := h.len
   by_cases hs : s < T.length
   ·have hs0 : s < T0.length := Nat.lt_of_lt_of_eq hs hlen
    rw [List.getElem?_eq_getElem hs, List.getElem?_eq_getElem hs0]; rfl
   ·have h1 : T.length ≤ s := Nat.le_of_not_lt hs
    have h0 : T0.length ≤ s := Nat.le_trans (Nat.le_of_eq hlen.symm) h1
    rw [List.getElem?_eq_none h1, List.getElem?_eq_none h0]; first | done | rfl
  ·rename_i hod
   rcases (hL' j).1 hj with rfl | hj
   ·rw [ho] at hy; cases hy; exact absurd hyd hod
   ·exact h.set s j y F hj hy hyd hFj
 ·rw [setO_get, if_neg (hs i o ((hL' i).2 (.inl rfl)) ho)]
  exact h.old s fun j y hj hy => hs j y ((hL' j).2 (.inr hj)) hy
 ·rw [hH, look_eff]
  rcases (hL' j).1 hj with rfl | hj'
  ·rw [hE] at hFj; cases hFj
   rw [if_pos ht]
  ·split
   ·rename_i hti
    have h1 := hle x j F hti hj' hFj ht
    have h2 := hmax i E ((hL' i).2 (.inl rfl)) hE hti
    have : j = i := by omega
    exact absurd (this ▸ hj') hi
   ·exact h.top x j F hj' hFj ht fun j' F' h1 h2 h3 => hmax j' F' ((hL' j').2 (.inr h1)) h2 h3
 ·rw [hH, look_eff, if_neg (by rw [hx i E ((hL' i).2 (.inl rfl)) hE]; simp)]
  exact h.bot x fun j F hj hFj => hx j F ((hL' j).2 (.inr hj)) hFj
 ·rcases hH2 x hx with h1 | h1
  ·exact .inr ⟨i, E, (hL' i).2 (.inl rfl), hE, h1⟩
  ·exact (h.has x h1).imp id fun ⟨j, F, h1, h2, h3⟩ => ⟨j, F, (hL' j).2 (.inr h1), h2, h3⟩
 ·have : V.hasL x T = true ∨ E.2.v.has x = true := by
   cases hd : o.dst with
   | none => rw [hd] at hx; exact .inl hx
   | some d => rw [hd] at hx; exact hasL_set hx
  rcases this with h1 | h1
  ·exact (h.hasT x h1).imp id fun ⟨j, F, h1, h2, h3⟩ => ⟨j, F, (hL' j).2 (.inr h1), h2, h3⟩
  ·exact .inr ⟨i, E, (hL' i).2 (.inl rfl), hE, h1⟩

end
end Go.Av

namespace Go.Av

section
variable {P : Program} {G : Nat → Option (List V)} {L : Option Nat} {B : Nat}

theorem HRel.congr {ρ : Nat → Option Value} {S : Nat → Prop} {F : Nat → List Nat} {H H' : Hp} {w : World} (h : HRel ρ S F H w) (e : ∀ x, look H' x = look H x) : HRel ρ S F H' w :=
 ⟨fun i hi => h.dom i (e i ▸ hi), fun i o hi => h.obj i o (e i ▸ hi), fun i o hi => h.nodup i o (e i ▸ hi), fun i j o p b hi hj => h.disj i j o p b (e i ▸ hi) (e j ▸ hj), fun i o b hi => h.sep i o b (e i ▸ hi), fun i o b hi => h.lt i o b (e i ▸ hi), h.slt⟩

theorem Ub.congr {F : Nat → List Nat} {H H' : Hp} (e : ∀ x, look H' x = look H x) {b : Nat} (h : Ub H' F b) : Ub H F b := by
 obtain ⟨i, o, hi, hb⟩ := h
 exact ⟨i, o, e i ▸ hi, hb⟩

theorem Post.congr {ρ : Nat → Option Value} {S : Nat → Prop} {F : Nat → List Nat} {H : Hp} {w : World} {v : V} {H1 H2 : Hp} {N : List Nat} {x : Value} {w' : World} (h : Post ρ S F H w v H1 N x w') (e : ∀ x, look H2 x = look H1 x) : Post ρ S F H w v H2 N x w' := by
 obtain ⟨ρ', S', F', hv, hH, hE, hA⟩ := h
 exact ⟨ρ', S', F', hv, hH.congr e, ⟨hE.os, hE.tape, hE.output, hE.size, hE.keep, hE.sub, hE.newS, fun b hb => hE.newU b (Ub.congr e hb)⟩, hA⟩

theorem OpOk.congr {o : Oper} {e : Operand → V} {H : Hp} {v : V} {H1 H2 : Hp} {N : List Nat} (h : OpOk P G o e H v H1 N) (he : ∀ x, look H2 x = look H1 x) : OpOk P G o e H v H2 N :=
 fun ρ S F η w hη hH hG => (h ρ S F η w hη hH hG).mono fun _ _ hp => hp.congr he

structure Fact (P : Program) (G : Nat → Option (List V)) (ops : Array Oper) (Es : List (Bool × Eff)) (T0 : List V) (H0 : Hp) (k : Nat) (o : Oper) (E : Bool × Eff) (Tk : List V) (Hk : Hp) : Prop where
 op : ops[k]? = some o
 eff : Es[k]? = some E
 inv : Inv ops Es T0 H0 (· < k) Tk Hk
 want : wantV ops Tk o.guard = some E.1
 ok : E.1 = true → OpOkL P G o (ev G Tk) E.2 Hk
 no : E.1 = false → E.2 = Eff.und

theorem Chain.length {ops : Array Oper} {i : Nat} {T : List V} {H : Hp} {tail : List (Bool × Eff)} {T' : List V} {H' : Hp} (h : Chain P G ops i T H tail T' H') (hi : i ≤ ops.size) : tail.length = ops.size - i := by
 induction h with
 | nil i T H h => simp; omega
 | op ho _ _ _ ih =>
  have := (Array.getElem?_eq_some_iff.1 ho).1
  have := ih (by omega)
  simp only [List.length_cons]; omega
 | skip ho _ _ ih =>
  have := (Array.getElem?_eq_some_iff.1 ho).1
  have := ih (by omega)
  simp only [List.length_cons]; omega

theorem Chain.facts {ops : Array Oper} {Es : List (Bool × Eff)} {T0 : List V} {H0 : Hp} (hF : Fair ops Es T0 H0) {i : Nat} {T : List V} {H : Hp} {tail : List (Bool × Eff)} {T' : List V} {H' : Hp} (h : Chain P G ops i T H tail T' H') :
  Es.drop i = tail → i ≤ ops.size → Inv ops Es T0 H0 (· < i) T H → (∀ k, i ≤ k → k < ops.size → ∃ o E Tk Hk, Fact P G ops Es T0 H0 k o E Tk Hk) ∧ Inv ops Es T0 H0 (· < ops.size) T' H' := by
 induction h with
 | nil i T H h =>
  intro _ hi hinv
  have : i = ops.size := by omega
  subst this
  exact ⟨fun k h1 h2 => by omega, hinv⟩
 | @op i T H o E tl T' H' ho hw hop rest ih =>
  intro hd hi hinv
  have hlt := (Array.getElem?_eq_some_iff.1 ho).1
  have hE : Es[i]? = some (true, E) := by
   have : (Es.drop i)[0]? = some (true, E) := by rw [hd]; rfl
   simpa using this
  have hinv' := Inv.step hF hinv ho hE (Nat.lt_irrefl i) (fun x j F _ hj _ _ => Nat.le_of_lt hj) (H' := E.new ++ hrem E.C H) (fun _ => rfl) (fun x hx => by
   rw [hasH_app, Bool.or_eq_true] at hx
   exact hx.imp id hasH_hrem) (L' := (· < i + 1)) (fun j => by omega)
  have htl : Es.drop (i + 1) = tl := by rw [← List.drop_drop, hd]; rfl
  obtain ⟨h1, h2⟩ := ih htl hlt hinv'
  refine ⟨fun k hk1 hk2 => ?_, h2⟩
  by_cases he : k = i
  ·subst he
   exact ⟨o, _, T, H, ⟨ho, hE, hinv, hw, fun _ => hop, fun h => (by cases h)⟩⟩
  ·exact h1 k (by omega) hk2
 | @skip i T H o tl T' H' ho hw rest ih =>
  intro hd hi hinv
  have hlt := (Array.getElem?_eq_some_iff.1 ho).1
  have hE : Es[i]? = some (false, Eff.und) := by
   have : (Es.drop i)[0]? = some (false, Eff.und) := by rw [hd]; rfl
   simpa using this
  have hinv' := Inv.step hF hinv ho hE (Nat.lt_irrefl i) (fun x j F _ hj _ _ => Nat.le_of_lt hj) (H' := H) (fun x => by rw [look_eff]; simp [Eff.touch, look]) (fun x hx => .inr hx) (L' := (· < i + 1)) (fun j => by omega)
  have htl : Es.drop (i + 1) = tl := by rw [← List.drop_drop, hd]; rfl
  obtain ⟨h1, h2⟩ := ih htl hlt hinv'
  refine ⟨fun k hk1 hk2 => ?_, h2⟩
  by_cases he : k = i
  ·subst he
   exact ⟨o, _, T, H, ⟨ho, hE, hinv, hw, fun h => (by cases h), fun _ => rfl⟩⟩
  ·exact h1 k (by omega) hk2

theorem gval_congr {ops : Array Oper} {T T' : List V} {j : Nat} (h : ∀ d, ((ops[j]?).bind (·.dst)) = some d → T[d]? = T'[d]?) : gval ops T j = gval ops T' j := by
 unfold gval
 cases hd : (ops[j]?).bind (·.dst) with
 | none => rfl
 | some d => simp only [h d hd]

theorem wantV_congr {ops : Array Oper} {o : Oper} {T T' : List V} (h : ∀ d, d ∈ o.looksAt ops → T[d]? = T'[d]?) : wantV ops T o.guard = wantV ops T' o.guard := by
 cases hg : o.guard with
 | none => rfl
 | some jb =>
  obtain ⟨j, b⟩ := jb
  simp only [wantV]
  rw [gval_congr fun d hd => h d (by unfold Oper.looksAt; rw [hg]; simp [hd])]

theorem ev_congr {ops : Array Oper} {o : Oper} {T T' : List V} (h : ∀ d, d ∈ o.looksAt ops → T[d]? = T'[d]?) : ∀ x, x ∈ o.op.operands → ev G T x = ev G T' x := by
 intro x hx
 cases x with
 | tmp t =>
  have := h t (by
   unfold Oper.looksAt
   refine List.mem_append.2 (.inl (List.mem_filterMap.2 ⟨.tmp t, by simpa using hx, rfl⟩)))
  simp only [ev, List.getD_eq_getElem?_getD, this]
 | _ => rfl

theorem wanted_of_wantV {ops : Array Oper} {o : Oper} {ρ : Nat → Option Value} {S : Nat → Prop} {F : Nat → List Nat} {st : St} {a : Act} {w : World} (hst : StRel B G ρ S F st a w) {b : Bool} (h : wantV ops st.T o.guard = some b) : Region.wanted o (yielded ops a.tmps) = b := by
 unfold wantV at h
 unfold Region.wanted
 cases hg : o.guard with
 | none => rw [hg] at h; cases h; rfl
 | some jb =>
  obtain ⟨j, b'⟩ := jb
  rw [hg] at h
  simp only [Option.map_eq_some_iff] at h
  obtain ⟨c, hc, hcb⟩ := h
  simp only [yielded_gval hst hc]
  subst hcb
  cases c <;> cases b' <;> rfl

theorem Inv.full {ops : Array Oper} {Es : List (Bool × Eff)} {T0 : List V} {H0 : Hp} (hl : Es.length = ops.size) {L M : Nat → Prop} {T T' : List V} {H H' : Hp} (h : Inv ops Es T0 H0 L T H) (k : Inv ops Es T0 H0 M T' H') (he : ∀ j, L j ↔ M j) (hs : ∀ j, L j → j < ops.size) : T = T' ∧ ∀ x, look H x = look H' x := by
 refine ⟨?_, fun x => ?_⟩
 ·apply List.ext_getElem?
  intro s
  by_cases hw : ∃ j y, L j ∧ ops[j]? = some y ∧ y.dst = some s
  ·obtain ⟨j, y, hj, hy, hyd⟩ := hw
   obtain ⟨F, hFj⟩ : ∃ F, Es[j]? = some F := ⟨_, List.getElem?_eq_getElem (by rw [hl]; exact hs j hj)⟩
   rw [h.set s j y F hj hy hyd hFj, k.set s j y F ((he j).1 hj) hy hyd hFj]
  ·rw [h.old s fun j y hj hy hyd => hw ⟨j, y, hj, hy, hyd⟩, k.old s fun j y hj hy hyd => hw ⟨j, y, (he j).2 hj, hy, hyd⟩]
 ·by_cases hw : ∃ j F, L j ∧ Es[j]? = some F ∧ F.2.touch x = true
  ·have top : ∃ j F, L j ∧ Es[j]? = some F ∧ F.2.touch x = true ∧ ∀ j' F', L j' → Es[j']? = some F' → F'.2.touch x = true → j' ≤ j := by
    obtain ⟨j, F, hj⟩ := hw
    have : ∀ n j F, ops.size - j ≤ n → L j ∧ Es[j]? = some F ∧ F.2.touch x = true → ∃ j F, L j ∧ Es[j]? = some F ∧ F.2.touch x = true ∧ ∀ j' F', L j' → Es[j']? = some F' → F'.2.touch x = true → j' ≤ j := by
     intro n
     induction n with
     | zero => intro j F hn hj; have := hs j hj.1; omega
     | succ n ih =>
      intro j F hn hj
      by_cases hm : ∃ j' F', L j' ∧ Es[j']? = some F' ∧ F'.2.touch x = true ∧ j < j'
      ·obtain ⟨j', F', h1, h2, h3, h4⟩ := hm
       exact ih j' F' (by have := hs j' h1; omega) ⟨h1, h2, h3⟩
      ·refine ⟨j, F, hj.1, hj.2.1, hj.2.2, fun j' F' h1 h2 h3 => ?_⟩
       rcases Nat.lt_or_ge j j' with h4 | h4
       ·exact absurd ⟨j', F', h1, h2, h3, h4⟩ hm
       ·exact h4
    exact this _ j F (Nat.le_refl _) hj
   obtain ⟨j, F, hj, hFj, ht, hmax⟩ := top
   rw [h.top x j F hj hFj ht hmax, k.top x j F ((he j).1 hj) hFj ht fun j' F' hj' => hmax j' F' ((he j').2 hj')]
  ·have no : ∀ j F, L j → Es[j]? = some F → F.2.touch x = false := fun j F hj hFj => by
    cases ht : F.2.touch x with
    | false => rfl
    | true => exact absurd ⟨j, F, hj, hFj, ht⟩ hw
   rw [h.bot x no, k.bot x fun j F hj => no j F ((he j).2 hj)]

theorem any_go {ops : Array Oper} {Es : List (Bool × Eff)} {T0 : List V} {H0 : Hp} (hF : Fair ops Es T0 H0) {Tn : List V} {Hn : Hp} (hfin : Inv ops Es T0 H0 (· < ops.size) Tn Hn) (facts : ∀ k, k < ops.size → ∃ o E Tk Hk, Fact P G ops Es T0 H0 k o E Tk Hk)
  {Q : Exit → Act → World → Prop} {K : St → Prop} {ρ0 : Nat → Option Value} {S0 : Nat → Prop} {F0 : Nat → List Nat} {w0 : World} (hK : K ⟨Tn, Hn⟩) (hn : ∀ st', K st' → Onto B G ρ0 S0 F0 H0 w0 st' (Q .normal)) :
  ∀ (fuel : Nat) (listed : Array Bool) (T : List V) (H : Hp) (ρ : Nat → Option Value) (S : Nat → Prop) (F : Nat → List Nat) (a : Act) (w : World), listed.size = ops.size → listed.countP (fun b => !b) ≤ fuel → Down ops (fun j => listed.getD j false = true) →
   Inv ops Es T0 H0 (fun j => listed.getD j false = true) T H → StRel B G ρ S F ⟨T, H⟩ a w → Evo S0 (Ub H0 F0) w0 S (Ub H F) w → AgF ρ0 ρ → wpAnyIn (fen L) 0 P .any ops Q fuel listed a w := by
 intro fuel
 have hlt : ∀ (listed : Array Bool), listed.size = ops.size → ∀ j, listed.getD j false = true → j < ops.size := fun listed hsz j h => by
  rcases Nat.lt_or_ge j listed.size with h' | h'
  ·rw [← hsz]; exact h'
  ·rw [Array.getD_eq_getD_getElem?, Array.getElem?_eq_none h'] at h; cases h
 have done : ∀ (listed : Array Bool) (T : List V) (H : Hp) (ρ : Nat → Option Value) (S : Nat → Prop) (F : Nat → List Nat) (a : Act) (w : World), listed.size = ops.size → (∀ j, j < ops.size → listed.getD j false = true) →
   Inv ops Es T0 H0 (fun j => listed.getD j false = true) T H → StRel B G ρ S F ⟨T, H⟩ a w → Evo S0 (Ub H0 F0) w0 S (Ub H F) w → AgF ρ0 ρ → Q .normal a w := by
  intro listed T H ρ S F a w hsz hall hinv hst hE hA
  obtain ⟨rfl, hH⟩ := Inv.full hF.len hinv hfin (fun j => ⟨hlt listed hsz j, hall j⟩) (hlt listed hsz)
  have e : ∀ x, look Hn x = look H x := fun x => (hH x).symm
  exact hn _ hK ρ S F a w ⟨hst.defers, hst.size, hst.tmps, hst.heap.congr e, hst.glob⟩ ⟨hE.os, hE.tape, hE.output, hE.size, hE.keep, hE.sub, hE.newS, fun b hb => hE.newU b (Ub.congr e hb)⟩ hA
 induction fuel with
 | zero =>
  intro listed T H ρ S F a w hsz hc hdown hinv hst hE hA
  have hall : ∀ j, j < ops.size → listed.getD j false = true := fun j hj => by
   have h0 : listed.countP (fun b => !b) = 0 := by omega
   rw [Array.countP_eq_zero] at h0
   have := h0 listed[j] (Array.getElem_mem (by omega))
   rw [Array.getD_eq_getD_getElem?, Array.getElem?_eq_getElem (by omega)]
   simpa using this
  refine ⟨?_, done listed T H ρ S F a w hsz hall hinv hst hE hA⟩
  cases hr : Region.ready .any ops listed with
  | nil => rfl
  | cons i l =>
   have hi : i ∈ Region.ready .any ops listed := by rw [hr]; simp
   obtain ⟨h1, o, h2, _⟩ := mem_ready.1 hi
   have hj := (Array.getElem?_eq_some_iff.1 h2).1
   have := hall i hj
   rw [Array.getD_eq_getD_getElem?, Array.getElem?_eq_getElem (by omega)] at h1 this
   simp at h1 this
   rw [h1] at this; cases this
 | succ fuel ih =>
  intro listed T H ρ S F a w hsz hc hdown hinv hst hE hA
  refine ⟨fun hr => done listed T H ρ S F a w hsz (fun j hj => ?_) hinv hst hE hA, fun i hi => ?_⟩
  ·have : ∀ n j, j ≤ n → j < ops.size → listed.getD j false = true := by
    intro n
    induction n with
    | zero =>
     intro j hj0 hj
     cases hlj : listed.getD j false with
     | true => rfl
     | false =>
      have : j ∈ Region.ready .any ops listed := mem_ready.2 ⟨by
       rw [Array.getD_eq_getD_getElem?, Array.getElem?_eq_getElem (by omega)] at hlj ⊢; simpa using hlj, _, Array.getElem?_eq_getElem hj, fun e he hb => by
       have := hF.back j _ e (Array.getElem?_eq_getElem hj) he hb; omega⟩
      rw [hr] at this; cases this
    | succ n ihn =>
     intro j hjn hj
     cases hlj : listed.getD j false with
     | true => rfl
     | false =>
      have : j ∈ Region.ready .any ops listed := mem_ready.2 ⟨by
       rw [Array.getD_eq_getD_getElem?, Array.getElem?_eq_getElem (by omega)] at hlj ⊢; simpa using hlj, _, Array.getElem?_eq_getElem hj, fun e he hb => by
       have := hF.back j _ e (Array.getElem?_eq_getElem hj) he hb
       exact ihn e.on (by omega) (by omega)⟩
      rw [hr] at this; cases this
   exact this j j (Nat.le_refl _) hj
  ·obtain ⟨h1, o, ho, hpre⟩ := mem_ready.1 hi
   have hlt := (Array.getElem?_eq_some_iff.1 ho).1
   have hli : listed[i]? = some false := by
    rw [Array.getD_eq_getD_getElem?, Array.getElem?_eq_getElem (by omega)] at h1
    rw [Array.getElem?_eq_getElem (by omega)]; simpa using h1
   obtain ⟨o', E, Tk, Hk, hfact⟩ := facts i hlt
   have ho' := hfact.op
   rw [ho] at ho'; cases ho'
   have hnL : ¬ (listed.getD i false = true) := by rw [Array.getD_eq_getD_getElem?, hli]; simp
   have hdownk : Down ops (· < i) := fun q oq e hq hoq he hb => by have := hF.back q oq e hoq he hb; omega
   have hLs : ∀ j, listed.getD j false = true → j < ops.size := fun j h => by
    rcases Nat.lt_or_ge j listed.size with h' | h'
    ·rw [← hsz]; exact h'
    ·rw [Array.getD_eq_getD_getElem?, Array.getElem?_eq_none h'] at h; cases h
   obtain ⟨hT, hHs, hle, _⟩ := Inv.same hF hinv hfact.inv hdown hdownk ho hfact.eff hnL (Nat.lt_irrefl i) hpre (fun e he hb => hF.back i o e ho he hb) hLs (fun j hj => by omega)
   have hwant : Region.wanted o (yielded ops a.tmps) = E.1 := wanted_of_wantV hst ((wantV_congr hT).trans hfact.want)
   have hL' : ∀ j, ((listed.setIfInBounds i true).getD j false = true) ↔ j = i ∨ listed.getD j false = true := fun j => by
    rw [Array.getD_eq_getD_getElem?, Array.getElem?_setIfInBounds, Array.getD_eq_getD_getElem?]
    by_cases he : i = j
    ·subst he; simp [show i < listed.size by omega]
    ·simp [he, Ne.symm he]
   have hdown' : Down ops (fun j => (listed.setIfInBounds i true).getD j false = true) := fun q oq e hq hoq he hb => (hL' _).2 (by
    rcases (hL' q).1 hq with rfl | hq
    ·rw [ho] at hoq; cases hoq; exact .inr (hpre e he hb)
    ·exact .inr (hdown q oq e hq hoq he hb))
   have hcount : (listed.setIfInBounds i true).countP (fun b => !b) ≤ fuel := by
    have hi' : i < listed.size := by omega
    rw [Array.setIfInBounds, dif_pos hi', Array.countP_set]
    rw [Array.getElem?_eq_getElem hi'] at hli
    simp only [Option.some.injEq] at hli
    simp only [hli]
    simp
    omega
   -- what is new is new here too
   have hfr : ∀ k, k ∈ E.2.N → 100 ≤ k ∧ V.hasL k T = false ∧ hasH k H = false := fun k hk => by
    obtain ⟨f1, f2, f3⟩ := hF.fresh i E k hfact.eff hk
    have sep : ∀ j F, listed.getD j false = true → Es[j]? = some F → F.2.v.has k = false ∧ hasH k F.2.new = false := by
     intro j F hj hFj
     have hjs := hLs j hj
     have hne : j ≠ i := fun e => hnL (e ▸ hj)
     rcases Nat.lt_or_gt_of_ne hne with h' | h'
     ·exact (hF.two h' (Array.getElem?_eq_getElem hjs) ho hFj hfact.eff).2.1 k hk
     ·rcases (hF.two h' ho (Array.getElem?_eq_getElem hjs) hfact.eff hFj).2.2 with hb | hb
      ·exact absurd (before_mem hdown (Array.getElem?_eq_getElem hjs) (fun e he hb' => hdown j _ e hj (Array.getElem?_eq_getElem hjs) he hb') hb) hnL
      ·exact hb.2.2.2.2 k hk
    refine ⟨f1, ?_, ?_⟩
    ·cases hh : V.hasL k T with
     | false => rfl
     | true =>
      rcases hinv.hasT k hh with h' | ⟨j, F, h1, h2, h3⟩
      ·rw [f2] at h'; cases h'
      ·rw [(sep j F h1 h2).1] at h3; cases h3
    ·cases hh : hasH k H with
     | false => rfl
     | true =>
      rcases hinv.has k hh with h' | ⟨j, F, h1, h2, h3⟩
      ·rw [f3] at h'; cases h'
      ·rw [(sep j F h1 h2).2] at h3; cases h3
   unfold wpOpIn
   simp only [ho]
   cases hw : E.1 with
   | true =>
    rw [if_pos (by rw [hwant, hw])]
    have hNall : (E.2.N.all fun i => !hasH i H) = true := List.all_eq_true.2 fun k hk => by rw [(hfr k hk).2.2]; rfl
    have hop := hfact.ok hw (ev G T) H (ev_congr hT) hHs hNall
    refine (hop ρ S F a.eval w (fun x _ => hst.ev x) hst.heap hst.glob).wp fun x w' hp => ?_
    obtain ⟨ρ', S', F', hv, hH, hE', hA'⟩ := hp
    have hN : fresh E.2.N ⟨T, H⟩ = true := List.all_eq_true.2 fun k hk => by
     obtain ⟨f1, f2, f3⟩ := hfr k hk
     simp [f2, f3, Nat.ble_eq, f1]
    have hst' := hst.put (d := o.dst) hN hv hH hE' hA'
    refine ih _ (setO T o.dst E.2.v) (E.2.new ++ hrem E.2.C H) ρ' S' F' _ w' (by simp [hsz]) hcount hdown' ?_ ?_ (hE.trans hE') (hA.trans (hA'.toF hN))
    ·exact Inv.step hF hinv ho hfact.eff hnL hle (fun _ => rfl) (fun x hx => by
      rw [hasH_app, Bool.or_eq_true] at hx
      exact hx.imp id hasH_hrem) hL'
    ·have : (St.put ⟨T, H⟩ o.dst E.2.v (E.2.new ++ hrem E.2.C H)) = ⟨setO T o.dst E.2.v, E.2.new ++ hrem E.2.C H⟩ := by cases o.dst <;> rfl
     rw [← this]; exact hst'
   | false =>
    rw [if_neg (by rw [hwant, hw]; simp)]
    have hno := hfact.no hw
    refine ⟨fun _ _ => trivial, ?_⟩
    refine ih _ (setO T o.dst V.und) H ρ S F _ w (by simp [hsz]) hcount hdown' ?_ ?_ hE hA
    ·have := Inv.step hF hinv ho hfact.eff hnL hle (H' := H) (fun x => by rw [look_eff, hno]; simp [Eff.touch, look]) (fun x hx => .inr hx) hL'
     rwa [hno] at this
    ·have : (St.put ⟨T, H⟩ o.dst V.und H) = ⟨setO T o.dst V.und, H⟩ := by cases o.dst <;> rfl
     rw [← this]; exact Onto.of_undef hst o.dst

theorem CO.any {id : Nat} {l : List Oper} {T : List V} {H : Hp} {Q : Exit → St → Prop} (hm : P.follows .mixedOrders = true) {Es : List (Bool × Eff)} {T' : List V} {H' : Hp}
  (hc : Chain P G l.toArray 0 T H Es T' H') (hk : okAny l.toArray T H Es = true) (hQ : Q .normal ⟨T', H'⟩) : CO L P G (.region id l.toArray true) ⟨T, H⟩ Q := by
 intro B ρ S F a w R hst hn
 refine wpIn_region_any hm ?_
 have hF := okAny_fair (by simpa using hc.length (Nat.zero_le _)) hk
 obtain ⟨facts, hfin⟩ := hc.facts hF rfl (Nat.zero_le _) (Inv.start _ _ _ _ (fun j => Nat.not_lt_zero j))
 have hL0 : ∀ j, ¬ ((Array.replicate l.toArray.size false).getD j false = true) := fun j => by
  rw [Array.getD_eq_getD_getElem?, Array.getElem?_replicate]
  split <;> simp
 let w1 : World := { w with drawn := w.drawn + 1 }
 have hk1 : Keeps S w S w1 := fun b hb => ⟨hb, rfl⟩
 have hst1 : StRel B G ρ S F ⟨T, H⟩ a w1 := ⟨hst.defers, hst.size, fun i x hx => (hst.tmps i x hx).mono (fun _ _ h _ => h) hk1,
  ⟨hst.heap.dom, fun i o h => by
   obtain ⟨r, hr, hob⟩ := hst.heap.obj i o h
   exact ⟨r, hr, hob.mono (fun _ _ h _ => h) hk1 (fun _ _ => rfl)⟩, hst.heap.nodup, hst.heap.disj, hst.heap.sep, hst.heap.lt, hst.heap.slt⟩, hst.glob.mono hk1⟩
 refine any_go hF hfin (fun k hk => facts k (Nat.zero_le _) hk) (K := fun st' => Q .normal st') hQ (fun st' h' => hn .normal st' h') l.toArray.size _ T H ρ S F a w1 (by simp) ?_ (fun i o e h => (hL0 i h).elim) (Inv.start _ _ _ _ hL0) hst1
  ⟨rfl, rfl, rfl, Nat.le_refl _, fun _ _ _ => rfl, fun _ h => h, fun _ h => .inl h, fun _ h => .inl h⟩ (AgF.refl _)
 exact Nat.le_trans Array.countP_le_size (by simp)

end
end Go.Av

namespace Go.Av

def V.ids : V → List Nat
 | .own i => [i]
 | .loc i _ => [i]
 | .vp i _ _ _ => [i]
 | .vw i _ _ _ => [i]
 | _ => []

section
variable {P : Program} {G : Nat → Option (List V)}

def AgV (H' H : Hp) (v : V) : Prop := ∀ i, i ∈ v.ids → look H' i = look H i

theorem cellsV_local {H H' : Hp} {v : V} (h : AgV H' H v) : cellsV H' v = cellsV H v := by
 cases v <;> simp_all [cellsV, live, AgV, V.ids]

theorem ptrAdd_local {H H' : Hp} {n : Nat} {v : V} (h : AgV H' H v) : ptrAdd H' n v = ptrAdd H n v := by
 cases v <;> simp_all [ptrAdd, live, AgV, V.ids]

theorem lenV_local {H H' : Hp} {v : V} (h : AgV H' H v) : lenV H' v = lenV H v := by
 cases v with
 | c u =>
  cases u with
  | slice a n c => cases a <;> rfl
  | _ => rfl
 | own i => simp_all [lenV, AgV, V.ids]
 | _ => rfl

theorem loadV_local {D : Tab} {H H' : Hp} {t : TypeId} {v : V} (h : AgV H' H v) : loadV D H' t v = loadV D H t v := by
 cases v <;> simp_all [loadV, AgV, V.ids]

theorem fillV_local {H H' : Hp} {place : Nat → Option (Nat × Nat)} : ∀ {parts : List (Nat × V)} {cells : List V}, (∀ p, p ∈ parts → AgV H' H p.2) → fillV H' place cells parts = fillV H place cells parts
 | [], _, _ => rfl
 | (i, v) :: rest, cells, h => by
  have hc : cellsV H' v = cellsV H v := cellsV_local (h (i, v) (by simp))
  have ih : ∀ cells, fillV H' place cells rest = fillV H place cells rest := fun cells => fillV_local fun p hp => h p (by simp [hp])
  simp only [fillV, hc, ih]

theorem buildV_local {D : Tab} {H H' : Hp} {t : TypeId} {parts : List (Nat × V)} (h : ∀ p, p ∈ parts → AgV H' H p.2) : buildV D H' t parts = buildV D H t parts := by
 have e : ∀ place cells, fillV H' place cells parts = fillV H place cells parts := fun _ _ => fillV_local h
 simp only [buildV, e]

theorem map_local {e e' : Operand → V} {parts : List (Nat × Operand)} (he : ∀ p, p ∈ parts → e' p.2 = e p.2) : parts.map (fun p => (p.1, e' p.2)) = parts.map fun p => (p.1, e p.2) :=
 List.map_congr_left fun p hp => by rw [he p hp]

theorem stepV_local {D : Tab} {H H' : Hp} {e e' : Operand → V} {op : Op} (he : ∀ x, x ∈ op.operands → e' x = e x) (hH : ∀ x, x ∈ op.operands → AgV H' H (e x)) : stepV D H' e' op = stepV D H e op := by
  cases op
  case move x => simp only [stepV]; rw [he x (by simp [Op.operands])]
  case assign x => simp only [stepV]; rw [he x (by simp [Op.operands])]
  case pick c a b => simp only [stepV]; rw [he c (by simp [Op.operands]), he a (by simp [Op.operands]), he b (by simp [Op.operands])]
  case nilCheck x =>
    have h := hH x (by simp [Op.operands])
    simp only [stepV]
    rw [he x (by simp [Op.operands])]
    generalize e x = v at h
    cases v <;> simp_all [live, AgV, V.ids]
  case binOp op t x y t' => simp only [stepV]; rw [he x (by simp [Op.operands]), he y (by simp [Op.operands])]
  case unOp op t x => cases op <;> first | rfl | (simp only [stepV]; rw [he x (by simp [Op.operands])])
  case convert s d x => simp only [stepV]; rw [he x (by simp [Op.operands])]
  case fieldAddr s x f =>
    have h := hH x (by simp [Op.operands])
    simp only [stepV]
    rw [he x (by simp [Op.operands])]
    simp only [ptrAdd_local h]
  case field s x f => simp only [stepV]; rw [he x (by simp [Op.operands])]
  case load t a => simp only [stepV]; rw [he a (by simp [Op.operands]), loadV_local (hH a (by simp [Op.operands]))]
  case extract x i => simp only [stepV]; rw [he x (by simp [Op.operands])]
  case makeFunc fn first caps =>
    cases fn <;> first
      | rfl
      | (simp only [stepV]
         split
         · rw [List.map_congr_left fun x hx => he x (by simp [Op.operands] at hx ⊢; exact .inr hx)]
         · rfl)
  case build t parts =>
    simp only [stepV]
    rw [map_local fun p hp => he p.2 (by simp [Op.operands]; exact ⟨p.1, by simpa using hp⟩)]
    refine buildV_local fun p hp => ?_
    obtain ⟨q, hq, rfl⟩ := List.mem_map.1 hp
    exact hH q.2 (by simp [Op.operands]; exact ⟨q.1, by simpa using hq⟩)
  case call c =>
    obtain ⟨callee, args, ats⟩ := c
    have h1 : ∀ x, x ∈ args.toList → e' x = e x := fun x hx => he x (by simp only [Op.operands, Call.operands]; exact Array.mem_append.2 (.inr (by simpa using hx)))
    have h2 : ∀ x, x ∈ args.toList → AgV H' H (e x) := fun x hx => hH x (by simp only [Op.operands, Call.operands]; exact Array.mem_append.2 (.inr (by simpa using hx)))
    simp only [stepV]
    generalize args.toList = as at h1 h2
    split
    · rw [h1 _ (by simp), lenV_local (h2 _ (by simp))]
    · rw [h1 _ (by simp), h1 _ (by simp)]
    · rw [h1 _ (by simp), h1 _ (by simp)]
    · rfl
  all_goals rfl

def effV (D : Tab) (q : Nat) (H : Hp) (e : Operand → V) (op : Op) : Option Eff :=
 match op with
 | .box t x => (cellsV H (e x)).bind fun cs => bif V.hasL q cs then none else some { v := .loc q 0, R := (e x).ids, new := [(q, .cells t cs)], N := [q] }
 | .alloc t => (D.at t).map fun i => { v := .loc q 0, new := [(q, .cells t (i.zero.map .c))], N := [q] }
 | .store t a x => match D.at t, e a, cellsV H (e x) with
  | some it, .loc i off, some ys => match look H i with
   | some (.cells ety cs) => if ys.length = it.size ∧ off + ys.length ≤ cs.length then some { v := .junk, R := (e x).ids, C := [i], new := [(i, .cells ety (putAt cs ys off))] } else none
   | _ => none
  | _, _, _ => none
 | .buildSlice t n parts => match D.at t with
  | some it => match it.d with
   | .slice el => match D.at el with
    | some ie => (fillV H (fun i => some (i * ie.size, ie.size)) ((List.replicate n (ie.zero.map .c)).flatten) (parts.toList.map fun p => (p.1, e p.2))).bind fun cells => (absL H cells).bind fun yc =>
     if ie.size ≠ 0 ∧ n * ie.size ≤ 16777216 ∧ cells.length = n * ie.size ∧ yc.2.Nodup then some { v := .own q, R := parts.toList.flatMap fun p => (e p.2).ids, C := yc.2, new := [(q, .vec true el ie.size (chunk n ie.size yc.1))], N := [q] } else none
    | none => none
   | _ => none
  | none => none
 | .move x => some { v := e x }
 | op => (stepV D H e op).map fun v => { v := v, R := op.operands.toList.flatMap fun x => (e x).ids }

theorem OpOkL.of_step {D : Tab} (hD : TabOk P D) {o : Oper} {e : Operand → V} {H : Hp} {v : V} (h : stepV D H e o.op = some v) : OpOkL P G o e { v := v, R := o.op.operands.toList.flatMap fun x => (e x).ids } H := by
 intro e' H' he hH _
 have hs : stepV D H' e' o.op = some v := by
  rw [stepV_local he fun x hx i hi => hH i (.inl (List.mem_flatMap.2 ⟨x, by simpa using hx, hi⟩)), h]
 exact (stepV_sound hD hs).congr fun x => by rw [look_eff]; simp [Eff.touch, look]

theorem absV_c (H H' : Hp) (u : Value) : absV H' (.c u) = absV H (.c u) := by
 cases u <;> first
  | rfl
  | (rename_i a n c; cases a <;> first | rfl | (cases n <;> first | rfl | (cases c <;> rfl)))

theorem effV_sound {D : Tab} (hD : TabOk P D) {o : Oper} {q : Nat} {e : Operand → V} {H : Hp} {E : Eff} (h : effV D q H e o.op = some E) : OpOkL P G o e E H := by
 unfold effV at h
 split at h
 ·rename_i t x ho
  rw [Option.bind_eq_some_iff] at h
  obtain ⟨cs, hcs, h⟩ := h
  cases hq : V.hasL q cs with
  | true => rw [hq] at h; cases h
  | false =>
   rw [hq] at h
   simp only [cond_false, Option.some.injEq] at h
   subst h
   intro e' H' he hH hN
   have hx : e' x = e x := he x (by simp [ho, Op.operands])
   have hc : cellsV H' (e' x) = some cs := by rw [hx, cellsV_local fun i hi => hH i (.inl hi)]; exact hcs
   simp only [List.all_cons, List.all_nil, Bool.and_true, Bool.not_eq_true'] at hN
   exact (OpOk.box q ho hc hN hq).congr fun y => by rw [look_eff]; simp [Eff.touch, look]; split <;> simp_all
 ·rename_i t ho
  rw [Option.map_eq_some_iff] at h
  obtain ⟨i, hi, h⟩ := h
  subst h
  intro e' H' he hH hN
  simp only [List.all_cons, List.all_nil, Bool.and_true, Bool.not_eq_true'] at hN
  exact (OpOk.alloc hD q ho hi hN).congr fun y => by rw [look_eff]; simp [Eff.touch, look]; split <;> simp_all
 ·rename_i t a x ho
  split at h
  ·rename_i it i off ys ht ha hx
   split at h
   ·rename_i ety cs hi
    split at h
    ·rename_i hs
     cases h
     intro e' H' he hH hN
     have ha' : e' a = .loc i off := (he a (by simp [ho, Op.operands])).trans ha
     have hx' : cellsV H' (e' x) = some ys := by
      rw [he x (by simp [ho, Op.operands]), cellsV_local fun k hk => hH k (.inl hk)]; exact hx
     have hi' : look H' i = some (.cells ety cs) := by
      rw [hH i (.inr (by simp [Eff.touch]))]; exact hi
     exact (OpOk.store hD ho ht ha' hi' hx' hs.1 hs.2).congr fun y => by
      rw [look_eff, look_hput]
      by_cases he : y = i <;> simp [Eff.touch, look, he]
    ·cases h
   ·cases h
  ·cases h
 ·rename_i t n parts ho
  split at h
  ·rename_i it ht
   split at h
   ·rename_i el hit
    split at h
    ·rename_i ie hel
     rw [Option.bind_eq_some_iff] at h
     obtain ⟨cells, hf, h⟩ := h
     rw [Option.bind_eq_some_iff] at h
     obtain ⟨⟨ys, C⟩, hab, h⟩ := h
     split at h
     ·rename_i hs
      cases h
      intro e' H' he hH hN
      have hp : ∀ p, p ∈ parts.toList → e' p.2 = e p.2 := fun p hp => he p.2 (by simp [ho, Op.operands]; exact ⟨p.1, by simpa using hp⟩)
      have hf' : fillV H' (fun i => some (i * ie.size, ie.size)) ((List.replicate n (ie.zero.map .c)).flatten) (parts.toList.map fun p => (p.1, e' p.2)) = some cells := by
       rw [map_local hp, fillV_local fun p hpp => ?_]
       ·exact hf
       ·obtain ⟨r, hr, rfl⟩ := List.mem_map.1 hpp
        exact fun i hi => hH i (.inl (List.mem_flatMap.2 ⟨r, hr, hi⟩))
      have hab' : absL H' cells = some (ys, C) := by
       -- the cells that are own slices are given up: they are touched
       have key : ∀ (l : List V) (ys : List V) (C' : List Nat), absL H l = some (ys, C') → (∀ c, c ∈ C' → c ∈ C) → absL H' l = some (ys, C') := by
        intro l
        induction l with
        | nil => intro ys C' h _; exact h
        | cons y l ih =>
         intro ys C' h hsub
         simp only [absL, Option.bind_eq_some_iff, Option.map_eq_some_iff] at h ⊢
         obtain ⟨⟨z, C1⟩, h1, ⟨zs, C2⟩, h2, h3⟩ := h
         cases h3
         refine ⟨(z, C1), ?_, (zs, C2), ih zs C2 h2 fun c hc => hsub c (List.mem_append.2 (.inr hc)), rfl⟩
         cases y with
         | own j =>
          simp only [absV] at h1 ⊢
          split at h1
          ·rename_i nn x1 x2 rows hl
           cases h1
           have hj : look H' j = look H j := hH j (.inr (by simp [Eff.touch]; exact .inl (hsub j (by simp))))
           rw [hj, hl]
          ·cases h1
         | c u => rw [absV_c H H']; exact h1
         | _ => exact h1
       exact key cells ys C hab fun c hc => hc
      simp only [List.all_cons, List.all_nil, Bool.and_true, Bool.not_eq_true'] at hN
      exact OpOk.buildSlice hD q ho ht hit hel hs.1 hs.2.1 hf' hs.2.2.1 hab' hs.2.2.2 hN
     ·cases h
    ·cases h
   ·cases h
  ·cases h
 ·rename_i x ho
  cases h
  intro e' H' he hH _
  have hs : stepV D H' e' o.op = some (e x) := by
   rw [ho]
   simp only [stepV]
   rw [he x (by simp [ho, Op.operands])]
  exact (stepV_sound hD hs).congr fun y => by rw [look_eff]; simp [Eff.touch, look]
 ·rename_i op _ _ _ _ _
  rw [Option.map_eq_some_iff] at h
  obtain ⟨v, hv, h⟩ := h
  subst h
  exact OpOkL.of_step hD hv

end
end Go.Av

namespace Go.Av

section
variable {P : Program} {G : Nat → Option (List V)} {L : Option Nat} {B : Nat}

def okText (ops : Array Oper) : Nat → List V → Hp → List (Bool × Eff) → Bool
 | _, _, _, [] => true
 | i, T, H, (b, E) :: Es => match ops[i]? with
  | some o => bif b then fresh E.N ⟨T, H⟩ && okText ops (i + 1) (setO T o.dst E.v) (E.new ++ hrem E.C H) Es else okText ops (i + 1) (setO T o.dst V.und) H Es
  | none => false

def okR (draw : Bool) (ops : Array Oper) (T0 : List V) (H0 : Hp) (Es : List (Bool × Eff)) : Bool := bif draw then okAny ops T0 H0 Es else okText ops 0 T0 H0 Es

theorem Chain.opsOk {ops : Array Oper} {i : Nat} {T : List V} {H : Hp} {tail : List (Bool × Eff)} {T' : List V} {H' : Hp} {Q : St → Prop} (h : Chain P G ops i T H tail T' H') : okText ops i T H tail = true → Q ⟨T', H'⟩ → OpsOk P G ops (ops.toList.drop i) ⟨T, H⟩ Q := by
 induction h with
 | nil i T H h =>
  intro _ hq
  rw [List.drop_of_length_le (by simpa using h)]
  exact hq
 | @op i T H o E tl T' H' ho hw hop rest ih =>
  intro hk hq
  simp only [okText, ho, cond_true, Bool.and_eq_true] at hk
  rw [drop_at ho]
  refine OpsOk.step (st := ⟨T, H⟩) hw (hop (ev G T) H (fun _ _ => rfl) (fun _ _ => rfl) (List.all_eq_true.2 fun k hkk => by rw [(fresh_spec hk.1 hkk).2.2]; rfl)) hk.1 ?_
  have := ih hk.2 hq
  have e : (St.put ⟨T, H⟩ o.dst E.v (E.new ++ hrem E.C H)) = ⟨setO T o.dst E.v, E.new ++ hrem E.C H⟩ := by cases o.dst <;> rfl
  rw [e]; exact this
 | @skip i T H o tl T' H' ho hw rest ih =>
  intro hk hq
  simp only [okText, ho, cond_false] at hk
  rw [drop_at ho]
  refine OpsOk.pass (st := ⟨T, H⟩) hw ?_
  have := ih hk hq
  have e : (St.put ⟨T, H⟩ o.dst V.und H) = ⟨setO T o.dst V.und, H⟩ := by cases o.dst <;> rfl
  rw [e]; exact this

def W (P : Program) (G : Nat → Option (List V)) (ops : Array Oper) (draw : Bool) (T0 : List V) (H0 : Hp) (i : Nat) (T : List V) (H : Hp) (Es : List (Bool × Eff)) (Q : St → Prop) : Prop :=
 ∃ tail T' H', Chain P G ops i T H tail T' H' ∧ okR draw ops T0 H0 (Es ++ tail) = true ∧ Q ⟨T', H'⟩

theorem W.fin {ops : Array Oper} {draw : Bool} {T0 : List V} {H0 : Hp} {i : Nat} {T : List V} {H : Hp} {Es : List (Bool × Eff)} {Q : St → Prop} (h : ops.size ≤ i) (hk : okR draw ops T0 H0 Es = true) (k : Q ⟨T, H⟩) : W P G ops draw T0 H0 i T H Es Q :=
 ⟨[], T, H, .nil i T H h, by rw [List.append_nil]; exact hk, k⟩

theorem CO.w {id : Nat} {l : List Oper} {draw : Bool} {T : List V} {H : Hp} {Q : Exit → St → Prop} (hm : P.follows .mixedOrders = true) (h : W P G l.toArray draw T H 0 T H [] (Q .normal)) : CO L P G (.region id l.toArray draw) ⟨T, H⟩ Q := by
 obtain ⟨tail, T', H', hc, hk, hq⟩ := h
 cases draw with
 | true => exact CO.any hm hc hk hq
 | false => exact CO.region (by simpa using hc.opsOk hk hq)

theorem CO.sw {id : Nat} {l : List Oper} {draw : Bool} {c : Code} {T : List V} {H : Hp} {Q : Exit → St → Prop} (hm : P.follows .mixedOrders = true) (h : W P G l.toArray draw T H 0 T H [] fun st => CO L P G c st Q) : CO L P G (.seq (.region id l.toArray draw) c) ⟨T, H⟩ Q :=
 CO.seq (CO.w hm h)

theorem W.one {ops : Array Oper} {draw : Bool} {T0 : List V} {H0 : Hp} {i : Nat} {T : List V} {H : Hp} {Es : List (Bool × Eff)} {Q : St → Prop} {o : Oper} (E : Eff) (ho : ops[i]? = some o) (hw : wantV ops T o.guard = some true) (hop : OpOkL P G o (ev G T) E H)
  (k : W P G ops draw T0 H0 (i + 1) (setO T o.dst E.v) (E.new ++ hrem E.C H) (Es ++ [(true, E)]) Q) : W P G ops draw T0 H0 i T H Es Q := by
 obtain ⟨tail, T', H', hc, hk, hq⟩ := k
 exact ⟨(true, E) :: tail, T', H', .op ho hw hop hc, by rw [List.append_assoc] at hk; exact hk, hq⟩

theorem W.skip {ops : Array Oper} {draw : Bool} {T0 : List V} {H0 : Hp} {i : Nat} {T : List V} {H : Hp} {Es : List (Bool × Eff)} {Q : St → Prop} {o : Oper} (ho : ops[i]? = some o) (hw : wantV ops T o.guard = some false)
  (k : W P G ops draw T0 H0 (i + 1) (setO T o.dst V.und) H (Es ++ [(false, Eff.und)]) Q) : W P G ops draw T0 H0 i T H Es Q := by
 obtain ⟨tail, T', H', hc, hk, hq⟩ := k
 exact ⟨(false, Eff.und) :: tail, T', H', .skip ho hw hc, by rw [List.append_assoc] at hk; exact hk, hq⟩

structure Run where
 T : List V
 H : Hp
 Es : List (Bool × Eff)
 deriving Inhabited

def runE (D : Tab) (G : Nat → Option (List V)) (ops : Array Oper) : Nat → Nat → Nat → List V → Hp → Option Run
 | 0, _, _, T, H => some ⟨T, H, []⟩
 | n + 1, q, i, T, H => match ops[i]? with
  | none => none
  | some o => match wantV ops T o.guard with
   | some true => match effV D q H (ev G T) o.op with
    | some E => match runE D G ops n (q + E.N.length) (i + 1) (setO T o.dst E.v) (E.new ++ hrem E.C H) with
     | some r => some ⟨r.T, r.H, (true, E) :: r.Es⟩
     | none => none
    | none => none
   | some false => match runE D G ops n q (i + 1) (setO T o.dst V.und) H with
    | some r => some ⟨r.T, r.H, (false, Eff.und) :: r.Es⟩
    | none => none
   | none => none

theorem W.runSome {D : Tab} (hD : TabOk P D) {ops : Array Oper} {draw : Bool} {T0 : List V} {H0 : Hp} {Q : St → Prop} : ∀ (n : Nat) {q i : Nat} {T : List V} {H : Hp} {Es : List (Bool × Eff)} {r : Run}, runE D G ops n q i T H = some r → W P G ops draw T0 H0 (i + n) r.T r.H (Es ++ r.Es) Q → W P G ops draw T0 H0 i T H Es Q
 | 0, q, i, T, H, Es, r, h, k => by simp only [runE, Option.some.injEq] at h; subst h; simpa using k
 | n + 1, q, i, T, H, Es, r, h, k => by
  simp only [runE] at h
  split at h
  ·cases h
  ·rename_i o ho
   split at h
   ·rename_i hw
    split at h
    ·rename_i E hE
     split at h
     ·rename_i r' hr
      cases h
      refine W.one E ho hw (effV_sound hD hE) ?_
      refine W.runSome hD n hr ?_
      rw [List.append_assoc, show i + 1 + n = i + (n + 1) by omega]
      exact k
     ·cases h
    ·cases h
   ·rename_i hw
    split at h
    ·rename_i r' hr
     cases h
     refine W.skip ho hw ?_
     refine W.runSome hD n hr ?_
     rw [List.append_assoc, show i + 1 + n = i + (n + 1) by omega]
     exact k
    ·cases h
   ·cases h

def aftE (D : Tab) (G : Nat → Option (List V)) (ops : Array Oper) (n q i : Nat) (T : List V) (H : Hp) : Run := (runE D G ops n q i T H).getD default

theorem W.run {D : Tab} (hD : TabOk P D) {ops : Array Oper} {draw : Bool} {T0 : List V} {H0 : Hp} {Q : St → Prop} (n q : Nat) {i : Nat} {T : List V} {H : Hp} {Es : List (Bool × Eff)} (h : (runE D G ops n q i T H).isSome = true)
  (k : W P G ops draw T0 H0 (i + n) (aftE D G ops n q i T H).T (aftE D G ops n q i T H).H (Es ++ (aftE D G ops n q i T H).Es) Q) : W P G ops draw T0 H0 i T H Es Q := by
 obtain ⟨r, hr⟩ := Option.isSome_iff_exists.1 h
 refine W.runSome hD n hr ?_
 unfold aftE at k
 rw [hr] at k
 exact k

def keepT (m : Ren) : List Nat → Nat → List V → List V
 | _, _, [] => []
 | ks, i, x :: T => (if ks.contains i then x.rn m else .junk) :: keepT m ks (i + 1) T

def Ob.rn (m : Ren) : Ob → Ob
 | .cells e cs => .cells e (V.rnL m cs)
 | o => o

def keepH (m : Ren) : Hp → Hp
 | [] => []
 | (i, o) :: H => match mget m i with
  | some j => (j, o.rn m) :: keepH m H
  | none => keepH m H

theorem keepT_sub (m : Ren) (ks : List Nat) : ∀ (i : Nat) (T : List V), SubT m T (keepT m ks i T)
 | _, [] => trivial
 | i, x :: T => ⟨by split <;> simp, keepT_sub m ks (i + 1) T⟩

theorem SubT.rnL (m : Ren) : ∀ (cs : List V), SubT m cs (V.rnL m cs)
 | [] => trivial
 | _ :: cs => ⟨.inr rfl, SubT.rnL m cs⟩

theorem Ob.rn_sub (m : Ren) (o : Ob) : SubO m o (o.rn m) := by
 cases o with
 | cells e cs => exact ⟨rfl, SubT.rnL m cs⟩
 | vec nn e k rows => exact ⟨.inl rfl, rfl, rfl, rfl⟩

def nodupH (H : Hp) : Bool := decide (H.map (·.1)).Nodup

theorem look_of_mem {H : Hp} (hn : (H.map (·.1)).Nodup) {i : Nat} {o : Ob} (h : (i, o) ∈ H) : look H i = some o := by
 induction H with
 | nil => cases h
 | cons p H ih =>
  obtain ⟨j, p⟩ := p
  simp only [List.map_cons, List.nodup_cons] at hn
  simp only [look]
  rcases List.mem_cons.1 h with h | h
  ·cases h; simp
  ·split
   ·subst_vars; exact absurd (List.mem_map_of_mem (f := (·.1)) h) hn.1
   ·exact ih hn.2 h

theorem keepH_sub {m : Ren} {H : Hp} (hn : (H.map (·.1)).Nodup) : ∀ (H' : Hp), (∀ p, p ∈ H' → p ∈ H) → SubH m H (keepH m H')
 | [], _ => trivial
 | (i, o) :: H', h => by
  simp only [keepH]
  split
  ·rename_i j hj
   exact ⟨⟨i, o, hj, look_of_mem hn (h (i, o) (by simp)), Ob.rn_sub m o⟩, keepH_sub hn H' fun p hp => h p (by simp [hp])⟩
  ·exact keepH_sub hn H' fun p hp => h p (by simp [hp])

def tl (n : Nat) (l : List (Nat × V)) : List V := l.foldl (fun T p => T.set p.1 p.2) (List.replicate n .junk)

end
end Go.Av

namespace Go.Av

section
variable {P : Program} {G : Nat → Option (List V)}

theorem HRel.lay {ρ : Nat → Option Value} {S : Nat → Prop} {F : Nat → List Nat} {H : Hp} {w : World} (hH : HRel ρ S F H w) {j : Nat} {nn : Bool} {ty k : Nat} {rows : List (List V)} (hj : look H j = some (.vec nn ty k rows)) :
  ∃ ρ' S', HRel ρ' S' F (hrem [j] H) w ∧ (∀ i r, ρ' i = some r → ρ i = some r) ∧ (∀ b, S b → S' b) ∧ (∃ r, ρ j = some r ∧ RD S' w r (.sl nn false (V.shareR rows)) []) ∧ Evo S (Ub H F) w S' (Ub (hrem [j] H) F) w := by
 obtain ⟨r, hr, hob⟩ := hH.obj j _ hj
 let ρ' : Nat → Option Value := fun i => if i = j then none else ρ i
 let S' : Nat → Prop := fun b => S b ∨ b ∈ F j
 have hρ : ∀ i r, ρ' i = some r → ρ i = some r := fun i r hi => by
  simp only [ρ'] at hi
  split at hi
  ·cases hi
  ·exact hi
 have hS : ∀ b, S b → S' b := fun b hb => .inl hb
 have hl : ∀ i o, look (hrem [j] H) i = some o → i ≠ j ∧ look H i = some o := fun i o hi => by
  rw [look_hrem] at hi
  split at hi
  ·cases hi
  ·exact ⟨by simpa using ‹¬ i ∈ [j]›, hi⟩
 have hkeep : Keeps S w S' w := fun b hb => ⟨hS b hb, rfl⟩
 refine ⟨ρ', S', ⟨fun i hi => ?_, fun i o hi => ?_, fun i o hi => hH.nodup i o (hl i o hi).2, fun i i' o p b hi hi' hne => hH.disj i i' o p b (hl i o hi).2 (hl i' p hi').2 hne, fun i o b hi hb => ?_, fun i o b hi hb => hH.lt i o b (hl i o hi).2 hb, fun b hb => ?_⟩, hρ, hS, ⟨r, hr, hob.toRD.share hS (fun b hb => .inr hb)⟩,
  ⟨rfl, rfl, rfl, Nat.le_refl _, fun _ _ _ => rfl, hS, fun b hb => ?_, fun b ⟨i, o, hi, hb⟩ => .inl ⟨i, o, (hl i o hi).2, hb⟩⟩⟩
 ·simp only [ρ']
  split
  ·rfl
  ·rename_i hne
   rw [look_hrem, if_neg (by simpa using hne)] at hi
   exact hH.dom i hi
 ·obtain ⟨hne, hi⟩ := hl i o hi
  obtain ⟨r', hr', hob'⟩ := hH.obj i o hi
  exact ⟨r', by simp only [ρ']; rw [if_neg hne]; exact hr', hob'.mono (fun q r hq _ => hρ q r hq) hkeep (fun _ _ => rfl)⟩
 ·obtain ⟨hne, hi⟩ := hl i o hi
  rintro (hs | hs)
  ·exact hH.sep i o b hi hb hs
  ·exact hH.disj i j o _ b hi hj hne hb hs
 ·rcases hb with hb | hb
  ·exact hH.slt b hb
  ·exact hH.lt j _ b hj hb
 ·rcases hb with hb | hb
  ·exact .inl hb
  ·exact .inr (.inl ⟨j, _, hj, hb⟩)

def layC (Z : List (Nat × V)) : V → V
 | .own j => match Z.find? (·.1 == j) with
  | some p => p.2
  | none => .own j
 | .c (.slice none 0 0) => .sl false false []
 | x => x

def layV (Z : List (Nat × V)) : V → V
 | .agg cs => .agg (cs.map (layC Z))
 | x => layC Z x

def LayOk (H : Hp) : List (Nat × List (List V)) → Prop
 | [] => True
 | (j, rows') :: Z => (∃ nn t k rows, look H j = some (.vec nn t k rows) ∧ V.shareR rows = rows') ∧ LayOk H Z

theorem LayOk.get {H : Hp} : ∀ {Z : List (Nat × List (List V))}, LayOk H Z → ∀ {p : Nat × List (List V)}, p ∈ Z → ∃ nn t k rows, look H p.1 = some (.vec nn t k rows) ∧ V.shareR rows = p.2
 | (j, rows') :: Z, h, p, hp => by
  rcases List.mem_cons.1 hp with rfl | hp
  ·exact h.1
  ·exact LayOk.get h.2 hp

def rowsAt (H : Hp) (j : Nat) : Option (List (List V)) := match look H j with
 | some (.vec _ _ _ rows) => some rows
 | _ => none

theorem LayOk.cons {H : Hp} {j : Nat} {Z : List (Nat × List (List V))} {α : Type} (enc enc' : α → List V) (l : List α) (h : rowsAt H j = some (l.map enc)) (he : ∀ x, V.shareL (enc x) = enc' x) (k : LayOk H Z) : LayOk H ((j, l.map enc') :: Z) := by
 unfold rowsAt at h
 split at h
 ·rename_i nn t k' rows hl
  cases h
  refine ⟨⟨nn, t, k', _, hl, ?_⟩, k⟩
  rw [V.shareR_eq, List.map_map]
  exact List.map_congr_left fun x _ => he x
 ·cases h

theorem RD.low {S : Nat → Prop} {w : World} {v : Value} {nn x : Bool} {rows : List (List V)} {F : List Nat} (h : RD S w v (.sl nn x rows) F) : RD S w v (.sl false x rows) F := by
 cases h with
 | nils => exact .nils x
 | shr a cap _ _ k cs hlen hcap hk hc hr => exact .shr a cap false rows k cs hlen hcap hk hc hr
 | exc g cap arr ety _ _ k cs Fs hh hcap hmax hsz hk hc hr => exact .exc g cap arr ety false rows k cs Fs hh hcap hmax hsz hk hc hr

def layD (Z : List (Nat × List (List V))) : List (Nat × V) := Z.map fun p => (p.1, .sl false false p.2)

theorem hrem_hrem (A B : List Nat) (H : Hp) (x : Nat) : look (hrem A (hrem B H)) x = look (hrem (B ++ A) H) x := by
 simp only [look_hrem, List.mem_append]
 by_cases h1 : x ∈ A <;> by_cases h2 : x ∈ B <;> simp [h1, h2]

theorem HRel.lays {ρ0 : Nat → Option Value} {S0 : Nat → Prop} {F : Nat → List Nat} {H0 : Hp} {w : World} (hH0 : HRel ρ0 S0 F H0 w) : ∀ (C : List Nat), C.Nodup → (∀ j, j ∈ C → ∃ nn t k rows, look H0 j = some (.vec nn t k rows)) →
  ∃ ρ' S', HRel ρ' S' F (hrem C H0) w ∧ (∀ i r, ρ' i = some r → ρ0 i = some r) ∧ (∀ b, S0 b → S' b) ∧ (∀ j, j ∈ C → ∀ nn t k rows, look H0 j = some (.vec nn t k rows) → ∃ r, ρ0 j = some r ∧ RD S' w r (.sl nn false (V.shareR rows)) []) ∧ Evo S0 (Ub H0 F) w S' (Ub (hrem C H0) F) w
 | [], _, _ => ⟨ρ0, S0, hH0.congr fun x => by rw [look_hrem]; simp, fun _ _ h => h, fun _ h => h, fun j hj => (by cases hj), ⟨rfl, rfl, rfl, Nat.le_refl _, fun _ _ _ => rfl, fun _ h => h, fun _ h => .inl h, fun b ⟨i, o, hi, hb⟩ => .inl ⟨i, o, by rw [look_hrem] at hi; simpa using hi, hb⟩⟩⟩
 | j :: C, hn, hC => by
  rw [List.nodup_cons] at hn
  obtain ⟨ρ1, S1, h1, a1, b1, c1, e1⟩ := HRel.lays hH0 C hn.2 fun i hi => hC i (List.mem_cons_of_mem _ hi)
  obtain ⟨nn, t, k, rows, hj⟩ := hC j (by simp)
  have hj' : look (hrem C H0) j = some (.vec nn t k rows) := by rw [look_hrem, if_neg hn.1]; exact hj
  obtain ⟨ρ2, S2, h2, a2, b2, c2, e2⟩ := h1.lay hj'
  have hlk : ∀ x, look (hrem (j :: C) H0) x = look (hrem [j] (hrem C H0)) x := fun x => by
   simp only [look_hrem, List.mem_cons, List.not_mem_nil, or_false]
   by_cases h1 : x = j <;> by_cases h2 : x ∈ C <;> simp [h1, h2]
  refine ⟨ρ2, S2, h2.congr hlk, fun i r h => a1 i r (a2 i r h), fun b h => b2 b (b1 b h), fun i hi nn' t' k' rows' hl => ?_, ?_⟩
  ·rcases List.mem_cons.1 hi with rfl | hi
   ·rw [hj] at hl
    cases hl
    obtain ⟨r, hr, hd⟩ := c2
    exact ⟨r, a1 _ r hr, hd⟩
   ·obtain ⟨r, hr, hd⟩ := c1 i hi nn' t' k' rows' hl
    exact ⟨r, hr, hd.mono (fun b hb => ⟨b2 b hb, rfl⟩) (fun b hb => by cases hb)⟩
  ·have := e1.trans e2
   exact ⟨this.os, this.tape, this.output, this.size, this.keep, this.sub, this.newS, fun b hb => this.newU b (Ub.congr hlk hb)⟩

def Ob.low (m : Ren) : Ob → Ob
 | .cells e cs => .cells e (V.rnL m cs)
 | .vec _ e k rows => .vec false e k rows

theorem Ob.low_sub (m : Ren) (o : Ob) : SubO m o (o.low m) := by
 cases o with
 | cells e cs => exact ⟨rfl, SubT.rnL m cs⟩
 | vec nn e k rows => exact ⟨.inr rfl, rfl, rfl, rfl⟩

def handV (q : Ren) (H : Hp) : Ren → Option Hp
 | [] => some []
 | (j, i) :: r => match look H j, handV q H r with
  | some o, some H' => some ((i, o.low q) :: H')
  | _, _ => none

theorem handV_sub {q : Ren} {H H1 : Hp} : ∀ {r : Ren} {Hc : Hp}, handV q H r = some Hc → (∀ p, p ∈ r → mget q p.1 = some p.2) → (∀ p, p ∈ r → look H1 p.1 = look H p.1) → SubH q H1 Hc
 | [], Hc, h, _, _ => by cases h; trivial
 | (j, i) :: r, Hc, h, hq, hl => by
  simp only [handV] at h
  split at h
  ·rename_i o H' ho hr
   cases h
   exact ⟨⟨j, o, hq (j, i) (by simp), by rw [hl (j, i) (by simp)]; exact ho, Ob.low_sub q o⟩, handV_sub hr (fun p hp => hq p (by simp [hp])) fun p hp => hl p (by simp [hp])⟩
  ·cases h

theorem look_keepH {m : Ren} : ∀ {H : Hp} {j : Nat} {o' : Ob}, (H.map (·.1)).Nodup → look (keepH m H) j = some o' → ∃ i o, mget m i = some j ∧ look H i = some o ∧ o' = o.rn m
 | [], j, o', _, h => by cases h
 | (i, o) :: H, j, o', hn, h => by
  simp only [List.map_cons, List.nodup_cons] at hn
  have step : look (keepH m H) j = some o' → ∃ i' o2, mget m i' = some j ∧ look ((i, o) :: H) i' = some o2 ∧ o' = o2.rn m := fun h => by
   obtain ⟨i', o2, h1, h2, h3⟩ := look_keepH hn.2 h
   refine ⟨i', o2, h1, ?_, h3⟩
   simp only [look]
   split
   ·subst_vars
    have hmem : ∀ (H : Hp) (i : Nat) (o : Ob), look H i = some o → i ∈ H.map (·.1) := by
     intro H
     induction H with
     | nil => intro i o h; cases h
     | cons p H ih =>
      obtain ⟨j, p⟩ := p
      intro i o h
      simp only [look] at h
      split at h
      ·subst_vars; simp
      ·simp only [List.map_cons, List.mem_cons]; exact .inr (ih i o h)
    exact absurd (hmem H _ o2 h2) hn.1
   ·exact h2
  simp only [keepH] at h
  split at h
  ·rename_i k hk
   simp only [look] at h
   split at h
   ·cases h; subst_vars; exact ⟨i, o, hk, by simp [look], rfl⟩
   ·exact step h
  ·exact step h

def namesOk (q m : Ren) (Z : List Nat) (N : List Nat) : Bool :=
 q.ok && m.ok && m.all (fun p => (Nat.ble 100 p.1 || mget q p.2 == some p.1) && (Nat.blt p.1 100 || N.contains p.2)) && decide Z.Nodup && q.all (fun p => !Z.contains p.1 && mget q p.1 == some p.2)

theorem OpOkL.call {o : Oper} {e : Operand → V} {Hi : Hp} {f : Operand} {as : Array Operand} {ats : Array TypeId} {fid : FuncId} {caps : List V} (ho : o.op = .call { callee := .value f, args := as, argTypes := ats }) (hf : e f = .fn fid caps) (hcf : callOk P fid)
  {vs : List V} {Hc Hc' : Hp} {rc : V} (h : AC P G fid vs Hc rc Hc') (q m : Ren) (Zr : List (Nat × List (List V))) (N : List Nat) (hn : namesOk q m (Zr.map (·.1)) N = true) (hHc' : nodupH Hc' = true)
  (hZr : LayOk Hi Zr) (hh : handV q Hi q = some Hc) (ha : V.rnL q ((as.toList.map e ++ caps).map (layV (layD Zr))) = vs) :
  OpOkL P G o e { v := rc.rn m, C := Zr.map (·.1) ++ q.map (·.1), new := keepH m Hc', N := N } Hi := by
 have hZ : ∀ j, j ∈ Zr.map (·.1) → ∃ nn t k rows, look Hi j = some (.vec nn t k rows) := fun j hj => by
  obtain ⟨p, hp, rfl⟩ := List.mem_map.1 hj
  obtain ⟨nn, t, k, rows, h1, _⟩ := hZr.get hp
  exact ⟨nn, t, k, rows, h1⟩
 generalize hZe : Zr.map (·.1) = Z at *
 unfold namesOk at hn
 simp only [Bool.and_eq_true, List.all_eq_true, decide_eq_true_eq, Bool.or_eq_true, Bool.not_eq_true'] at hn
 obtain ⟨⟨⟨⟨n1, n2⟩, n3⟩, n4⟩, n5⟩ := hn
 intro e' H he hH hN ρ S F η w hη hHr hG
 have touched : ∀ j, j ∈ Z ++ q.map (·.1) → look H j = look Hi j := fun j hj => hH j (.inr (by unfold Eff.touch; simp only [Bool.or_eq_true, List.contains_iff_mem]; exact .inl hj))
 have hfop : f ∈ o.op.operands := by simp [ho, Op.operands, Call.operands]
 have hasop : ∀ x, x ∈ as.toList → x ∈ o.op.operands := fun x hx => by
  simp only [ho, Op.operands, Call.operands]
  exact Array.mem_append.2 (.inr (by simpa using hx))
 have hfe : e' f = .fn fid caps := (he f hfop).trans hf
 have hmap : as.toList.map e' = as.toList.map e := List.map_congr_left fun x hx => he x (hasop x hx)
 obtain ⟨ρ1, S1, hH1, a1, b1, c1, e1⟩ := hHr.lays Z n4 fun j hj => by
  obtain ⟨nn, t, k, rows, hl⟩ := hZ j hj
  exact ⟨nn, t, k, rows, by rw [touched j (by simp [hj])]; exact hl⟩
 have hk : Keeps S w S1 w := hHr.keeps e1
 -- a value, laid down
 have layc : ∀ v x, RV ρ S w v x → RV ρ1 S1 w v (layC (layD Zr) x) := fun v x hv => by
  unfold layC
  split
  ·rename_i j
   split
   ·rename_i p hp
    have hpm := List.mem_of_find?_eq_some hp
    have hpj := List.find?_some hp
    simp only [beq_iff_eq] at hpj
    unfold layD at hpm
    rw [List.mem_map] at hpm
    obtain ⟨p', hp', rfl⟩ := hpm
    simp only at hpj
    obtain ⟨nn, t, k, rows, hl, hsh⟩ := hZr.get hp'
    have hjZ : p'.1 ∈ Z := by rw [← hZe]; exact List.mem_map_of_mem hp'
    subst hpj
    obtain ⟨r, hr, hd⟩ := c1 p'.1 hjZ nn t k rows (by rw [touched p'.1 (by simp [hjZ])]; exact hl)
    rw [hv.own_inv r hr]
    rw [hsh] at hd
    exact .sl _ _ _ _ hd.low
   ·exact hv.mono (fun i r hi _ => a1 i r hi) hk
  ·rw [hv.c_inv]; exact .sl _ _ _ _ (.nils false)
  ·exact hv.mono (fun i r hi _ => a1 i r hi) hk
 have lay : ∀ v x, RV ρ S w v x → RV ρ1 S1 w v (layV (layD Zr) x) := fun v x hv => by
  unfold layV
  split
  ·rename_i cs
   obtain ⟨arr, ha, hsz, h1c, hr⟩ := hv.agg_inv
   rw [ha]
   refine .agg arr _ (by simpa using hsz) h1c fun j x c hx hc => ?_
   rw [List.getElem?_map, Option.map_eq_some_iff] at hx
   obtain ⟨y, hy, rfl⟩ := hx
   obtain ⟨c', hc', hrv⟩ := hr j y hy
   rw [hc] at hc'
   cases hc'
   exact layc c y hrv
  ·exact layc v x hv
 have lay2 : ∀ v x, RV ρ S w v x → RV ρ1 S1 w v x := fun v x hv => hv.mono (fun i r hi _ => a1 i r hi) hk
 -- the call
 have hfv := hη f hfop
 rw [hfe] at hfv
 obtain ⟨arr, harr, hsz, hcap⟩ := hfv.fn_inv
 have fits : CallFits q m ((as.toList.map e' ++ caps).map (layV (layD Zr))) (hrem Z H) vs Hc rc Hc' (rc.rn m) (keepH m Hc' ++ hrem (q.map (·.1)) (hrem Z H)) N := by
  have hqZ : ∀ p, p ∈ q → p.1 ∉ Z ∧ mget q p.1 = some p.2 := fun p hp => by
   have := n5 p hp
   simp only [beq_iff_eq] at this
   exact ⟨by simpa using this.1, this.2⟩
  refine ⟨n1, n2, ?_, handV_sub hh (fun p hp => (hqZ p hp).2) (fun p hp => ?_), rfl, fun j o' hj => ?_, fun i j hij hi => ?_, fun i j hij hi => ?_, fun j hj => ?_⟩
  ·rw [hmap]
   have key : ∀ (l : List V), SubT q l (V.rnL q l) := SubT.rnL q
   rw [← ha]
   exact key _
  ·rw [look_hrem, if_neg (hqZ p hp).1]
   exact touched p.1 (List.mem_append.2 (.inr (List.mem_map_of_mem hp)))
  ·rw [look_app] at hj
   cases hkj : look (keepH m Hc') j with
   | some o2 =>
    rw [hkj] at hj
    cases hj
    obtain ⟨i, o2, h1, h2, h3⟩ := look_keepH (of_decide_eq_true hHc') hkj
    exact .inr ⟨i, o2, h1, h2, h3 ▸ Ob.rn_sub m o2⟩
   | none =>
    rw [hkj] at hj
    simp only at hj
    rw [look_hrem] at hj
    split at hj
    ·cases hj
    ·rename_i hnq
     refine .inl ⟨?_, hj, fun i hij => ?_⟩
     ·cases hq : mget q j with
      | none => rfl
      | some i => exact absurd (List.mem_map_of_mem (f := (·.1)) (mget_mem hq)) hnq
     ·have h3 := n3 _ (mget_mem hij)
      rcases Nat.lt_or_ge i 100 with hlt | hge
      ·have := h3.1
       rcases this with h | h
       ·rw [Nat.ble_eq] at h; simp only at h; omega
       ·simp only [beq_iff_eq] at h
        exact hnq (List.mem_map_of_mem (f := (·.1)) (mget_mem h))
      ·have := h3.2
       rcases this with h | h
       ·rw [Nat.blt_eq] at h; simp only at h; omega
       ·simp only [List.contains_iff_mem] at h
        have hNj := List.all_eq_true.1 hN j h
        simp only [Bool.not_eq_true'] at hNj
        have := (hasH_false hNj).1
        rw [look_hrem] at hj
        split at hj
        ·cases hj
        ·rw [this] at hj; cases hj
  ·have h3 := (n3 _ (mget_mem hij)).1
   rcases h3 with h | h
   ·rw [Nat.ble_eq] at h; simp only at h; omega
   ·simpa using h
  ·have h3 := (n3 _ (mget_mem hij)).2
   rcases h3 with h | h
   ·rw [Nat.blt_eq] at h; simp only at h; omega
   ·simpa using h
  ·have hNj := List.all_eq_true.1 hN j hj
   simp only [Bool.not_eq_true'] at hNj
   rw [look_hrem]
   split
   ·rfl
   ·exact (hasH_false hNj).1
 unfold ExecTo execOp
 simp only [ho, resolve, harr, Deferred.ofValue, Sem.run_bind, Sem.run_pure, Result.andThen_ok, invoke, Array.empty_append]
 have hcf' := hcf (as.map η ++ arr) w
 simp only [hcf']
 have hcall := AC.call h fits (ρ := ρ1) (S := S1) (F := F) (xs := as.map η ++ arr) (w := w) (by simp [hsz]) (fun i x hx => ?_) hH1 (hG.mono hk) (fun j o' hj i hi => ?_)
 ·refine hcall.mono ?_
  rintro en w' ⟨x, rfl, hp⟩
  refine ⟨x, rfl, ?_⟩
  obtain ⟨ρ', S', F', hv, hH', hE', hA'⟩ := hp
  have hlk : ∀ y, look (keepH m Hc' ++ hrem (Z ++ q.map (·.1)) H) y = look (keepH m Hc' ++ hrem (q.map (·.1)) (hrem Z H)) y := fun y => by
   simp only [look_app, hrem_hrem]
  have := e1.trans hE'
  exact ⟨ρ', S', F', hv, hH'.congr hlk, ⟨this.os, this.tape, this.output, this.size, this.keep, this.sub, this.newS, fun b hb => this.newU b (Ub.congr hlk hb)⟩, fun j r hj hN => a1 j r (hA' j r hj hN)⟩
 ·rw [List.getElem?_map, Option.map_eq_some_iff] at hx
  obtain ⟨x0, hx0, rfl⟩ := hx
  refine lay _ _ ?_
  by_cases hi : i < as.size
  ·rw [List.getElem?_append_left (by simpa using hi), List.getElem?_map, Option.map_eq_some_iff] at hx0
   obtain ⟨y, hy, rfl⟩ := hx0
   have hy' : as[i]? = some y := by simpa using hy
   have : (as.map η ++ arr).getD i undef = η y := by
    rw [Array.getD_eq_getD_getElem?, Array.getElem?_append_left (by simpa using hi), Array.getElem?_map, hy']; rfl
   rw [this]
   exact hη y (hasop y (List.mem_of_getElem? hy))
  ·rw [List.getElem?_append_right (by simpa using hi)] at hx0
   simp only [List.length_map, Array.length_toList] at hx0
   have hlt : i - as.size < arr.size := by rw [hsz]; exact (List.getElem?_eq_some_iff.1 hx0).1
   have : (as.map η ++ arr).getD i undef = arr[i - as.size] := by
    rw [Array.getD_eq_getD_getElem?, Array.getElem?_append_right (by simpa using hi)]
    simp [Array.getElem?_eq_getElem hlt]
   rw [this]
   exact hcap _ x0 _ hx0 (Array.getElem?_eq_getElem hlt)
 ·rw [look_hrem] at hj
  split at hj
  ·cases hj
  ·have hNi := List.all_eq_true.1 hN i hi
   simp only [Bool.not_eq_true'] at hNi
   exact (hasH_false hNi).2 j o' hj

end
end Go.Av

namespace Go.Av

section
variable {P : Program} {G : Nat → Option (List V)}

theorem Post.upd {ρ : Nat → Option Value} {S : Nat → Prop} {F : Nat → List Nat} {H : Hp} {w w' : World} (hH : HRel ρ S F H w) (C : List Nat) {i : Nat} {o : Ob} {root : Value} (hroot : ρ i = some root) {Fi : List Nat}
  (hos : w'.os = w.os) (htape : w'.tape = w.tape) (hout : w'.output = w.output) (hsize : w.heap.size ≤ w'.heap.size) (hkeep : ∀ b, b < w.heap.size → (∀ c o, c ∈ C → look H c = some o → b ∈ F c → False) → w'.heap[b]? = w.heap[b]?)
  (hob' : ∀ ρ', ObR ρ' S w' root o Fi) (hnd : Fi.Nodup) (hFi : ∀ b, b ∈ Fi → (∃ c o, c ∈ C ∧ look H c = some o ∧ b ∈ F c) ∨ (w.heap.size ≤ b ∧ b < w'.heap.size))
  {x : Value} {v : V} (hv : RV (fun j => if j = i then some root else if j ∈ C then none else ρ j) S w' x v) : Post ρ S F H w v ((i, o) :: hrem C H) [] x w' := by
 let ρ' : Nat → Option Value := fun j => if j = i then some root else if j ∈ C then none else ρ j
 have hρ : ∀ j r, ρ' j = some r → ρ j = some r := fun j r hj => by
  simp only [ρ'] at hj
  split at hj
  ·subst_vars; exact hroot.trans hj
  ·split at hj
   ·cases hj
   ·exact hj
 -- a block of an object that stays, or of S, is kept
 have kS : ∀ b, S b → w'.heap[b]? = w.heap[b]? := fun b hb => hkeep b (hH.slt b hb) fun c o _ ho hc => hH.sep c o b ho hc hb
 have hk : Keeps S w S w' := fun b hb => ⟨hb, kS b hb⟩
 have kO : ∀ j p b, j ∉ C → look H j = some p → b ∈ F j → w'.heap[b]? = w.heap[b]? := fun j p b hj hp hb => hkeep b (hH.lt j p b hp hb) fun c o hc ho hbc => hH.disj j c p o b hp ho (fun e => hj (e ▸ hc)) hb hbc
 have lookr : ∀ j p, look ((i, o) :: hrem C H) j = some p → (j = i ∧ p = o) ∨ (j ≠ i ∧ j ∉ C ∧ look H j = some p) := fun j p hp => by
  simp only [look, look_hrem] at hp
  split at hp
  ·cases hp; exact .inl ⟨‹_›, rfl⟩
  ·split at hp
   ·cases hp
   ·exact .inr ⟨‹_›, ‹_›, hp⟩
 -- the new object's blocks are no other's
 have far : ∀ j p b, j ∉ C → look H j = some p → b ∈ F j → b ∈ Fi → False := fun j p b hj hp hb hbi => by
  rcases hFi b hbi with ⟨c, q, hc, hq, hbc⟩ | ⟨h1, _⟩
  ·exact hH.disj j c p q b hp hq (fun e => hj (e ▸ hc)) hb hbc
  ·have := hH.lt j p b hp hb; omega
 refine ⟨ρ', S, fun j => if j = i then Fi else F j, hv, ⟨fun j hj => ?_, fun j p hp => ?_, fun j p hp => ?_, fun j j' p p' b hj hj' hne hb hb' => ?_, fun j p b hp hb => ?_, fun j p b hp hb => ?_, fun b hb => Nat.lt_of_lt_of_le (hH.slt b hb) hsize⟩,
  ⟨hos, htape, hout, hsize, fun b hb hu => hkeep b hb fun c o _ ho hbc => hu ⟨c, o, ho, hbc⟩, fun _ h => h, fun _ h => .inl h, fun b hb => ?_⟩, fun j r hj _ => ?_⟩
 ·simp only [look, look_hrem] at hj
  simp only [ρ']
  split at hj
  ·cases hj
  ·rename_i hne
   rw [if_neg hne]
   split at hj
   ·rw [if_pos ‹_›]
   ·rw [if_neg ‹_›]; exact hH.dom j hj
 ·rcases lookr j p hp with ⟨rfl, rfl⟩ | ⟨hne, hC, hp⟩
  ·exact ⟨root, by simp [ρ'], by rw [if_pos rfl]; exact hob' ρ'⟩
  ·obtain ⟨r, hr, hobj⟩ := hH.obj j p hp
   refine ⟨r, by simp only [ρ', if_neg hne, if_neg hC]; exact hr, ?_⟩
   rw [if_neg hne]
   exact hobj.mono (fun q r hq _ => hρ q r hq) hk (fun b hb => kO j p b hC hp hb)
 ·rcases lookr j p hp with ⟨rfl, rfl⟩ | ⟨hne, hC, hp⟩
  ·rw [if_pos rfl]; exact hnd
  ·rw [if_neg hne]; exact hH.nodup j p hp
 ·rcases lookr j p hj with ⟨rfl, rfl⟩ | ⟨hne1, hC1, hp1⟩
  ·rcases lookr j' p' hj' with ⟨rfl, rfl⟩ | ⟨hne2, hC2, hp2⟩
   ·exact hne rfl
   ·rw [if_pos rfl] at hb; rw [if_neg hne2] at hb'
    exact far j' p' b hC2 hp2 hb' hb
  ·rcases lookr j' p' hj' with ⟨rfl, rfl⟩ | ⟨hne2, hC2, hp2⟩
   ·rw [if_neg hne1] at hb; rw [if_pos rfl] at hb'
    exact far j p b hC1 hp1 hb hb'
   ·rw [if_neg hne1] at hb; rw [if_neg hne2] at hb'
    exact hH.disj j j' p p' b hp1 hp2 hne hb hb'
 ·rcases lookr j p hp with ⟨rfl, rfl⟩ | ⟨hne, hC, hp⟩
  ·rw [if_pos rfl] at hb
   intro hs
   rcases hFi b hb with ⟨c, q, hc, hq, hbc⟩ | ⟨h1, _⟩
   ·exact hH.sep c q b hq hbc hs
   ·have := hH.slt b hs; omega
  ·rw [if_neg hne] at hb; exact hH.sep j p b hp hb
 ·rcases lookr j p hp with ⟨rfl, rfl⟩ | ⟨hne, hC, hp⟩
  ·rw [if_pos rfl] at hb
   rcases hFi b hb with ⟨c, q, hc, hq, hbc⟩ | ⟨_, h2⟩
   ·exact Nat.lt_of_lt_of_le (hH.lt c q b hq hbc) hsize
   ·exact h2
  ·rw [if_neg hne] at hb; exact Nat.lt_of_lt_of_le (hH.lt j p b hp hb) hsize
 ·obtain ⟨j, p, hp, hb⟩ := hb
  rcases lookr j p hp with ⟨rfl, rfl⟩ | ⟨hne, hC, hp⟩
  ·replace hb : b ∈ (if j = j then Fi else F j) := hb
   rw [if_pos rfl] at hb
   rcases hFi b hb with ⟨c, q, hc, hq, hbc⟩ | ⟨h1, _⟩
   ·exact .inl ⟨c, q, hq, hbc⟩
   ·exact .inr h1
  ·replace hb : b ∈ (if j = i then Fi else F j) := hb
   rw [if_neg hne] at hb
   exact .inl ⟨j, p, hp, hb⟩
 ·exact hρ j r hj

theorem flat_nodup {n k : Nat} {Fs : Nat → Nat → List Nat} : (flat n k Fs).Nodup ↔ (∀ i j, i < n → j < k → (Fs i j).Nodup) ∧ (∀ i j i' j' b, i < n → j < k → i' < n → j' < k → b ∈ Fs i j → b ∈ Fs i' j' → i = i' ∧ j = j') := by
 have row : ∀ i, ((List.range k).flatMap fun j => Fs i j).Nodup ↔ (∀ j, j < k → (Fs i j).Nodup) ∧ ∀ j j' b, j < k → j' < k → b ∈ Fs i j → b ∈ Fs i j' → j = j' := fun i => by
  unfold List.Nodup
  rw [List.pairwise_flatMap]
  constructor
  ·rintro ⟨h1, h2⟩
   refine ⟨fun j hj => h1 j (by simpa using hj), fun j j' b hj hj' hb hb' => ?_⟩
   rw [List.pairwise_iff_getElem] at h2
   rcases Nat.lt_trichotomy j j' with h | h | h
   ·exact absurd rfl (h2 j j' (by simpa using hj) (by simpa using hj') h b (by simpa using hb) b (by simpa using hb'))
   ·exact h
   ·exact absurd rfl (h2 j' j (by simpa using hj') (by simpa using hj) h b (by simpa using hb') b (by simpa using hb))
  ·rintro ⟨h1, h2⟩
   refine ⟨fun j hj => h1 j (by simpa using hj), ?_⟩
   rw [List.pairwise_iff_getElem]
   intro j j' hj hj' hlt x hx y hy e
   simp only [List.length_range] at hj hj'
   simp only [List.getElem_range] at hx hy
   subst e
   have := h2 j j' x hj hj' hx hy
   omega
 unfold flat
 constructor
 ·intro h
  unfold List.Nodup at h
  rw [List.pairwise_flatMap] at h
  obtain ⟨h1, h2⟩ := h
  refine ⟨fun i j hi hj => ((row i).1 (h1 i (by simpa using hi))).1 j hj, fun i j i' j' b hi hj hi' hj' hb hb' => ?_⟩
  rw [List.pairwise_iff_getElem] at h2
  have m : ∀ i j, j < k → b ∈ Fs i j → b ∈ (List.range k).flatMap fun j => Fs i j := fun i j hj hb => List.mem_flatMap.2 ⟨j, by simpa using hj, hb⟩
  have e : i = i' := by
   rcases Nat.lt_trichotomy i i' with h | h | h
   ·exact absurd rfl (h2 i i' (by simpa using hi) (by simpa using hi') h b (by simpa using m i j hj hb) b (by simpa using m i' j' hj' hb'))
   ·exact h
   ·exact absurd rfl (h2 i' i (by simpa using hi') (by simpa using hi) h b (by simpa using m i' j' hj' hb') b (by simpa using m i j hj hb))
  subst e
  exact ⟨rfl, ((row i).1 (h1 i (by simpa using hi))).2 j j' b hj hj' hb hb'⟩
 ·rintro ⟨h1, h2⟩
  unfold List.Nodup
  rw [List.pairwise_flatMap]
  refine ⟨fun i hi => (row i).2 ⟨fun j hj => h1 i j (by simpa using hi) hj, fun j j' b hj hj' hb hb' => (h2 i j i j' b (by simpa using hi) hj (by simpa using hi) hj' hb hb').2⟩, ?_⟩
  rw [List.pairwise_iff_getElem]
  intro i i' hi hi' hlt x hx y hy e
  simp only [List.length_range] at hi hi'
  simp only [List.getElem_range] at hx hy
  subst e
  obtain ⟨j, hj, hb⟩ := List.mem_flatMap.1 hx
  obtain ⟨j', hj', hb'⟩ := List.mem_flatMap.1 hy
  have := (h2 i j i' j' x hi (by simpa using hj) hi' (by simpa using hj') hb hb').1
  omega

theorem OpOk.storeVp {D : Tab} (hD : TabOk P D) {o : Oper} {e : Operand → V} {H : Hp} {t : TypeId} {a x : Operand} {it : Ty} {i k m b : Nat} {nn : Bool} {ety : TypeId} {rows : List (List V)} {row cs ys : List V} {C : List Nat}
  (ho : o.op = .store t a x) (ht : D.at t = some it) (ha : e a = .vp i k m b) (hi : look H i = some (.vec nn ety k rows)) (hrow : rows[m]? = some row) (hx : cellsV H (e x) = some cs) (habs : absL H cs = some (ys, C)) (hC : C.Nodup) (hiC : i ∉ C)
  (hsz : cs.length = it.size) (hfit : b + cs.length ≤ k) :
  OpOk P G o e H .junk ((i, .vec nn ety k (rows.set m (putAt row ys b))) :: hrem (i :: C) H) [] := by
 intro ρ S F η w hη hH hG
 have h1 := hη a (by simp [ho, Op.operands])
 have h2 := (hη x (by simp [ho, Op.operands])).cells hH hx
 rw [ha] at h1
 obtain ⟨r, hr, hob⟩ := hH.obj i _ hi
 have hndi := hH.nodup i _ hi
 obtain ⟨g, n, cap, e1, e2⟩ := h1.vp_inv r hr
 obtain ⟨hyl, hlive, Cs, hCs, hget⟩ := absL_sound hH cs habs
 have hm : m < rows.length := (List.getElem?_eq_some_iff.1 hrow).1
 have hrl : row.length = k := by
  generalize F i = Fi at hob
  cases hob with
  | vnil => simp at hrow
  | vec _ _ _ _ _ _ _ _ _ _ _ _ _ hk => exact hk m row hrow
 have hrowlen : (putAt row ys b).length = k := by
  unfold putAt
  simp only [List.length_append, List.length_take, List.length_drop]; omega
 have hrows' : ∀ (q : Nat) (r' : List V), (rows.set m (putAt row ys b))[q]? = some r' → (q = m ∧ r' = putAt row ys b) ∨ (q ≠ m ∧ rows[q]? = some r') := fun q r' hq => by
  rw [List.getElem?_set] at hq
  by_cases h : m = q
  ·rw [if_pos h, if_pos hm] at hq
   exact .inl ⟨h.symm, (Option.some.inj hq).symm⟩
  ·rw [if_neg h] at hq
   exact .inr ⟨fun h' => h h'.symm, hq⟩
 have hput : ∀ (j : Nat) (y : V), (putAt row ys b)[j]? = some y → (b ≤ j ∧ j < b + cs.length ∧ ys[j - b]? = some y) ∨ ((j < b ∨ b + cs.length ≤ j) ∧ row[j]? = some y) := fun j y hj => by
  have hlt := (List.getElem?_eq_some_iff.1 hj).1
  rw [hrowlen] at hlt
  unfold putAt at hj
  rw [List.append_assoc] at hj
  by_cases hb : j < b
  ·rw [List.getElem?_append_left (by simp; omega), List.getElem?_take, if_pos hb] at hj
   exact .inr ⟨.inl hb, hj⟩
  ·rw [List.getElem?_append_right (by simp; omega)] at hj
   simp only [List.length_take] at hj
   rw [show j - min b row.length = j - b by omega] at hj
   by_cases hb2 : j - b < ys.length
   ·rw [List.getElem?_append_left hb2] at hj
    exact .inl ⟨by omega, by omega, hj⟩
   ·rw [List.getElem?_append_right (by omega), List.getElem?_drop] at hj
    rw [show b + ys.length + (j - b - ys.length) = j by omega] at hj
    exact .inr ⟨.inr (by omega), hj⟩
 -- the object
 have hobj : ∃ (arr : Array Value) (cc : Nat → Nat → Value) (Fs : Nat → Nat → List Nat), r = .slice (some ⟨g, 0, none⟩) rows.length cap ∧ F i = g :: flat rows.length k Fs ∧ w.heap[g]? = some (.cells arr ety (0, 0)) ∧ rows.length ≤ cap ∧ cap ≤ maxLen ∧ arr.size = cap * k ∧
   (∀ (i : Nat) (r : List V), rows[i]? = some r → r.length = k) ∧ (∀ (i j : Nat) (r : List V) (x : V), rows[i]? = some r → r[j]? = some x → arr[i * k + j]? = some (cc i j)) ∧ (∀ (i j : Nat) (r : List V) (x : V), rows[i]? = some r → r[j]? = some x → RD S w (cc i j) x (Fs i j)) := by
  generalize F i = Fi at hob
  cases hob with
  | vnil => simp at hrow
  | vec g' cap' arr _ _ _ _ cc Fs hh hcap hmax hasz hk hc hrd =>
   cases e1
   exact ⟨arr, cc, Fs, rfl, rfl, hh, hcap, hmax, hasz, hk, hc, hrd⟩
 obtain ⟨arr, cc, Fs, hroot, hFi, hh, hcap, hmax, hasz, hk, hc, hrd⟩ := hobj
 have hmk : m * k + k ≤ cap * k := by
  have := Nat.mul_le_mul_right k (show m + 1 ≤ cap by omega)
  rw [Nat.add_mul, Nat.one_mul] at this; exact this
 have hlen : (η x).cells.toList.length = cs.length := by simpa using h2.1
 have hst := run_storeCells_at P g (m * k + b) ety (η x).cells.toList 0 arr w hh (by rw [hlen, hasz]; omega) (fun v hv => by
  obtain ⟨p, hp⟩ := List.getElem?_of_mem hv
  exact h2.2.1 p v (by simpa using hp))
 simp only [Nat.add_zero] at hst
 let out : Array Value := (arr.toList.take (m * k + b) ++ (η x).cells.toList ++ arr.toList.drop (m * k + b + (η x).cells.toList.length)).toArray
 have hrun : (execOp η o).run P w = .ok .skip (w.setRow g out) := by
  unfold execOp
  simp only [ho, Instr.storeAt, Instr.sureAddr, e2, storeVar, Sem.run_bind, Sem.run_pure, Result.andThen_ok, (hD _ _ ht).sizeOf w]
  rw [if_neg (by have := h2.1; omega)]
  simp only [hst, Result.andThen_ok]
  rfl
 unfold ExecTo
 rw [hrun]
 have hkeep : ∀ b, b ≠ g → (w.setRow g out).heap[b]? = w.heap[b]? := fun b hb => setRow_other w g b _ hb
 have hgS : ¬ S g := hH.sep i _ g hi (by rw [hFi]; simp)
 have hkS : Keeps S w S (w.setRow g out) := fun b hb => ⟨hb, hkeep b fun e => hgS (e ▸ hb)⟩
 have hout : ∀ p, out[p]? = if p < m * k + b then arr[p]? else if p < m * k + b + cs.length then (η x).cells[p - (m * k + b)]? else arr[p]? := fun p => by
  simp only [out, List.getElem?_toArray]
  rw [splice_get _ _ _ _ (by simp; omega), hlen]
  simp only [Array.getElem?_toList]
  by_cases h1 : p < m * k + b
  ·rw [if_neg (by omega), if_pos h1]
  ·rw [if_neg h1]
   by_cases h2 : p < m * k + b + cs.length
   ·rw [if_pos ⟨by omega, h2⟩, if_pos h2]
   ·rw [if_neg (by omega), if_neg h2]
 have hoisz : out.size = cap * k := by
  simp only [out, List.size_toArray, List.length_append, List.length_take, List.length_drop, Array.length_toList]
  have := h2.1
  omega
 have hblk : ∀ c o', c ∈ C → look H c = some o' → g ∉ F c := fun c o' hcC hl hb => hH.disj c i o' _ g hl hi (fun e => hiC (e ▸ hcC)) hb (by rw [hFi]; simp)
 -- whose the blocks are
 let Gs : Nat → Nat → List Nat := fun q j => if q = m ∧ b ≤ j ∧ j < b + cs.length then (Cs (j - b)).flatMap F else Fs q j
 let gg : Nat → Nat → Value := fun q j => out.getD (q * k + j) undef
 have hCsC : ∀ p c, p < cs.length → c ∈ Cs p → c ∈ C := fun p c hp hc => by rw [hCs]; exact List.mem_flatMap.2 ⟨p, by simpa using hp, hc⟩
 have idx : ∀ q j, q ≠ m → j < k → (q * k + j < m * k ∨ m * k + k ≤ q * k + j) := fun q j hne hj => by
  rcases Nat.lt_or_gt_of_ne hne with h | h
  ·left
   have := Nat.mul_le_mul_right k (show q + 1 ≤ m by omega)
   rw [Nat.add_mul, Nat.one_mul] at this; omega
  ·right
   have := Nat.mul_le_mul_right k (show m + 1 ≤ q by omega)
   rw [Nat.add_mul, Nat.one_mul] at this; omega
 have cell : ∀ (q j : Nat) (r' : List V) (y : V), (rows.set m (putAt row ys b))[q]? = some r' → r'[j]? = some y → ∃ c, out[q * k + j]? = some c ∧ RD S (w.setRow g out) c y (Gs q j) := by
  intro q j r' y hq hj
  have hjk : j < k := by
   have h' := (List.getElem?_eq_some_iff.1 hj).1
   rcases hrows' q r' hq with ⟨_, rfl⟩ | ⟨_, hq'⟩
   ·omega
   ·rw [hk q r' hq'] at h'; exact h'
  have stay : ∀ (r0 : List V), rows[q]? = some r0 → r0[j]? = some y → (¬ (q = m ∧ b ≤ j ∧ j < b + cs.length)) → ∃ c, out[q * k + j]? = some c ∧ RD S (w.setRow g out) c y (Gs q j) := by
   intro r0 hr0 hj0 hno
   refine ⟨cc q j, ?_, ?_⟩
   ·rw [hout]
    have : (q * k + j < m * k + b ∨ m * k + b + cs.length ≤ q * k + j) := by
     by_cases hqm : q = m
     ·subst hqm
      have : ¬ (b ≤ j ∧ j < b + cs.length) := fun h => hno ⟨rfl, h⟩
      omega
     ·rcases idx q j hqm hjk with h | h <;> omega
    rcases this with h | h
    ·rw [if_pos h]; exact hc q j r0 y hr0 hj0
    ·rw [if_neg (by omega), if_neg (by omega)]; exact hc q j r0 y hr0 hj0
   ·simp only [Gs]
    rw [if_neg hno]
    refine (hrd q j r0 y hr0 hj0).mono hkS fun b' hb' => hkeep b' fun e => ?_
    rw [hFi, List.nodup_cons] at hndi
    refine hndi.1 (mem_flat.2 ⟨q, j, (List.getElem?_eq_some_iff.1 hr0).1, hjk, ?_⟩)
    exact e ▸ hb'
  rcases hrows' q r' hq with ⟨rfl, rfl⟩ | ⟨hne, hq'⟩
  ·rcases hput j y hj with ⟨hb1, hb2, hy⟩ | ⟨hb1, hy⟩
   ·obtain ⟨x0, hx0, hax⟩ := hget _ y hy
    obtain ⟨c, hc1, hc2⟩ := h2.2.2 _ x0 hx0
    obtain ⟨Fx, hd, rfl, _, hlv⟩ := absV_sound hH hax hc2
    refine ⟨c, ?_, ?_⟩
    ·rw [hout, if_neg (by omega), if_pos (by omega), show q * k + j - (q * k + b) = j - b by omega]
     exact hc1
    ·simp only [Gs]
     rw [if_pos ⟨trivial, hb1, hb2⟩]
     refine hd.mono hkS fun b' hb' => hkeep b' fun e => ?_
     obtain ⟨c', hc', hbc⟩ := List.mem_flatMap.1 hb'
     obtain ⟨o', ho'⟩ := hlv c' hc'
     exact hblk c' o' (hCsC _ c' (by omega) hc') ho' (e ▸ hbc)
   ·exact stay row hrow hy (fun h => by omega)
  ·exact stay r' hq' hj (fun h => hne h.1)
 have hC2 : (C.flatMap F).Nodup := nodup_flatMap_of hC (fun c hc => by obtain ⟨o', ho'⟩ := hlive c hc; exact hH.nodup c o' ho') (fun c c' b' hc hc' hne hb hb' => by
  obtain ⟨o1, ho1⟩ := hlive c hc
  obtain ⟨o2, ho2⟩ := hlive c' hc'
  exact hH.disj c c' o1 o2 b' ho1 ho2 hne hb hb')
 have hndi2 := hndi
 rw [hFi, List.nodup_cons] at hndi2
 have hFs := flat_nodup.1 hndi2.2
 have hCsn : ((List.range cs.length).flatMap fun p => (Cs p).flatMap F).Nodup := by rw [← List.flatMap_assoc, ← hCs]; exact hC2
 have hCs1 := (flat_nodup (n := 1) (k := cs.length) (Fs := fun _ p => (Cs p).flatMap F)).1 (by simpa [flat] using hCsn)
 have mixed : ∀ (p : Nat) (q j b' : Nat), p < cs.length → q < rows.length → j < k → b' ∈ (Cs p).flatMap F → b' ∈ Fs q j → False := fun p q j b' hp hq hj hb hb' => by
  obtain ⟨c', hc', hbc⟩ := List.mem_flatMap.1 hb
  obtain ⟨o', ho'⟩ := hlive c' (hCsC p c' hp hc')
  exact hH.disj c' i o' _ b' ho' hi (fun e => hiC (e ▸ hCsC p c' hp hc')) hbc (by rw [hFi]; exact List.mem_cons_of_mem _ (mem_flat.2 ⟨q, j, hq, hj, hb'⟩))
 have hGn : (flat rows.length k Gs).Nodup := by
  rw [flat_nodup]
  refine ⟨fun q j hq hj => ?_, fun q j q' j' b' hq hj hq' hj' hb hb' => ?_⟩
  ·simp only [Gs]
   split
   ·exact hCs1.1 0 (j - b) (by omega) (by omega)
   ·exact hFs.1 q j hq hj
  ·simp only [Gs] at hb hb'
   split at hb
   ·rename_i h1
    split at hb'
    ·rename_i h2
     have := (hCs1.2 0 (j - b) 0 (j' - b) b' (by omega) (by omega) (by omega) (by omega) hb hb').2
     omega
    ·exact (mixed (j - b) q' j' b' (by omega) hq' hj' hb hb').elim
   ·split at hb'
    ·exact (mixed (j' - b) q j b' (by omega) hq hj hb' hb).elim
    ·exact hFs.2 q j q' j' b' hq hj hq' hj' hb hb'
 have hGmem : ∀ b', b' ∈ flat rows.length k Gs → b' ∈ flat rows.length k Fs ∨ ∃ c, c ∈ C ∧ b' ∈ F c := fun b' hb => by
  obtain ⟨q, j, hq, hj, hb⟩ := mem_flat.1 hb
  simp only [Gs] at hb
  split at hb
  ·obtain ⟨c', hc', hbc⟩ := List.mem_flatMap.1 hb
   exact .inr ⟨c', hCsC _ c' (by omega) hc', hbc⟩
  ·exact .inl (mem_flat.2 ⟨q, j, hq, hj, hb⟩)
 have hlen2 : (rows.set m (putAt row ys b)).length = rows.length := by simp
 refine Post.upd hH (i :: C) (w' := w.setRow g out) (i := i) (root := r) (Fi := g :: flat rows.length k Gs) hr rfl rfl rfl (by simp) (fun b' hb' hno => hkeep b' fun e => hno i _ (by simp) hi (by rw [hFi, e]; simp)) (fun ρ' => ?_) ?_ (fun b' hb => ?_) (.junk _)
 ·rw [hroot]
  have hlr : Value.slice (some ⟨g, 0, none⟩) rows.length cap = Value.slice (some ⟨g, 0, none⟩) (rows.set m (putAt row ys b)).length cap := by rw [hlen2]
  rw [hlr, show flat rows.length k Gs = flat (rows.set m (putAt row ys b)).length k Gs by rw [hlen2]]
  refine .vec g cap out nn ety k _ gg Gs (setRow_heap w g arr _ ety _ hh) (by rw [hlen2]; exact hcap) hmax hoisz (fun q r' hq => ?_) (fun q j r' y hq hj => ?_) (fun q j r' y hq hj => ?_)
  ·rcases hrows' q r' hq with ⟨_, rfl⟩ | ⟨_, hq'⟩
   ·exact hrowlen
   ·exact hk q r' hq'
  ·obtain ⟨c, hc1, _⟩ := cell q j r' y hq hj
   simp [gg, Array.getD_eq_getD_getElem?, hc1]
  ·obtain ⟨c, hc1, hc2⟩ := cell q j r' y hq hj
   have : gg q j = c := by simp [gg, Array.getD_eq_getD_getElem?, hc1]
   rw [this]; exact hc2
 ·rw [List.nodup_cons]
  refine ⟨fun hg => ?_, hGn⟩
  rcases hGmem g hg with h | ⟨c, hc, hb⟩
  ·exact hndi2.1 h
  ·obtain ⟨o', ho'⟩ := hlive c hc
   exact hblk c o' hc ho' hb
 ·rcases List.mem_cons.1 hb with rfl | hb
  ·exact .inl ⟨i, _, by simp, hi, by rw [hFi]; simp⟩
  ·rcases hGmem b' hb with h | ⟨c, hc, hb⟩
   ·exact .inl ⟨i, _, by simp, hi, by rw [hFi]; exact List.mem_cons_of_mem _ h⟩
   ·obtain ⟨o', ho'⟩ := hlive c hc
    exact .inl ⟨c, o', by simp [hc], ho', hb⟩

def V.clean : V → V
 | .sl _ true _ => .junk
 | x => x

theorem RD.clean {ρ : Nat → Option Value} {S : Nat → Prop} {w : World} {v : Value} {x : V} {F : List Nat} (h : RD S w v x F) : RV ρ S w v x.clean := by
 cases h with
 | c v h => exact .c v
 | nils x => cases x <;> first | exact .junk _ | exact .sl _ _ _ _ (.nils _)
 | shr a cap nn rows k cs hlen hcap hk hc hr => exact .sl _ _ _ _ (.shr a cap nn rows k cs hlen hcap hk hc hr)
 | exc => exact .junk _

theorem OpOk.loadVp {D : Tab} (hD : TabOk P D) {o : Oper} {e : Operand → V} {H : Hp} {t : TypeId} {a : Operand} {i k m b : Nat} {nn : Bool} {ety : TypeId} {rows : List (List V)} {row : List V} {v : V}
  (ho : o.op = .load t a) (ha : e a = .vp i k m b) (hi : look H i = some (.vec nn ety k rows)) (hrow : rows[m]? = some row) (hv : takeV D t ((row.drop b).map V.clean) = some v) : OpOk P G o e H v H [] := by
 refine OpOk.pure fun ρ S F η w hη hH => ?_
 have h1 := hη a (by simp [ho, Op.operands])
 rw [ha] at h1
 obtain ⟨r, hr, hob⟩ := hH.obj i _ hi
 obtain ⟨g, n, cap, e1, e2⟩ := h1.vp_inv r hr
 unfold execOp
 simp only [ho, e2]
 generalize F i = Fi at hob
 cases hob with
 | vnil => simp at hrow
 | vec g' cap' arr _ _ _ _ cc Fs hh hcap hmax hasz hk hc hrd =>
  cases e1
  obtain ⟨u, hu, hrv⟩ := takeV_sound hD hv (ρ := ρ) (S := S) (w := w) (a := ⟨g, m * k + b, none⟩) (cc := fun j => cc m (b + j)) fun j x hx => by
   rw [List.getElem?_map, Option.map_eq_some_iff] at hx
   obtain ⟨y, hy, rfl⟩ := hx
   rw [List.getElem?_drop] at hy
   have hcell := hc m (b + j) row y hrow hy
   rw [Addr.add_lit, cell_of_row w g (m * k + b + j) arr ety (0, 0) hh, show m * k + b + j = m * k + (b + j) by omega]
   exact ⟨hcell, (hrd m (b + j) row y hrow hy).one, (hrd m (b + j) row y hrow hy).clean⟩
  exact ⟨u, by simp [Instr.loadAt, Instr.sureAddr, hu], hrv⟩

end
end Go.Av

namespace Go.Av

section
variable {P : Program} {G : Nat → Option (List V)}

theorem OpOk.makeSlice {D : Tab} (hD : TabOk P D) {o : Oper} {e : Operand → V} {H : Hp} {t el : TypeId} {l c : Operand} {it ie : Ty} (q n : Nat) {kl kc : IntKind} {nl nc : Int}
  (ho : o.op = .makeSlice t l c) (ht : D.at t = some it) (hit : it.d = .slice el) (hel : D.at el = some ie) (_hs0 : ie.size ≠ 0) (hl : e l = .c (.int kl nl)) (hc : e c = .c (.int kc nc)) (hnl : nl = n) (hnc : nc = n)
  (hb : ie.bytes * n ≤ 281474976710656) (hmax : n ≤ maxLen) (hq : hasH q H = false) :
  OpOk P G o e H (.own q) ((q, .vec false el ie.size (List.replicate n (ie.zero.map .c))) :: hrem [] H) [q] := by
 intro ρ S F η w hη hH hG
 have h1 := hη l (by simp [ho, Op.operands])
 have h2 := hη c (by simp [ho, Op.operands])
 rw [hl] at h1
 rw [hc] at h2
 obtain ⟨⟨inf, z0, e1, e2, e3, e4, e5, e6, e7⟩, _, _⟩ := hD _ _ hel
 have hzs : z0.cells.size = ie.size := by rw [← Array.length_toList, e5, e7]
 subst hnl hnc
 have hb' : (inf.bytes : Int) * (n : Int) ≤ 281474976710656 := by
  rw [e3]
  have h : ((ie.bytes * n : Nat) : Int) ≤ 281474976710656 := by omega
  rwa [Int.natCast_mul] at h
 have hr := run_make (P := P) w t el inf z0 (slice_ty hD ht hit) e1 e4 kl kc n n (by omega) (Int.le_refl _) hb' (by simp only [maxLen] at hmax; omega)
 simp only [Int.toNat_natCast] at hr
 have hrun : (execOp η o).run P w = .ok (.value (.slice (some ⟨w.heap.size, 0, none⟩) n n)) (w.alloc (.cells (madeCells z0.cells (n * inf.size)) el)) := by
  unfold execOp
  simp only [ho, h1.c_inv, h2.c_inv, hr, Sem.run_bind, Result.andThen_ok, Sem.run_pure]
 unfold ExecTo
 rw [hrun, e2]
 have hrow : ∀ (i : Nat) (r : List V), (List.replicate n (ie.zero.map V.c))[i]? = some r → i < n ∧ r = ie.zero.map V.c := fun i r hi => by
  rw [List.getElem?_replicate] at hi
  split at hi
  ·cases hi; exact ⟨‹_›, rfl⟩
  ·cases hi
 have hcell : ∀ (i j : Nat) (r : List V) (y : V), (List.replicate n (ie.zero.map V.c))[i]? = some r → r[j]? = some y → ∃ u, ie.zero[j]? = some u ∧ y = .c u ∧ (madeCells z0.cells (n * ie.size))[i * ie.size + j]? = some u := fun i j r y hi hj => by
  obtain ⟨hin, rfl⟩ := hrow i r hi
  rw [List.getElem?_map, Option.map_eq_some_iff] at hj
  obtain ⟨u, hu, rfl⟩ := hj
  refine ⟨u, hu, rfl, ?_⟩
  have hjk : j < ie.size := by rw [← e7]; exact (List.getElem?_eq_some_iff.1 hu).1
  unfold madeCells
  rw [Array.getElem?_map, Array.getElem?_range, if_pos (idx_lt hin hjk)]
  simp only [Option.map_some, hzs]
  have hmod : (i * ie.size + j) % ie.size = j := by rw [Nat.mul_comm, Nat.mul_add_mod]; exact Nat.mod_eq_of_lt hjk
  rw [hmod, getElem!_pos z0.cells j (by rw [hzs]; exact hjk)]
  rw [← e5] at hu
  have := (List.getElem?_eq_some_iff.1 hu).2
  simpa using this
 have hlen : (List.replicate n (ie.zero.map V.c)).length = n := by simp
 refine Post.repl hH [] hq (w' := w.alloc (.cells (madeCells z0.cells (n * ie.size)) el)) (root := .slice (some ⟨w.heap.size, 0, none⟩) n n) (Fi := w.heap.size :: flat n ie.size fun _ _ => []) rfl rfl rfl (by simp) (fun b hb _ => heap_new w _ b hb) (fun ρ' => ?_) ?_ (fun b hb => ?_) (.own _ q fun r hr => ?_)
 ·have h0 : Value.slice (some ⟨w.heap.size, 0, none⟩) n n = Value.slice (some ⟨w.heap.size, 0, none⟩) (List.replicate n (ie.zero.map V.c)).length n := by rw [hlen]
  rw [h0, show flat n ie.size (fun _ _ => []) = flat (List.replicate n (ie.zero.map V.c)).length ie.size (fun _ _ => []) by rw [hlen]]
  refine .vec w.heap.size n _ false el ie.size _ (fun i j => (madeCells z0.cells (n * ie.size)).getD (i * ie.size + j) undef) (fun _ _ => []) (heap_alloc_new w _) (by rw [hlen]; exact Nat.le_refl _) hmax (by simp [madeCells]) (fun i r h => by obtain ⟨_, rfl⟩ := hrow i r h; simp [e7]) (fun i j r y h1 h2 => ?_) (fun i j r y h1 h2 => ?_)
  ·obtain ⟨u, hu, _, hm⟩ := hcell i j r y h1 h2
   simp [Array.getD_eq_getD_getElem?, hm]
  ·obtain ⟨u, hu, rfl, hm⟩ := hcell i j r y h1 h2
   have : (madeCells z0.cells (n * ie.size)).getD (i * ie.size + j) undef = u := by simp [Array.getD_eq_getD_getElem?, hm]
   rw [this]
   exact .c u (List.all_eq_true.1 e6 u (List.mem_of_getElem? hu))
 ·rw [List.nodup_cons]
  refine ⟨fun h => ?_, ?_⟩
  ·obtain ⟨i, j, _, _, hb⟩ := mem_flat.1 h; cases hb
  ·rw [flat_nodup]; exact ⟨fun _ _ _ _ => List.nodup_nil, fun _ _ _ _ _ _ _ _ _ hb => by cases hb⟩
 ·rcases List.mem_cons.1 hb with rfl | hb
  ·exact .inr ⟨Nat.le_refl _, by simp⟩
  ·obtain ⟨i, j, _, _, hb⟩ := mem_flat.1 hb; cases hb
 ·simp at hr; exact hr

theorem u8_ty {D : Tab} (hD : TabOk P D) {t : TypeId} {it : Ty} (ht : D.at t = some it) (hit : it.d = .int .u8) : P.underlying t = some (.int .u8) := by
 obtain ⟨_, ⟨d, u1, u2⟩, _⟩ := hD _ _ ht
 rw [hit] at u2
 have hd : d = .int .u8 := by cases d <;> simp_all [TD.is]
 subst hd
 exact u1

theorem OpOk.strOwn {D : Tab} (hD : TabOk P D) {o : Oper} {e : Operand → V} {H : Hp} {t el t' : TypeId} {x : Operand} {it ie it' : Ty} {i : Nat} {nn : Bool} {ety : TypeId} {l : List UInt8}
  (ho : o.op = .convert t t' x) (ht : D.at t = some it) (hit : it.d = .slice el) (hel : D.at el = some ie) (hie : ie.d = .int .u8) (ht' : D.at t' = some it') (hit' : it'.d = .str) (hx : e x = .own i) (hi : look H i = some (.vec nn ety 1 (l.map byteRow))) :
  OpOk P G o e H (V.s l) H [] := by
 refine OpOk.pure fun ρ S F η w hη hH => ?_
 have h1 := hη x (by simp [ho, Op.operands])
 rw [hx] at h1
 obtain ⟨r, hr, hob⟩ := hH.obj i _ hi
 have hxr := h1.own_inv r hr
 refine ⟨.string ⟨⟨l⟩⟩, ?_, .c _⟩
 unfold execOp
 simp only [ho, hxr]
 generalize F i = Fi at hob
 generalize hrows : l.map byteRow = rows at hob
 cases hob with
 | vnil =>
  have : l = [] := by simpa using hrows
  subst this
  have hs := slice_ty hD ht hit
  have he := u8_ty hD hel hie
  have hd := str_ty hD ht' hit'
  simp only [Sem.run_bind, run_convert_bytes_string w t t' el none 0 0 hs he hd, Conv.bytesToString, Sem.run_pure, Result.andThen_ok]
  rfl
 | vec g cap arr _ _ _ _ cs Fs hh hcap hmax hsz hk hc hrd =>
  have hl : rows.length = l.length := by rw [← hrows]; simp
  rw [hl]
  have := run_convert_bytes_back (P := P) w t t' el ⟨g, 0, none⟩ cap l (slice_ty hD ht hit) (u8_ty hD hel hie) (str_ty hD ht' hit') fun j hj => by
   have hrj : rows[j]? = some (byteRow l[j]) := by rw [← hrows, List.getElem?_map, List.getElem?_eq_getElem hj]; rfl
   have h3 := hc j 0 _ (.c (.int .u8 (l[j].toNat : Int))) hrj rfl
   have h4 := hrd j 0 _ (.c (.int .u8 (l[j].toNat : Int))) hrj rfl
   rw [Addr.add_lit, cell_of_row w g (0 + j) arr ety (0, 0) hh]
   have hv : cs j 0 = .int .u8 (l[j].toNat : Int) := by
    generalize Fs j 0 = F0 at h4
    generalize cs j 0 = c0 at h4
    cases h4; rfl
   rw [← hv, show 0 + j = j * 1 + 0 by omega]
   exact h3
  simp only [Sem.run_bind, this, Result.andThen_ok, Sem.run_pure]

end
end Go.Av

