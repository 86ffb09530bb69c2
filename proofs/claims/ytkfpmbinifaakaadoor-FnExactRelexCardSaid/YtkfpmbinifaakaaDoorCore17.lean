/-
  Core17: the law of the drawn regions.
-/
import Derived.Test.YtkfpmbinifaakaaDoorCore16
namespace Go.Av

section
variable {P : Program} {G : Nat → Option (List V)}

structure Inv (ops : Array Oper) (Es : List (Bool × Eff)) (T0 : List V) (H0 : Hp) (L : Nat → Prop) (T : List V) (H : Hp) : Prop where
  len : T.length = T0.length
  set : ∀ s j o E, L j → ops[j]? = some o → o.dst = some s → Es[j]? = some E → T[s]? = (T0[s]?).map fun _ => E.2.v
  old : ∀ s, (∀ j o, L j → ops[j]? = some o → o.dst ≠ some s) → T[s]? = T0[s]?
  top : ∀ x j E, L j → Es[j]? = some E → E.2.touch x = true → (∀ j' E', L j' → Es[j']? = some E' → E'.2.touch x = true → j' ≤ j) → look H x = look E.2.new x
  bot : ∀ x, (∀ j E, L j → Es[j]? = some E → E.2.touch x = false) → look H x = look H0 x
  has : ∀ x, hasH x H = true → hasH x H0 = true ∨ ∃ j E, L j ∧ Es[j]? = some E ∧ hasH x E.2.new = true
  hasT : ∀ x, V.hasL x T = true → V.hasL x T0 = true ∨ ∃ j E, L j ∧ Es[j]? = some E ∧ E.2.v.has x = true

theorem Inv.start (ops : Array Oper) (Es : List (Bool × Eff)) (T0 : List V) (H0 : Hp) {L : Nat → Prop} (hL : ∀ j, ¬ L j) : Inv ops Es T0 H0 L T0 H0 :=
  ⟨rfl, fun _ j _ _ h => (hL j h).elim, fun _ _ => rfl, fun _ j _ h => (hL j h).elim, fun _ _ => rfl, fun _ h => .inl h, fun _ h => .inl h⟩

theorem setO_get {T : List V} {d : Option Tmp} {v : V} {s : Nat} : (setO T d v)[s]? = if d = some s then (T[s]?).map fun _ => v else T[s]? := by
  cases d with
  | none => simp [setO]
  | some t =>
    simp only [setO, List.getElem?_set, Option.some.injEq]
    by_cases h : t = s
    · subst h
      simp only [if_true]
      split
      · rw [List.getElem?_eq_getElem ‹_›]; rfl
      · rw [List.getElem?_eq_none (by omega)]; rfl
    · simp [h]

theorem setO_len (T : List V) (d : Option Tmp) (v : V) : (setO T d v).length = T.length := by cases d <;> simp [setO]

/-- distinct slots; an operation that touches what another touches comes behind it if the text has it so -/
structure Fair (ops : Array Oper) (Es : List (Bool × Eff)) (T0 : List V) (H0 : Hp) : Prop where
  len : Es.length = ops.size
  back : ∀ (j : Nat) o (e : Edge), ops[j]? = some o → e ∈ o.after → Region.binds .any e = true → e.on < j
  fresh : ∀ (j : Nat) (E : Bool × Eff) k, Es[j]? = some E → k ∈ E.2.N → 100 ≤ k ∧ V.hasL k T0 = false ∧ hasH k H0 = false
  pair : ∀ i j, i < j → j < ops.size → pairOk ops (cloL ops.toList []) Es i j = true

theorem okAny_fair {ops : Array Oper} {T0 : List V} {H0 : Hp} {Es : List (Bool × Eff)} (hl : Es.length = ops.size) (h : okAny ops T0 H0 Es = true) : Fair ops Es T0 H0 := by
  unfold okAny at h
  simp only [List.all_eq_true, List.mem_range, Bool.and_eq_true] at h
  refine ⟨hl, fun j o e ho he hb => ?_, fun j E k hE hk => ?_, fun i j hij hj => (h j hj).2 i hij⟩
  · have hj : j < ops.size := (Array.getElem?_eq_some_iff.1 ho).1
    have h1 := (h j hj).1.1
    rw [ho] at h1
    simp only [Array.all_eq_true_iff_forall_mem, Bool.or_eq_true, Bool.not_eq_true'] at h1
    rcases h1 e he with h1 | h1
    · rw [hb] at h1; cases h1
    · rw [Nat.blt_eq] at h1; exact h1
  · have hj : j < ops.size := by rw [← hl]; exact (List.getElem?_eq_some_iff.1 hE).1
    have h1 := (h j hj).1.2
    rw [hE] at h1
    simp only [List.all_eq_true, Bool.and_eq_true, Bool.not_eq_true', Nat.ble_eq] at h1
    have := h1 k hk
    exact ⟨this.1.1, this.1.2, this.2⟩

/-- the two are in order, or have nothing to do with one another -/
theorem Fair.two {ops : Array Oper} {Es : List (Bool × Eff)} {T0 : List V} {H0 : Hp} (h : Fair ops Es T0 H0) {i j : Nat} (hij : i < j) {x y : Oper} {E F : Bool × Eff} (hx : ops[i]? = some x) (hy : ops[j]? = some y) (hE : Es[i]? = some E) (hF : Es[j]? = some F) :
    (∀ d, x.dst = some d → y.dst ≠ some d) ∧ (∀ k, k ∈ F.2.N → E.2.v.has k = false ∧ hasH k E.2.new = false) ∧
    (((cloL ops.toList []).getD j 0).testBit i = true ∨ ((∀ d, x.dst = some d → d ∉ y.looksAt ops) ∧ (∀ d, y.dst = some d → d ∉ x.looksAt ops) ∧
      (∀ k, k ∈ F.2.R ∨ F.2.touch k = true → E.2.touch k = false) ∧ (∀ k, k ∈ E.2.R ∨ E.2.touch k = true → F.2.touch k = false) ∧ (∀ k, k ∈ E.2.N → F.2.v.has k = false ∧ hasH k F.2.new = false))) := by
  have hp := h.pair i j hij (Array.getElem?_eq_some_iff.1 hy).1
  unfold pairOk at hp
  obtain ⟨b, E⟩ := E
  obtain ⟨c, F⟩ := F
  simp only [hx, hy, hE, hF, Bool.and_eq_true, Bool.or_eq_true, List.all_eq_true, Bool.not_eq_true'] at hp
  refine ⟨fun d hd hd' => ?_, fun k hk => hp.1.2 k hk, hp.2.imp id fun ha => ?_⟩
  · have := hp.1.1
    rw [hd, hd'] at this
    simp at this
  · unfold apartE at ha
    simp only [Bool.and_eq_true, List.all_eq_true, Bool.not_eq_true'] at ha
    obtain ⟨⟨⟨⟨⟨⟨⟨⟨a1, a2⟩, a3⟩, a4⟩, a5⟩, a6⟩, a7⟩, a8⟩, a9⟩ := ha
    have tc : ∀ (A B : Eff), (∀ i, i ∈ A.C → B.touch i = false) → (∀ p, p ∈ A.new → B.touch p.1 = false) → ∀ k, A.touch k = true → B.touch k = false := by
      intro A B h1 h2 k hk
      unfold Eff.touch at hk
      simp only [Bool.or_eq_true, List.contains_iff_mem] at hk
      rcases hk with hk | hk
      · exact h1 k hk
      · obtain ⟨o, ho⟩ := Option.isSome_iff_exists.1 hk
        have hmem : ∀ (A : Hp), look A k = some o → ∃ p, p ∈ A ∧ p.1 = k := by
          intro A
          induction A with
          | nil => intro h; cases h
          | cons q A ih =>
            obtain ⟨j, o'⟩ := q
            intro h
            simp only [look] at h
            split at h
            · exact ⟨(j, o'), by simp, by simp_all⟩
            · obtain ⟨p, hp, e⟩ := ih h
              exact ⟨p, by simp [hp], e⟩
        obtain ⟨p, hp, rfl⟩ := hmem A.new ho
        exact h2 p hp
    refine ⟨fun d hd => ?_, fun d hd => ?_, fun k hk => ?_, fun k hk => ?_, fun k hk => a9 k hk⟩
    · rw [hd] at a1; simpa using a1
    · rw [hd] at a2; simpa using a2
    · rcases hk with hk | hk
      · exact a3 k hk
      · exact tc F E a6 a8 k hk
    · rcases hk with hk | hk
      · exact a4 k hk
      · exact tc E F a5 a7 k hk

/-- who comes before: of a set closed downward -/
theorem before_mem {ops : Array Oper} {L : Nat → Prop} (hL : Down ops L) {i j : Nat} {o : Oper} (ho : ops[i]? = some o) (hd : ∀ e, e ∈ o.after → Region.binds .any e = true → L e.on)
    (hb : ((cloL ops.toList []).getD i 0).testBit j = true) : L j :=
  cloL_spec hL ops.toList [] (by simp) (by simp) (fun i j o hi => by simp at hi) i j o ho hd hb

/-- of two sets closed downward in which i is next: what i looks at and touches is the same in both -/
theorem Inv.same {ops : Array Oper} {Es : List (Bool × Eff)} {T0 : List V} {H0 : Hp} (hF : Fair ops Es T0 H0) {L M : Nat → Prop} {T T' : List V} {H H' : Hp} (h : Inv ops Es T0 H0 L T H) (k : Inv ops Es T0 H0 M T' H')
    (hL : Down ops L) (hM : Down ops M) {i : Nat} {o : Oper} {E : Bool × Eff} (ho : ops[i]? = some o) (hE : Es[i]? = some E) (hiL : ¬ L i) (hiM : ¬ M i)
    (hdL : ∀ e, e ∈ o.after → Region.binds .any e = true → L e.on) (hdM : ∀ e, e ∈ o.after → Region.binds .any e = true → M e.on) (hLs : ∀ j, L j → j < ops.size) (_hMs : ∀ j, M j → j < ops.size) :
    (∀ d, d ∈ o.looksAt ops → T[d]? = T'[d]?) ∧ (∀ x, x ∈ E.2.R ∨ E.2.touch x = true → look H x = look H' x) ∧
    (∀ x j F, E.2.touch x = true → L j → Es[j]? = some F → F.2.touch x = true → j ≤ i) ∧ (∀ x j F, x ∈ E.2.R ∨ E.2.touch x = true → Es[j]? = some F → F.2.touch x = true → j ≠ i → (L j ↔ M j)) := by
  have hi : i < ops.size := (Array.getElem?_eq_some_iff.1 ho).1
  have getF : ∀ j, j < ops.size → ∃ y F, ops[j]? = some y ∧ Es[j]? = some F := fun j hj =>
    ⟨_, _, Array.getElem?_eq_getElem hj, List.getElem?_eq_getElem (by rw [hF.len]; exact hj)⟩
  -- a writer of a slot that i looks at
  have slotW : ∀ d j y, d ∈ o.looksAt ops → ops[j]? = some y → y.dst = some d → j ≠ i → (L j ↔ M j) := by
    intro d j y hd hy hyd hne
    obtain ⟨_, F, _, hFj⟩ := getF j (Array.getElem?_eq_some_iff.1 hy).1
    rcases Nat.lt_or_gt_of_ne hne with hlt | hgt
    · rcases (hF.two hlt hy ho hFj hE).2.2 with hb | hb
      · exact ⟨fun _ => before_mem hM ho hdM hb, fun _ => before_mem hL ho hdL hb⟩
      · exact absurd hd (hb.1 d hyd)
    · rcases (hF.two hgt ho hy hE hFj).2.2 with hb | hb
      · exact ⟨fun h => absurd (before_mem hL hy (fun e he hb' => hL j y e h hy he hb') hb) hiL, fun h => absurd (before_mem hM hy (fun e he hb' => hM j y e h hy he hb') hb) hiM⟩
      · exact absurd hd (hb.2.1 d hyd)
  have objW : ∀ x j F, x ∈ E.2.R ∨ E.2.touch x = true → Es[j]? = some F → F.2.touch x = true → j ≠ i → ((L j ↔ M j) ∧ (L j → j ≤ i) ∧ (M j → j ≤ i)) := by
    intro x j F hx hFj ht hne
    have hj : j < ops.size := by rw [← hF.len]; exact (List.getElem?_eq_some_iff.1 hFj).1
    obtain ⟨y, _, hy, _⟩ := getF j hj
    rcases Nat.lt_or_gt_of_ne hne with hlt | hgt
    · refine ⟨?_, fun _ => by omega, fun _ => by omega⟩
      rcases (hF.two hlt hy ho hFj hE).2.2 with hb | hb
      · exact ⟨fun _ => before_mem hM ho hdM hb, fun _ => before_mem hL ho hdL hb⟩
      · have := hb.2.2.1 x hx; rw [ht] at this; cases this
    · rcases (hF.two hgt ho hy hE hFj).2.2 with hb | hb
      · have n1 : ¬ L j := fun h => hiL (before_mem hL hy (fun e he hb' => hL j y e h hy he hb') hb)
        have n2 : ¬ M j := fun h => hiM (before_mem hM hy (fun e he hb' => hM j y e h hy he hb') hb)
        exact ⟨⟨fun h => absurd h n1, fun h => absurd h n2⟩, fun h => absurd h n1, fun h => absurd h n2⟩
      · have := hb.2.2.2.1 x hx; rw [ht] at this; cases this
  refine ⟨fun d hd => ?_, fun x hx => ?_, fun x j F hx hj hFj ht => ?_, fun x j F hx hFj ht hne => (objW x j F hx hFj ht hne).1⟩
  · by_cases hw : ∃ j y, L j ∧ ops[j]? = some y ∧ y.dst = some d
    · obtain ⟨j, y, hj, hy, hyd⟩ := hw
      obtain ⟨_, F, _, hFj⟩ := getF j (hLs j hj)
      have hne : j ≠ i := fun e => hiL (e ▸ hj)
      rw [h.set d j y F hj hy hyd hFj, k.set d j y F ((slotW d j y hd hy hyd hne).1 hj) hy hyd hFj]
    · rw [h.old d fun j y hj hy hyd => hw ⟨j, y, hj, hy, hyd⟩]
      rw [k.old d fun j y hj hy hyd => hw ⟨j, y, (slotW d j y hd hy hyd (fun e => hiM (e ▸ hj))).2 hj, hy, hyd⟩]
  · by_cases hw : ∃ j F, L j ∧ Es[j]? = some F ∧ F.2.touch x = true
    · -- the topmost
      have top : ∃ j F, L j ∧ Es[j]? = some F ∧ F.2.touch x = true ∧ ∀ j' F', L j' → Es[j']? = some F' → F'.2.touch x = true → j' ≤ j := by
        obtain ⟨j, F, hj⟩ := hw
        clear hx
        have : ∀ n j F, ops.size - j ≤ n → L j ∧ Es[j]? = some F ∧ F.2.touch x = true → ∃ j F, L j ∧ Es[j]? = some F ∧ F.2.touch x = true ∧ ∀ j' F', L j' → Es[j']? = some F' → F'.2.touch x = true → j' ≤ j := by
          intro n
          induction n with
          | zero => intro j F hn hj; have := hLs j hj.1; omega
          | succ n ih =>
            intro j F hn hj
            by_cases hm : ∃ j' F', L j' ∧ Es[j']? = some F' ∧ F'.2.touch x = true ∧ j < j'
            · obtain ⟨j', F', h1, h2, h3, h4⟩ := hm
              exact ih j' F' (by have := hLs j' h1; omega) ⟨h1, h2, h3⟩
            · refine ⟨j, F, hj.1, hj.2.1, hj.2.2, fun j' F' h1 h2 h3 => ?_⟩
              rcases Nat.lt_or_ge j j' with h4 | h4
              · exact absurd ⟨j', F', h1, h2, h3, h4⟩ hm
              · exact h4
        exact this _ j F (Nat.le_refl _) hj
      obtain ⟨j, F, hj, hFj, ht, hmax⟩ := top
      have hne : j ≠ i := fun e => hiL (e ▸ hj)
      rw [h.top x j F hj hFj ht hmax, k.top x j F ((objW x j F hx hFj ht hne).1.1 hj) hFj ht fun j' F' hj' hFj' ht' => ?_]
      have hne' : j' ≠ i := fun e => hiM (e ▸ hj')
      exact hmax j' F' ((objW x j' F' hx hFj' ht' hne').1.2 hj') hFj' ht'
    · rw [h.bot x fun j F hj hFj => ?_, k.bot x fun j F hj hFj => ?_]
      · cases ht : F.2.touch x with
        | false => rfl
        | true => exact absurd ⟨j, F, (objW x j F hx hFj ht (fun e => hiM (e ▸ hj))).1.2 hj, hFj, ht⟩ hw
      · cases ht : F.2.touch x with
        | false => rfl
        | true => exact absurd ⟨j, F, hj, hFj, ht⟩ hw
  · by_cases hne : j = i
    · omega
    · exact (objW x j F (.inr hx) hFj ht hne).2.1 hj

/-- one more operation -/
theorem Inv.step {ops : Array Oper} {Es : List (Bool × Eff)} {T0 : List V} {H0 : Hp} (hF : Fair ops Es T0 H0) {L : Nat → Prop} {T : List V} {H H' : Hp} (h : Inv ops Es T0 H0 L T H) {i : Nat} {o : Oper} {E : Bool × Eff} (ho : ops[i]? = some o) (hE : Es[i]? = some E)
    (hi : ¬ L i) (hle : ∀ x j F, E.2.touch x = true → L j → Es[j]? = some F → F.2.touch x = true → j ≤ i) (hH : ∀ x, look H' x = look (E.2.new ++ hrem E.2.C H) x) (hH2 : ∀ x, hasH x H' = true → hasH x E.2.new = true ∨ hasH x H = true) {L' : Nat → Prop} (hL' : ∀ j, L' j ↔ j = i ∨ L j) :
    Inv ops Es T0 H0 L' (setO T o.dst E.2.v) H' := by
  have dist : ∀ j y d, ops[j]? = some y → y.dst = some d → o.dst = some d → j = i := by
    intro j y d hy hyd hod
    obtain ⟨F, hFj⟩ : ∃ F, Es[j]? = some F := ⟨_, List.getElem?_eq_getElem (by rw [hF.len]; exact (Array.getElem?_eq_some_iff.1 hy).1)⟩
    rcases Nat.lt_trichotomy j i with hlt | he | hgt
    · exact absurd hod ((hF.two hlt hy ho hFj hE).1 d hyd)
    · exact he
    · exact absurd hyd ((hF.two hgt ho hy hE hFj).1 d hod)
  refine ⟨by rw [setO_len, h.len], fun s j y F hj hy hyd hFj => ?_, fun s hs => ?_, fun x j F hj hFj ht hmax => ?_, fun x hx => ?_, fun x hx => ?_, fun x hx => ?_⟩
  · rw [setO_get]
    split
    · rename_i hod
      have := dist j y s hy hyd hod
      subst this
      rw [hE] at hFj; cases hFj
      have hlen := h.len
      by_cases hs : s < T.length
      · have hs0 : s < T0.length := Nat.lt_of_lt_of_eq hs hlen
        rw [List.getElem?_eq_getElem hs, List.getElem?_eq_getElem hs0]; rfl
      · have h1 : T.length ≤ s := Nat.le_of_not_lt hs
        have h0 : T0.length ≤ s := Nat.le_trans (Nat.le_of_eq hlen.symm) h1
        rw [List.getElem?_eq_none h1, List.getElem?_eq_none h0]; first | done | rfl
    · rename_i hod
      rcases (hL' j).1 hj with rfl | hj
      · rw [ho] at hy; cases hy; exact absurd hyd hod
      · exact h.set s j y F hj hy hyd hFj
  · rw [setO_get, if_neg (hs i o ((hL' i).2 (.inl rfl)) ho)]
    exact h.old s fun j y hj hy => hs j y ((hL' j).2 (.inr hj)) hy
  · rw [hH, look_eff]
    rcases (hL' j).1 hj with rfl | hj'
    · rw [hE] at hFj; cases hFj
      rw [if_pos ht]
    · split
      · rename_i hti
        have h1 := hle x j F hti hj' hFj ht
        have h2 := hmax i E ((hL' i).2 (.inl rfl)) hE hti
        have : j = i := by omega
        exact absurd (this ▸ hj') hi
      · exact h.top x j F hj' hFj ht fun j' F' h1 h2 h3 => hmax j' F' ((hL' j').2 (.inr h1)) h2 h3
  · rw [hH, look_eff, if_neg (by rw [hx i E ((hL' i).2 (.inl rfl)) hE]; simp)]
    exact h.bot x fun j F hj hFj => hx j F ((hL' j).2 (.inr hj)) hFj
  · rcases hH2 x hx with h1 | h1
    · exact .inr ⟨i, E, (hL' i).2 (.inl rfl), hE, h1⟩
    · exact (h.has x h1).imp id fun ⟨j, F, h1, h2, h3⟩ => ⟨j, F, (hL' j).2 (.inr h1), h2, h3⟩
  · have : V.hasL x T = true ∨ E.2.v.has x = true := by
      cases hd : o.dst with
      | none => rw [hd] at hx; exact .inl hx
      | some d => rw [hd] at hx; exact hasL_set hx
    rcases this with h1 | h1
    · exact (h.hasT x h1).imp id fun ⟨j, F, h1, h2, h3⟩ => ⟨j, F, (hL' j).2 (.inr h1), h2, h3⟩
    · exact .inr ⟨i, E, (hL' i).2 (.inl rfl), hE, h1⟩

end
end Go.Av
