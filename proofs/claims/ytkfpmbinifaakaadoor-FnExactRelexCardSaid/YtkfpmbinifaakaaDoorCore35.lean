/-
  Core35: a function called with a slice that lies in a cell of one's own slice, which it writes: the three operations load, move, call at once.
-/
import Derived.Test.YtkfpmbinifaakaaDoorCore34
namespace Go.Av

section
variable {P : Program} {G : Nat → Option (List V)} {L : Option Nat} {B : Nat}

theorem OpsOk.wpThen {ops : Array Oper} {Q : Exit → Act → World → Prop} {rest : List Oper} (l : List Oper) : ∀ {st : St} {K : St → Prop}, OpsOk P G ops l st K →
    ∀ {ρ : Nat → Option Value} {S : Nat → Prop} {F : Nat → List Nat} {a : Act} {w : World}, StRel B G ρ S F st a w →
    (∀ st', K st' → Onto B G ρ S F st.H w st' (wpListIn (fen L) 0 P ops Q rest)) → wpListIn (fen L) 0 P ops Q (l ++ rest) a w := by
  induction l with
  | nil =>
    intro st K h ρ S F a w hst hn
    exact hn st h ρ S F a w hst (Evo.refl _ _ _) (AgF.refl _)
  | cons o l ih =>
    intro st K h ρ S F a w hst hn
    have go : Step P G o st (fun st' => OpsOk P G ops l st' K) → Region.wanted o (yielded ops a.tmps) = true → wpListIn (fen L) 0 P ops Q (o :: (l ++ rest)) a w := by
      intro hs hw
      unfold wpListIn
      rw [if_pos hw]
      refine (hs.wp hst fun st' h' ρ' S' F' a' w' hst' hE hA => ?_)
      exact ih h' hst' fun st2 h2 ρ2 S2 F2 a2 w2 hst2 hE2 hA2 => hn st2 h2 ρ2 S2 F2 a2 w2 hst2 (hE.trans hE2) (hA.trans hA2)
    unfold OpsOk at h
    cases hg : o.guard with
    | none =>
      rw [hg] at h
      exact go h (by simp [Region.wanted, hg])
    | some jb =>
      obtain ⟨j, b⟩ := jb
      rw [hg] at h
      obtain ⟨b', hgv, h⟩ := h
      have hy := yielded_gval hst hgv
      rcases h with ⟨rfl, h⟩ | ⟨hne, h⟩
      · exact go h (by simp [Region.wanted, hg, hy])
      · change wpListIn (fen L) 0 P ops Q (o :: (l ++ rest)) a w
        unfold wpListIn
        rw [if_neg (by simp [Region.wanted, hg, hy, hne])]
        refine ⟨fun _ _ => trivial, ?_⟩
        refine ih h (Onto.of_undef hst o.dst) fun st2 h2 ρ2 S2 F2 a2 w2 hst2 hE2 hA2 => ?_
        exact hn st2 h2 ρ2 S2 F2 a2 w2 hst2 (by simpa [St.put] using hE2) hA2

theorem OpsOk.imp {ops : Array Oper} : ∀ {l : List Oper} {st : St} {K K' : St → Prop}, OpsOk P G ops l st K → (∀ st, K st → K' st) → OpsOk P G ops l st K'
  | [], _, _, _, h, hk => hk _ h
  | o :: l, st, K, K', h, hk => by
    unfold OpsOk at h ⊢
    cases hg : o.guard with
    | none =>
      rw [hg] at h
      obtain ⟨v, H', N, h1, h2, h3⟩ := h
      exact ⟨v, H', N, h1, h2, OpsOk.imp h3 hk⟩
    | some jb =>
      obtain ⟨j, b⟩ := jb
      rw [hg] at h
      obtain ⟨b', hb, h⟩ := h
      refine ⟨b', hb, h.imp ?_ ?_⟩
      · rintro ⟨he, v, H', N, h1, h2, h3⟩
        exact ⟨he, v, H', N, h1, h2, OpsOk.imp h3 hk⟩
      · rintro ⟨he, h3⟩
        exact ⟨he, OpsOk.imp h3 hk⟩

theorem set_get {α : Type} {l : List α} {m p : Nat} {y r : α} (h : (l.set m y)[p]? = some r) : (p = m ∧ r = y) ∨ (p ≠ m ∧ l[p]? = some r) := by
  rw [List.getElem?_set] at h
  split at h
  · split at h
    · cases h; exact .inl ⟨(by subst_vars; rfl), rfl⟩
    · cases h
  · exact .inr ⟨fun e => (by subst_vars; contradiction), h⟩

theorem flat_mem_lt {n k : Nat} {Fs : Nat → Nat → List Nat} {i j b : Nat} (hi : i < n) (hj : j < k) (hb : b ∈ Fs i j) : b ∈ flat n k Fs := mem_flat.2 ⟨i, j, hi, hj, hb⟩

/-- the callee's view: the one slice, under the name 0 -/
theorem nest_call {f : FuncId} {u u' : Value} {k2 : Nat} {srows srows' : List (List V)} (hcont : srows ≠ [] → ∀ e, AC P G f [.own 0, .c u] [(0, .vec false e k2 srows)] (.c u') [(0, .vec false e k2 srows')])
    (hnil : srows = [] → srows' = [] ∧ AC P G f [.sl false false [], .c u] [] (.c u') []) (hk2 : ∀ r, r ∈ srows → r.length = k2)
    {ρ : Nat → Option Value} {S : Nat → Prop} {F : Nat → List Nat} {H : Hp} {w : World} (hH : HRel ρ S F H w) (hG : GRel G S w) {i : Nat} {nn nn2 : Bool} {ety k m b : Nat} {rows : List (List V)} {row : List V}
    (hi : look H i = some (.vec nn ety k rows)) (hrow : rows[m]? = some row) (hb : row[b]? = some (.sl nn2 true srows)) {g n cap : Nat} (hroot : ρ i = some (.slice (some ⟨g, 0, none⟩) n cap)) :
    ∃ c, w.cell? ⟨g, m * k + b, none⟩ = some c ∧ c.oneCell' = true ∧ Calls P f #[c, u] w fun en w' => en = .returned u' ∧ ∃ ρ' S' F', HRel ρ' S' F' ((i, .vec nn ety k (rows.set m (row.set b (.sl false true srows')))) :: hrem [i] H) w' ∧
      Evo S (Ub H F) w S' (Ub ((i, .vec nn ety k (rows.set m (row.set b (.sl false true srows')))) :: hrem [i] H) F') w' ∧ AgN ρ ρ' [] := by
  obtain ⟨r0, hr0, hob⟩ := hH.obj i _ hi
  rw [hroot] at hr0
  cases hr0
  have hnd := hH.nodup i _ hi
  have hdisj := fun j p b' (hj : look H j = some p) (hne : i ≠ j) (h1 : b' ∈ F i) (h2 : b' ∈ F j) => hH.disj i j _ p b' hi hj hne h1 h2
  have hsep := fun b' (h1 : b' ∈ F i) => hH.sep i _ b' hi h1
  have hlt := fun b' (h1 : b' ∈ F i) => hH.lt i _ b' hi h1
  generalize hFi : F i = Fi at hob hnd hdisj hsep hlt
  cases hob with
  | vec g' cap' arr _ _ _ _ cc Fs hh hcap hmax hasz hk hc hrd =>
    have hmn : m < rows.length := (List.getElem?_eq_some_iff.1 hrow).1
    have hbk : b < k := by have := (List.getElem?_eq_some_iff.1 hb).1; rw [hk m row hrow] at this; exact this
    have hcell := hc m b row _ hrow hb
    have hd := hrd m b row _ hrow hb
    have hwc : w.cell? ⟨g, m * k + b, none⟩ = some (cc m b) := by rw [cell_of_row w g (m * k + b) arr ety (0, 0) hh]; exact hcell
    refine ⟨cc m b, hwc, hd.one, ?_⟩
    have hFsub : ∀ b', b' ∈ Fs m b → b' ∈ g :: flat rows.length k Fs := fun b' h => List.mem_cons_of_mem _ (flat_mem_lt hmn hbk h)
    have hndf := List.nodup_cons.1 hnd
    have hgF : g ∉ Fs m b := fun h => hndf.1 (flat_mem_lt hmn hbk h)
    -- the step in general: a world in which the cells of that slice alone have turned
    have fin : ∀ (w' : World) (S' : Nat → Prop) (F0 : List Nat), RD S' w' (cc m b) (.sl false true srows') F0 → F0.Nodup → (∀ b', b' ∈ F0 → b' ∈ Fs m b ∨ w.heap.size ≤ b') → (∀ b', b' ∈ F0 → ¬ S' b') → (∀ b', b' ∈ F0 → b' < w'.heap.size) → (∀ b', S' b' → b' < w'.heap.size) →
        w'.os = w.os → w'.tape = w.tape → w'.output = w.output → w.heap.size ≤ w'.heap.size → (∀ b', b' < w.heap.size → b' ∉ Fs m b → w'.heap[b']? = w.heap[b']?) → (∀ b', S b' → S' b') → (∀ b', S' b' → S b' ∨ b' ∈ Fs m b ∨ w.heap.size ≤ b') →
        ∃ ρ' S' F', HRel ρ' S' F' ((i, .vec nn ety k (rows.set m (row.set b (.sl false true srows')))) :: hrem [i] H) w' ∧
          Evo S (Ub H F) w S' (Ub ((i, .vec nn ety k (rows.set m (row.set b (.sl false true srows')))) :: hrem [i] H) F') w' ∧ AgN ρ ρ' [] := by
      intro w' S' F0 hrd' hnd0 hF0 hF0S hF0lt hSlt hos htape hout hsize hkeep hSS hSnew
      let Fs' : Nat → Nat → List Nat := fun p q => if p = m ∧ q = b then F0 else Fs p q
      let rows' := rows.set m (row.set b (.sl false true srows'))
      have hlen' : rows'.length = rows.length := by simp [rows']
      have hk' : Keeps S w S' w' := fun b' h => ⟨hSS b' h, hkeep b' (hH.slt b' h) fun hm => hsep b' (hFsub b' hm) h⟩
      have hg' : w'.heap[g]? = some (.cells arr ety (0, 0)) := (hkeep g (hlt g (by simp)) hgF).trans hh
      have hFsmem : ∀ p q b', p < rows.length → q < k → b' ∈ Fs' p q → b' ∈ Fs p q ∨ w.heap.size ≤ b' := fun p q b' _ _ h => by
        simp only [Fs'] at h
        split at h
        · rename_i he; obtain ⟨rfl, rfl⟩ := he; exact hF0 b' h
        · exact .inl h
      have hflat' : ∀ b', b' ∈ flat rows.length k Fs' → b' ∈ flat rows.length k Fs ∨ w.heap.size ≤ b' := fun b' h => by
        obtain ⟨p, q, hp, hq, h⟩ := mem_flat.1 h
        exact (hFsmem p q b' hp hq h).imp (flat_mem_lt hp hq) id
      have hNdF := flat_nodup.1 hndf.2
      have hobn : ObR ρ S' w' (.slice (some ⟨g, 0, none⟩) rows.length cap) (.vec nn ety k rows') (g :: flat rows'.length k Fs') := by
        rw [← hlen']
        refine .vec g cap arr nn ety k rows' cc Fs' hg' (by rw [hlen']; exact hcap) hmax hasz (fun p r hp => ?_) (fun p q r x hp hq => ?_) fun p q r x hp hq => ?_
        · rcases set_get hp with ⟨rfl, rfl⟩ | ⟨_, hp⟩
          · simp [hk _ row hrow]
          · exact hk p r hp
        · rcases set_get hp with ⟨rfl, rfl⟩ | ⟨_, hp⟩
          · rcases set_get hq with ⟨rfl, rfl⟩ | ⟨_, hq⟩
            · exact hcell
            · exact hc _ q row x hrow hq
          · exact hc p q r x hp hq
        · have hqk : q < k := by
            have := (List.getElem?_eq_some_iff.1 hq).1
            have hl : r.length = k := by
              rcases set_get hp with ⟨rfl, rfl⟩ | ⟨_, hp⟩
              · simp [hk _ row hrow]
              · exact hk p r hp
            omega
          have old : ∀ x, RD S w (cc p q) x (Fs p q) → (∀ b', b' ∈ Fs p q → b' ∉ Fs m b) → p < rows.length → RD S' w' (cc p q) x (Fs p q) := fun x h hne hpn =>
            h.mono hk' fun b' hb' => hkeep b' (hlt b' (List.mem_cons_of_mem _ (flat_mem_lt hpn hqk hb'))) (hne b' hb')
          rcases set_get hp with ⟨rfl, rfl⟩ | ⟨hne, hp⟩
          · rcases set_get hq with ⟨rfl, rfl⟩ | ⟨hne, hq⟩
            · simp only [Fs', and_self, if_true]
              exact hrd'
            · simp only [Fs', true_and, if_neg hne]
              exact old x (hrd _ q row x hrow hq) (fun b' h1 h2 => hne (hNdF.2 _ _ _ _ b' hmn hqk hmn hbk h1 h2).2) hmn
          · have hpn := (List.getElem?_eq_some_iff.1 hp).1
            have hpm : ¬ (p = m ∧ q = b) := fun h => hne h.1
            simp only [Fs', if_neg hpm]
            exact old x (hrd p q r x hp hq) (fun b' h1 h2 => hne (hNdF.2 _ _ _ _ b' hpn hqk hmn hbk h1 h2).1) hpn
      have hndn : (g :: flat rows'.length k Fs').Nodup := by
        rw [hlen']
        refine List.nodup_cons.2 ⟨fun h => ?_, flat_nodup.2 ⟨fun p q hp hq => ?_, fun p q p' q' b' hp hq hp' hq' h1 h2 => ?_⟩⟩
        · rcases hflat' g h with h | h
          · exact hndf.1 h
          · have := hlt g (by simp); omega
        · simp only [Fs']
          split
          · exact hnd0
          · exact hNdF.1 p q hp hq
        · have hx : ∀ p q, p < rows.length → q < k → ¬ (p = m ∧ q = b) → ∀ b', b' ∈ F0 → b' ∈ Fs p q → False := fun p q hp hq hne b' ha hb' => by
            rcases hF0 b' ha with h | h
            · exact hne (hNdF.2 p q m b b' hp hq hmn hbk hb' h)
            · have := hlt b' (List.mem_cons_of_mem _ (flat_mem_lt hp hq hb')); omega
          simp only [Fs'] at h1 h2
          split at h1
          · rename_i he
            split at h2
            · rename_i he2; exact ⟨he.1.trans he2.1.symm, he.2.trans he2.2.symm⟩
            · rename_i he2; exact (hx p' q' hp' hq' he2 b' h1 h2).elim
          · rename_i he
            split at h2
            · exact (hx p q hp hq he b' h2 h1).elim
            · exact hNdF.2 p q p' q' b' hp hq hp' hq' h1 h2
      let F' : Nat → List Nat := fun j => if j = i then g :: flat rows'.length k Fs' else F j
      have hnewF : ∀ b', b' ∈ g :: flat rows'.length k Fs' → b' ∈ F i ∨ w.heap.size ≤ b' := fun b' h => by
        rw [hFi]
        rw [hlen'] at h
        rcases List.mem_cons.1 h with rfl | h
        · exact .inl (by simp)
        · exact (hflat' b' h).imp (List.mem_cons_of_mem _) id
      have lk : ∀ j p, look ((i, .vec nn ety k rows') :: hrem [i] H) j = some p → (j = i ∧ p = .vec nn ety k rows') ∨ (j ≠ i ∧ look H j = some p) := fun j p hp => by
        simp only [look, look_hrem] at hp
        split at hp
        · cases hp; exact .inl ⟨‹_›, rfl⟩
        · split at hp
          · cases hp
          · exact .inr ⟨‹_›, hp⟩
      have hold : ∀ j p b', j ≠ i → look H j = some p → b' ∈ F j → b' ∉ Fs m b := fun j p b' hne hp h1 h2 => hdisj j p b' hp (Ne.symm hne) (hFsub b' h2) h1
      refine ⟨ρ, S', F', ⟨fun j hj => ?_, fun j p hp => ?_, fun j p hp => ?_, fun j j' p p' b' hj hj' hne h1 h2 => ?_, fun j p b' hp h1 => ?_, fun j p b' hp h1 => ?_, hSlt⟩,
        ⟨hos, htape, hout, hsize, fun b' h1 h2 => hkeep b' h1 fun h3 => h2 ⟨i, _, hi, hFi ▸ hFsub b' h3⟩, hSS, fun b' h => (hSnew b' h).imp id (Or.imp (fun h => ⟨i, _, hi, hFi ▸ hFsub b' h⟩) id), fun b' ⟨j, p, hp, h1⟩ => ?_⟩, fun j r hr _ => hr⟩
      · simp only [look, look_hrem] at hj
        split at hj
        · cases hj
        · rename_i hne
          split at hj
          · rename_i h; simp only [List.mem_singleton] at h; exact absurd h hne
          · exact hH.dom j hj
      · rcases lk j p hp with ⟨rfl, rfl⟩ | ⟨hne, hp⟩
        · exact ⟨_, hroot, by simp only [F', if_true]; exact hobn⟩
        · obtain ⟨r, hr, hob⟩ := hH.obj j p hp
          refine ⟨r, hr, ?_⟩
          simp only [F', if_neg hne]
          exact hob.mono (fun _ _ h _ => h) hk' fun b' h => hkeep b' (hH.lt j p b' hp h) (hold j p b' hne hp h)
      · rcases lk j p hp with ⟨rfl, rfl⟩ | ⟨hne, hp⟩
        · simp only [F', if_true]; exact hndn
        · simp only [F', if_neg hne]; exact hH.nodup j p hp
      · have far : ∀ j p, j ≠ i → look H j = some p → ∀ b', b' ∈ F j → b' ∈ g :: flat rows'.length k Fs' → False := fun j p hne hp b' ha hb' => by
          rcases hnewF b' hb' with h | h
          · exact hH.disj i j _ p b' hi hp (Ne.symm hne) h ha
          · have := hH.lt j p b' hp ha; omega
        rcases lk j p hj with ⟨rfl, rfl⟩ | ⟨hn1, hp1⟩
        · rcases lk j' p' hj' with ⟨rfl, rfl⟩ | ⟨hn2, hp2⟩
          · exact hne rfl
          · simp only [F', if_true, if_neg hn2] at h1 h2
            exact far j' p' hn2 hp2 b' h2 h1
        · rcases lk j' p' hj' with ⟨rfl, rfl⟩ | ⟨hn2, hp2⟩
          · simp only [F', if_true, if_neg hn1] at h1 h2
            exact far j p hn1 hp1 b' h1 h2
          · simp only [F', if_neg hn1, if_neg hn2] at h1 h2
            exact hH.disj j j' p p' b' hp1 hp2 hne h1 h2
      · rcases lk j p hp with ⟨rfl, rfl⟩ | ⟨hne, hp⟩
        · simp only [F', if_true] at h1
          rw [hlen'] at h1
          intro hs
          rcases hSnew b' hs with h | h | h
          · rcases hnewF b' (by rw [hlen']; exact h1) with h' | h'
            · exact hsep b' (hFi ▸ h') h
            · have := hH.slt b' h; omega
          · rcases List.mem_cons.1 h1 with rfl | h1
            · exact hgF h
            · obtain ⟨p, q, hp, hq, h1⟩ := mem_flat.1 h1
              simp only [Fs'] at h1
              split at h1
              · exact hF0S b' h1 hs
              · rename_i hne; exact hne (hNdF.2 p q m b b' hp hq hmn hbk h1 h)
          · rcases List.mem_cons.1 h1 with rfl | h1
            · have := hlt b' (by simp); omega
            · obtain ⟨p, q, hp, hq, h1⟩ := mem_flat.1 h1
              simp only [Fs'] at h1
              split at h1
              · exact hF0S b' h1 hs
              · have := hlt b' (List.mem_cons_of_mem _ (flat_mem_lt hp hq h1)); omega
        · simp only [F', if_neg hne] at h1
          intro hs
          rcases hSnew b' hs with h | h | h
          · exact hH.sep j p b' hp h1 h
          · exact hold j p b' hne hp h1 h
          · have := hH.lt j p b' hp h1; omega
      · rcases lk j p hp with ⟨rfl, rfl⟩ | ⟨hne, hp⟩
        · simp only [F', if_true] at h1
          rw [hlen'] at h1
          rcases List.mem_cons.1 h1 with rfl | h1
          · exact Nat.lt_of_lt_of_le (hlt b' (by simp)) hsize
          · obtain ⟨p, q, hp, hq, h1⟩ := mem_flat.1 h1
            simp only [Fs'] at h1
            split at h1
            · exact hF0lt b' h1
            · exact Nat.lt_of_lt_of_le (hlt b' (List.mem_cons_of_mem _ (flat_mem_lt hp hq h1))) hsize
        · simp only [F', if_neg hne] at h1
          exact Nat.lt_of_lt_of_le (hH.lt j p b' hp h1) hsize
      · rcases lk j p hp with ⟨rfl, rfl⟩ | ⟨hne, hp⟩
        · simp only [F', if_true] at h1
          exact (hnewF b' h1).imp (fun h => ⟨_, _, hi, h⟩) id
        · simp only [F', if_neg hne] at h1
          exact .inl ⟨j, p, hp, h1⟩
    have hsz0 : (#[cc m b, u] : Array Value).size = 2 := rfl
    by_cases hsr : srows = []
    · obtain ⟨hs', hac⟩ := hnil hsr
      subst hsr
      have hH0 : HRel (fun _ => none) S (fun _ => []) [] w := ⟨fun _ _ => rfl, fun i o h => by simp [look] at h, fun i o h => by simp [look] at h, fun i j o p b h => by simp [look] at h, fun i o b h => by simp [look] at h, fun i o b h => by simp [look] at h, hH.slt⟩
      have hrdS : RD S w (cc m b) (.sl false false []) [] := by
        generalize cc m b = c at hd
        generalize Fs m b = F0 at hd
        cases hd with
        | nils => exact .nils false
        | exc g2 cap2 arr2 ety2 _ _ k3 cs2 Fs2 hh2 hcap2 hmax2 hsz2 hk3 hc2 hr2 => exact .shr ⟨g2, 0, none⟩ cap2 false [] k3 cs2 (Nat.zero_le _) (Nat.zero_le _) (fun i r h => by simp at h) (fun i j r x h => by simp at h) (fun i j r x h => by simp at h)
      refine (hac (fun _ => none) S (fun _ => []) #[cc m b, u] w rfl (fun j x hx => ?_) hH0 hG).mono ?_
      · match j with
        | 0 => simp at hx; subst hx; exact hrdS.toRV
        | 1 => simp at hx; subst hx; exact .c _
        | j + 2 => simp at hx
      · rintro en w' ⟨x, ρ', S', F', rfl, hx, hHn, hE, hA⟩
        have hUn : ∀ b, ¬ Ub ([] : Hp) (fun _ => []) b := fun b ⟨i, o, h1, _⟩ => by simp [look] at h1
        have hkp : ∀ b', b' < w.heap.size → w'.heap[b']? = w.heap[b']? := fun b' h => hE.keep b' h (hUn b')
        refine ⟨by rw [hx.c_inv], fin w' S (Fs m b) ?_ ((flat_nodup.1 hndf.2).1 m b hmn hbk) (fun b' h => .inl h) (fun b' h => hsep b' (hFsub b' h)) (fun b' h => Nat.lt_of_lt_of_le (hlt b' (hFsub b' h)) hE.size) (fun b' h => Nat.lt_of_lt_of_le (hH.slt b' h) hE.size) hE.os hE.tape hE.output hE.size (fun b' h _ => hkp b' h) (fun _ h => h) (fun _ h => .inl h)⟩
        rw [hs']
        exact (hd.mono (fun b' h => ⟨h, hkp b' (hH.slt b' h)⟩) (fun b' h => hkp b' (hlt b' (hFsub b' h)))).low
    · obtain ⟨e2, hobc⟩ : ∃ e2, ObR (fun j => if j = 0 then some (cc m b) else none) S w (cc m b) (.vec false e2 k2 srows) (Fs m b) := by
        generalize cc m b = c at hd
        generalize Fs m b = F0 at hd
        cases hd with
        | nils => exact absurd rfl hsr
        | exc g2 cap2 arr2 ety2 _ _ k3 cs2 Fs2 hh2 hcap2 hmax2 hsz2 hk3 hc2 hr2 =>
          have : k3 = k2 := by
            cases srows with
            | nil => exact absurd rfl hsr
            | cons r l => rw [← hk3 0 r rfl, hk2 r (by simp)]
          subst this
          exact ⟨ety2, .vec g2 cap2 arr2 false ety2 k3 srows cs2 Fs2 hh2 hcap2 hmax2 hsz2 hk3 hc2 hr2⟩
      have hFnd : (Fs m b).Nodup := (flat_nodup.1 hndf.2).1 m b hmn hbk
      have hHc : HRel (fun j => if j = 0 then some (cc m b) else none) S (fun _ => Fs m b) [(0, .vec false e2 k2 srows)] w := by
        have l0 : ∀ j o, look [(0, Ob.vec false e2 k2 srows)] j = some o → j = 0 ∧ o = .vec false e2 k2 srows := fun j o h => by
          simp only [look] at h
          split at h
          · cases h; exact ⟨‹_›, rfl⟩
          · cases h
        refine ⟨fun j hj => ?_, fun j o h => ?_, fun j o h => hFnd, fun j j' o p b' h h' hne _ _ => ?_, fun j o b' h h1 => hsep b' (hFsub b' h1), fun j o b' h h1 => hlt b' (hFsub b' h1), hH.slt⟩
        · simp only [look] at hj
          split at hj
          · cases hj
          · rename_i hne; simp [hne]
        · obtain ⟨rfl, rfl⟩ := l0 j o h
          exact ⟨cc m b, by simp, hobc⟩
        · exact hne ((l0 j o h).1.trans (l0 j' p h').1.symm)
      refine (hcont hsr e2 _ S _ #[cc m b, u] w rfl (fun j x hx => ?_) hHc hG).mono ?_
      · match j with
        | 0 => simp at hx; subst hx; exact .own _ 0 fun r hr => by simp at hr; simpa using hr
        | 1 => simp at hx; subst hx; exact .c _
        | j + 2 => simp at hx
      · rintro en w' ⟨x, ρ', S', F', rfl, hx, hHn, hE, hA⟩
        have hl0 : look [(0, Ob.vec false e2 k2 srows')] 0 = some (.vec false e2 k2 srows') := rfl
        obtain ⟨r1, hr1, hob1⟩ := hHn.obj 0 _ hl0
        have hr1c : r1 = cc m b := by
          have := hA 0 r1 (by omega) hr1
          simpa using this.symm
        subst hr1c
        have hU : ∀ b', Ub [(0, Ob.vec false e2 k2 srows)] (fun _ => Fs m b) b' → b' ∈ Fs m b := fun b' ⟨_, _, _, h⟩ => h
        refine ⟨by rw [hx.c_inv], fin w' S' (F' 0) hob1.toRD (hHn.nodup 0 _ hl0) (fun b' h => (hE.newU b' ⟨0, _, hl0, h⟩).imp (hU b') id) (fun b' h => hHn.sep 0 _ b' hl0 h) (fun b' h => hHn.lt 0 _ b' hl0 h) hHn.slt hE.os hE.tape hE.output hE.size (fun b' h h2 => hE.keep b' h fun h3 => h2 (hU b' h3)) hE.sub (fun b' h => (hE.newS b' h).imp id (Or.imp (hU b') id))⟩

/-- a region that calls a function with a slice out of a cell of one's own slice -/
theorem CodeOk.nest {D : Tab} (hD : TabOk P D) {id : Nat} {l : List Oper} (pre post : List Oper) {oL oM oC : Oper} (hl : l = pre ++ oL :: oM :: oC :: post) {T : List V} {H0 : Hp} {Q : Exit → St → Prop} (T1 : List V) (H : Hp)
    (hpre : OpsOk P G l.toArray pre ⟨T, H0⟩ fun st => Weak st ⟨T1, H⟩)
    {tL : TypeId} {p dl s dm dc i k m b : Nat} {u : Value} (gL : oL.guard = none) (opL : oL.op = .load tL (.tmp p)) (dL : oL.dst = some dl) (gM : oM.guard = none) (opM : oM.op = .move (.tmp s)) (dM : oM.dst = some dm)
    {f : FuncId} {ats : Array TypeId} (gC : oC.guard = none) (opC : oC.op = .call { callee := .value (.func f), args := #[.tmp dl, .tmp dm], argTypes := ats }) (dC : oC.dst = some dc) (hcf : callOk P f)
    {it : Ty} (ht : D.at tL = some it) (hag : it.d.agg = false) (hdl : dl < T1.length) (hdm : dm < T1.length) (hne : dl ≠ dm) (hsl : s ≠ dl)
    (hp : T1[p]? = some (.vp i k m b)) (hs : T1[s]? = some (.c u))
    {nn nn2 : Bool} {ety : TypeId} {rows : List (List V)} {row : List V} (hi : look H i = some (.vec nn ety k rows)) (hrow : rows[m]? = some row) {srows srows' : List (List V)} (hb : row[b]? = some (.sl nn2 true srows))
    {u' : Value} {k2 : Nat} (hcont : srows ≠ [] → ∀ e, AC P G f [.own 0, .c u] [(0, .vec false e k2 srows)] (.c u') [(0, .vec false e k2 srows')])
    (hnil : srows = [] → srows' = [] ∧ AC P G f [.sl false false [], .c u] [] (.c u') []) (hk2 : ∀ r, r ∈ srows → r.length = k2)
    (hpost : OpsOk P G l.toArray post ⟨((T1.set dl .junk).set dm (.c u)).set dc (.c u'), (i, .vec nn ety k (rows.set m (row.set b (.sl false true srows')))) :: hrem [i] H⟩ (Q .normal)) :
    CodeOk L P G (.region id l.toArray false) ⟨T, H0⟩ Q := by
  intro B ρ S F a w R hst hn
  refine wpIn_region_lit ?_
  have hgo : wpListIn (fen L) 0 P l.toArray R (pre ++ oL :: oM :: oC :: post) a w := by
    refine OpsOk.wpThen pre hpre hst fun st1 h1 => ?_
    intro ρ0 S0 F0 a1 w1 hst0 hE0 hA0
    obtain ⟨ρ1, S1, F1, hst1, hE01, hA01⟩ := h1 _ G ρ0 S0 F0 a1 w1 hst0
    have hE1 := hE0.trans hE01
    have hA1 := hA0.trans hA01
    have hvp := hst1.tmps p _ hp
    obtain ⟨r0, hr0, hob⟩ := hst1.heap.obj i _ hi
    obtain ⟨g, n, cap, e1, e2⟩ := hvp.vp_inv r0 hr0
    subst e1
    obtain ⟨c, hcell, hone, hcalls⟩ := nest_call hcont hnil hk2 hst1.heap hst1.glob hi hrow hb hr0
    have hz := hst1.size
    simp only at hz
    -- the load
    have hload : (execOp a1.eval oL).run P w1 = .ok (.value c) w1 := by
      unfold execOp
      have hv : a1.eval (.tmp p) = .pointer (some ⟨g, m * k + b, none⟩) := e2
      simp only [opL, hv]
      have hpart : (loadVar tL ⟨g, m * k + b, none⟩).run P w1 = .ok c w1 := by
        simp only [loadVar, Sem.run_bind, (hD _ _ ht).isAgg w1, Result.andThen_ok, hag]
        simp [hcell]
      simp [Instr.loadAt, Instr.sureAddr, hpart]
    unfold wpListIn
    rw [if_pos (by simp [Region.wanted, gL])]
    refine ⟨fun _ _ => trivial, ?_⟩
    rw [Oper.semAt_eq _ _ _ (by intro c h; rw [opL] at h; cases h), hload, Oper.uponIn_value]
    -- the move
    unfold wpListIn
    rw [if_pos (by simp [Region.wanted, gM])]
    have hs1 : (a1.put oL.dst c).eval (.tmp s) = u := by
      have := (hst1.tmps s _ hs).c_inv
      simp only [Act.eval, dL, Act.put]
      rw [getD_setIfInBounds (by rw [hz]; exact (List.getElem?_eq_some_iff.1 hs).1), if_neg hsl]
      exact this
    have hmove : (execOp (a1.put oL.dst c).eval oM).run P w1 = .ok (.value u) w1 := by
      unfold execOp
      simp only [opM, hs1, Sem.run_pure, Sem.run_bind, Result.andThen_ok]
    refine ⟨fun _ _ => trivial, ?_⟩
    rw [Oper.semAt_eq _ _ _ (by intro c h; rw [opM] at h; cases h), hmove, Oper.uponIn_value]
    -- the call
    unfold wpListIn
    rw [if_pos (by simp [Region.wanted, gC])]
    generalize ha3 : ((a1.put oL.dst c).put oM.dst u) = a3
    have ht3 : a3.tmps = (a1.tmps.setIfInBounds dl c).setIfInBounds dm u := by rw [← ha3]; simp [dL, dM, Act.put]
    have hd3 : a3.defers = a1.defers := by rw [← ha3]; simp [dL, dM, Act.put]
    have hv1 : a3.eval (.tmp dl) = c := by
      simp only [Act.eval, ht3]
      rw [getD_setIfInBounds (by simp [hz, hdl]), if_neg hne, getD_setIfInBounds (by rw [hz]; exact hdl), if_pos rfl]
    have hv2 : a3.eval (.tmp dm) = u := by
      simp only [Act.eval, ht3]
      rw [getD_setIfInBounds (by simp [hz, hdm]), if_pos rfl]
    have hcall : (execOp a3.eval oC).run P w1 = .ok (.enter f #[c, u]) w1 := by
      unfold execOp
      have hfv : a3.eval (.func f) = .func (.func f) #[] #[] := rfl
      simp only [opC, resolve, hfv, Deferred.ofValue, Sem.run_bind, Sem.run_pure, Result.andThen_ok, invoke, Array.empty_append, Array.append_empty, List.map_toArray, List.map_cons, List.map_nil, hv1, hv2]
      exact hcf #[c, u] w1
    refine ⟨fun _ _ => trivial, ?_⟩
    rw [Oper.semAt_eq _ _ _ (by intro c h; rw [opC] at h; cases h), hcall, Oper.uponIn_enter]
    refine ⟨fun h => (by cases h), ?_⟩
    refine CallsIn.mono (callsIn_wide.2 hcalls : CallsIn Fence.wide 0 P _ _ _ _) ?_
    rintro en w' ⟨rfl, ρ2, S2, F2, hH2, hE2, hA2⟩
    simp only
    refine OpsOk.wpThen (B := B) (rest := []) post hpost (ρ := ρ2) (S := S2) (F := F2) ?_ (fun st' h' => ?_) |> fun h => by simpa using h
    · have hkp := hst1.heap.keeps hE2
      refine ⟨by simp only [dC, Act.put, hd3]; exact hst1.defers.evo hst1.heap hE2, by simp [dC, Act.put, ht3, hz], fun j x hx => ?_, hH2, hst1.glob.mono hkp⟩
      have hold : ∀ j x, T1[j]? = some x → RV ρ2 S2 w' (a1.tmps.getD j undef) x := fun j x h => (hst1.tmps j x h).mono (fun i r hi _ => hA2 i r hi (by simp)) hkp
      have hjT : j < T1.length := by have := (List.getElem?_eq_some_iff.1 hx).1; simpa using this
      simp only [dC, Act.put, ht3]
      rw [getD_setIfInBounds (by simp [hz, hjT])]
      rcases set_get hx with ⟨rfl, rfl⟩ | ⟨h1, hx⟩
      · rw [if_pos rfl]; exact .c _
      · rw [if_neg h1, getD_setIfInBounds (by simp [hz, hjT])]
        rcases set_get hx with ⟨rfl, rfl⟩ | ⟨h2, hx⟩
        · rw [if_pos rfl]; exact .c _
        · rw [if_neg h2, getD_setIfInBounds (by rw [hz]; exact hjT)]
          rcases set_get hx with ⟨rfl, rfl⟩ | ⟨h3, hx⟩
          · rw [if_pos rfl]; exact .junk _
          · rw [if_neg h3]; exact hold j x hx
    · intro ρ3 S3 F3 a4 w4 hst4 hE4 hA4
      exact hn .normal st' h' ρ3 S3 F3 a4 w4 hst4 (hE1.trans (hE2.trans hE4)) (hA1.trans (AgF.trans (fun j r _ hr => hA2 j r hr (by simp)) hA4))
  rw [hl] at hgo ⊢
  exact hgo

theorem OpsOk.free {ops ops' : Array Oper} : ∀ {l : List Oper} {st : St} {Q : St → Prop}, (l.all fun o => o.guard.isNone) = true → OpsOk P G ops l st Q → OpsOk P G ops' l st Q
  | [], _, _, _, h => h
  | o :: l, st, Q, hg, h => by
    simp only [List.all_cons, Bool.and_eq_true] at hg
    unfold OpsOk at h ⊢
    have hn : o.guard = none := by
      cases hgo : o.guard with
      | none => rfl
      | some _ => rw [hgo] at hg; exact absurd hg.1 (by simp)
    rw [hn] at h ⊢
    obtain ⟨v, H', N, h1, h2, h3⟩ := h
    exact ⟨v, H', N, h1, h2, OpsOk.free hg.2 h3⟩

theorem W.toOps {l : List Oper} {ops' : Array Oper} {T : List V} {H : Hp} {Q : St → Prop} (hg : (l.all fun o => o.guard.isNone) = true) (h : W P G l.toArray false T H 0 T H [] Q) : OpsOk P G ops' l ⟨T, H⟩ Q := by
  obtain ⟨tail, T', H', hc, hk, hq⟩ := h
  have := hc.opsOk (Q := Q) (by simpa [okR] using hk) hq
  exact OpsOk.free hg (by simpa using this)

/-- what an operation is, where it goes -/
def opAs (l : List Oper) (n : Nat) (op : Op) (d : Nat) : Prop := ∃ o, l[n]? = some o ∧ o.op = op ∧ o.dst = some d

theorem split3 {l : List Oper} {n : Nat} {a b c : Oper} (ha : l[n]? = some a) (hb : l[n + 1]? = some b) (hc : l[n + 2]? = some c) : l = l.take n ++ a :: b :: c :: l.drop (n + 3) := by
  have h1 := (List.getElem?_eq_some_iff.1 ha)
  have h2 := (List.getElem?_eq_some_iff.1 hb)
  have h3 := (List.getElem?_eq_some_iff.1 hc)
  obtain ⟨l1, e1⟩ := h1
  obtain ⟨l2, e2⟩ := h2
  obtain ⟨l3, e3⟩ := h3
  conv => lhs; rw [← List.take_append_drop n l]
  rw [List.drop_eq_getElem_cons l1, e1, List.drop_eq_getElem_cons l2, e2, List.drop_eq_getElem_cons l3, e3]

/-- a region with such a call, told by places; behind it a state told by hand -/
theorem CodeOk.nestEnd {D : Tab} (hD : TabOk P D) {id : Nat} {l : List Oper} (n : Nat) {T : List V} {H0 : Hp} {Q : Exit → St → Prop} (T1 : List V) (H : Hp) (T' : List V) (H' : Hp)
    (hg : (l.all fun o => o.guard.isNone) = true) (hpre : W P G (l.take n).toArray false T H0 0 T H0 [] fun st => Weak st ⟨T1, H⟩)
    {tL p dl s dm dc i k m b : Nat} {u : Value} {f : FuncId} {ats : Array TypeId}
    (hL : opAs l n (.load tL (.tmp p)) dl) (hM : opAs l (n + 1) (.move (.tmp s)) dm) (hC : opAs l (n + 2) (.call { callee := .value (.func f), args := #[.tmp dl, .tmp dm], argTypes := ats }) dc) (hcf : callOk P f)
    (ht : (D.at tL).any (fun it => !it.d.agg) = true) (hnum : (Nat.blt dl T1.length && Nat.blt dm T1.length && dl != dm && s != dl) = true)
    (hp : T1[p]? = some (.vp i k m b)) (hs : T1[s]? = some (.c u))
    {nn nn2 : Bool} {ety : TypeId} {α : Type} (enc : α → List V) {la la' : List α} {n0 : Int} {x x' : α} (hx : ix la n0 = some x) (hu : upd la n0 x' = some la') (hm : m = n0.toNat)
    (hi : look H i = some (.vec nn ety k (la.map enc))) {srows srows' : List (List V)} (hb : (enc x)[b]? = some (.sl nn2 true srows)) (hx' : (enc x).set b (.sl false true srows') = enc x')
    {u' : Value} {k2 : Nat} (hcont : srows ≠ [] → ∀ e, AC P G f [.own 0, .c u] [(0, .vec false e k2 srows)] (.c u') [(0, .vec false e k2 srows')])
    (hnil : srows = [] → srows' = [] ∧ AC P G f [.sl false false [], .c u] [] (.c u') []) (hk2 : ∀ r, r ∈ srows → r.length = k2)
    (hpost : W P G (l.drop (n + 3)).toArray false (((T1.set dl .junk).set dm (.c u)).set dc (.c u')) ((i, .vec nn ety k (la'.map enc)) :: hrem [i] H) 0 (((T1.set dl .junk).set dm (.c u)).set dc (.c u')) ((i, .vec nn ety k (la'.map enc)) :: hrem [i] H) [] fun st => Weak st ⟨T', H'⟩)
    (hQ : ∀ st, Weak st ⟨T', H'⟩ → Q .normal st) : CodeOk L P G (.region id l.toArray false) ⟨T, H0⟩ Q := by
  obtain ⟨oL, hL1, hL2, hL3⟩ := hL
  obtain ⟨oM, hM1, hM2, hM3⟩ := hM
  obtain ⟨oC, hC1, hC2, hC3⟩ := hC
  have hsp := split3 hL1 hM1 hC1
  have hgn : ∀ o, o ∈ l → o.guard = none := fun o ho => by
    have := List.all_eq_true.1 hg o ho
    cases h : o.guard with
    | none => rfl
    | some _ => rw [h] at this; exact absurd this (by simp)
  have hgsub : ∀ l2 : List Oper, (∀ o, o ∈ l2 → o ∈ l) → (l2.all fun o => o.guard.isNone) = true := fun l2 h => List.all_eq_true.2 fun o ho => by rw [hgn o (h o ho)]; rfl
  simp only [Bool.and_eq_true, Nat.blt_eq, bne_iff_ne] at hnum
  obtain ⟨⟨⟨h1, h2⟩, h3⟩, h4⟩ := hnum
  obtain ⟨q1, q2⟩ := ix_some hx
  subst hm
  have hrow : (la.map enc)[n0.toNat]? = some (enc x) := by rw [List.getElem?_map, q2]; rfl
  have hset : (la.map enc).set n0.toNat ((enc x).set b (.sl false true srows')) = la'.map enc := by
    unfold upd at hu
    split at hu
    · cases hu; rw [hx', List.map_set]
    · cases hu
  obtain ⟨it, ht1, ht2⟩ : ∃ it, D.at tL = some it ∧ it.d.agg = false := by
    cases h : D.at tL with
    | none => rw [h] at ht; cases ht
    | some it => rw [h] at ht; exact ⟨it, rfl, by simpa using ht⟩
  refine CodeOk.nest hD (l.take n) (l.drop (n + 3)) hsp T1 H (W.toOps (hgsub _ fun o ho => List.mem_of_mem_take ho) hpre) (hgn _ (List.mem_of_getElem? hL1)) hL2 hL3 (hgn _ (List.mem_of_getElem? hM1)) hM2 hM3 (hgn _ (List.mem_of_getElem? hC1)) hC2 hC3 hcf ht1 ht2 h1 h2 h3 h4 hp hs hi hrow hb hcont hnil hk2 ?_
  rw [hset]
  have := W.toOps (ops' := l.toArray) (hgsub _ fun o ho => List.mem_of_mem_drop ho) hpost
  exact OpsOk.imp this fun st h => hQ st h

end
end Go.Av
