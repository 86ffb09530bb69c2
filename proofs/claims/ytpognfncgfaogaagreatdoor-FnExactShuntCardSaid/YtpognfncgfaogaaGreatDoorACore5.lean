/-
 Abstract values, states, walks, part 5.
-/
import Derived.Test.YtpognfncgfaogaaGreatDoorACore4
import Derived.OpenShut
import Derived.OpenVars
import Derived.ChangeArms
import Derived.Below
set_option linter.unusedSimpArgs false
set_option linter.unusedVariables false

namespace Go.Av

section
variable {P : Program} {G : Nat → Option (List V)} {L : Option Nat} {B : Nat}

theorem OpsOk.wpThen {ops : Array Oper} {Q : Exit → Act → World → Prop} {rest : List Oper} (l : List Oper) : ∀ {st : St} {K : St → Prop}, OpsOk P G ops l st K →
  ∀ {ρ : Nat → Option Value} {S : Nat → Prop} {F : Nat → List Nat} {a : Act} {w : World}, StRel B G ρ S F st a w →
  (∀ st', K st' → Onto B G ρ S F st.H w st' (wpListIn (fen L) 0 P ops Q rest)) → wpListIn (fen L) 0 P ops Q (l ++ rest) a w := by
 induction l with
 | nil =>
  intro st K h ρ S F a w hst hn
  exact hn st h ρ S F a w hst (Evo.refl _ _ _) (AgF.refl _)
 | cons o l ih =>
  intro st K h ρ S F a w hst hn
  have go : Step P G o st (fun st' => OpsOk P G ops l st' K) → Region.wanted o (yielded ops a.tmps) = true → wpListIn (fen L) 0 P ops Q (o :: (l ++ rest)) a w := by
   intro hs hw
   unfold wpListIn
   rw [if_pos hw]
   refine (hs.wp hst fun st' h' ρ' S' F' a' w' hst' hE hA => ?_)
   exact ih h' hst' fun st2 h2 ρ2 S2 F2 a2 w2 hst2 hE2 hA2 => hn st2 h2 ρ2 S2 F2 a2 w2 hst2 (hE.trans hE2) (hA.trans hA2)
  unfold OpsOk at h
  cases hg : o.guard with
  | none =>
   rw [hg] at h
   exact go h (by simp [Region.wanted, hg])
  | some jb =>
   obtain ⟨j, b⟩ := jb
   rw [hg] at h
   obtain ⟨b', hgv, h⟩ := h
   have hy := yielded_gval hst hgv
   rcases h with ⟨rfl, h⟩ | ⟨hne, h⟩
   ·exact go h (by simp [Region.wanted, hg, hy])
   ·change wpListIn (fen L) 0 P ops Q (o :: (l ++ rest)) a w
    unfold wpListIn
    rw [if_neg (by simp [Region.wanted, hg, hy, hne])]
    refine ⟨fun _ _ => trivial, ?_⟩
    refine ih h (Onto.of_undef hst o.dst) fun st2 h2 ρ2 S2 F2 a2 w2 hst2 hE2 hA2 => ?_
    exact hn st2 h2 ρ2 S2 F2 a2 w2 hst2 (by simpa [St.put] using hE2) hA2

theorem OpsOk.imp {ops : Array Oper} : ∀ {l : List Oper} {st : St} {K K' : St → Prop}, OpsOk P G ops l st K → (∀ st, K st → K' st) → OpsOk P G ops l st K'
 | [], _, _, _, h, hk => hk _ h
 | o :: l, st, K, K', h, hk => by
  unfold OpsOk at h ⊢
  cases hg : o.guard with
  | none =>
   rw [hg] at h
   obtain ⟨v, H', N, h1, h2, h3⟩ := h
   exact ⟨v, H', N, h1, h2, OpsOk.imp h3 hk⟩
  | some jb =>
   obtain ⟨j, b⟩ := jb
   rw [hg] at h
   obtain ⟨b', hb, h⟩ := h
   refine ⟨b', hb, h.imp ?_ ?_⟩
   ·rintro ⟨he, v, H', N, h1, h2, h3⟩
    exact ⟨he, v, H', N, h1, h2, OpsOk.imp h3 hk⟩
   ·rintro ⟨he, h3⟩
    exact ⟨he, OpsOk.imp h3 hk⟩

theorem set_get {α : Type} {l : List α} {m p : Nat} {y r : α} (h : (l.set m y)[p]? = some r) : (p = m ∧ r = y) ∨ (p ≠ m ∧ l[p]? = some r) := by
 rw [List.getElem?_set] at h
 split at h
 ·split at h
  ·cases h; exact .inl ⟨(by subst_vars; rfl), rfl⟩
  ·cases h
 ·exact .inr ⟨fun e => (by subst_vars; contradiction), h⟩

theorem flat_mem_lt {n k : Nat} {Fs : Nat → Nat → List Nat} {i j b : Nat} (hi : i < n) (hj : j < k) (hb : b ∈ Fs i j) : b ∈ flat n k Fs := mem_flat.2 ⟨i, j, hi, hj, hb⟩

theorem nest_call {f : FuncId} {u u' : Value} {k2 : Nat} {srows srows' : List (List V)} (hcont : srows ≠ [] → ∀ e, AC P G f [.own 0, .c u] [(0, .vec false e k2 srows)] (.c u') [(0, .vec false e k2 srows')])
  (hnil : srows = [] → srows' = [] ∧ AC P G f [.sl false false [], .c u] [] (.c u') []) (hk2 : ∀ r, r ∈ srows → r.length = k2)
  {ρ : Nat → Option Value} {S : Nat → Prop} {F : Nat → List Nat} {H : Hp} {w : World} (hH : HRel ρ S F H w) (hG : GRel G S w) {i : Nat} {nn nn2 : Bool} {ety : Tg} {k m b : Nat} {rows : List (List V)} {row : List V}
  (hi : look H i = some (.vec nn ety k rows)) (hrow : rows[m]? = some row) (hb : row[b]? = some (.sl nn2 true srows)) {g n cap : Nat} (hroot : ρ i = some (.slice (some ⟨g, 0, none⟩) n cap)) :
  ∃ c, w.cell? ⟨g, m * k + b, none⟩ = some c ∧ c.oneCell' = true ∧ Calls P f #[c, u] w fun en w' => en = .returned u' ∧ ∃ ρ' S' F', HRel ρ' S' F' ((i, .vec nn ety k (rows.set m (row.set b (.sl false true srows')))) :: hrem [i] H) w' ∧
   Evo S (Ub H F) w S' (Ub ((i, .vec nn ety k (rows.set m (row.set b (.sl false true srows')))) :: hrem [i] H) F') w' ∧ AgN ρ ρ' [] := by
 obtain ⟨r0, hr0, hob⟩ := hH.obj i _ hi
 rw [hroot] at hr0
 cases hr0
 have hnd := hH.nodup i _ hi
 have hdisj := fun j p b' (hj : look H j = some p) (hne : i ≠ j) (h1 : b' ∈ F i) (h2 : b' ∈ F j) => hH.disj i j _ p b' hi hj hne h1 h2
 have hsep := fun b' (h1 : b' ∈ F i) => hH.sep i _ b' hi h1
 have hlt := fun b' (h1 : b' ∈ F i) => hH.lt i _ b' hi h1
 generalize hFi : F i = Fi at hob hnd hdisj hsep hlt
 cases hob with
 | vec g' cap' arr _ _ _ _ cc Fs hh hcap hmax hasz hk hc hrd htg =>
  have hmn : m < rows.length := (List.getElem?_eq_some_iff.1 hrow).1
  have hbk : b < k := by have := (List.getElem?_eq_some_iff.1 hb).1; rw [hk m row hrow] at this; exact this
  have hcell := hc m b row _ hrow hb
  have hd := hrd m b row _ hrow hb
  have hwc : w.cell? ⟨g, m * k + b, none⟩ = some (cc m b) := by rw [cell_of_row w g (m * k + b) arr _ (0, 0) hh]; exact hcell
  refine ⟨cc m b, hwc, hd.one, ?_⟩
  have hFsub : ∀ b', b' ∈ Fs m b → b' ∈ g :: flat rows.length k Fs := fun b' h => List.mem_cons_of_mem _ (flat_mem_lt hmn hbk h)
  have hndf := List.nodup_cons.1 hnd
  have hgF : g ∉ Fs m b := fun h => hndf.1 (flat_mem_lt hmn hbk h)
  -- the step in general: a world in which the cells of that slice alone have turned
  have fin : ∀ (w' : World) (S' : Nat → Prop) (F0 : List Nat), RD S' w' (cc m b) (.sl false true srows') F0 → F0.Nodup → (∀ b', b' ∈ F0 → b' ∈ Fs m b ∨ w.heap.size ≤ b') → (∀ b', b' ∈ F0 → ¬ S' b') → (∀ b', b' ∈ F0 → b' < w'.heap.size) → (∀ b', S' b' → b' < w'.heap.size) →
    w'.os = w.os → w'.tape = w.tape → w'.output = w.output → w.heap.size ≤ w'.heap.size → (∀ b', b' < w.heap.size → b' ∉ Fs m b → w'.heap[b']? = w.heap[b']?) → (∀ b', S b' → S' b') → (∀ b', S' b' → S b' ∨ b' ∈ Fs m b ∨ w.heap.size ≤ b') →
    ∃ ρ' S' F', HRel ρ' S' F' ((i, .vec nn ety k (rows.set m (row.set b (.sl false true srows')))) :: hrem [i] H) w' ∧
     Evo S (Ub H F) w S' (Ub ((i, .vec nn ety k (rows.set m (row.set b (.sl false true srows')))) :: hrem [i] H) F') w' ∧ AgN ρ ρ' [] := by
   intro w' S' F0 hrd' hnd0 hF0 hF0S hF0lt hSlt hos htape hout hsize hkeep hSS hSnew
   let Fs' : Nat → Nat → List Nat := fun p q => if p = m ∧ q = b then F0 else Fs p q
   let rows' := rows.set m (row.set b (.sl false true srows'))
   have hlen' : rows'.length = rows.length := by simp [rows']
   have hk' : Keeps S w S' w' := fun b' h => ⟨hSS b' h, hkeep b' (hH.slt b' h) fun hm => hsep b' (hFsub b' hm) h⟩
   have hg' : w'.heap[g]? = some (.cells arr _ (0, 0)) := (hkeep g (hlt g (by simp)) hgF).trans hh
   have hFsmem : ∀ p q b', p < rows.length → q < k → b' ∈ Fs' p q → b' ∈ Fs p q ∨ w.heap.size ≤ b' := fun p q b' _ _ h => by
    simp only [Fs'] at h
    split at h
    ·rename_i he; obtain ⟨rfl, rfl⟩ := he; exact hF0 b' h
    ·exact .inl h
   have hflat' : ∀ b', b' ∈ flat rows.length k Fs' → b' ∈ flat rows.length k Fs ∨ w.heap.size ≤ b' := fun b' h => by
    obtain ⟨p, q, hp, hq, h⟩ := mem_flat.1 h
    exact (hFsmem p q b' hp hq h).imp (flat_mem_lt hp hq) id
   have hNdF := flat_nodup.1 hndf.2
   have hobn : ObR ρ S' w' (.slice (some ⟨g, 0, none⟩) rows.length cap) (.vec nn ety k rows') (g :: flat rows'.length k Fs') := by
    rw [← hlen']
    refine .vec g cap arr nn ety k rows' cc Fs' hg' (by rw [hlen']; exact hcap) hmax hasz (fun p r hp => ?_) (fun p q r x hp hq => ?_) (fun p q r x hp hq => ?_) (by rw [hlen']; exact htg)
    ·rcases set_get hp with ⟨rfl, rfl⟩ | ⟨_, hp⟩
     ·simp [hk _ row hrow]
     ·exact hk p r hp
    ·rcases set_get hp with ⟨rfl, rfl⟩ | ⟨_, hp⟩
     ·rcases set_get hq with ⟨rfl, rfl⟩ | ⟨_, hq⟩
      ·exact hcell
      ·exact hc _ q row x hrow hq
     ·exact hc p q r x hp hq
    ·have hqk : q < k := by
      have := (List.getElem?_eq_some_iff.1 hq).1
      have hl : r.length = k := by
       rcases set_get hp with ⟨rfl, rfl⟩ | ⟨_, hp⟩
       ·simp [hk _ row hrow]
       ·exact hk p r hp
      omega
     have old : ∀ x, RD S w (cc p q) x (Fs p q) → (∀ b', b' ∈ Fs p q → b' ∉ Fs m b) → p < rows.length → RD S' w' (cc p q) x (Fs p q) := fun x h hne hpn =>
      h.mono hk' fun b' hb' => hkeep b' (hlt b' (List.mem_cons_of_mem _ (flat_mem_lt hpn hqk hb'))) (hne b' hb')
     rcases set_get hp with ⟨rfl, rfl⟩ | ⟨hne, hp⟩
     ·rcases set_get hq with ⟨rfl, rfl⟩ | ⟨hne, hq⟩
      ·simp only [Fs', and_self, if_true]
       exact hrd'
      ·simp only [Fs', true_and, if_neg hne]
       exact old x (hrd _ q row x hrow hq) (fun b' h1 h2 => hne (hNdF.2 _ _ _ _ b' hmn hqk hmn hbk h1 h2).2) hmn
     ·have hpn := (List.getElem?_eq_some_iff.1 hp).1
      have hpm : ¬ (p = m ∧ q = b) := fun h => hne h.1
      simp only [Fs', if_neg hpm]
      exact old x (hrd p q r x hp hq) (fun b' h1 h2 => hne (hNdF.2 _ _ _ _ b' hpn hqk hmn hbk h1 h2).1) hpn
   have hndn : (g :: flat rows'.length k Fs').Nodup := by
    rw [hlen']
    refine List.nodup_cons.2 ⟨fun h => ?_, flat_nodup.2 ⟨fun p q hp hq => ?_, fun p q p' q' b' hp hq hp' hq' h1 h2 => ?_⟩⟩
    ·rcases hflat' g h with h | h
     ·exact hndf.1 h
     ·have := hlt g (by simp); omega
    ·simp only [Fs']
     split
     ·exact hnd0
     ·exact hNdF.1 p q hp hq
    ·have hx : ∀ p q, p < rows.length → q < k → ¬ (p = m ∧ q = b) → ∀ b', b' ∈ F0 → b' ∈ Fs p q → False := fun p q hp hq hne b' ha hb' => by
      rcases hF0 b' ha with h | h
      ·exact hne (hNdF.2 p q m b b' hp hq hmn hbk hb' h)
      ·have := hlt b' (List.mem_cons_of_mem _ (flat_mem_lt hp hq hb')); omega
     simp only [Fs'] at h1 h2
     split at h1
     ·rename_i he
      split at h2
      ·rename_i he2; exact ⟨he.1.trans he2.1.symm, he.2.trans he2.2.symm⟩
      ·rename_i he2; exact (hx p' q' hp' hq' he2 b' h1 h2).elim
     ·rename_i he
      split at h2
      ·exact (hx p q hp hq he b' h2 h1).elim
      ·exact hNdF.2 p q p' q' b' hp hq hp' hq' h1 h2
   let F' : Nat → List Nat := fun j => if j = i then g :: flat rows'.length k Fs' else F j
   have hnewF : ∀ b', b' ∈ g :: flat rows'.length k Fs' → b' ∈ F i ∨ w.heap.size ≤ b' := fun b' h => by
    rw [hFi]
    rw [hlen'] at h
    rcases List.mem_cons.1 h with rfl | h
    ·exact .inl (by simp)
    ·exact (hflat' b' h).imp (List.mem_cons_of_mem _) id
   have lk : ∀ j p, look ((i, .vec nn ety k rows') :: hrem [i] H) j = some p → (j = i ∧ p = .vec nn ety k rows') ∨ (j ≠ i ∧ look H j = some p) := fun j p hp => by
    simp only [look, look_hrem] at hp
    split at hp
    ·cases hp; exact .inl ⟨‹_›, rfl⟩
    ·split at hp
     ·cases hp
     ·exact .inr ⟨‹_›, hp⟩
   have hold : ∀ j p b', j ≠ i → look H j = some p → b' ∈ F j → b' ∉ Fs m b := fun j p b' hne hp h1 h2 => hdisj j p b' hp (Ne.symm hne) (hFsub b' h2) h1
   refine ⟨ρ, S', F', ⟨fun j hj => ?_, fun j p hp => ?_, fun j p hp => ?_, fun j j' p p' b' hj hj' hne h1 h2 => ?_, fun j p b' hp h1 => ?_, fun j p b' hp h1 => ?_, hSlt⟩,
    ⟨hos, htape, hout, hsize, fun b' h1 h2 => hkeep b' h1 fun h3 => h2 ⟨i, _, hi, hFi ▸ hFsub b' h3⟩, hSS, fun b' h => (hSnew b' h).imp id (Or.imp (fun h => ⟨i, _, hi, hFi ▸ hFsub b' h⟩) id), fun b' ⟨j, p, hp, h1⟩ => ?_⟩, fun j r hr _ => hr⟩
   ·simp only [look, look_hrem] at hj
    split at hj
    ·cases hj
    ·rename_i hne
     split at hj
     ·rename_i h; simp only [List.mem_singleton] at h; exact absurd h hne
     ·exact hH.dom j hj
   ·rcases lk j p hp with ⟨rfl, rfl⟩ | ⟨hne, hp⟩
    ·exact ⟨_, hroot, by simp only [F', if_true]; exact hobn⟩
    ·obtain ⟨r, hr, hob⟩ := hH.obj j p hp
     refine ⟨r, hr, ?_⟩
     simp only [F', if_neg hne]
     exact hob.mono (fun _ _ h _ => h) hk' fun b' h => hkeep b' (hH.lt j p b' hp h) (hold j p b' hne hp h)
   ·rcases lk j p hp with ⟨rfl, rfl⟩ | ⟨hne, hp⟩
    ·simp only [F', if_true]; exact hndn
    ·simp only [F', if_neg hne]; exact hH.nodup j p hp
   ·have far : ∀ j p, j ≠ i → look H j = some p → ∀ b', b' ∈ F j → b' ∈ g :: flat rows'.length k Fs' → False := fun j p hne hp b' ha hb' => by
     rcases hnewF b' hb' with h | h
     ·exact hH.disj i j _ p b' hi hp (Ne.symm hne) h ha
     ·have := hH.lt j p b' hp ha; omega
    rcases lk j p hj with ⟨rfl, rfl⟩ | ⟨hn1, hp1⟩
    ·rcases lk j' p' hj' with ⟨rfl, rfl⟩ | ⟨hn2, hp2⟩
     ·exact hne rfl
     ·simp only [F', if_true, if_neg hn2] at h1 h2
      exact far j' p' hn2 hp2 b' h2 h1
    ·rcases lk j' p' hj' with ⟨rfl, rfl⟩ | ⟨hn2, hp2⟩
     ·simp only [F', if_true, if_neg hn1] at h1 h2
      exact far j p hn1 hp1 b' h1 h2
     ·simp only [F', if_neg hn1, if_neg hn2] at h1 h2
      exact hH.disj j j' p p' b' hp1 hp2 hne h1 h2
   ·rcases lk j p hp with ⟨rfl, rfl⟩ | ⟨hne, hp⟩
    ·simp only [F', if_true] at h1
     rw [hlen'] at h1
     intro hs
     rcases hSnew b' hs with h | h | h
     ·rcases hnewF b' (by rw [hlen']; exact h1) with h' | h'
      ·exact hsep b' (hFi ▸ h') h
      ·have := hH.slt b' h; omega
     ·rcases List.mem_cons.1 h1 with rfl | h1
      ·exact hgF h
      ·obtain ⟨p, q, hp, hq, h1⟩ := mem_flat.1 h1
       simp only [Fs'] at h1
       split at h1
       ·exact hF0S b' h1 hs
       ·rename_i hne; exact hne (hNdF.2 p q m b b' hp hq hmn hbk h1 h)
     ·rcases List.mem_cons.1 h1 with rfl | h1
      ·have := hlt b' (by simp); omega
      ·obtain ⟨p, q, hp, hq, h1⟩ := mem_flat.1 h1
       simp only [Fs'] at h1
       split at h1
       ·exact hF0S b' h1 hs
       ·have := hlt b' (List.mem_cons_of_mem _ (flat_mem_lt hp hq h1)); omega
    ·simp only [F', if_neg hne] at h1
     intro hs
     rcases hSnew b' hs with h | h | h
     ·exact hH.sep j p b' hp h1 h
     ·exact hold j p b' hne hp h1 h
     ·have := hH.lt j p b' hp h1; omega
   ·rcases lk j p hp with ⟨rfl, rfl⟩ | ⟨hne, hp⟩
    ·simp only [F', if_true] at h1
     rw [hlen'] at h1
     rcases List.mem_cons.1 h1 with rfl | h1
     ·exact Nat.lt_of_lt_of_le (hlt b' (by simp)) hsize
     ·obtain ⟨p, q, hp, hq, h1⟩ := mem_flat.1 h1
      simp only [Fs'] at h1
      split at h1
      ·exact hF0lt b' h1
      ·exact Nat.lt_of_lt_of_le (hlt b' (List.mem_cons_of_mem _ (flat_mem_lt hp hq h1))) hsize
    ·simp only [F', if_neg hne] at h1
     exact Nat.lt_of_lt_of_le (hH.lt j p b' hp h1) hsize
   ·rcases lk j p hp with ⟨rfl, rfl⟩ | ⟨hne, hp⟩
    ·simp only [F', if_true] at h1
     exact (hnewF b' h1).imp (fun h => ⟨_, _, hi, h⟩) id
    ·simp only [F', if_neg hne] at h1
     exact .inl ⟨j, p, hp, h1⟩
  have hsz0 : (#[cc m b, u] : Array Value).size = 2 := rfl
  by_cases hsr : srows = []
  ·obtain ⟨hs', hac⟩ := hnil hsr
   subst hsr
   have hH0 : HRel (fun _ => none) S (fun _ => []) [] w := ⟨fun _ _ => rfl, fun i o h => by simp [look] at h, fun i o h => by simp [look] at h, fun i j o p b h => by simp [look] at h, fun i o b h => by simp [look] at h, fun i o b h => by simp [look] at h, hH.slt⟩
   have hrdS : RD S w (cc m b) (.sl false false []) [] := by
    generalize cc m b = c at hd
    generalize Fs m b = F0 at hd
    cases hd with
    | nils => exact .nils false
    | exc g2 cap2 arr2 ety2 _ _ k3 cs2 Fs2 hh2 hcap2 hmax2 hsz2 hk3 hc2 hr2 => exact .shr ⟨g2, 0, none⟩ cap2 false [] k3 cs2 (Nat.zero_le _) (Nat.zero_le _) (fun i r h => by simp at h) (fun i j r x h => by simp at h) (fun i j r x h => by simp at h)
   refine (hac (fun _ => none) S (fun _ => []) #[cc m b, u] w rfl (fun j x hx => ?_) hH0 hG).mono ?_
   ·match j with
    | 0 => simp at hx; subst hx; exact hrdS.toRV
    | 1 => simp at hx; subst hx; exact .c _
    | j + 2 => simp at hx
   ·rintro en w' ⟨x, ρ', S', F', rfl, hx, hHn, hE, hA⟩
    have hUn : ∀ b, ¬ Ub ([] : Hp) (fun _ => []) b := fun b ⟨i, o, h1, _⟩ => by simp [look] at h1
    have hkp : ∀ b', b' < w.heap.size → w'.heap[b']? = w.heap[b']? := fun b' h => hE.keep b' h (hUn b')
    refine ⟨by rw [hx.c_inv], fin w' S (Fs m b) ?_ ((flat_nodup.1 hndf.2).1 m b hmn hbk) (fun b' h => .inl h) (fun b' h => hsep b' (hFsub b' h)) (fun b' h => Nat.lt_of_lt_of_le (hlt b' (hFsub b' h)) hE.size) (fun b' h => Nat.lt_of_lt_of_le (hH.slt b' h) hE.size) hE.os hE.tape hE.output hE.size (fun b' h _ => hkp b' h) (fun _ h => h) (fun _ h => .inl h)⟩
    rw [hs']
    exact (hd.mono (fun b' h => ⟨h, hkp b' (hH.slt b' h)⟩) (fun b' h => hkp b' (hlt b' (hFsub b' h)))).low
  ·obtain ⟨e2, he2, hobc⟩ : ∃ e2 : Tg, e2.hard = true ∧ ObR (fun j => if j = 0 then some (cc m b) else none) S w (cc m b) (.vec false e2 k2 srows) (Fs m b) := by
    generalize cc m b = c at hd
    generalize Fs m b = F0 at hd
    cases hd with
    | nils => exact absurd rfl hsr
    | exc g2 cap2 arr2 ety2 _ _ k3 cs2 Fs2 hh2 hcap2 hmax2 hsz2 hk3 hc2 hr2 ht2 =>
     have : k3 = k2 := by
      cases srows with
      | nil => exact absurd rfl hsr
      | cons r l => rw [← hk3 0 r rfl, hk2 r (by simp)]
     subst this
     exact ⟨ety2, rfl, .vec g2 cap2 arr2 false ety2 k3 srows cs2 Fs2 hh2 hcap2 hmax2 hsz2 hk3 hc2 hr2 ⟨rfl, ht2⟩⟩
   have hFnd : (Fs m b).Nodup := (flat_nodup.1 hndf.2).1 m b hmn hbk
   have hHc : HRel (fun j => if j = 0 then some (cc m b) else none) S (fun _ => Fs m b) [(0, .vec false e2 k2 srows)] w := by
    have l0 : ∀ j o, look [(0, Ob.vec false e2 k2 srows)] j = some o → j = 0 ∧ o = .vec false e2 k2 srows := fun j o h => by
     simp only [look] at h
     split at h
     ·cases h; exact ⟨‹_›, rfl⟩
     ·cases h
    refine ⟨fun j hj => ?_, fun j o h => ?_, fun j o h => hFnd, fun j j' o p b' h h' hne _ _ => ?_, fun j o b' h h1 => hsep b' (hFsub b' h1), fun j o b' h h1 => hlt b' (hFsub b' h1), hH.slt⟩
    ·simp only [look] at hj
     split at hj
     ·cases hj
     ·rename_i hne; simp [hne]
    ·obtain ⟨rfl, rfl⟩ := l0 j o h
     exact ⟨cc m b, by simp, hobc⟩
    ·exact hne ((l0 j o h).1.trans (l0 j' p h').1.symm)
   refine (hcont hsr e2 _ S _ #[cc m b, u] w rfl (fun j x hx => ?_) hHc hG).mono ?_
   ·match j with
    | 0 => simp at hx; subst hx; exact .own _ 0 fun r hr => by simp at hr; simpa using hr
    | 1 => simp at hx; subst hx; exact .c _
    | j + 2 => simp at hx
   ·rintro en w' ⟨x, ρ', S', F', rfl, hx, hHn, hE, hA⟩
    have hl0 : look [(0, Ob.vec false e2 k2 srows')] 0 = some (.vec false e2 k2 srows') := rfl
    obtain ⟨r1, hr1, hob1⟩ := hHn.obj 0 _ hl0
    have hr1c : r1 = cc m b := by
     have := hA 0 r1 (by omega) hr1
     simpa using this.symm
    subst hr1c
    have hU : ∀ b', Ub [(0, Ob.vec false e2 k2 srows)] (fun _ => Fs m b) b' → b' ∈ Fs m b := fun b' ⟨_, _, _, h⟩ => h
    refine ⟨by rw [hx.c_inv], fin w' S' (F' 0) (hob1.toRD he2) (hHn.nodup 0 _ hl0) (fun b' h => (hE.newU b' ⟨0, _, hl0, h⟩).imp (hU b') id) (fun b' h => hHn.sep 0 _ b' hl0 h) (fun b' h => hHn.lt 0 _ b' hl0 h) hHn.slt hE.os hE.tape hE.output hE.size (fun b' h h2 => hE.keep b' h fun h3 => h2 (hU b' h3)) hE.sub (fun b' h => (hE.newS b' h).imp id (Or.imp (hU b') id))⟩

theorem CO.nest {D : Tab} (hD : TabOk P D) {id : Nat} {l : List Oper} (pre post : List Oper) {oL oM oC : Oper} (hl : l = pre ++ oL :: oM :: oC :: post) {T : List V} {H0 : Hp} {Q : Exit → St → Prop} (T1 : List V) (H : Hp)
  (hpre : OpsOk P G l.toArray pre ⟨T, H0⟩ fun st => Weak st ⟨T1, H⟩)
  {tL : TypeId} {p dl s dm dc i k m b : Nat} {u : Value} (gL : oL.guard = none) (opL : oL.op = .load tL (.tmp p)) (dL : oL.dst = some dl) (gM : oM.guard = none) (opM : oM.op = .move (.tmp s)) (dM : oM.dst = some dm)
  {f : FuncId} {ats : Array TypeId} (gC : oC.guard = none) (opC : oC.op = .call { callee := .value (.func f), args := #[.tmp dl, .tmp dm], argTypes := ats }) (dC : oC.dst = some dc) (hcf : callOk P f)
  {it : Ty} (ht : D.at tL = some it) (hag : it.d.agg = false) (hdl : dl < T1.length) (hdm : dm < T1.length) (hne : dl ≠ dm) (hsl : s ≠ dl)
  (hp : T1[p]? = some (.vp i k m b)) (hs : T1[s]? = some (.c u))
  {nn nn2 : Bool} {ety : Tg} {rows : List (List V)} {row : List V} (hi : look H i = some (.vec nn ety k rows)) (hrow : rows[m]? = some row) {srows srows' : List (List V)} (hb : row[b]? = some (.sl nn2 true srows))
  {u' : Value} {k2 : Nat} (hcont : srows ≠ [] → ∀ e, AC P G f [.own 0, .c u] [(0, .vec false e k2 srows)] (.c u') [(0, .vec false e k2 srows')])
  (hnil : srows = [] → srows' = [] ∧ AC P G f [.sl false false [], .c u] [] (.c u') []) (hk2 : ∀ r, r ∈ srows → r.length = k2)
  (hpost : OpsOk P G l.toArray post ⟨((T1.set dl .junk).set dm (.c u)).set dc (.c u'), (i, .vec nn ety k (rows.set m (row.set b (.sl false true srows')))) :: hrem [i] H⟩ (Q .normal)) :
  CO L P G (.region id l.toArray false) ⟨T, H0⟩ Q := by
 intro B ρ S F a w R hst hn
 refine wpIn_region_lit ?_
 have hgo : wpListIn (fen L) 0 P l.toArray R (pre ++ oL :: oM :: oC :: post) a w := by
  refine OpsOk.wpThen pre hpre hst fun st1 h1 => ?_
  intro ρ0 S0 F0 a1 w1 hst0 hE0 hA0
  obtain ⟨ρ1, S1, F1, hst1, hE01, hA01⟩ := h1 _ G ρ0 S0 F0 a1 w1 hst0
  have hE1 := hE0.trans hE01
  have hA1 := hA0.trans hA01
  have hvp := hst1.tmps p _ hp
  obtain ⟨r0, hr0, hob⟩ := hst1.heap.obj i _ hi
  obtain ⟨g, n, cap, e1, e2⟩ := hvp.vp_inv r0 hr0
  subst e1
  obtain ⟨c, hcell, hone, hcalls⟩ := nest_call hcont hnil hk2 hst1.heap hst1.glob hi hrow hb hr0
  have hz := hst1.size
  simp only at hz
  -- the load
  have hload : (execOp a1.eval oL).run P w1 = .ok (.value c) w1 := by
   unfold execOp
   have hv : a1.eval (.tmp p) = .pointer (some ⟨g, m * k + b, none⟩) := e2
   simp only [opL, hv]
   have hpart : (loadVar tL ⟨g, m * k + b, none⟩).run P w1 = .ok c w1 := by
    simp only [loadVar, Sem.run_bind, (hD _ _ ht).isAgg w1, Result.andThen_ok, hag]
    simp [hcell]
   simp [Instr.loadAt, Instr.sureAddr, hpart]
  unfold wpListIn
  rw [if_pos (by simp [Region.wanted, gL])]
  refine ⟨fun _ _ => trivial, ?_⟩
  rw [Oper.semAt_eq _ _ _ (by intro c h; rw [opL] at h; cases h), hload, Oper.uponIn_value]
  -- the move
  unfold wpListIn
  rw [if_pos (by simp [Region.wanted, gM])]
  have hs1 : (a1.put oL.dst c).eval (.tmp s) = u := by
   have := (hst1.tmps s _ hs).c_inv
   simp only [Act.eval, dL, Act.put]
   rw [getD_setIfInBounds (by rw [hz]; exact (List.getElem?_eq_some_iff.1 hs).1), if_neg hsl]
   exact this
  have hmove : (execOp (a1.put oL.dst c).eval oM).run P w1 = .ok (.value u) w1 := by
   unfold execOp
   simp only [opM, hs1, Sem.run_pure, Sem.run_bind, Result.andThen_ok]
  refine ⟨fun _ _ => trivial, ?_⟩
  rw [Oper.semAt_eq _ _ _ (by intro c h; rw [opM] at h; cases h), hmove, Oper.uponIn_value]
  -- the call
  unfold wpListIn
  rw [if_pos (by simp [Region.wanted, gC])]
  generalize ha3 : ((a1.put oL.dst c).put oM.dst u) = a3
  have ht3 : a3.tmps = (a1.tmps.setIfInBounds dl c).setIfInBounds dm u := by rw [← ha3]; simp [dL, dM, Act.put]
  have hd3 : a3.defers = a1.defers := by rw [← ha3]; simp [dL, dM, Act.put]
  have hv1 : a3.eval (.tmp dl) = c := by
   simp only [Act.eval, ht3]
   rw [getD_setIfInBounds (by simp [hz, hdl]), if_neg hne, getD_setIfInBounds (by rw [hz]; exact hdl), if_pos rfl]
  have hv2 : a3.eval (.tmp dm) = u := by
   simp only [Act.eval, ht3]
   rw [getD_setIfInBounds (by simp [hz, hdm]), if_pos rfl]
  have hcall : (execOp a3.eval oC).run P w1 = .ok (.enter f #[c, u]) w1 := by
   unfold execOp
   have hfv : a3.eval (.func f) = .func (.func f) #[] #[] := rfl
   simp only [opC, resolve, hfv, Deferred.ofValue, Sem.run_bind, Sem.run_pure, Result.andThen_ok, invoke, Array.empty_append, Array.append_empty, List.map_toArray, List.map_cons, List.map_nil, hv1, hv2]
   exact hcf #[c, u] w1
  refine ⟨fun _ _ => trivial, ?_⟩
  rw [Oper.semAt_eq _ _ _ (by intro c h; rw [opC] at h; cases h), hcall, Oper.uponIn_enter]
  refine ⟨fun h => (by cases h), ?_⟩
  refine CallsIn.mono (callsIn_wide.2 hcalls : CallsIn Fence.wide 0 P _ _ _ _) ?_
  rintro en w' ⟨rfl, ρ2, S2, F2, hH2, hE2, hA2⟩
  simp only
  refine OpsOk.wpThen (B := B) (rest := []) post hpost (ρ := ρ2) (S := S2) (F := F2) ?_ (fun st' h' => ?_) |> fun h => by simpa using h
  ·have hkp := hst1.heap.keeps hE2
   refine ⟨by simp only [dC, Act.put, hd3]; exact hst1.defers.evo hst1.heap hE2, by simp [dC, Act.put, ht3, hz], fun j x hx => ?_, hH2, hst1.glob.mono hkp⟩
   have hold : ∀ j x, T1[j]? = some x → RV ρ2 S2 w' (a1.tmps.getD j undef) x := fun j x h => (hst1.tmps j x h).mono (fun i r hi _ => hA2 i r hi (by simp)) hkp
   have hjT : j < T1.length := by have := (List.getElem?_eq_some_iff.1 hx).1; simpa using this
   simp only [dC, Act.put, ht3]
   rw [getD_setIfInBounds (by simp [hz, hjT])]
   rcases set_get hx with ⟨rfl, rfl⟩ | ⟨h1, hx⟩
   ·rw [if_pos rfl]; exact .c _
   ·rw [if_neg h1, getD_setIfInBounds (by simp [hz, hjT])]
    rcases set_get hx with ⟨rfl, rfl⟩ | ⟨h2, hx⟩
    ·rw [if_pos rfl]; exact .c _
    ·rw [if_neg h2, getD_setIfInBounds (by rw [hz]; exact hjT)]
     rcases set_get hx with ⟨rfl, rfl⟩ | ⟨h3, hx⟩
     ·rw [if_pos rfl]; exact .junk _
     ·rw [if_neg h3]; exact hold j x hx
  ·intro ρ3 S3 F3 a4 w4 hst4 hE4 hA4
   exact hn .normal st' h' ρ3 S3 F3 a4 w4 hst4 (hE1.trans (hE2.trans hE4)) (hA1.trans (AgF.trans (fun j r _ hr => hA2 j r hr (by simp)) hA4))
 rw [hl] at hgo ⊢
 exact hgo

theorem OpsOk.free {ops ops' : Array Oper} : ∀ {l : List Oper} {st : St} {Q : St → Prop}, (l.all fun o => o.guard.isNone) = true → OpsOk P G ops l st Q → OpsOk P G ops' l st Q
 | [], _, _, _, h => h
 | o :: l, st, Q, hg, h => by
  simp only [List.all_cons, Bool.and_eq_true] at hg
  unfold OpsOk at h ⊢
  have hn : o.guard = none := by
   cases hgo : o.guard with
   | none => rfl
   | some _ => rw [hgo] at hg; exact absurd hg.1 (by simp)
  rw [hn] at h ⊢
  obtain ⟨v, H', N, h1, h2, h3⟩ := h
  exact ⟨v, H', N, h1, h2, OpsOk.free hg.2 h3⟩

theorem W.toOps {l : List Oper} {ops' : Array Oper} {T : List V} {H : Hp} {Q : St → Prop} (hg : (l.all fun o => o.guard.isNone) = true) (h : W P G l.toArray false T H 0 T H [] Q) : OpsOk P G ops' l ⟨T, H⟩ Q := by
 obtain ⟨tail, T', H', hc, hk, hq⟩ := h
 have := hc.opsOk (Q := Q) (by simpa [okR] using hk) hq
 exact OpsOk.free hg (by simpa using this)

def opAs (l : List Oper) (n : Nat) (op : Op) (d : Nat) : Prop := ∃ o, l[n]? = some o ∧ o.op = op ∧ o.dst = some d

theorem split3 {l : List Oper} {n : Nat} {a b c : Oper} (ha : l[n]? = some a) (hb : l[n + 1]? = some b) (hc : l[n + 2]? = some c) : l = l.take n ++ a :: b :: c :: l.drop (n + 3) := by
 have h1 := (List.getElem?_eq_some_iff.1 ha)
 have h2 := (List.getElem?_eq_some_iff.1 hb)
 have h3 := (List.getElem?_eq_some_iff.1 hc)
 obtain ⟨l1, e1⟩ := h1
 obtain ⟨l2, e2⟩ := h2
 obtain ⟨l3, e3⟩ := h3
 conv => lhs; rw [← List.take_append_drop n l]
 rw [List.drop_eq_getElem_cons l1, e1, List.drop_eq_getElem_cons l2, e2, List.drop_eq_getElem_cons l3, e3]

theorem CO.nestEnd {D : Tab} (hD : TabOk P D) {id : Nat} {l : List Oper} (n : Nat) {T : List V} {H0 : Hp} {Q : Exit → St → Prop} (T1 : List V) (H : Hp) (T' : List V) (H' : Hp)
  (hg : (l.all fun o => o.guard.isNone) = true) (hpre : W P G (l.take n).toArray false T H0 0 T H0 [] fun st => Weak st ⟨T1, H⟩)
  {tL p dl s dm dc i k m b : Nat} {u : Value} {f : FuncId} {ats : Array TypeId}
  (hL : opAs l n (.load tL (.tmp p)) dl) (hM : opAs l (n + 1) (.move (.tmp s)) dm) (hC : opAs l (n + 2) (.call { callee := .value (.func f), args := #[.tmp dl, .tmp dm], argTypes := ats }) dc) (hcf : callOk P f)
  (ht : (D.at tL).any (fun it => !it.d.agg) = true) (hnum : (Nat.blt dl T1.length && Nat.blt dm T1.length && dl != dm && s != dl) = true)
  (hp : T1[p]? = some (.vp i k m b)) (hs : T1[s]? = some (.c u))
  {nn nn2 : Bool} {ety : Tg} {α : Type} (enc : α → List V) {la la' : List α} {n0 : Int} {x x' : α} (hx : ix la n0 = some x) (hu : upd la n0 x' = some la') (hm : m = n0.toNat)
  (hi : look H i = some (.vec nn ety k (la.map enc))) {srows srows' : List (List V)} (hb : (enc x)[b]? = some (.sl nn2 true srows)) (hx' : (enc x).set b (.sl false true srows') = enc x')
  {u' : Value} {k2 : Nat} (hcont : srows ≠ [] → ∀ e, AC P G f [.own 0, .c u] [(0, .vec false e k2 srows)] (.c u') [(0, .vec false e k2 srows')])
  (hnil : srows = [] → srows' = [] ∧ AC P G f [.sl false false [], .c u] [] (.c u') []) (hk2 : ∀ r, r ∈ srows → r.length = k2)
  (hpost : W P G (l.drop (n + 3)).toArray false (((T1.set dl .junk).set dm (.c u)).set dc (.c u')) ((i, .vec nn ety k (la'.map enc)) :: hrem [i] H) 0 (((T1.set dl .junk).set dm (.c u)).set dc (.c u')) ((i, .vec nn ety k (la'.map enc)) :: hrem [i] H) [] fun st => Weak st ⟨T', H'⟩)
  (hQ : ∀ st, Weak st ⟨T', H'⟩ → Q .normal st) : CO L P G (.region id l.toArray false) ⟨T, H0⟩ Q := by
 obtain ⟨oL, hL1, hL2, hL3⟩ := hL
 obtain ⟨oM, hM1, hM2, hM3⟩ := hM
 obtain ⟨oC, hC1, hC2, hC3⟩ := hC
 have hsp := split3 hL1 hM1 hC1
 have hgn : ∀ o, o ∈ l → o.guard = none := fun o ho => by
  have := List.all_eq_true.1 hg o ho
  cases h : o.guard with
  | none => rfl
  | some _ => rw [h] at this; exact absurd this (by simp)
 have hgsub : ∀ l2 : List Oper, (∀ o, o ∈ l2 → o ∈ l) → (l2.all fun o => o.guard.isNone) = true := fun l2 h => List.all_eq_true.2 fun o ho => by rw [hgn o (h o ho)]; rfl
 simp only [Bool.and_eq_true, Nat.blt_eq, bne_iff_ne] at hnum
 obtain ⟨⟨⟨h1, h2⟩, h3⟩, h4⟩ := hnum
 obtain ⟨q1, q2⟩ := ix_some hx
 subst hm
 have hrow : (la.map enc)[n0.toNat]? = some (enc x) := by rw [List.getElem?_map, q2]; rfl
 have hset : (la.map enc).set n0.toNat ((enc x).set b (.sl false true srows')) = la'.map enc := by
  unfold upd at hu
  split at hu
  ·cases hu; rw [hx', List.map_set]
  ·cases hu
 obtain ⟨it, ht1, ht2⟩ : ∃ it, D.at tL = some it ∧ it.d.agg = false := by
  cases h : D.at tL with
  | none => rw [h] at ht; cases ht
  | some it => rw [h] at ht; exact ⟨it, rfl, by simpa using ht⟩
 refine CO.nest hD (l.take n) (l.drop (n + 3)) hsp T1 H (W.toOps (hgsub _ fun o ho => List.mem_of_mem_take ho) hpre) (hgn _ (List.mem_of_getElem? hL1)) hL2 hL3 (hgn _ (List.mem_of_getElem? hM1)) hM2 hM3 (hgn _ (List.mem_of_getElem? hC1)) hC2 hC3 hcf ht1 ht2 h1 h2 h3 h4 hp hs hi hrow hb hcont hnil hk2 ?_
 rw [hset]
 have := W.toOps (ops' := l.toArray) (hgsub _ fun o ho => List.mem_of_mem_drop ho) hpost
 exact OpsOk.imp this fun st h => hQ st h

end
end Go.Av

namespace Go.Av

theorem wrap64 {n : Int} (h1 : -9223372036854775808 ≤ n) (h2 : n ≤ 9223372036854775807) : IntKind.wrap .i64 n = n := by
 rw [IntKind.wrap_i64]; omega

theorem ix_nat {α : Type} {l : List α} {i : Nat} (h : i < l.length) : ix l (i : Int) = some l[i] := by
 unfold ix
 rw [if_pos (Int.natCast_nonneg i), Int.toNat_natCast, List.getElem?_eq_getElem h]

theorem ix_get {α : Type} {l : List α} {i : Nat} {x : α} (h : l[i]? = some x) : ix l (i : Int) = some x := by
 unfold ix
 rw [if_pos (Int.natCast_nonneg i), Int.toNat_natCast, h]

theorem upd_nat {α : Type} {l : List α} {i : Nat} {x : α} (h : i < l.length) : upd l (i : Int) x = some (l.set i x) := by
 unfold upd
 rw [if_pos ⟨Int.natCast_nonneg i, by simpa using h⟩, Int.toNat_natCast]

theorem step64 {i n : Nat} (h : i < n) (hn : n ≤ maxLen) : IntKind.wrap .i64 ((i : Int) + 1) = ((i + 1 : Nat) : Int) := by
 simp only [maxLen] at hn
 rw [wrap64 (by omega) (by omega)]
 omega

theorem cut_nat {α : Type} {l : List α} {a b : Nat} (h : a ≤ b) (hb : b ≤ l.length) : cut l (a : Int) (b : Int) = some ((l.drop a).take (b - a)) := by
 unfold cut
 rw [if_pos ⟨Int.natCast_nonneg a, by omega, by omega⟩]
 simp

theorem app_some {α : Type} {n : Nat} {l l2 : List α} (h : (l.length + l2.length) * n ≤ 140737488355328) : app n l l2 = some (l ++ l2) := by
 unfold app
 rw [if_pos h]

theorem cat_some {a b : List UInt8} (h : a.length + b.length ≤ maxLen) : cat a b = some (a ++ b) := by
 unfold cat
 rw [if_pos h]

theorem mk_some {α : Type} {n : Nat} {z : α} {i : Nat} (h : n * i ≤ 281474976710656) (h2 : i ≤ maxLen) : mk n z (i : Int) = some (List.replicate i z) := by
 unfold mk
 rw [if_pos ⟨Int.natCast_nonneg i, by simpa using h, by simpa using h2⟩, Int.toNat_natCast]

theorem lt_true {i n : Nat} (h : i < n) : decide ((i : Int) < (n : Int)) = true := by simp [h]
theorem lt_false {i n : Nat} (h : ¬ i < n) : decide ((i : Int) < (n : Int)) = false := by simp; omega

theorem drop_cons {α : Type} {l : List α} {i : Nat} (h : i < l.length) : l.drop i = l[i] :: l.drop (i + 1) := List.drop_eq_getElem_cons h
theorem drop_nil {α : Type} {l : List α} {i : Nat} (h : ¬ i < l.length) : l.drop i = [] := List.drop_of_length_le (by omega)

def toL {α : Type} (f : α → Option α) : Nat → (List α × Int × List α) → Option (List α)
 | 0, _ => none
 | n + 1, (a, i, y) => bif decide (i < (a.length : Int)) then Option.bind (ix a i) fun e => Option.bind (f e) fun r => Option.bind (ix y i) fun _ => Option.bind (upd y i r) fun x => toL f n (a, IntKind.wrap .i64 (i + 1), x) else some y

theorem toL_is {α : Type} (f : α → Option α) (a : List α) (hf : ∀ x, x ∈ a → f x = some x) (hl : a.length ≤ maxLen) : ∀ (n i : Nat) (y : List α), a.length - i < n → i ≤ a.length → y.length = a.length → y.take i = a.take i → toL f n (a, (i : Int), y) = some a := by
 intro n
 induction n with
 | zero => intro i y h; omega
 | succ n ih =>
  intro i y hn hi hy ht
  rw [toL]
  by_cases h : i < a.length
  ·have hy' : i < y.length := by omega
   simp only [lt_true h, cond_true, ix_nat h, Option.bind_some, hf _ (List.getElem_mem h), ix_nat hy', upd_nat hy', step64 h hl]
   refine ih (i + 1) _ (by omega) (by omega) (by simpa using hy) ?_
   rw [List.take_add_one, List.take_add_one, List.take_set_of_le (Nat.le_refl i), ht, List.getElem?_set_self hy', List.getElem?_eq_getElem h]
  ·simp only [lt_false h, cond_false]
   have hi' : i = a.length := by omega
   subst hi'
   rw [List.take_of_length_le (by omega), List.take_of_length_le (by omega)] at ht
   rw [ht]

def eqL {α : Type} (f : α → α → Option Bool) : Nat → (List α × List α × Int) → Option Bool
 | 0, _ => none
 | n + 1, (a, b, i) => bif decide (i < (a.length : Int)) then Option.bind (ix a i) fun x => Option.bind (ix b i) fun y => Option.bind (f x y) fun r => bif !r then some false else eqL f n (a, b, IntKind.wrap .i64 (i + 1)) else some true

theorem eqL_self {α : Type} (f : α → α → Option Bool) (a : List α) (hf : ∀ x, x ∈ a → f x x = some true) (hl : a.length ≤ maxLen) : ∀ (n i : Nat), a.length - i < n → i ≤ a.length → eqL f n (a, a, (i : Int)) = some true := by
 intro n
 induction n with
 | zero => intro i h; omega
 | succ n ih =>
  intro i hn hi
  rw [eqL]
  by_cases h : i < a.length
  ·simp only [lt_true h, cond_true, ix_nat h, Option.bind_some, hf _ (List.getElem_mem h), Bool.not_true, cond_false, step64 h hl]
   exact ih (i + 1) (by omega) (by omega)
  ·simp only [lt_false h, cond_false]

def szL {α : Type} (f : α → Int → Option Int) : Nat → (List α × Int × Int) → Option Int
 | 0, _ => none
 | n + 1, (a, b, i) => bif decide (i < (a.length : Int)) then Option.bind (ix a i) fun e => Option.bind (f e b) fun r => bif decide (r < 0) then some (-1) else szL f n (a, r, IntKind.wrap .i64 (i + 1)) else some b

def Sz (f : Int → Option Int) (s : Nat) : Prop := ∀ b : Int, 0 ≤ b → b ≤ 1048576 → ∃ r, f b = some r ∧ ((r < 0 ∧ b < s) ∨ r = b - s ∧ 0 ≤ r)

def sumN {α : Type} (sz : α → Nat) (l : List α) : Nat := (l.map sz).sum

theorem szL_is {α : Type} (f : α → Int → Option Int) (sz : α → Nat) (a : List α) (hf : ∀ x, x ∈ a → Sz (f x) (sz x)) (hl : a.length ≤ maxLen) : ∀ (n i : Nat) (b : Int), a.length - i < n → i ≤ a.length → 0 ≤ b → b ≤ 1048576 →
  ∃ r, szL f n (a, b, (i : Int)) = some r ∧ ((r < 0 ∧ b < sumN sz (a.drop i)) ∨ r = b - sumN sz (a.drop i) ∧ 0 ≤ r) := by
 intro n
 induction n with
 | zero => intro i b h; omega
 | succ n ih =>
  intro i b hn hi h0 h1
  rw [szL]
  by_cases h : i < a.length
  ·obtain ⟨r, hr, hc⟩ := hf _ (List.getElem_mem h) b h0 h1
   have hs : sumN sz (a.drop i) = sz a[i] + sumN sz (a.drop (i + 1)) := by rw [drop_cons h]; simp only [sumN, List.map_cons, List.sum_cons]
   simp only [lt_true h, cond_true, ix_nat h, Option.bind_some, hr, step64 h hl]
   rcases hc with ⟨hc, hb⟩ | ⟨hc, hr0⟩
   ·exact ⟨-1, by simp [hc], .inl ⟨by omega, by omega⟩⟩
   ·obtain ⟨r', hr', hc'⟩ := ih (i + 1) r (by omega) (by omega) hr0 (by omega)
    have hd : decide (r < 0) = false := by simp; omega
    refine ⟨r', by rw [hd]; exact hr', ?_⟩
    rcases hc' with ⟨h2, h3⟩ | ⟨h2, h3⟩
    ·exact .inl ⟨h2, by omega⟩
    ·exact .inr ⟨by omega, h3⟩
  ·simp only [lt_false h, cond_false]
   exact ⟨b, rfl, .inr ⟨by rw [drop_nil h]; simp [sumN], h0⟩⟩

theorem sumN_mem {α : Type} {sz : α → Nat} {l : List α} {x : α} (h : x ∈ l) : sz x ≤ sumN sz l := by
 induction l with
 | nil => cases h
 | cons y l ih =>
  simp only [sumN, List.map_cons, List.sum_cons]
  rcases List.mem_cons.1 h with rfl | h
  ·omega
  ·have := ih h; simp only [sumN] at this; omega

theorem Sz.list {α : Type} {f : α → Int → Option Int} {sz : α → Nat} {a : List α} (hf : ∀ x, x ∈ a → Sz (f x) (sz x)) (hl : a.length ≤ maxLen) {g : Nat → Int → Option Int} {n : Nat} (hn : a.length < n)
  (hg : ∀ b, g n b = bif decide (IntKind.wrap .i64 (b - (a.length : Int)) < 0) then some (-1) else szL f n (a, IntKind.wrap .i64 (b - (a.length : Int)), 0)) : Sz (g n) (a.length + sumN sz a) := by
 intro b h0 h1
 have hl' := hl
 simp only [maxLen] at hl'
 rw [hg, wrap64 (by omega) (by omega)]
 by_cases h : b - (a.length : Int) < 0
 ·exact ⟨-1, by simp [h], .inl ⟨by omega, by omega⟩⟩
 ·obtain ⟨r, hr, hc⟩ := szL_is f sz a hf hl n 0 (b - a.length) (by omega) (by omega) (by omega) (by omega)
  refine ⟨r, by simp only [h, decide_false, cond_false]; exact hr, ?_⟩
  rw [List.drop_zero] at hc
  rcases hc with ⟨h2, h3⟩ | ⟨h2, h3⟩
  ·exact .inl ⟨h2, by omega⟩
  ·exact .inr ⟨by omega, h3⟩

def mkAll {α : Type} (mk : α → Int → α × Int) : List α → Int → List α × Int
 | [], k => ([], k)
 | e :: l, k => ((mk e k).1 :: (mkAll mk l (mk e k).2).1, (mkAll mk l (mk e k).2).2)

theorem mkAll_le {α : Type} {mk : α → Int → α × Int} {cost : α → Nat} (hmk : ∀ e k, 0 ≤ k → k ≤ (mk e k).2 ∧ (mk e k).2 ≤ k + cost e) : ∀ (l : List α) (k : Int), 0 ≤ k → k ≤ (mkAll mk l k).2 ∧ (mkAll mk l k).2 ≤ k + sumN cost l
 | [], k, h => by simp [mkAll, sumN]
 | e :: l, k, h => by
  have h1 := hmk e k h
  have h2 := mkAll_le hmk l (mk e k).2 (by omega)
  simp only [mkAll, sumN, List.map_cons, List.sum_cons] at h2 ⊢
  omega

theorem mkAll_len {α : Type} (mk : α → Int → α × Int) : ∀ (l : List α) (k : Int), (mkAll mk l k).1.length = l.length
 | [], _ => rfl
 | e :: l, k => by simp [mkAll, mkAll_len mk l]

theorem set_mid {α : Type} (pre : List α) (e x : α) (rest : List α) : (pre ++ e :: rest).set pre.length x = pre ++ x :: rest := by
 rw [List.set_append_right _ _ (Nat.le_refl _), Nat.sub_self, List.set_cons_zero]

theorem get_mid {α : Type} (pre : List α) (e : α) (rest : List α) : (pre ++ e :: rest)[pre.length]? = some e := by
 rw [List.getElem?_append_right (Nat.le_refl _), Nat.sub_self, List.getElem?_cons_zero]

theorem markLoop {α : Type} {M : Nat → (Int × Int × List α) → Option (Int × List α)} {mk : α → Int → α × Int} {cost : α → Nat} {ok : α → Prop} (hmk : ∀ e k, 0 ≤ k → k ≤ (mk e k).2 ∧ (mk e k).2 ≤ k + cost e)
  (step : ∀ (n : Nat) (k : Int) (i : Nat) (y : List α) (e : α), ok e → 0 ≤ k → k + (cost e : Int) ≤ 4611686018427387904 → y.length ≤ maxLen → y[i]? = some e → M (n + 1) (k, (i : Int), y) = M n ((mk e k).2, ((i + 1 : Nat) : Int), y.set i (mk e k).1))
  (stop : ∀ (n : Nat) (k : Int) (i : Nat) (y : List α), ¬ i < y.length → M (n + 1) (k, (i : Int), y) = some (k, y)) :
  ∀ (rest pre : List α) (k : Int) (n : Nat), (∀ e, e ∈ rest → ok e) → 0 ≤ k → k + (sumN cost rest : Int) ≤ 4611686018427387904 → rest.length < n → (pre ++ rest).length ≤ maxLen →
   M n (k, (pre.length : Int), pre ++ rest) = some ((mkAll mk rest k).2, pre ++ (mkAll mk rest k).1) := by
 intro rest
 induction rest with
 | nil =>
  intro pre k n _ _ _ hn _
  obtain ⟨n, rfl⟩ : ∃ m, n = m + 1 := ⟨n - 1, by simp at hn; omega⟩
  rw [stop n k pre.length _ (by simp)]
  simp [mkAll]
 | cons e rest ih =>
  intro pre k n hok h0 hk hn hl
  obtain ⟨n, rfl⟩ : ∃ m, n = m + 1 := ⟨n - 1, by simp at hn; omega⟩
  simp only [sumN, List.map_cons, List.sum_cons] at hk
  have h1 := hmk e k h0
  rw [step n k pre.length _ e (hok e (by simp)) h0 (by omega) hl (get_mid _ _ _), set_mid]
  have := ih (pre ++ [(mk e k).1]) (mk e k).2 n (fun x hx => hok x (by simp [hx])) (by omega) (by simp only [sumN]; omega) (by simp at hn; omega) (by simpa using hl)
  simp only [List.length_append, List.length_cons, List.length_nil, List.append_assoc, List.cons_append, List.nil_append, Nat.zero_add] at this
  rw [this]
  simp [mkAll]

theorem heldLoop {α : Type} {L : Nat → (List α × Int × Int) → Option Int} {mk : α → Int → α × Int} {cost : α → Nat} {ok : α → Prop} (hmk : ∀ e k, 0 ≤ k → k ≤ (mk e k).2 ∧ (mk e k).2 ≤ k + cost e)
  (step : ∀ (n : Nat) (k : Int) (i : Nat) (a : List α) (e : α), ok e → 0 ≤ k → k + (cost e : Int) ≤ 4611686018427387904 → a.length ≤ maxLen → a[i]? = some (mk e k).1 → L (n + 1) (a, k, (i : Int)) = L n (a, (mk e k).2, ((i + 1 : Nat) : Int)))
  (stop : ∀ (n : Nat) (k : Int) (i : Nat) (a : List α), ¬ i < a.length → L (n + 1) (a, k, (i : Int)) = some k) :
  ∀ (rest pre : List α) (k : Int) (n : Nat), (∀ e, e ∈ rest → ok e) → 0 ≤ k → k + (sumN cost rest : Int) ≤ 4611686018427387904 → rest.length < n → (pre ++ rest).length ≤ maxLen →
   L n (pre ++ (mkAll mk rest k).1, k, (pre.length : Int)) = some (mkAll mk rest k).2 := by
 intro rest
 induction rest with
 | nil =>
  intro pre k n _ _ _ hn _
  obtain ⟨n, rfl⟩ : ∃ m, n = m + 1 := ⟨n - 1, by simp at hn; omega⟩
  rw [stop n k pre.length _ (by simp [mkAll])]
  simp [mkAll]
 | cons e rest ih =>
  intro pre k n hok h0 hk hn hl
  obtain ⟨n, rfl⟩ : ∃ m, n = m + 1 := ⟨n - 1, by simp at hn; omega⟩
  simp only [sumN, List.map_cons, List.sum_cons] at hk
  have h1 := hmk e k h0
  simp only [mkAll]
  rw [step n k pre.length _ e (hok e (by simp)) h0 (by omega) (by simp [mkAll_len] at hl ⊢; omega) (get_mid _ _ _)]
  have := ih (pre ++ [(mk e k).1]) (mk e k).2 n (fun x hx => hok x (by simp [hx])) (by omega) (by simp only [sumN]; omega) (by simp at hn; omega) (by simpa using hl)
  simp only [List.length_append, List.length_cons, List.length_nil, List.append_assoc, List.cons_append, List.nil_append, Nat.zero_add] at this
  exact this

def mkInt (_ : Int) (k : Int) : Int × Int := (k, k + 1)

theorem mkInt_le (e k : Int) (_ : 0 ≤ k) : k ≤ (mkInt e k).2 ∧ (mkInt e k).2 ≤ k + ((fun _ : Int => 1) e : Nat) := by simp [mkInt]; omega

theorem sumN_const {α : Type} (c : Nat) (l : List α) : sumN (fun _ => c) l = c * l.length := by
 induction l with
 | nil => simp [sumN]
 | cons a l ih => simp only [sumN, List.map_cons, List.sum_cons, List.length_cons] at ih ⊢; rw [ih, Nat.mul_succ]; omega

end Go.Av

namespace Go.Av

theorem take_rev {α : Type} {l : List α} {j : Nat} (h : j < l.length) : (l.take (j + 1)).reverse = l[j] :: (l.take j).reverse := by
 rw [List.take_add_one, List.getElem?_eq_getElem h]
 simp

theorem nat_ge (j : Nat) : decide ((j : Int) ≥ 0) = true := by simp
theorem pred_nat (j : Nat) : ((j + 1 : Nat) : Int) - 1 = (j : Int) := by omega

def walk (out : List Int) : Int → List Int → Option Int
 | a, [] => some a
 | a, k :: ks => if a = 0 ∨ k ≠ a - 1 then none else match out[(a - 1).toNat]? with
  | some b => walk out b ks
  | none => none

def starts : List (List Int) → List Int → Option (List Int)
 | [], out => some out
 | ks :: l, out => (walk out (out.length : Int) ks.reverse).bind fun s => starts l (out ++ [s])

def Kids (out : List Int) : Int → Int → List Int → Prop
 | a, b, [] => a = b
 | a, b, k :: ks => 0 ≤ a ∧ a ≤ k ∧ k < b ∧ out[k.toNat]? = some a ∧ Kids out (k + 1) b ks

def Low (out : List Int) : Prop := ∀ (j : Nat) (s : Int), out[j]? = some s → 0 ≤ s ∧ s ≤ j

theorem Low.snoc {out : List Int} (h : Low out) {s : Int} (h0 : 0 ≤ s) (h1 : s ≤ out.length) : Low (out ++ [s]) := by
 intro j x hx
 rw [List.getElem?_append] at hx
 split at hx
 ·exact h j x hx
 ·rename_i hj
  have : j - out.length = 0 := by
   have := (List.getElem?_eq_some_iff.1 hx).1
   simp at this
   omega
  rw [this] at hx
  cases hx
  omega

theorem Kids.snoc {out : List Int} : ∀ {ks : List Int} {a m : Int}, Kids out a m ks → ∀ {k b : Int}, 0 ≤ m → m ≤ k → k < b → k + 1 = b → out[k.toNat]? = some m → Kids out a b (ks ++ [k])
 | [], a, m, h, k, b, h0, h1, h2, h3, h4 => by
  simp only [Kids] at h
  subst h
  exact ⟨h0, h1, h2, h4, h3⟩
 | k' :: ks, a, m, h, k, b, h0, h1, h2, h3, h4 => by
  obtain ⟨g0, g1, g2, g3, g4⟩ := h
  exact ⟨g0, g1, by omega, g3, Kids.snoc g4 h0 h1 h2 h3 h4⟩

theorem walk_le {out : List Int} (hl : Low out) : ∀ (ks : List Int) {b a : Int}, 0 ≤ b → walk out b ks = some a → 0 ≤ a ∧ a ≤ b
 | [], b, a, h0, h => by cases h; omega
 | k :: ks, b, a, h0, h => by
  unfold walk at h
  split at h
  ·cases h
  ·rename_i hc
   split at h
   ·rename_i m hm
    have := hl _ _ hm
    have := walk_le hl ks this.1 h
    omega
   ·cases h

theorem walk_kids {out : List Int} (hl : Low out) : ∀ (r : List Int) {b a : Int}, 0 ≤ b → walk out b r = some a → Kids out a b r.reverse
 | [], b, a, h0, h => by cases h; rfl
 | k :: r, b, a, h0, h => by
  unfold walk at h
  split at h
  ·cases h
  ·rename_i hc
   split at h
   ·rename_i m hm
    have h1 := hl _ _ hm
    have h2 : k = b - 1 := by
     cases Classical.em (k = b - 1) with
     | inl h => exact h
     | inr h => exact absurd (.inr h) hc
    have h3 : b ≠ 0 := fun h => hc (.inl h)
    rw [List.reverse_cons]
    have hm' : out[k.toNat]? = some m := by rw [h2]; exact hm
    exact (walk_kids hl r h1.1 h).snoc h1.1 (by omega) (by omega) (by omega) hm'
   ·cases h

theorem Kids.more {out : List Int} (out2 : List Int) : ∀ {ks : List Int} {a b : Int}, Kids out a b ks → Kids (out ++ out2) a b ks
 | [], _, _, h => h
 | k :: ks, a, b, ⟨h0, h1, h2, h3, h4⟩ => ⟨h0, h1, h2, by rw [List.getElem?_append_left (List.getElem?_eq_some_iff.1 h3).1]; exact h3, h4.more out2⟩

theorem starts_spec : ∀ (l : List (List Int)) {out r : List Int}, Low out → starts l out = some r → (∃ m, r = out ++ m ∧ m.length = l.length) ∧ Low r ∧
  ∀ (j : Nat) (ks : List Int), l[j]? = some ks → ∃ s, r[out.length + j]? = some s ∧ Kids r s ((out.length + j : Nat) : Int) ks
 | [], out, r, hl, h => by
  cases h
  exact ⟨⟨[], by simp, rfl⟩, hl, fun j ks h => by simp at h⟩
 | ks :: l, out, r, hl, h => by
  unfold starts at h
  obtain ⟨s, hs, h⟩ := Option.bind_eq_some_iff.1 h
  have h1 := walk_le hl _ (Int.natCast_nonneg _) hs
  have hl2 := hl.snoc h1.1 h1.2
  obtain ⟨⟨m, hm, hml⟩, hlr, hk⟩ := starts_spec l hl2 h
  refine ⟨⟨s :: m, by rw [hm]; simp, by simp [hml]⟩, hlr, fun j ks' hj => ?_⟩
  cases j with
  | zero =>
   simp only [List.getElem?_cons_zero, Option.some.injEq] at hj
   subst hj
   refine ⟨s, by rw [hm]; simp, ?_⟩
   have := walk_kids hl _ (Int.natCast_nonneg _) hs
   rw [List.reverse_reverse] at this
   rw [hm, List.append_assoc, Nat.add_zero]
   exact this.more _
  | succ j =>
   simp only [List.getElem?_cons_succ] at hj
   obtain ⟨s', hs', hk'⟩ := hk j ks' hj
   have e : (out ++ [s]).length + j = out.length + (j + 1) := by simp; omega
   rw [e] at hs' hk'
   exact ⟨s', hs', hk'⟩

theorem Kids.lt {out : List Int} : ∀ {ks : List Int} {a b : Int}, Kids out a b ks → ∀ k, k ∈ ks → a ≤ k ∧ 0 ≤ k ∧ k < b
 | [], _, _, _, k, hk => by cases hk
 | k' :: ks, a, b, ⟨h0, h1, h2, _, h4⟩, k, hk => by
  rcases List.mem_cons.1 hk with rfl | hk
  ·omega
  ·have := h4.lt k hk; omega

end Go.Av

namespace Go.Av
open Go
variable {P : Program} {G : Nat → Option (List V)}

theorem OpOk.imp {o : Oper} {e : Operand → V} {H : Hp} {v v' : V} (h : OpOk P G o e H v H []) (hv : ∀ ρ S w x, RV ρ S w x v → RV ρ S w x v') : OpOk P G o e H v' H [] := by
 intro ρ S F η w hη hH hG
 refine (h ρ S F η w hη hH hG).mono ?_
 rintro x w' ⟨ρ', S', F', h1, h2, h3, h4⟩
 exact ⟨ρ', S', F', hv _ _ _ _ h1, h2, h3, h4⟩

theorem RV.elOne {ρ : Nat → Option Value} {S : Nat → Prop} {w : World} {v : Value} {cells : List V} {x : V} (h : RV ρ S w v (.el cells)) (hx : cells[0]? = some x) : RV ρ S w v (.el [x]) := by
 obtain ⟨a, cs, rfl, h1, h2⟩ := h.el_inv
 refine .el a [x] cs (fun j y hy => ?_) (fun j y hy => ?_)
 all_goals
  cases j with
  | zero =>
   simp only [List.getElem?_cons_zero, Option.some.injEq] at hy
   subst hy
   first
    | exact h1 0 x hx
    | exact h2 0 x hx
  | succ j => simp at hy

theorem RV.slAny {ρ : Nat → Option Value} {S : Nat → Prop} {w : World} {v : Value} {nn x : Bool} {rows : List (List V)} (h : RV ρ S w v (.sl nn x rows)) : RV ρ S w v (.sl false x rows) := by
 cases h with
 | sl _ _ _ _ h =>
  refine .sl _ _ _ _ ?_
  generalize hF : ([] : List Nat) = F at h
  cases h with
  | nils => exact .nils _
  | shr a cap nn rows k cs h1 h2 h3 h4 h5 => exact .shr a cap _ rows k cs h1 h2 h3 h4 h5
  | exc => cases hF

theorem AC.mono {G G' : Nat → Option (List V)} {f : FuncId} {vs : List V} {H : Hp} {r : V} {H1 : Hp} (h : AC P G f vs H r H1) (hs : ∀ g cs, G g = some cs → G' g = some cs) : AC P G' f vs H r H1 :=
 fun ρ S F xs w a b c d => h ρ S F xs w a b c fun g cs hg => d g cs (hs g cs hg)

def ixG (D : Tab) (G : Nat → Option (List V)) (ops : Array Oper) (i : Nat) (T : List V) : Option (List V × Int × Nat) :=
 match opW ops i T with
 | some (.indexAddr t x ix) => match D.at t, ev G T x, ev G T ix with
  | some it, .el cs, .c (.int _ n) => match it.d with
   | .arr len el => match D.at el with
    | some ie => if ie.size = 1 then some (cs, n, len) else none
    | none => none
   | _ => none
  | _, _, _ => none
 | _ => none

theorem W.ixG {D : Tab} (hD : TabOk P D) {ops : Array Oper} {draw : Bool} {T0 : List V} {H0 : Hp} {i : Nat} {T : List V} {H : Hp} {Es : List (Bool × Eff)} {Q : St → Prop} {α : Type} (enc : α → V) {l : List α} {n : Int} {x : α} (hx : ix l n = some x)
  (h : ixG D G ops i T = some (l.map enc, n, l.length))
  (k : W P G ops draw T0 H0 (i + 1) (setO T (dstW ops i) (.el [enc x])) H (Es ++ [(true, { v := .el [enc x] })]) Q) : W P G ops draw T0 H0 i T H Es Q := by
 obtain ⟨h1, h2⟩ := ix_some hx
 unfold Av.ixG at h
 split at h
 ·rename_i t xo io hop
  split at h
  ·rename_i it cs kk n' ht hxv hiv
   split at h
   ·rename_i len el hit
    split at h
    ·rename_i ie hel
     split at h
     ·rename_i hs
      simp only [Option.some.injEq, Prod.mk.injEq] at h
      obtain ⟨rfl, rfl, rfl⟩ := h
      refine W.gen0 (.el [enc x]) [] hop (fun o ho e' H' he _ => ?_) k
      have hev := (he xo (by simp [Op.operands])).trans hxv
      refine OpOk.imp (OpOk.indexArr (v := .el ((l.map enc).drop n'.toNat)) hD n'.toNat ho ht hit hel ?_ ((he io (by simp [Op.operands])).trans hiv) h1 (List.getElem?_eq_some_iff.1 h2).1) fun ρ S w y hy => hy.elOne ?_
      ·rw [hev, hs, Nat.mul_one]; rfl
      ·rw [List.getElem?_drop, Nat.add_zero, List.getElem?_map, h2]; rfl
     ·cases h
    ·cases h
   ·cases h
  ·cases h
 ·cases h

def cutG (D : Tab) (G : Nat → Option (List V)) (ops : Array Oper) (i : Nat) (T : List V) : Option (List V) :=
 match opW ops i T with
 | some (.slice t x none none none) => match D.at t, ev G T x with
  | some it, .el cs => match it.d with
   | .arr len el => match D.at el with
    | some ie => if ie.size = 1 ∧ cs.length = len ∧ len ≤ maxLen then some cs else none
    | none => none
   | _ => none
  | _, _ => none
 | _ => none

theorem W.cutG {D : Tab} (hD : TabOk P D) {ops : Array Oper} {draw : Bool} {T0 : List V} {H0 : Hp} {i : Nat} {T : List V} {H : Hp} {Es : List (Bool × Eff)} {Q : St → Prop} {α : Type} (enc : α → V) (l : List α)
  (h : cutG D G ops i T = some (l.map enc))
  (k : W P G ops draw T0 H0 (i + 1) (setO T (dstW ops i) (.sl false false (l.map fun x => [enc x]))) H (Es ++ [(true, { v := .sl false false (l.map fun x => [enc x]) })]) Q) : W P G ops draw T0 H0 i T H Es Q := by
 unfold Av.cutG at h
 split at h
 ·rename_i t xo hop
  split at h
  ·rename_i it cs ht hxv
   split at h
   ·rename_i len el hit
    split at h
    ·rename_i ie hel
     split at h
     ·rename_i hs
      simp only [Option.some.injEq] at h
      subst h
      refine W.gen0 (.sl false false _) [] hop (fun o ho e' H' he _ => ?_) k
      have hev := (he xo (by simp [Op.operands])).trans hxv
      have := OpOk.cutArr (G := G) (P := P) (H := H') hD ho ht hit hel hs.1 hev hs.2.1 hs.2.2
      rw [List.map_map] at this
      exact OpOk.imp this fun ρ S w y hy => hy.slAny
     ·cases h
    ·cases h
   ·cases h
  ·cases h
 ·cases h

end Go.Av

namespace Go.Av
open Go.RowKit Go.WideShapes Go.ChangeShapes
variable {P : Program} {G : Nat → Option (List V)}

theorem AC.belowG {f : FuncId} {vs : List V} {r : V} (h : AC P G f vs [] r []) (S : Nat → Prop) {xs : Array Value} {w : World} (hS : ∀ b, S b → b < w.heap.size) (hG : GRel G S w) (hsz : xs.size = vs.length)
  (hxs : ∀ i x, vs[i]? = some x → RV (fun _ => none) S w (xs.getD i undef) x) :
  Calls P f xs w fun e w' => ∃ x S', e = .returned x ∧ RV (fun _ => none) S' w' x r ∧ Below w.heap.size w w' := by
 refine (h (fun _ => none) S (fun _ => []) xs w hsz hxs ⟨fun _ _ => rfl, fun _ _ h => (by cases h), fun _ _ h => (by cases h), fun _ _ _ _ _ h => (by cases h), fun _ _ _ h => (by cases h), fun _ _ _ h => (by cases h), hS⟩ hG).mono ?_
 rintro e w' ⟨x, ρ', S', F', rfl, hx, _, hE, _⟩
 refine ⟨x, S', rfl, hx.mono (fun _ _ h _ => (by cases h)) (fun b hb => ⟨hb, rfl⟩), hE.os, hE.tape, hE.output, hE.size, fun k hk => hE.keep k hk ?_⟩
 rintro ⟨i, o, hi, _⟩
 cases hi

def strCells (l : List (List UInt8)) : Array Value := (l.map fun s => Value.string ⟨⟨s⟩⟩).toArray

theorem strs_of_trod {H : Type} {enc : TypeId × Value → H} {w : World} {base : Nat} {sp : Nat → Bool} {held : Bool} {fuel : Nat} {t el : TypeId} {n : Nat} {cs : Array Value} {l : List (List UInt8)} {p : List MemPlace}
  (h : DataW.trod enc P w base sp held fuel t cs.toList = some (.agg (l.map fun s => .lit (.string s)), p)) (ht : P.underlying t = some (.array n el)) (hel : P.underlying el = some .string) (h1 : P.cellsOf el = 1) (hn : P.cellsOf t = n) : cs = strCells l := by
 obtain ⟨xs, m, _, ex, hlen, hl, he⟩ := DataW.trod_array ht h
 rw [hn] at hlen
 simp only [Prod.mk.injEq, DataW.agg.injEq] at ex
 obtain ⟨e1, _⟩ := ex
 have hll : l.length = n := by
  have := congrArg List.length e1
  simp only [List.length_map] at this
  omega
 unfold strCells
 have hcs : cs.size = n := by simpa using hlen
 apply Array.ext
 ·simp [hcs, hll]
 ·intro i hi _
  have hin : i < n := by omega
  have hx := he i hin
  rw [h1, Nat.mul_one] at hx
  have hdrop : (cs.toList.drop i).take 1 = [cs[i]] := by
   rw [List.drop_eq_getElem_cons (by simpa using hi)]
   simp
  rw [hdrop] at hx
  have hxs : xs[i]? = some xs[i] := List.getElem?_eq_getElem (by omega)
  rw [hxs] at hx
  obtain ⟨s, hs, hxi, _⟩ := DataW.trod_string hel hx
  simp only [List.cons.injEq, and_true] at hs
  have e2 : (l.map fun s => (DataW.lit (.string s) : DataW H))[i]? = (xs.map (·.1))[i]? := by rw [e1]
  rw [List.getElem?_map, List.getElem?_map, hxs, Option.map_some, hxi, List.getElem?_eq_getElem (by omega), Option.map_some] at e2
  simp only [Option.some.injEq, DataW.lit.injEq, Lit.string.injEq] at e2
  rw [hs]
  simp only [List.getElem_toArray, List.getElem_map, e2]

theorem el_of_var {w : World} {S : Nat → Prop} {name : String} {g : Nat} {l : List (List UInt8)} (hg : P.globalNamed name = some g) (hv : w.var? P name = some (strCells l)) (hS : S g) : RV (fun _ => none) S w (.pointer (some ⟨g, 0, none⟩)) (.el (l.map V.s)) := by
 refine .el ⟨g, 0, none⟩ _ (fun j => (strCells l).getD j undef) (fun j x hx => ⟨hS, ?_⟩) (fun j x hx => ?_)
 all_goals
  rw [List.getElem?_map, Option.map_eq_some_iff] at hx
  obtain ⟨s, hs, rfl⟩ := hx
  have hj : j < l.length := (List.getElem?_eq_some_iff.1 hs).1
  have hc : (strCells l)[j]? = some (Value.string ⟨⟨s⟩⟩) := by
   unfold strCells
   rw [List.getElem?_toArray, List.getElem?_map, hs]
   rfl
  have hd : (strCells l).getD j undef = Value.string ⟨⟨s⟩⟩ := by
   rw [Array.getD_eq_getD_getElem?, hc]
   rfl
  rw [hd]
 ·have := World.var?_cell hg hv j
  rw [hc] at this
  have e : Addr.add ⟨g, 0, none⟩ j = ⟨g, j, none⟩ := by
   unfold Addr.add
   split <;> simp_all
  rw [e]
  exact this
 ·exact .c _ rfl

theorem var_lt {w : World} {name : String} {g : Nat} {cs : Array Value} (hg : P.globalNamed name = some g) (hv : w.var? P name = some cs) : g < w.heap.size := by
 unfold World.var? at hv
 rw [hg] at hv
 simp only [Option.bind_some] at hv
 cases hh : w.heap[g]? with
 | none => rw [hh] at hv; cases hv
 | some o => exact (Array.getElem?_eq_some_iff.1 hh).1

theorem vars_kept {H : Type} {enc : TypeId × Value → H} (hl : laidOutB P = true) {W W' : World} (hb : Below W.heap.size W W') {sp : Nat → Bool} :
  ∀ {ns : List String} {gs : List (DataW H)} {ps : List MemPlace}, varsRowed P ns = true → DataW.TrodVars enc P W (fun _ => true) ns gs ps → (∀ p, p ∈ ps → sp p.block = true) → DataW.TrodVars enc P W' sp ns gs ps
 | [], [], _, _, h, _ => h
 | [], _ :: _, _, _, h, _ => h.elim
 | _ :: _, [], _, _, h, _ => h.elim
 | n :: ns, d :: ds, ps, hv, h, hs => by
  have hlt := h.lt
  obtain ⟨g, t, cs, fuel, p, q, h1, h2, h3, h4, h5, e⟩ := h
  have hg := var_lt h1 h3
  have ht : P.readableRec t = true ∧ t < P.types.size := by
   simp only [varsRowed, List.all_cons, Bool.and_eq_true] at hv
   obtain ⟨gl, hgl, rfl⟩ := Option.map_eq_some_iff.1 h2
   have := hv.1
   simpa [h1, hgl] using this
  have hp : ∀ x, x ∈ p → x ∈ ps := fun x hx => by rw [e]; simp [hx]
  have h3' : W'.var? P n = some cs := by
   unfold World.var? at h3 ⊢
   rw [h1] at h3 ⊢
   simp only [Option.bind_some] at h3 ⊢
   rw [hb.block g hg]
   exact h3
  refine ⟨g, t, cs, fuel, p, q, h1, h2, h3', DataW.trod_stays (kids_book hl ht.1) (book_sized ht.1) (fun h => by cases h) ⟨ht.2, book_self t⟩ h4 (fun x hx => hb.same (hlt x (hp x hx))) (fun x hx => hs x (hp x hx)), ?_, e⟩
  exact vars_kept hl hb (by simp only [varsRowed, List.all_cons, Bool.and_eq_true] at hv; exact hv.2) h5 fun x hx => hs x (by rw [e]; simp [hx])

theorem vars_len {H : Type} {enc : TypeId × Value → H} {W : World} {sp : Nat → Bool} : ∀ {ns : List String} {gs : List (DataW H)} {ps : List MemPlace}, DataW.TrodVars enc P W sp ns gs ps → gs.length = ns.length
 | [], [], _, _ => rfl
 | [], _ :: _, _, h => h.elim
 | _ :: _, [], _, h => h.elim
 | n :: ns, d :: ds, ps, ⟨_, _, _, _, _, _, _, _, _, _, h, _⟩ => congrArg (· + 1) (vars_len h)

theorem var_block {w : World} {name : String} {g : Nat} {arr : Array Value} (hg : P.globalNamed name = some g) (hv : w.var? P name = some arr) : ∃ ety fr, w.heap[g]? = some (.cells arr ety fr) := by
 unfold World.var? at hv
 rw [hg, Option.bind_some] at hv
 split at hv
 ·rename_i cs ety fr h
  cases hv
  exact ⟨ety, fr, h⟩
 ·cases hv

theorem grel_strs {w : World} {S : Nat → Prop} {name : String} {g : Nat} {l : List (List UInt8)} (hg : P.globalNamed name = some g) (hv : w.var? P name = some (strCells l)) (hS : S g) :
  RV (fun _ => none) S w (.pointer (some ⟨g, 0, none⟩)) (.el (l.map V.s)) ∧ ∃ arr ety fr, w.heap[g]? = some (.cells arr ety fr) ∧ arr.size = (l.map V.s).length ∧ S g := by
 obtain ⟨ety, fr, h⟩ := var_block hg hv
 exact ⟨el_of_var hg hv hS, _, ety, fr, h, by simp [strCells], hS⟩

end Go.Av

namespace Go.Av
open Go
variable {P : Program} {G : Nat → Option (List V)}

theorem eqGuard_at_slice (P : Program) (w : World) (op : BinOp) (t : TypeId) (x y : Operand) (a b : Option Addr) (n c n' c' : Nat) : (eqGuard op t x y (.slice a n c) (.slice b n' c')).run P w = .ok () w := by
 unfold eqGuard
 cases op <;> rfl

theorem equal_nil {P : Program} {t el : TypeId} (hu : P.underlying t = some (.slice el)) (w : World) (a : Option Addr) (n c : Nat) : (Op.equal t (.slice a n c) (.slice none 0 0)).run P w = .ok a.isNone w := by
 unfold Op.equal
 obtain ⟨k, hk⟩ : ∃ k, Op.maxDepth = k + 1 := ⟨_, rfl⟩
 rw [hk, Op.equalIn]
 simp only [Sem.run_bind, run_underlying hu, Result.andThen_ok]
 cases a <;> rfl

theorem eql_nil {P : Program} {t el : TypeId} (hu : P.underlying t = some (.slice el)) (w : World) (a : Option Addr) (n c : Nat) : (binOp .eql t (.slice a n c) (.slice none 0 0)).run P w = .ok (.bool a.isNone) w := by
 show (Op.equal t (.slice a n c) (.slice none 0 0) >>= fun b => pure (Value.bool b)).run P w = _
 simp only [Sem.run_bind, equal_nil hu, Result.andThen_ok, Sem.run_pure]

theorem OpOk.nilEq {D : Tab} (hD : TabOk P D) {o : Oper} {e : Operand → V} {H : Hp} {t t' el : TypeId} {it : Ty} {x y : Operand} (q : Bool) (ho : o.op = .binOp .eql t x y t') (ht : D.at t = some it) (hit : it.d = .slice el) (hy : e y = .c (.slice none 0 0))
  (hx : (e x = .c (.slice none 0 0) ∧ q = true) ∨ ∃ b rows, e x = .sl true b rows ∧ q = false) : OpOk P G o e H (.c (.bool q)) H [] := by
 refine OpOk.pure fun ρ S F η w hη hH => ?_
 have h1 := hη x (by simp [ho, Op.operands])
 have h2 := hη y (by simp [ho, Op.operands])
 rw [hy] at h2
 have hu := slice_ty hD ht hit
 refine ⟨_, ?_, .c _⟩
 unfold execOp
 rcases hx with ⟨hx, rfl⟩ | ⟨b, rows, hx, rfl⟩
 ·rw [hx] at h1
  simp only [ho, h1.c_inv, h2.c_inv, Sem.run_bind, eqGuard_at_slice, Result.andThen_ok, eql_nil hu, Sem.run_pure, Option.isNone_none]
 ·rw [hx] at h1
  have hv : ∃ a n c, η x = .slice (some a) n c := by
   generalize η x = v at h1
   cases h1 with
   | sl _ _ _ _ h => cases h with
    | shr a cap nn rows k cs => exact ⟨_, _, _, rfl⟩
  obtain ⟨a, n, c, hv⟩ := hv
  simp only [ho, hv, h2.c_inv, Sem.run_bind, eqGuard_at_slice, Result.andThen_ok, eql_nil hu, Sem.run_pure, Option.isNone_some]

def nlW (D : Tab) (G : Nat → Option (List V)) (ops : Array Oper) (i : Nat) (T : List V) : Option Bool :=
 match opW ops i T with
 | some (.binOp .eql t x y _) => match D.at t, ev G T y with
  | some it, .c (.slice none 0 0) => match it.d with
   | .slice _ => match ev G T x with
    | .c (.slice none 0 0) => some true
    | .sl true _ _ => some false
    | _ => none
   | _ => none
  | _, _ => none
 | _ => none

theorem W.nilEq {D : Tab} (hD : TabOk P D) {ops : Array Oper} {draw : Bool} {T0 : List V} {H0 : Hp} {i : Nat} {T : List V} {H : Hp} {Es : List (Bool × Eff)} {Q : St → Prop} (q : Bool) (h : nlW D G ops i T = some q)
  (k : W P G ops draw T0 H0 (i + 1) (setO T (dstW ops i) (.c (.bool q))) H (Es ++ [(true, { v := .c (.bool q) })]) Q) : W P G ops draw T0 H0 i T H Es Q := by
 unfold nlW at h
 split at h
 ·rename_i t x y t' hop
  split at h
  ·rename_i it ht hy
   split at h
   ·rename_i el hit
    refine W.gen0 (.c (.bool q)) [] hop (fun o ho e' H' he _ => ?_) k
    refine OpOk.nilEq hD q ho ht hit ((he y (by simp [Op.operands])).trans hy) ?_
    rw [he x (by simp [Op.operands])]
    split at h
    ·rename_i hx
     cases h
     exact .inl ⟨hx, rfl⟩
    ·rename_i b rows hx
     cases h
     exact .inr ⟨b, rows, hx, rfl⟩
    ·cases h
   ·cases h
  ·cases h
 ·cases h

end Go.Av

namespace Go.Av

def BackOk (P : Program) (gf : FuncId) : Prop :=
 ∀ (l g n : Nat) (Inv : Nat → World → Prop) (Stop : World → Prop) (w : World), n ≤ maxLen →
  (∀ W, Inv n W → ∃ a cap, W.cell? ⟨g, 0, none⟩ = some (.slice a n cap)) → (∀ k W d, Inv k W → Inv k { W with drawn := d }) →
  (∀ k W, Inv (k + 1) W → k < n ∧ ∃ a cap v, W.cell? ⟨g, 0, none⟩ = some (.slice (some a) n cap) ∧ n ≤ cap ∧ W.cell? (a.add k) = some v ∧ v.oneCell' = true ∧
   ∃ f tmps asg body, (Instr.yield l #[.int .i64 k, v]).run P W = .ok (.round l f tmps asg body) W ∧
    RoundIn Fence.wide 0 P l f tmps asg body W fun e W' => (e = .returned (.bool true) ∧ Inv k W') ∨ (e = .returned (.bool false) ∧ Stop W')) →
  Inv n w → Calls P gf #[.func (.yield l) #[] #[], .pointer (some ⟨g, 0, none⟩)] w fun e W' => (∃ v, e = .returned v) ∧ (Inv 0 W' ∨ Stop W')

mutual
def V.sm : V → Bool
 | .own j => Nat.blt j 100
 | .loc j _ => Nat.blt j 100
 | .vp j _ _ _ => Nat.blt j 100
 | .vw j _ _ _ => Nat.blt j 100
 | .fn _ cs => V.smL cs
 | .agg cs => V.smL cs
 | .tup cs => V.smL cs
 | _ => true
def V.smL : List V → Bool
 | [] => true
 | x :: r => V.sm x && V.smL r
end

mutual
theorem V.sm_has : ∀ {x : V} {i : Nat}, x.sm = true → x.has i = true → i < 100
 | .own j, i, h, hh => by simp [V.sm, V.has] at h hh; omega
 | .loc j _, i, h, hh => by simp [V.sm, V.has] at h hh; omega
 | .vp j _ _ _, i, h, hh => by simp [V.sm, V.has] at h hh; omega
 | .vw j _ _ _, i, h, hh => by simp [V.sm, V.has] at h hh; omega
 | .fn _ cs, i, h, hh => V.smL_has (by simpa [V.sm] using h) (by simpa [V.has] using hh)
 | .agg cs, i, h, hh => V.smL_has (by simpa [V.sm] using h) (by simpa [V.has] using hh)
 | .tup cs, i, h, hh => V.smL_has (by simpa [V.sm] using h) (by simpa [V.has] using hh)
 | .junk, i, h, hh => by simp [V.has] at hh
 | .c _, i, h, hh => by simp [V.has] at hh
 | .sl _ _ _, i, h, hh => by simp [V.has] at hh
 | .el _, i, h, hh => by simp [V.has] at hh
theorem V.smL_has : ∀ {l : List V} {i : Nat}, V.smL l = true → V.hasL i l = true → i < 100
 | [], i, h, hh => by simp [V.hasL] at hh
 | x :: r, i, h, hh => by
  simp only [V.smL, Bool.and_eq_true] at h
  simp only [V.hasL, Bool.or_eq_true] at hh
  rcases hh with hh | hh
  ·exact V.sm_has h.1 hh
  ·exact V.smL_has h.2 hh
end

theorem V.smL_mem {l : List V} (h : V.smL l = true) {x : V} (hx : x ∈ l) : x.sm = true := by
 induction l with
 | nil => cases hx
 | cons y l ih =>
  simp only [V.smL, Bool.and_eq_true] at h
  rcases List.mem_cons.1 hx with rfl | hx
  ·exact h.1
  ·exact ih h.2 hx

def backM (m m' : Ren) : Bool := m'.all fun p => Nat.ble 100 p.2 || (Nat.blt p.1 100 && mget m p.2 == some p.1)

theorem backM_spec {m m' : Ren} (h : backM m m' = true) {i j : Nat} (hm : mget m' i = some j) (hj : j < 100) : i < 100 ∧ mget m j = some i := by
 have := List.all_eq_true.1 h _ (mget_mem hm)
 simp only [Bool.or_eq_true, Nat.ble_eq, Bool.and_eq_true, Nat.blt_eq, beq_iff_eq] at this
 rcases this with h | h
 ·omega
 ·exact h

def jumpOf : Exit → Option Code
 | .ret => some .ret
 | .exit id => some (.exit id)
 | _ => none

def Fin (m : Ren) (Tc : List V) (Q : Exit → St → Prop) (e : Exit) (H1 : Hp) : Prop :=
 ∃ m' T2 H2, m'.ok = true ∧ backM m m' = true ∧ SubT m' Tc T2 ∧ SubH m' H1 H2 ∧ Q e ⟨T2, H2⟩

def roundQ (m : Ren) (Tc : List V) (Q : Exit → St → Prop) (N : Hp → Prop) : Exit → St → Prop
 | .normal, st => ∃ T1 H1, Weak st ⟨T1, H1⟩ ∧ N H1
 | .ret, st => Fin m Tc Q .ret st.H
 | .exit id, st => Fin m Tc Q (.exit id) st.H
 | _, _ => False

section
variable {P : Program} {G : Nat → Option (List V)} {L : Option Nat} {B : Nat}

theorem Keeps.putObj {S : Nat → Prop} {W : World} {l : Nat} {o : Obj} (hl : ¬ S l) : Keeps S W S (W.putObj l o) :=
 fun b hb => ⟨hb, World.putObj_heap_other fun e => hl (e ▸ hb)⟩

theorem HRel.putObj {ρ : Nat → Option Value} {S : Nat → Prop} {F : Nat → List Nat} {H : Hp} {W : World} {l : Nat} {o o' : Obj} (h : HRel ρ S F H W) (hl : ¬ S l) (ho : W.heap[l]? = some o) (hc : ∀ arr e m, o ≠ .cells arr e m) : HRel ρ S F H (W.putObj l o') := by
 have hU : ∀ b, Ub H F b → (W.putObj l o').heap[b]? = W.heap[b]? := fun b hb => World.putObj_heap_other fun e => by
  obtain ⟨arr, t, m, hh⟩ := h.blocks hb
  rw [e, ho] at hh; cases hh; exact hc _ _ _ rfl
 refine ⟨h.dom, fun i p hp => ?_, h.nodup, h.disj, h.sep, fun i p b hp hb => by rw [World.putObj_size]; exact h.lt i p b hp hb, fun b hb => by rw [World.putObj_size]; exact h.slt b hb⟩
 obtain ⟨r, hr, hob⟩ := h.obj i p hp
 exact ⟨r, hr, hob.mono (fun _ _ h _ => h) (Keeps.putObj hl) fun b hb => hU b ⟨i, p, hp, hb⟩⟩

theorem Evo.putObj {S U S' U' : Nat → Prop} {w W : World} {l : Nat} {o : Obj} (h : Evo S U w S' U' W) (hl : w.heap.size ≤ l) : Evo S U w S' U' (W.putObj l o) :=
 ⟨h.os, h.tape, h.output, by rw [World.putObj_size]; exact h.size, fun b hb hu => (World.putObj_heap_other (by omega)).trans (h.keep b hb hu), h.sub, h.newS, h.newU⟩

theorem Evo.alloc {S U S' U' : Nat → Prop} {w W : World} {o : Obj} (h : Evo S U w S' U' W) : Evo S U w S' U' (W.alloc o) :=
 ⟨h.os, h.tape, h.output, Nat.le_trans h.size (by simp), fun b hb hu => (Go.RowKit.Below.heap_alloc _ _ _ (Nat.lt_of_lt_of_le hb h.size)).trans (h.keep b hb hu), h.sub, h.newS, h.newU⟩

theorem HRel.alloc {ρ : Nat → Option Value} {S : Nat → Prop} {F : Nat → List Nat} {H : Hp} {W : World} {o : Obj} (h : HRel ρ S F H W) : HRel ρ S F H (W.alloc o) := by
 have hk : Keeps S W S (W.alloc o) := fun b hb => ⟨hb, Go.RowKit.Below.heap_alloc _ _ _ (h.slt b hb)⟩
 refine ⟨h.dom, fun i p hp => ?_, h.nodup, h.disj, h.sep, fun i p b hp hb => by have := h.lt i p b hp hb; simp; omega, fun b hb => by have := h.slt b hb; simp; omega⟩
 obtain ⟨r, hr, hob⟩ := h.obj i p hp
 exact ⟨r, hr, hob.mono (fun _ _ h _ => h) hk fun b hb => Go.RowKit.Below.heap_alloc _ _ _ (h.lt i p b hp hb)⟩

structure Aside (S : Nat → Prop) (l D : Nat) (rec : Loop) (W : World) : Prop where
 sl : ¬ S l
 sD : ¬ S D
 hl : W.heap[l]? = some (.loop rec)
 hD : W.heap[D]? = some (.deferred (some []))

theorem Aside.evo {ρ : Nat → Option Value} {S S' U' : Nat → Prop} {F : Nat → List Nat} {H : Hp} {w w' : World} {l D : Nat} {rec : Loop} (h : Aside S l D rec w) (hH : HRel ρ S F H w) (e : Evo S (Ub H F) w S' U' w') : Aside S' l D rec w' := by
 have hUl : ¬ Ub H F l := fun hU => by obtain ⟨arr, t, m, hc⟩ := hH.blocks hU; rw [h.hl] at hc; cases hc
 have hUD : ¬ Ub H F D := fun hU => by obtain ⟨arr, t, m, hc⟩ := hH.blocks hU; rw [h.hD] at hc; cases hc
 have hll : l < w.heap.size := (Array.getElem?_eq_some_iff.1 h.hl).1
 have hlD : D < w.heap.size := (Array.getElem?_eq_some_iff.1 h.hD).1
 refine ⟨fun hs => ?_, fun hs => ?_, (e.keep l hll hUl).trans h.hl, (e.keep D hlD hUD).trans h.hD⟩
 ·rcases e.newS l hs with h1 | h1 | h1
  ·exact h.sl h1
  ·exact hUl h1
  ·omega
 ·rcases e.newS D hs with h1 | h1 | h1
  ·exact h.sD h1
  ·exact hUD h1
  ·omega

theorem Aside.put {S : Nat → Prop} {l D : Nat} {rec rec' : Loop} {W : World} (h : Aside S l D rec W) (hne : D ≠ l) : Aside S l D rec' (W.putObj l (.loop rec')) :=
 ⟨h.sl, h.sD, World.putObj_heap_same (Array.getElem?_eq_some_iff.1 h.hl).1, (World.putObj_heap_other hne).trans h.hD⟩

theorem Marks.putObj {S : Nat → Prop} {ds : List Deferred} {W : World} {l : Nat} {o o' : Obj} (h : Marks B S ds W) (ho : W.heap[l]? = some o) (hc : ∀ x, o ≠ .deferred x) : Marks B S ds (W.putObj l o') := by
 obtain ⟨hB, Ds, hn, hd, hD⟩ := h
 refine ⟨by rw [World.putObj_size]; exact hB, Ds, hn, hd, fun D hm => ?_⟩
 obtain ⟨h1, h2, h3⟩ := hD D hm
 refine ⟨h1, h2, (World.putObj_heap_other fun e => ?_).trans h3⟩
 rw [e, ho] at h3
 exact hc _ (Option.some.inj h3)

theorem StRel.putObj {ρ : Nat → Option Value} {S : Nat → Prop} {F : Nat → List Nat} {st : St} {a : Act} {W : World} {l : Nat} {rc : Loop} {o' : Obj} (h : StRel B G ρ S F st a W) (hl : ¬ S l) (ho : W.heap[l]? = some (.loop rc)) : StRel B G ρ S F st a (W.putObj l o') :=
 ⟨h.defers.putObj ho (fun _ h => by cases h), h.size, fun i x hx => (h.tmps i x hx).mono (fun _ _ h _ => h) (Keeps.putObj hl), h.heap.putObj hl ho (fun _ _ _ h => by cases h), h.glob.mono (Keeps.putObj hl)⟩

theorem HRel.drawn {ρ : Nat → Option Value} {S : Nat → Prop} {F : Nat → List Nat} {H : Hp} {W : World} (h : HRel ρ S F H W) (d : Nat) : HRel ρ S F H { W with drawn := d } := by
 refine ⟨h.dom, fun i p hp => ?_, h.nodup, h.disj, h.sep, h.lt, h.slt⟩
 obtain ⟨r, hr, hob⟩ := h.obj i p hp
 exact ⟨r, hr, hob.mono (fun _ _ h _ => h) (fun b hb => ⟨hb, rfl⟩) fun _ _ => rfl⟩

theorem box_read {ρ1 : Nat → Option Value} {S1 : Nat → Prop} {F1 : Nat → List Nat} {H1 : Hp} {W : World} {j gb : Nat} {ety : TypeId} {nn : Bool} {α : Type} {enc : α → V} {la : List α} (hH1 : HRel ρ1 S1 F1 H1 W)
  (hl : look H1 j = some (.cells ety [.sl nn false (la.map fun x => [enc x])])) (hr : ∀ r, ρ1 j = some r → r = .pointer (some ⟨gb, 0, none⟩)) :
  ∃ a0 cap, W.cell? ⟨gb, 0, none⟩ = some (.slice a0 la.length cap) ∧ la.length ≤ maxLen ∧ ∀ k x, la[k]? = some x → ∃ b v, a0 = some b ∧ la.length ≤ cap ∧ W.cell? (b.add k) = some v ∧ v.oneCell' = true ∧ RD S1 W v (enc x) [] := by
 obtain ⟨r, hr', hob⟩ := hH1.obj j _ hl
 have e := hr r hr'
 subst e
 generalize F1 j = Fj at hob
 cases hob with
 | cells g arr _ _ hh hsz hcs =>
  obtain ⟨c, h1, h2, h3⟩ := hcs 0 _ rfl
  have hcell : W.cell? ⟨gb, 0, none⟩ = some c := (cell_of_row W gb 0 arr _ (0, 0) hh).trans h1
  have hd := h3.sl_inv
  have key : ∀ rows, (la.map fun x => [enc x]) = rows → RD S1 W c (.sl nn false rows) [] → ∃ a0 cap, c = .slice a0 la.length cap ∧ la.length ≤ maxLen ∧ ∀ k x, la[k]? = some x → ∃ b v, a0 = some b ∧ la.length ≤ cap ∧ W.cell? (b.add k) = some v ∧ v.oneCell' = true ∧ RD S1 W v (enc x) [] := by
   intro rows hrows hd
   cases hd with
   | nils =>
    have : la = [] := by simpa using hrows
    subst this
    exact ⟨none, 0, rfl, Nat.zero_le _, fun k x hx => by simp at hx⟩
   | shr a cap _ _ k cs hlen hcap hk hc hr =>
    have hl : rows.length = la.length := by rw [← hrows]; simp
    refine ⟨some a, cap, by rw [hl], by omega, fun k' x hx => ?_⟩
    have hrow : rows[k']? = some [enc x] := by rw [← hrows, List.getElem?_map, hx]; rfl
    have hk1 : 1 = k := hk k' _ hrow
    obtain ⟨_, hcl⟩ := hc k' 0 _ (enc x) hrow rfl
    have hrd := hr k' 0 _ (enc x) hrow rfl
    subst hk1
    exact ⟨a, cs k' 0, rfl, by omega, by simpa using hcl, hrd.one, hrd⟩
  obtain ⟨a0, cap, rfl, h5, h6⟩ := key _ rfl hd
  exact ⟨a0, cap, hcell, h5, h6⟩

theorem CO.rangeBack {g : Operand} {asg body : Code} {T0 : List V} {H0 : Hp} {Q : Exit → St → Prop} {gf : FuncId} (hit : BackOk P gf) (hcf : callOk P gf) {α ι : Type} (enc : α → V) (la : List α)
  (m : Ren) (Tc : List V) (i0 : ι) (J : ι → Hp) (R : List α → ι → Prop) (j : Nat) (ety : TypeId) (nn : Bool) (p0 p1 : Tmp)
  (hm : m.ok = true) (hT : SubT m T0 Tc) (hH : SubH m H0 (J i0)) (hsm : V.smL Tc = true) (hg : ev G Tc g = .fn gf [.loc j 0]) (hj : j < 100) (hp : p0 ≠ p1)
  (hbox : ∀ i, look (J i) j = some (.cells ety [.sl nn false (la.map fun x => [enc x])])) (hR : R la.reverse i0)
  (round : ∀ x xs i, R (x :: xs) i → ∀ L, ∃ T1 H1, CO (some L) P G asg ⟨(Tc.set p0 .junk).set p1 (enc x), J i⟩ (fun e st => e = .normal ∧ Weak st ⟨T1, H1⟩) ∧
   CO (some L) P G body ⟨T1, H1⟩ (roundQ m Tc Q fun H => ∃ i', R xs i' ∧ H = J i'))
  (done : ∀ i, R [] i → Fin m Tc Q .normal (J i)) : CO none P G (.rangeFunc g #[p0, p1] asg body) ⟨T0, H0⟩ Q := by
 intro B ρ S F a w RR hst hn
 obtain ⟨ρc, Fc, hHc, k2, k3, k4⟩ := hst.heap.rn hm hH
 -- the activation's slots under the loop's names
 have hTc : ∀ i y, Tc[i]? = some y → RV ρc S w (a.tmps.getD i undef) y := fun i y hy => by
  rcases hT.get hy with rfl | ⟨x, hx, rfl⟩
  ·exact .junk _
  ·exact (hst.tmps i x hx).rn k2
 have hsz : a.tmps.size = Tc.length := hst.size.trans hT.length
 have hE0 : Evo S (Ub H0 F) w S (Ub (J i0) Fc) w := ⟨rfl, rfl, rfl, Nat.le_refl _, fun _ _ _ => rfl, fun _ h => h, fun _ h => .inl h, fun b ⟨i, o, ho, hb⟩ => by
  obtain ⟨i', o', _, hl, e, _⟩ := k4 i o ho
  exact .inl ⟨i', o', hl, e ▸ hb⟩⟩
 -- the value of the function
 have hgv : ∃ gb, a.eval g = .func (.func gf) #[] #[.pointer (some ⟨gb, 0, none⟩)] ∧ ρc j = some (.pointer (some ⟨gb, 0, none⟩)) := by
  have h1 : RV ρc S w (a.eval g) (.fn gf [.loc j 0]) := by
   rw [← hg]
   cases g with
   | tmp t =>
    simp only [Act.eval, ev, List.getD_eq_getElem?_getD]
    cases ht : Tc[t]? with
    | none => exact .junk _
    | some y => exact hTc t y ht
   | const v => exact .c v
   | global q =>
    simp only [ev] at hg
    split at hg <;> cases hg
   | func f => simp [ev] at hg
  obtain ⟨arr, e1, e2, e3⟩ := h1.fn_inv
  obtain ⟨r, hr, _⟩ := hHc.obj j _ (hbox i0)
  obtain ⟨arr⟩ := arr
  match arr, e2 with
  | [v0], _ =>
   obtain ⟨gb, r1, r2⟩ := (e3 0 (.loc j 0) v0 rfl rfl).loc_inv r hr
   exact ⟨gb, by rw [e1, r2], by rw [hr, r1]⟩
 obtain ⟨gb, hgv, hgr⟩ := hgv
 refine wpIn_rangeFunc ?_
 intro fn _
 obtain ⟨rec, hrec⟩ : ∃ rec : LoopState → Option Code → Loop, rec = fun st pe => { state := st, pending := pe, fn, tmps := a.tmps, params := #[p0, p1], assign := asg, body, defers := w.heap.size } := ⟨_, rfl⟩
 obtain ⟨W1, hW1⟩ : ∃ W1, (w.alloc (.deferred (some []))).alloc (.loop (rec .ready none)) = W1 := ⟨_, rfl⟩
 have hL1 : W1.heap[w.heap.size + 1]? = some (.loop (rec .ready none)) := by
  rw [← hW1]; have := World.alloc_heap_new (w.alloc (.deferred (some []))) (.loop (rec .ready none)); rwa [World.size_alloc] at this
 have hK1 : W1.heap[w.heap.size]? = some (.deferred (some [])) := by
  rw [← hW1]; exact (Go.RowKit.Below.heap_alloc _ _ _ (by simp)).trans (World.alloc_heap_new w _)
 have hnS : ∀ b, w.heap.size ≤ b → ¬ S b := fun b hb hs => by have := hst.heap.slt b hs; omega
 -- what stands between two rounds
 let In : (Hp → Prop) → Loop → World → Prop := fun N rc W => ∃ H1 ρ1 S1 F1, N H1 ∧ HRel ρ1 S1 F1 H1 W ∧ Evo S (Ub H0 F) w S1 (Ub H1 F1) W ∧ AgF ρc ρ1 ∧ Aside S1 (w.heap.size + 1) w.heap.size rc W
 let Inv : Nat → World → Prop := fun k W => k ≤ la.length ∧ In (fun H => ∃ i, R (la.take k).reverse i ∧ H = J i) (rec .ready none) W
 let Stop : World → Prop := fun W => ∃ e : Exit, (e = .ret ∨ ∃ id, e = .exit id) ∧ In (Fin m Tc Q e) (rec .done (jumpOf e)) W
 have hIn1 : Inv la.length W1 := by
  refine ⟨Nat.le_refl _, J i0, ρc, S, Fc, ⟨i0, by simpa using hR, rfl⟩, ?_, ?_, AgF.refl _, hnS _ (by omega), hnS _ (by omega), hL1, hK1⟩
  ·rw [← hW1]; exact hHc.alloc.alloc
  ·rw [← hW1]; exact hE0.alloc.alloc
 -- the slots in any such world
 have hslot : ∀ {ρ1 : Nat → Option Value} {S1 U1 : Nat → Prop} {W : World}, Evo S (Ub H0 F) w S1 U1 W → AgF ρc ρ1 → ∀ i y, Tc[i]? = some y → RV ρ1 S1 W (a.tmps.getD i undef) y := fun hE hA i y hy =>
  (hTc i y hy).mono (fun q r hq hh => hA q r (V.sm_has (V.smL_mem hsm (List.mem_of_getElem? hy)) hh) hq) (hst.heap.keeps hE)
 have hgr1 : ∀ {ρ1 : Nat → Option Value}, AgF ρc ρ1 → ∀ r, ρ1 j = some r → r = .pointer (some ⟨gb, 0, none⟩) := fun hA r hr => by
  have := hA j r hj hr
  rw [hgr] at this
  exact (Option.some.inj this).symm
 have hmax : la.length ≤ maxLen := by
  obtain ⟨_, _, _, h, _⟩ := box_read hHc (hbox i0) (fun r hr => by rw [hgr] at hr; exact (Option.some.inj hr).symm)
  exact h
 -- behind the statement
 have hfin : ∀ (e : Exit) (H1 : Hp) (ρ1 : Nat → Option Value) (S1 : Nat → Prop) (F1 : Nat → List Nat) (W : World) (rc : Loop) (o : Obj), Fin m Tc Q e H1 → HRel ρ1 S1 F1 H1 W → Evo S (Ub H0 F) w S1 (Ub H1 F1) W → AgF ρc ρ1 →
   Aside S1 (w.heap.size + 1) w.heap.size rc W → RR e { a with defers := mark w.heap.size :: a.defers } (W.putObj (w.heap.size + 1) o) := by
  rintro e H1 ρ1 S1 F1 W rc o ⟨m', T2, H2, hm', hb, hT2, hH2, hQ⟩ hH1 hE hA has
  obtain ⟨ρ2, F2, hH3, q2, q3, q4⟩ := hH1.rn hm' hH2
  have hkp : Keeps S1 W S1 (W.putObj (w.heap.size + 1) o) := Keeps.putObj has.sl
  refine hn e _ hQ ρ2 S1 F2 _ _ ⟨?_, hsz.trans hT2.length, fun i y hy => ?_, hH3.putObj has.sl has.hl (fun _ _ _ h => by cases h), (hst.glob.mono (hst.heap.keeps hE)).mono hkp⟩ ⟨hE.os, hE.tape, hE.output, ?_, ?_, hE.sub, hE.newS, ?_⟩ ?_
  ·obtain ⟨hB, Ds, hnd, hds, hD⟩ := hst.defers
   obtain ⟨hB1, _⟩ := hst.defers.evo hst.heap hE
   refine ⟨by rw [World.putObj_size]; exact hB1, w.heap.size :: Ds, List.nodup_cons.2 ⟨fun hm => ?_, hnd⟩, by rw [List.map_cons, hds], fun D hm => ?_⟩
   ·have := (Array.getElem?_eq_some_iff.1 (hD _ hm).2.2).1
    omega
   ·rcases List.mem_cons.1 hm with rfl | hm
    ·exact ⟨hB, has.sD, (World.putObj_heap_other (by omega)).trans has.hD⟩
    ·obtain ⟨d1, d2, d3⟩ := hD D hm
     have dlt := (Array.getElem?_eq_some_iff.1 d3).1
     have dU : ¬ Ub H0 F D := fun hU => by
      obtain ⟨arr, t, q, hc⟩ := hst.heap.blocks hU
      rw [d3] at hc; cases hc
     refine ⟨d1, fun hs => ?_, (World.putObj_heap_other (by omega)).trans ((hE.keep D dlt dU).trans d3)⟩
     rcases hE.newS D hs with h | h | h
     ·exact d2 h
     ·exact dU h
     ·omega
  ·rcases hT2.get hy with rfl | ⟨x, hx, rfl⟩
   ·exact .junk _
   ·exact ((hslot hE hA i x hx).rn q2).mono (fun _ _ h _ => h) hkp
  ·rw [World.putObj_size]; exact hE.size
  ·exact fun b hb hu => (World.putObj_heap_other (by omega)).trans (hE.keep b hb hu)
  ·rintro b ⟨i, o', ho, hb'⟩
   obtain ⟨i', o2, _, hl, e2, _⟩ := q4 i o' ho
   exact hE.newU b ⟨i', o2, hl, e2 ▸ hb'⟩
  ·intro i r hi hr
   obtain ⟨i', hi', hr'⟩ := q3 i r hr
   obtain ⟨h1, h2⟩ := backM_spec hb hi' hi
   exact k2 i i' r h2 (hA i' r h1 hr')
 refine ⟨w.heap.size + 1, [mark w.heap.size], W1, { target := .fn (.func gf) #[.pointer (some ⟨gb, 0, none⟩)], args := #[.func (.yield (w.heap.size + 1)) #[] #[]] }, W1, gf,
  #[.func (.yield (w.heap.size + 1)) #[] #[], .pointer (some ⟨gb, 0, none⟩)], W1, ?_, ?_, fun _ _ => trivial, ?_, fun h => (by cases h), ?_⟩
 ·rw [← hW1, hrec]; exact run_enterLoop_outer _ _ _ _ _
 ·simp only [resolve, hgv]
  simp [go_sem]
 ·simp only [invoke]
  simp [go_sem]
  exact hcf _ _
 ·refine CallsIn.mono (callsIn_wide.2 (hit (w.heap.size + 1) gb la.length Inv Stop W1 hmax ?_ ?_ ?_ hIn1) : CallsIn Fence.wide (0 - 1) P gf _ _ _) ?_
  ·rintro W ⟨_, H1, ρ1, S1, F1, ⟨i, _, rfl⟩, hH1, hE, hA, has⟩
   obtain ⟨a0, cap, h1, _, _⟩ := box_read hH1 (hbox i) (hgr1 hA)
   exact ⟨a0, cap, h1⟩
  ·rintro k W d ⟨hk, H1, ρ1, S1, F1, hN, hH1, hE, hA, has⟩
   exact ⟨hk, H1, ρ1, S1, F1, hN, hH1.drawn d, ⟨hE.os, hE.tape, hE.output, hE.size, hE.keep, hE.sub, hE.newS, hE.newU⟩, hA, ⟨has.sl, has.sD, has.hl, has.hD⟩⟩
  ·rintro k W ⟨hk, H1, ρ1, S1, F1, ⟨i, hRi, rfl⟩, hH1, hE, hA, has⟩
   obtain ⟨x, hx⟩ : ∃ x, la[k]? = some x := ⟨_, List.getElem?_eq_getElem (by omega)⟩
   have hxs : (la.take (k + 1)).reverse = x :: (la.take k).reverse := by rw [List.take_add_one, hx]; simp
   rw [hxs] at hRi
   obtain ⟨a0, cap, h1, _, h3⟩ := box_read hH1 (hbox i) (hgr1 hA)
   obtain ⟨b, v, rfl, h4, h5, h6, h7⟩ := h3 k x hx
   refine ⟨by omega, b, cap, v, h1, h4, h5, h6, fn, _, asg, body, by rw [run_yield has.hl (by rw [hrec]; rfl), hrec], roundIn_of_wpIn trivial ?_⟩
   obtain ⟨T1, H2, hasg, hbody⟩ := round x _ i hRi (w.heap.size + 1)
   refine hasg 0 ρ1 S1 F1 _ W _ ⟨Marks.nil _ (Nat.zero_le _), ?_, fun q y hy => ?_, hH1, hst.glob.mono (hst.heap.keeps hE)⟩ ?_
   ·simp [hsz]
   ·have hq : q < Tc.length := by have := (List.getElem?_eq_some_iff.1 hy).1; simpa using this
    simp only [List.zip_toArray, List.zip_cons_cons, List.zip_nil_right, List.foldl_toArray, List.foldl_cons, List.foldl_nil]
    rw [getD_setIfInBounds (by simp [hsz, hq])]
    rcases set_get hy with ⟨rfl, rfl⟩ | ⟨hne, hy⟩
    ·rw [if_pos rfl]; exact h7.toRV
    ·rw [if_neg hne, getD_setIfInBounds (by rw [hsz]; exact hq)]
     rcases set_get hy with ⟨rfl, rfl⟩ | ⟨hne, hy⟩
     ·rw [if_pos rfl]; exact .junk _
     ·rw [if_neg hne]; exact hslot hE hA q y hy
   ·rintro e st' ⟨rfl, hw⟩
    intro ρ2 S2 F2 a2 w2 hst2 hE2 hA2
    obtain ⟨ρ3, S3, F3, hst3, hE3, hA3⟩ := hw _ G ρ2 S2 F2 a2 w2 hst2
    have hE23 := hE2.trans hE3
    have has3 := has.evo hH1 hE23
    refine ⟨_, run_beginRound has3.hl (by rw [hrec]), ?_⟩
    have hrb : ({ rec .ready none with state := .busy } : Loop) = rec .busy none := by rw [hrec]
    rw [hrb]
    have has4 := has3.put (rec' := rec .busy none) (by omega)
    have hE4 : Evo S (Ub H0 F) w S3 (Ub H2 F3) (w2.putObj (w.heap.size + 1) (.loop (rec .busy none))) := (hE.trans hE23).putObj (by omega)
    have hst4 := hst3.putObj (o' := .loop (rec .busy none)) has3.sl has3.hl
    refine hbody 0 ρ3 S3 F3 a2 _ _ hst4 ?_
    intro e st4 hq
    intro ρ5 S5 F5 a5 w5 hst5 hE5 hA5
    have hA05 := ((hA.trans hA2).trans hA3).trans hA5
    have has5 := has4.evo hst4.heap hE5
    have hE05 := hE4.trans hE5
    cases e with
    | normal =>
     obtain ⟨T6, H6, hw6, i', hR', rfl⟩ := hq
     obtain ⟨ρ6, S6, F6, hst6, hE6, hA6⟩ := hw6 _ G ρ5 S5 F5 a5 w5 hst5
     have has6 := has5.evo hst5.heap hE6
     refine ⟨_, _, run_endRound none has6.hl, .inl ⟨rfl, by omega, _, ρ6, S6, F6, ⟨i', hR', rfl⟩, hst6.heap.putObj has6.sl has6.hl (fun _ _ _ h => by cases h), (hE05.trans hE6).putObj (by omega), hA05.trans hA6, ?_⟩⟩
     have : ({ rec .busy none with state := if (none : Option Code).isNone then .ready else .done, pending := none } : Loop) = rec .ready none := by rw [hrec]; rfl
     rw [this]
     exact has6.put (by omega)
    | ret =>
     refine ⟨_, _, run_endRound (some .ret) has5.hl, .inr ⟨rfl, .ret, .inl rfl, _, ρ5, S5, F5, hq, hst5.heap.putObj has5.sl has5.hl (fun _ _ _ h => by cases h), hE05.putObj (by omega), hA05, ?_⟩⟩
     have : ({ rec .busy none with state := if (some Code.ret).isNone then .ready else .done, pending := some .ret } : Loop) = rec .done (jumpOf .ret) := by rw [hrec]; rfl
     rw [this]
     exact has5.put (by omega)
    | exit id =>
     refine ⟨_, _, run_endRound (some (.exit id)) has5.hl, .inr ⟨rfl, .exit id, .inr ⟨id, rfl⟩, _, ρ5, S5, F5, hq, hst5.heap.putObj has5.sl has5.hl (fun _ _ _ h => by cases h), hE05.putObj (by omega), hA05, ?_⟩⟩
     have : ({ rec .busy none with state := if (some (Code.exit id)).isNone then .ready else .done, pending := some (.exit id) } : Loop) = rec .done (jumpOf (.exit id)) := by rw [hrec]; rfl
     rw [this]
     exact has5.put (by omega)
    | goto t => exact hq.elim
    | panic ch => exact hq.elim
    | outgrown => exact hq.elim
  ·rintro e W2 ⟨⟨v, rfl⟩, ⟨_, H1, ρ1, S1, F1, ⟨i, hRi, rfl⟩, hH1, hE, hA, has⟩ | ⟨e, he, H1, ρ1, S1, F1, hf, hH1, hE, hA, has⟩⟩
   ·refine ⟨none, _, by have := run_endLoop (P := P) has.hl (by rw [hrec]; simp); rw [hrec] at this; exact this, ?_⟩
    exact hfin .normal _ ρ1 S1 F1 W2 _ _ (done i (by simpa using hRi)) hH1 hE hA has
   ·rcases he with rfl | ⟨id, rfl⟩
    ·refine ⟨some .ret, _, by have := run_endLoop (P := P) has.hl (by rw [hrec]; simp); rw [hrec] at this; exact this, ?_⟩
     exact wpIn_ret (hfin .ret _ ρ1 S1 F1 W2 _ _ hf hH1 hE hA has)
    ·refine ⟨some (.exit id), _, by have := run_endLoop (P := P) has.hl (by rw [hrec]; simp); rw [hrec] at this; exact this, ?_⟩
     exact wpIn_exit (hfin (.exit id) _ ρ1 S1 F1 W2 _ _ hf hH1 hE hA has)

theorem Fin.mk' (m' : Ren) (ks : List Nat) (T2 : List V) (H2 : Hp) {m : Ren} {Tc : List V} {Q : Exit → St → Prop} {e : Exit} {H1 : Hp} (h1 : (m'.ok && backM m m' && selfOk m') = true) (hT : keepT m' ks 0 Tc = T2) (hH : handV m' H1 m' = some H2) (hQ : Q e ⟨T2, H2⟩) : Fin m Tc Q e H1 := by
 simp only [Bool.and_eq_true] at h1
 subst hT
 exact ⟨m', _, H2, h1.1.1, h1.1.2, keepT_sub m' ks 0 Tc, handV_sub hH (selfOk_spec h1.2) fun p _ => rfl, hQ⟩

theorem CO.rangeB {g : Operand} {asg body : Code} {T0 : List V} {H0 : Hp} {Q : Exit → St → Prop} {gf : FuncId} (hit : BackOk P gf) (hcf : callOk P gf) {α ι : Type} (enc : α → V) (la : List α)
  (m : Ren) (ks : List Nat) (Tc : List V) (i0 : ι) (J : ι → Hp) (R : List α → ι → Prop) (j : Nat) (ety : TypeId) (nn : Bool) (p0 p1 : Tmp)
  (h1 : (m.ok && selfOk m && V.smL Tc && Nat.blt j 100 && p0 != p1) = true) (hT : keepT m ks 0 T0 = Tc) (hH : handV m H0 m = some (J i0)) (hg : ev G Tc g = .fn gf [.loc j 0])
  (hbox : ∀ i, look (J i) j = some (.cells ety [.sl nn false (la.map fun x => [enc x])])) (hR : R la.reverse i0)
  (round : ∀ x xs i, R (x :: xs) i → ∀ L, ∃ T1 H1, CO (some L) P G asg ⟨(Tc.set p0 .junk).set p1 (enc x), J i⟩ (fun e st => e = .normal ∧ Weak st ⟨T1, H1⟩) ∧
   CO (some L) P G body ⟨T1, H1⟩ (roundQ m Tc Q fun H => ∃ i', R xs i' ∧ H = J i'))
  (done : ∀ i, R [] i → Fin m Tc Q .normal (J i)) : CO none P G (.rangeFunc g #[p0, p1] asg body) ⟨T0, H0⟩ Q := by
 simp only [Bool.and_eq_true, Nat.blt_eq, bne_iff_ne] at h1
 subst hT
 exact CO.rangeBack hit hcf enc la m _ i0 J R j ety nn p0 p1 h1.1.1.1.1 (keepT_sub m ks 0 T0) (handV_sub hH (selfOk_spec h1.1.1.1.2) fun p _ => rfl) h1.1.1.2 hg h1.1.2 h1.2 hbox hR round done

theorem listVal {ops : Array Oper} {Q : Exit → Act → World → Prop} {o : Oper} {rest : List Oper} {a : Act} {w w' : World} {v : Value} (hg : o.guard = none) (hd : ∀ c, o.op ≠ .defer c) (hr : (execOp a.eval o).run P w = .ok (.value v) w')
  (k : wpListIn (fen L) 0 P ops Q rest (a.put o.dst v) w') : wpListIn (fen L) 0 P ops Q (o :: rest) a w := by
 unfold wpListIn
 rw [if_pos (by simp [Region.wanted, hg])]
 refine ⟨fun _ _ => trivial, ?_⟩
 rw [Oper.semAt_eq _ _ _ hd, hr, Oper.uponIn_value]
 exact k

theorem listRound {ops : Array Oper} {Q : Exit → Act → World → Prop} {o : Oper} {rest : List Oper} {a : Act} {w : World} {l : Nat} {f : FuncId} {tmps : Array Value} {asg body : Code} {K : Ending → World → Prop} (hg : o.guard = none) (hd : ∀ c, o.op ≠ .defer c)
  (hr : (execOp a.eval o).run P w = .ok (.round l f tmps asg body) w) (hR : RoundIn Fence.wide 0 P l f tmps asg body w K)
  (k : ∀ e w', K e w' → ∃ v, e = .returned v ∧ wpListIn (fen L) 0 P ops Q rest (a.put o.dst v) w') : wpListIn (fen L) 0 P ops Q (o :: rest) a w := by
 unfold wpListIn
 rw [if_pos (by simp [Region.wanted, hg])]
 refine ⟨fun _ _ => trivial, ?_⟩
 rw [Oper.semAt_eq _ _ _ hd, hr, Oper.uponIn_round]
 refine ⟨fun h => (by cases h), ?_⟩
 refine RoundIn.mono (F := fen L) (n := 0 - 1) hR fun e w' h => ?_
 obtain ⟨v, rfl, h2⟩ := k e w' h
 exact h2

theorem rounds_by {F : Fence} {m : Nat} {c : Code} {Q : Exit → Act → World → Prop} (I : Nat → Act → World → Prop) (hz : ∀ a W, I 0 a W → c.wpIn F m P (Exit.then (fun _ _ => False) Q) a W) (hs : ∀ k a W, I (k + 1) a W → c.wpIn F m P (Exit.then (I k) Q) a W) :
  ∀ (n : Nat) (a : Act) (w : World), I n a w → Code.roundsIn F m P c Q (n + 1) a w
 | 0, a, w, h => hz a w h
 | n + 1, a, w, h => wpIn_mono (hs n a w h) fun e a' w' hq => by
  cases e <;> first
   | exact hq
   | exact rounds_by I hz hs n a' w' hq

def slot (a : Act) (t : Nat) : Value := a.tmps.getD t undef
theorem eval_slot (a : Act) (t : Tmp) : a.eval (.tmp t) = slot a t := rfl
theorem slot_put {a : Act} {d t : Nat} {v : Value} (h : t < a.tmps.size) : slot (a.put (some d) v) t = if t = d then v else slot a t := getD_setIfInBounds h
theorem aput_size {a : Act} {d : Option Tmp} {v : Value} : (a.put d v).tmps.size = a.tmps.size := by cases d <;> simp [Act.put]
theorem aput_def {a : Act} {d : Option Tmp} {v : Value} : (a.put d v).defers = a.defers := by cases d <;> rfl

theorem run_load1 {D : Tab} (hD : TabOk P D) {t : TypeId} {it : Ty} (ht : D.at t = some it) (hag : it.d.agg = false) {b : Addr} {c v : Value} {w : World} (hv : v = .pointer (some b)) (hc : w.cell? b = some c) : (Instr.loadAt t v).run P w = .ok c w := by
 subst hv
 have hpart : (loadVar t b).run P w = .ok c w := by
  simp only [loadVar, Sem.run_bind, (hD _ _ ht).isAgg w, Result.andThen_ok, hag]
  simp [hc]
 simp [Instr.loadAt, Instr.sureAddr, hpart]

end
end Go.Av

namespace Go.Av

def mOf (H : Hp) : Ren := H.map fun p => (p.1, p.1)
def ksOf : List V → Nat → List Nat
 | [], _ => []
 | .junk :: r, n => ksOf r (n + 1)
 | _ :: r, n => n :: ksOf r (n + 1)

def mOk (H : Hp) : Bool := (mOf H).ok && (mOf H).keep && selfOk (mOf H)

section
variable {P : Program} {G : Nat → Option (List V)} {L : Option Nat}

theorem W.fi {ops : Array Oper} {draw : Bool} {T0 : List V} {H0 : Hp} {i : Nat} {T : List V} {H : Hp} {Es : List (Bool × Eff)} {T' : List V} {H' : Hp}
  (h : (Nat.ble ops.size i && (okR draw ops T0 H0 Es && mOk H'), keepT (mOf H') (ksOf T' 0) 0 T, handV (mOf H') H (mOf H')) = (true, T', some H')) : W P G ops draw T0 H0 i T H Es fun st => Weak st ⟨T', H'⟩ := by
 simp only [Prod.mk.injEq, Bool.and_eq_true, Nat.ble_eq] at h
 obtain ⟨⟨h1, h2, h3⟩, h4, h5⟩ := h
 exact W.fin h1 h2 (Weak.sel _ _ h3 h4 h5)

theorem W.fs (m : Ren) (ks : List Nat) {ops : Array Oper} {draw : Bool} {T0 : List V} {H0 : Hp} {i : Nat} {T : List V} {H : Hp} {Es : List (Bool × Eff)} {T' : List V} {H' : Hp}
  (h : (Nat.ble ops.size i && (okR draw ops T0 H0 Es && (m.ok && m.keep && selfOk m)), keepT m ks 0 T, handV m H m) = (true, T', some H')) : W P G ops draw T0 H0 i T H Es fun st => Weak st ⟨T', H'⟩ := by
 simp only [Prod.mk.injEq] at h
 obtain ⟨h1, h4, h5⟩ := h
 rw [Bool.and_eq_true, Bool.and_eq_true, Nat.ble_eq] at h1
 exact W.fin h1.1 h1.2.1 (Weak.sel _ _ h1.2.2 h4 h5)

def cuC (D : Tab) (G : Nat → Option (List V)) (ops : Array Oper) (draw : Bool) (n q : Nat) (T : List V) (H : Hp) (T' : List V) (H' : Hp) : Bool × List V × Option Hp :=
 match runE D G ops n q 0 T H with
 | some r => (Nat.ble ops.size n && (okR draw ops T H r.Es && mOk H'), keepT (mOf H') (ksOf T' 0) 0 r.T, handV (mOf H') r.H (mOf H'))
 | none => (false, [], none)

theorem cuW {D : Tab} (hD : TabOk P D) (n q : Nat) {ops : Array Oper} {draw : Bool} {T : List V} {H : Hp} {T' : List V} {H' : Hp} (h : cuC D G ops draw n q T H T' H' = (true, T', some H')) : W P G ops draw T H 0 T H [] fun st => Weak st ⟨T', H'⟩ := by
 unfold cuC at h
 split at h
 ·rename_i r hr
  refine W.runSome hD n hr ?_
  rw [Nat.zero_add, List.nil_append]
  exact W.fi h
 ·cases h

theorem cu {D : Tab} (hD : TabOk P D) (hm : P.follows .mixedOrders = true) (n q : Nat) (T' : List V) (H' : Hp) {id : Nat} {l : List Oper} {draw : Bool} {c : Code} {T : List V} {H : Hp} {Q : Exit → St → Prop}
  (h : cuC D G l.toArray draw n q T H T' H' = (true, T', some H')) (k : CO L P G c ⟨T', H'⟩ Q) : CO L P G (.seq (.region id l.toArray draw) c) ⟨T, H⟩ Q :=
 CO.cutR T' H' hm (cuW hD n q h) k

theorem ce {D : Tab} (hD : TabOk P D) (hm : P.follows .mixedOrders = true) (n q : Nat) (T' : List V) (H' : Hp) {id : Nat} {l : List Oper} {draw : Bool} {T : List V} {H : Hp} {Q : Exit → St → Prop}
  (h : cuC D G l.toArray draw n q T H T' H' = (true, T', some H')) (hQ : ∀ st, Weak st ⟨T', H'⟩ → Q .normal st) : CO L P G (.region id l.toArray draw) ⟨T, H⟩ Q :=
 CO.endR T' H' hm (cuW hD n q h) hQ
end
end Go.Av

namespace Go.Av

theorem bR {α β : Type} {x : Option α} {f : α → Option β} {r : β} {P : Prop} (k : ∀ a, x = some a → f a = some r → P) (h : Option.bind x f = some r) : P :=
 match bind_some h with
 | ⟨a, h1, h2⟩ => k a h1 h2

theorem cR {β : Type} {c : Bool} {x y : Option β} {r : β} {P : Prop} (k : c = true → x = some r → P) (k' : c = false → y = some r → P) (h : (bif c then x else y) = some r) : P :=
 match cond_some h with
 | .inl ⟨h1, h2⟩ => k h1 h2
 | .inr ⟨h1, h2⟩ => k' h1 h2

section
variable {P : Program} {G : Nat → Option (List V)}

theorem Reader.u8 {t : TypeId} (ht : P.underlying t = some (.int .u8)) : Reader P t byteRow (fun _ => True) := by
 intro H e w fuel cs x h
 obtain ⟨n, hn, hr⟩ := Reader.int ht e w fuel cs x h
 have h1 : 0 ≤ n ∧ n ≤ 255 := by simpa [Lit.wf, IntKind.min, IntKind.max, IntKind.signed, IntKind.bits] using hn
 have h2 : ((UInt8.ofNat n.toNat).toNat : Int) = n := by
  rw [UInt8.toNat_ofNat']
  omega
 refine ⟨UInt8.ofNat n.toNat, trivial, fun S hS => ?_⟩
 have := hr S hS
 unfold byteRow
 rw [h2]
 exact this

def neN {α : Type} : List α → Option Bool
 | [] => none
 | _ :: _ => some false

theorem OpOk.nilO {D : Tab} (hD : TabOk P D) {o : Oper} {e : Operand → V} {H : Hp} {t t' el : TypeId} {it : Ty} {x y : Operand} {j : Nat} {nn : Bool} {ety : Tg} {k : Nat} {rows : List (List V)} (ho : o.op = .binOp .eql t x y t') (ht : D.at t = some it) (hit : it.d = .slice el) (hy : e y = .c (.slice none 0 0))
  (hx : e x = .own j) (hl : look H j = some (.vec nn ety k rows)) (hr : rows ≠ []) : OpOk P G o e H (.c (.bool false)) H [] := by
 refine OpOk.pure fun ρ S F η w hη hH => ?_
 have h1 := hη x (by simp [ho, Op.operands])
 have h2 := hη y (by simp [ho, Op.operands])
 rw [hy] at h2
 rw [hx] at h1
 have hu := slice_ty hD ht hit
 obtain ⟨r, hr', hob⟩ := hH.obj j _ hl
 have hxr := h1.own_inv r hr'
 refine ⟨_, ?_, .c _⟩
 unfold execOp
 generalize F j = Fj at hob
 cases hob with
 | vnil => exact absurd rfl hr
 | vec g cap arr _ _ _ _ cs Fs hh hcap =>
  simp only [ho, hxr, h2.c_inv, Sem.run_bind, eqGuard_at_slice, Result.andThen_ok, eql_nil hu, Sem.run_pure, Option.isNone_some]

def nlO (D : Tab) (G : Nat → Option (List V)) (ops : Array Oper) (i : Nat) (T : List V) (H : Hp) : Option (Nat × List (List V)) :=
 match opW ops i T with
 | some (.binOp .eql t x y _) => match D.at t, ev G T y, ev G T x with
  | some it, .c (.slice none 0 0), .own j => match it.d, look H j with
   | .slice _, some (.vec _ _ _ rows) => some (j, rows)
   | _, _ => none
  | _, _, _ => none
 | _ => none

theorem W.nilO {D : Tab} (hD : TabOk P D) {ops : Array Oper} {draw : Bool} {T0 : List V} {H0 : Hp} {i : Nat} {T : List V} {H : Hp} {Es : List (Bool × Eff)} {Q : St → Prop} {α : Type} (enc : α → List V) {l : List α} {b : Bool} (hx : neN l = some b) (j : Nat) (h : nlO D G ops i T H = some (j, l.map enc))
  (k : W P G ops draw T0 H0 (i + 1) (setO T (dstW ops i) (.c (.bool false))) H (Es ++ [(true, { v := .c (.bool false), R := [j] })]) Q) : W P G ops draw T0 H0 i T H Es Q := by
 have hne : l.map enc ≠ [] := by
  cases l with
  | nil => cases hx
  | cons => simp
 unfold nlO at h
 split at h
 ·rename_i t x y t' hop
  split at h
  ·rename_i it j' ht hy hxv
   split at h
   ·rename_i el nn ety kk rows hit hl
    simp only [Option.some.injEq, Prod.mk.injEq] at h
    obtain ⟨rfl, rfl⟩ := h
    refine W.gen0 (.c (.bool false)) [j'] hop (fun o ho e' H' he hH' => ?_) k
    exact OpOk.nilO hD ho ht hit ((he y (by simp [Op.operands])).trans hy) ((he x (by simp [Op.operands])).trans hxv) (by rw [hH' j' (by simp)]; exact hl) hne
   ·cases h
  ·cases h
 ·cases h

theorem LoopN.J {L : Option Nat} {ι : Type} (J : ι → St) (R : Nat → ι → Prop) {c : Code} {st : St} {Q : Exit → St → Prop} {n0 : Nat} {i0 : ι} (h0 : Weak st (J i0)) (hR : R n0 i0) (hz : ∀ i, ¬ R 0 i)
  (round : ∀ n i, R (n + 1) i → (∀ j, R n j → ∀ st', Weak st' (J j) → loopQ L P G c Q n .normal st') → CO L P G c (J i) (loopQ L P G c Q n)) : LoopN L P G c Q n0 st := by
 have key : ∀ n i, R n i → LoopN L P G c Q n (J i) := by
  intro n
  induction n with
  | zero => intro i hi; exact (hz i hi).elim
  | succ n ih => intro i hi; exact LoopN.step (round n i hi fun j hj _ hw => LoopN.weak hw (ih j hj))
 exact LoopN.weak h0 (key n0 i0 hR)

end
end Go.Av

namespace Go.Av

section
variable {P : Program} {G : Nat → Option (List V)} {L : Option Nat}

theorem bB {α β : Type} {x : Option α} {f : α → Option β} {r : β} {P : Prop} (h : Option.bind x f = some r) (k : ∀ a, x = some a → f a = some r → P) : P := bR k h
theorem wS (m : Ren) (ks : List Nat) {T : List V} {H : Hp} {T' : List V} {H' : Hp} (hm : (m.ok && m.keep && selfOk m) = true := by kernel_rfl) (hT : keepT m ks 0 T = T' := by kernel_rfl) (hH : handV m H m = some H' := by kernel_rfl) : Weak ⟨T, H⟩ ⟨T', H'⟩ := Weak.sel m ks hm hT hH
theorem oT {st : St} {t : Tmp} {r : V} (ht : st.T[t]? = some r := by kernel_rfl) : OneR P st (.tmp t) r := OneR.t ht
theorem eG {fn : Func} {r0 : V} {T : List V} {H : Hp} {e : Exit} (m : Ren) (he : e = .normal ∨ e = .ret) (h : RetV P fn ⟨T, H⟩ r0) {r' : V} {H' : Hp} (hm : (m.ok && m.keep && selfOk m) = true := by kernel_rfl) (hr : r0.rn m = r' := by kernel_rfl) (hH : handV m H m = some H' := by kernel_rfl) : Ends P fn r' H' e ⟨T, H⟩ := Ends.gen m he h hm hr hH
theorem fI {ops : Array Oper} {draw : Bool} {T0 : List V} {H0 : Hp} {i : Nat} {T : List V} {H : Hp} {Es : List (Bool × Eff)} {T' : List V} {H' : Hp}
  (h : (Nat.ble ops.size i && (okR draw ops T0 H0 Es && mOk H'), keepT (mOf H') (ksOf T' 0) 0 T, handV (mOf H') H (mOf H')) = (true, T', some H') := by kernel_rfl) : W P G ops draw T0 H0 i T H Es fun st => Weak st ⟨T', H'⟩ := W.fi h
theorem fS (m : Ren) (ks : List Nat) {ops : Array Oper} {draw : Bool} {T0 : List V} {H0 : Hp} {i : Nat} {T : List V} {H : Hp} {Es : List (Bool × Eff)} {T' : List V} {H' : Hp}
  (h : (Nat.ble ops.size i && (okR draw ops T0 H0 Es && (m.ok && m.keep && selfOk m)), keepT m ks 0 T, handV m H m) = (true, T', some H') := by kernel_rfl) : W P G ops draw T0 H0 i T H Es fun st => Weak st ⟨T', H'⟩ := W.fs m ks h
theorem sI {α : Type} {a b : α} (h : some a = some b) : a = b := Option.some.inj h
end
end Go.Av

namespace Go.Av

def OwnAt (te : TypeId) (K : Nat) (w : World) (s : Value) (n : Nat) (olds : List Value) : Prop :=
 (s = .slice none 0 0 ∧ n = 0 ∧ olds = []) ∨ ∃ g c cur, s = .slice (some ⟨g, 0, none⟩) n c ∧ w.heap[g]? = some (.cells cur te (0, 0)) ∧ n ≤ c ∧ c ≤ maxLen ∧ cur.size = c * K ∧ olds = cur.toList.take (n * K)

theorem ObR.at {ρ : Nat → Option Value} {S : Nat → Prop} {w : World} {r : Value} {nn : Bool} {te : TypeId} {K : Nat} {rows : List (List V)} {F : List Nat} (h : ObR ρ S w r (.vec nn te K rows) F) (hnd : F.Nodup) :
  ∃ (olds : List Value) (cs : Nat → Nat → Value) (Fs : Nat → Nat → List Nat), OwnAt te K w r rows.length olds ∧ olds.length = rows.length * K ∧ (∀ (i : Nat) (x : List V), rows[i]? = some x → x.length = K) ∧
   (∀ (i j : Nat) (x : List V) (y : V), rows[i]? = some x → x[j]? = some y → olds[i * K + j]? = some (cs i j) ∧ RD S w (cs i j) y (Fs i j)) ∧
   (∀ v, v ∈ olds → v.oneCell' = true) ∧ (flat rows.length K Fs).Nodup ∧ (∀ b, b ∈ flat rows.length K Fs → b ∈ F ∧ r.ownBlock ≠ some b) ∧ (∀ g, r.ownBlock = some g → g ∈ F) := by
 cases h with
 | vnil =>
  exact ⟨[], fun _ _ => undef, fun _ _ => [], .inl ⟨rfl, rfl, rfl⟩, by simp, fun i x h => by simp at h, fun i j x y h => by simp at h, fun v h => (by cases h), by simp [flat], fun b h => (by simp [flat] at h), fun g h => by simp [Value.ownBlock] at h⟩
 | vec g cap arr _ _ _ _ cs Fs hh hcap hmax hsz hk hc hr htg =>
  have htt := htg.2
  cases htg.1
  have hl : (arr.toList.take (rows.length * K)).length = rows.length * K := by
   rw [List.length_take]
   exact Nat.min_eq_left (Nat.le_trans (Nat.mul_le_mul_right K hcap) (Nat.le_of_eq hsz.symm))
  have hget : ∀ (i j : Nat) (x : List V) (y : V), rows[i]? = some x → x[j]? = some y → (arr.toList.take (rows.length * K))[i * K + j]? = some (cs i j) := fun i j x y h1 h2 => by
   have hi : i < rows.length := (List.getElem?_eq_some_iff.1 h1).1
   have hj : j < K := by have := (List.getElem?_eq_some_iff.1 h2).1; rw [hk i x h1] at this; exact this
   rw [List.getElem?_take, if_pos (idx_lt hi hj)]
   simpa using hc i j x y h1 h2
  refine ⟨arr.toList.take (rows.length * K), cs, Fs, .inr ⟨g, cap, arr, rfl, hh, hcap, hmax, hsz, rfl⟩, hl, hk, fun i j x y h1 h2 => ⟨hget i j x y h1 h2, hr i j x y h1 h2⟩, fun v hv => ?_, (List.nodup_cons.1 hnd).2, fun b hb => ⟨List.mem_cons_of_mem _ hb, fun h => ?_⟩, fun g' h => ?_⟩
  ·obtain ⟨p, hp⟩ := List.getElem?_of_mem hv
   have hlt : p < rows.length * K := by rw [← hl]; exact (List.getElem?_eq_some_iff.1 hp).1
   have hk0 : 0 < K := by
    rcases Nat.eq_zero_or_pos K with h0 | h0
    ·rw [h0, Nat.mul_zero] at hlt; omega
    ·exact h0
   have hi : p / K < rows.length := Nat.div_lt_of_lt_mul (by rwa [Nat.mul_comm])
   have hj : p % K < K := Nat.mod_lt _ hk0
   have h1 : rows[p / K]? = some rows[p / K] := List.getElem?_eq_getElem hi
   have hj' : p % K < rows[p / K].length := by rw [hk _ _ h1]; exact hj
   have h2 : rows[p / K][p % K]? = some rows[p / K][p % K] := List.getElem?_eq_getElem hj'
   have h3 := hget _ _ _ _ h1 h2
   rw [show p / K * K + p % K = p by rw [Nat.mul_comm]; exact Nat.div_add_mod p K, hp] at h3
   cases h3
   exact (hr _ _ _ _ h1 h2).one
  ·simp only [Value.ownBlock, Option.some.injEq] at h
   subst h
   exact (List.nodup_cons.1 hnd).1 hb
  ·simp only [Value.ownBlock, Option.some.injEq] at h
   subst h; simp

section
variable {P : Program} {G : Nat → Option (List V)}

end
end Go.Av

namespace Go.Av

section
variable {P : Program} {G : Nat → Option (List V)}

end
end Go.Av

