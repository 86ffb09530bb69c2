/-
  Core27: a state with slices laid down for good; a slice that is nil as data or as an object.
-/
import Derived.Test.YtkfpmbinifaakaaDoorCore26
namespace Go.Av

section
variable {P : Program} {G : Nat → Option (List V)} {L : Option Nat} {B : Nat}

def layOb (Z : List (Nat × List (List V))) : Ob → Ob
  | .cells e cs => .cells e (cs.map (layC (layD Z)))
  | o => o

/-- the objects that stay, what they hold laid down -/
def layH (Z : List (Nat × List (List V))) (H : Hp) : Hp := (hrem (Z.map (·.1)) H).map fun p => (p.1, layOb Z p.2)

theorem look_map (f : Ob → Ob) (H : Hp) (j : Nat) : look (H.map fun p => (p.1, f p.2)) j = (look H j).map f := by
  induction H with
  | nil => rfl
  | cons p H ih =>
    obtain ⟨i, o⟩ := p
    simp only [List.map_cons, look]
    split
    · rfl
    · exact ih

theorem Weak.lay {Z : List (Nat × List (List V))} {T : List V} {H : Hp} (hz : LayOk H Z) (hn : decide (Z.map (·.1)).Nodup = true) : Weak ⟨T, H⟩ ⟨T.map (layV (layD Z)), layH Z H⟩ := by
  have hZ : ∀ j, j ∈ Z.map (·.1) → ∃ nn t k rows, look H j = some (.vec nn t k rows) := fun j hj => by
    obtain ⟨p, hp, rfl⟩ := List.mem_map.1 hj
    obtain ⟨nn, t, k, rows, h1, _⟩ := hz.get hp
    exact ⟨nn, t, k, rows, h1⟩
  intro B G ρ S F a w hst
  obtain ⟨ρ1, S1, hH1, a1, b1, c1, e1⟩ := hst.heap.lays (Z.map (·.1)) (of_decide_eq_true hn) hZ
  have hk : Keeps S w S1 w := hst.heap.keeps e1
  have layc : ∀ v x, RV ρ S w v x → RV ρ1 S1 w v (layC (layD Z) x) := fun v x hv => by
    unfold layC
    split
    · rename_i j
      split
      · rename_i p hp
        have hpm := List.mem_of_find?_eq_some hp
        have hpj := List.find?_some hp
        simp only [beq_iff_eq] at hpj
        unfold layD at hpm
        rw [List.mem_map] at hpm
        obtain ⟨p', hp', rfl⟩ := hpm
        simp only at hpj
        obtain ⟨nn, t, k, rows, hl, hsh⟩ := hz.get hp'
        subst hpj
        obtain ⟨r, hr, hd⟩ := c1 p'.1 (List.mem_map_of_mem hp') nn t k rows hl
        rw [hv.own_inv r hr]
        rw [hsh] at hd
        exact .sl _ _ _ _ hd.low
      · exact hv.mono (fun i r hi _ => a1 i r hi) hk
    · rw [hv.c_inv]; exact .sl _ _ _ _ (.nils false)
    · exact hv.mono (fun i r hi _ => a1 i r hi) hk
  have lay : ∀ v x, RV ρ S w v x → RV ρ1 S1 w v (layV (layD Z) x) := fun v x hv => by
    unfold layV
    split
    · rename_i cs
      obtain ⟨arr, ha, hsz, h1c, hr⟩ := hv.agg_inv
      rw [ha]
      refine .agg arr _ (by simpa using hsz) h1c fun j x c hx hc => ?_
      rw [List.getElem?_map, Option.map_eq_some_iff] at hx
      obtain ⟨y, hy, rfl⟩ := hx
      obtain ⟨c', hc', hrv⟩ := hr j y hy
      rw [hc] at hc'
      cases hc'
      exact layc c y hrv
    · exact layc v x hv
  have hl : ∀ i o', look (layH Z H) i = some o' → ∃ o, look (hrem (Z.map (·.1)) H) i = some o ∧ o' = layOb Z o := fun i o' h => by
    unfold layH at h
    rw [look_map, Option.map_eq_some_iff] at h
    obtain ⟨o, ho, rfl⟩ := h
    exact ⟨o, ho, rfl⟩
  have hHn : HRel ρ1 S1 F (layH Z H) w := by
    refine ⟨fun i hi => ?_, fun i o' hi => ?_, fun i o' hi => ?_, fun i j o' p' b hi hj hne hb hb' => ?_, fun i o' b hi hb => ?_, fun i o' b hi hb => ?_, hH1.slt⟩
    · refine hH1.dom i ?_
      unfold layH at hi
      rw [look_map, Option.map_eq_none_iff] at hi
      exact hi
    · obtain ⟨o, ho, rfl⟩ := hl i o' hi
      obtain ⟨r1, hr1, hob1⟩ := hH1.obj i o ho
      refine ⟨r1, hr1, ?_⟩
      cases o with
      | vec nn e k rows => exact hob1
      | cells e cs =>
        have ho2 : look H i = some (.cells e cs) := by
          rw [look_hrem] at ho
          split at ho
          · cases ho
          · exact ho
        obtain ⟨r, hr, hob⟩ := hst.heap.obj i _ ho2
        have : r = r1 := Option.some.inj (hr.symm.trans (a1 i r1 hr1))
        subst this
        generalize F i = Fi at hob ⊢
        cases hob with
        | cells g arr _ _ hh hsz hr =>
          refine .cells g arr e _ hh (by simpa using hsz) fun j x hx => ?_
          rw [List.getElem?_map, Option.map_eq_some_iff] at hx
          obtain ⟨y, hy, rfl⟩ := hx
          obtain ⟨c, h1, h2, h3⟩ := hr j y hy
          exact ⟨c, h1, h2, layc c y h3⟩
    · obtain ⟨o, ho, _⟩ := hl i o' hi; exact hH1.nodup i o ho
    · obtain ⟨o, ho, _⟩ := hl i o' hi
      obtain ⟨p, hp, _⟩ := hl j p' hj
      exact hH1.disj i j o p b ho hp hne hb hb'
    · obtain ⟨o, ho, _⟩ := hl i o' hi; exact hH1.sep i o b ho hb
    · obtain ⟨o, ho, _⟩ := hl i o' hi; exact hH1.lt i o b ho hb
  refine ⟨ρ1, S1, F, ⟨hst.defers.evo hst.heap e1, by simpa using hst.size, fun i x hx => ?_, hHn, hst.glob.mono hk⟩, ⟨e1.os, e1.tape, e1.output, e1.size, e1.keep, e1.sub, e1.newS, fun b ⟨i, o', hi, hb⟩ => ?_⟩, fun i r _ hi => a1 i r hi⟩
  · rw [List.getElem?_map, Option.map_eq_some_iff] at hx
    obtain ⟨y, hy, rfl⟩ := hx
    exact lay _ _ (hst.tmps i y hy)
  · obtain ⟨o, ho, _⟩ := hl i o' hi
    exact e1.newU b ⟨i, o, ho, hb⟩

/-- told by its equations -/
theorem CodeOk.lay {Z : List (Nat × List (List V))} {c : Code} {T : List V} {H : Hp} {Q : Exit → St → Prop} (T' : List V) (H' : Hp) (hz : LayOk H Z) (hn : decide (Z.map (·.1)).Nodup = true) (hT : T.map (layV (layD Z)) = T') (hH : layH Z H = H') (k : CodeOk L P G c ⟨T', H'⟩ Q) : CodeOk L P G c ⟨T, H⟩ Q := by
  subst hT hH
  exact CodeOk.weak (Weak.lay hz hn) k

theorem Weak.eq {T T' : List V} {H H' : Hp} (hT : T = T') (hH : H = H') : Weak ⟨T, H⟩ ⟨T', H'⟩ := by
  subst hT hH
  exact Weak.refl _

end
end Go.Av
