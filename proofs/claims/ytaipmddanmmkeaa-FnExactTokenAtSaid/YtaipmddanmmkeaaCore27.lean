/-
  Core27: a state with slices laid down for good; a slice that is nil as data or as an object.
-/
import Derived.Test.YtaipmddanmmkeaaCore26
namespace Go.Av

section
variable {P : Program} {G : Nat → Option (List V)}

theorem Weak.lay {Z : List (Nat × List (List V))} {T : List V} {H : Hp} (hz : LayOk H Z) (hn : decide (Z.map (·.1)).Nodup = true) : Weak ⟨T, H⟩ ⟨T.map (layV (layD Z)), hrem (Z.map (·.1)) H⟩ := by
  have hZ : ∀ j, j ∈ Z.map (·.1) → ∃ nn t k rows, look H j = some (.vec nn t k rows) := fun j hj => by
    obtain ⟨p, hp, rfl⟩ := List.mem_map.1 hj
    obtain ⟨nn, t, k, rows, h1, _⟩ := hz.get hp
    exact ⟨nn, t, k, rows, h1⟩
  intro G ρ S F a w hst
  obtain ⟨ρ1, S1, hH1, a1, b1, c1, e1⟩ := hst.heap.lays (Z.map (·.1)) (of_decide_eq_true hn) hZ
  have hk : Keeps S w S1 w := hst.heap.keeps e1
  have layc : ∀ v x, RV ρ S w v x → RV ρ1 S1 w v (layC (layD Z) x) := fun v x hv => by
    unfold layC
    split
    · rename_i j
      split
      · rename_i p hp
        have hpm := List.mem_of_find?_eq_some hp
        have hpj := List.find?_some hp
        simp only [beq_iff_eq] at hpj
        unfold layD at hpm
        rw [List.mem_map] at hpm
        obtain ⟨p', hp', rfl⟩ := hpm
        simp only at hpj
        obtain ⟨nn, t, k, rows, hl, hsh⟩ := hz.get hp'
        subst hpj
        obtain ⟨r, hr, hd⟩ := c1 p'.1 (List.mem_map_of_mem hp') nn t k rows hl
        rw [hv.own_inv r hr]
        rw [hsh] at hd
        exact .sl _ _ _ _ hd.low
      · exact hv.mono (fun i r hi _ => a1 i r hi) hk
    · rw [hv.c_inv]; exact .sl _ _ _ _ (.nils false)
    · exact hv.mono (fun i r hi _ => a1 i r hi) hk
  have lay : ∀ v x, RV ρ S w v x → RV ρ1 S1 w v (layV (layD Z) x) := fun v x hv => by
    unfold layV
    split
    · rename_i cs
      obtain ⟨arr, ha, hsz, h1c, hr⟩ := hv.agg_inv
      rw [ha]
      refine .agg arr _ (by simpa using hsz) h1c fun j x c hx hc => ?_
      rw [List.getElem?_map, Option.map_eq_some_iff] at hx
      obtain ⟨y, hy, rfl⟩ := hx
      obtain ⟨c', hc', hrv⟩ := hr j y hy
      rw [hc] at hc'
      cases hc'
      exact layc c y hrv
    · exact layc v x hv
  refine ⟨ρ1, S1, F, ⟨hst.defers, by simpa using hst.size, fun i x hx => ?_, hH1, hst.glob.mono hk⟩, e1, fun i r _ hi => a1 i r hi⟩
  rw [List.getElem?_map, Option.map_eq_some_iff] at hx
  obtain ⟨y, hy, rfl⟩ := hx
  exact lay _ _ (hst.tmps i y hy)

/-- told by its equations -/
theorem CodeOk.lay {Z : List (Nat × List (List V))} {c : Code} {T : List V} {H : Hp} {Q : Exit → St → Prop} (T' : List V) (H' : Hp) (hz : LayOk H Z) (hn : decide (Z.map (·.1)).Nodup = true) (hT : T.map (layV (layD Z)) = T') (hH : hrem (Z.map (·.1)) H = H') (k : CodeOk P G c ⟨T', H'⟩ Q) : CodeOk P G c ⟨T, H⟩ Q := by
  subst hT hH
  exact CodeOk.weak (Weak.lay hz hn) k

theorem Weak.eq {T T' : List V} {H H' : Hp} (hT : T = T') (hH : H = H') : Weak ⟨T, H⟩ ⟨T', H'⟩ := by
  subst hT hH
  exact Weak.refl _

end
end Go.Av
