/-
  Core12: append, and what else makes or reads slices and strings.
-/
import Derived.Test.YtkfpmbinifaakaaDoorCore11
namespace Go.Av

section
variable {P : Program} {G : Nat → Option (List V)}

theorem SrcV.of_own {ρ : Nat → Option Value} {S : Nat → Prop} {w : World} {tx e' : TypeId} (ht : P.underlying tx = some (.slice e')) {r : Value} {nn : Bool} {e k : Nat} {rows : List (List V)} {F : List Nat} (h : ObR ρ S w r (.vec nn e k rows) F) (hF : F.Nodup) :
    ∃ F', SrcV P S w k tx r rows F' ∧ (∀ b, b ∈ F' → b ∈ F) ∧ F'.Nodup := by
  cases h with
  | vnil => exact ⟨[], ⟨[], fun _ _ => undef, fun _ _ => [], Src.ofNil w ht 0, rfl, fun i r h => by simp at h, fun i j r y h => by simp at h⟩, fun _ h => (by cases h), List.nodup_nil⟩
  | vec g cap arr _ _ _ _ cs Fs hh hcap hmax hsz hk hc hr =>
    refine ⟨flat rows.length k Fs, ⟨arr.toList.take (rows.length * k), cs, Fs, ?_, rfl, hk, fun i j r y h1 h2 => ⟨?_, hr i j r y h1 h2⟩⟩, fun b hb => List.mem_cons_of_mem _ hb, (List.nodup_cons.1 hF).2⟩
    · have hn : rows.length * k ≤ arr.size := by rw [hsz]; exact Nat.mul_le_mul_right _ hcap
      refine Src.ofSlice w ht ⟨g, 0, none⟩ rows.length cap _ (by simp; omega) (fun p u hu => ?_) (fun u hu => ?_)
      · rw [Addr.add_lit, Nat.zero_add, cell_of_row w g p arr e (0, 0) hh]
        rw [List.getElem?_take] at hu
        split at hu
        · simpa using hu
        · cases hu
      · obtain ⟨p, hp⟩ := List.getElem?_of_mem hu
        have hlt : p < rows.length * k := by have := (List.getElem?_eq_some_iff.1 hp).1; simp at this; omega
        rw [List.getElem?_take, if_pos hlt] at hp
        have hk0 : 0 < k := by
          rcases Nat.eq_zero_or_pos k with h0 | h0
          · rw [h0, Nat.mul_zero] at hlt; omega
          · exact h0
        have hi : p / k < rows.length := Nat.div_lt_of_lt_mul (by rwa [Nat.mul_comm])
        have hj : p % k < k := Nat.mod_lt _ hk0
        have h1 : rows[p / k]? = some rows[p / k] := List.getElem?_eq_getElem hi
        have hj' : p % k < rows[p / k].length := by rw [hk _ _ h1]; exact hj
        have h2 : rows[p / k][p % k]? = some rows[p / k][p % k] := List.getElem?_eq_getElem hj'
        have h3 := hc _ _ _ _ h1 h2
        rw [show p / k * k + p % k = p by rw [Nat.mul_comm]; exact Nat.div_add_mod p k] at h3
        have hp' : arr[p]? = some u := by simpa using hp
        rw [h3] at hp'
        cases hp'
        exact (hr _ _ _ _ h1 h2).one
    · have hi : i < rows.length := (List.getElem?_eq_some_iff.1 h1).1
      have hj : j < k := by have := (List.getElem?_eq_some_iff.1 h2).1; rw [hk i r h1] at this; exact this
      rw [List.getElem?_take, if_pos (idx_lt hi hj)]
      simpa using hc i j r y h1 h2

theorem Post.append {D : Tab} (hD : TabOk P D) {ρ : Nat → Option Value} {S : Nat → Prop} {F : Nat → List Nat} {H : Hp} {w : World} (hH : HRel ρ S F H w) {t tx ty el : TypeId} {it ie : Ty} (ht : D.at t = some it) (hit : it.d = .slice el) (hel : D.at el = some ie)
    {i : Nat} {nn : Bool} {rows rows2 : List (List V)} (hi : look H i = some (.vec nn el ie.size rows)) {x : Value} {F2 : List Nat} (hx : SrcV P S w ie.size tx x rows2 F2) (hF2 : F2.Nodup) (C : List Nat) (hC2 : ∀ b, b ∈ F2 → ∃ c o, c ∈ C ∧ c ≠ i ∧ look H c = some o ∧ b ∈ F c)
    (hlen : rows.length + rows2.length ≤ maxLen) (hb : (rows.length + rows2.length) * ie.bytes ≤ 140737488355328) {q : Nat} (hq : hasH q H = false) {nn' : Bool} (hnn : nn' = true → nn = true ∨ rows2 ≠ []) {s : Value} (hs : RV ρ S w s (.own i)) :
    ∃ r w', (Builtin.append_ #[t, tx] ty #[s, x]).run P w = .ok r w' ∧ Post ρ S F H w (.own q) ((q, .vec nn' el ie.size (rows ++ rows2)) :: hrem (i :: C) H) [q] r w' := by
  obtain ⟨root, hroot, hob⟩ := hH.obj i _ hi
  have hsr := hs.own_inv root hroot
  subst hsr
  obtain ⟨news, cs2, Fs2, hsrc, rfl, hk2, hc2⟩ := hx.ex
  obtain ⟨_, ⟨d, u1, u2⟩, _⟩ := hD _ _ ht
  rw [hit] at u2
  have hd : d = .slice el := by cases d <;> simp_all [TD.is]
  subst hd
  obtain ⟨⟨inf, z, e1, e2, e3, e4, e5, _, e7⟩, _, _⟩ := hD _ _ hel
  have hFi := hH.nodup i _ hi
  have hlt := fun b hb => hH.lt i _ b hi hb
  have hF2lt : ∀ b, b ∈ flat rows2.length ie.size Fs2 → b < w.heap.size := fun b hb => by
    obtain ⟨c, o, _, _, ho, hbc⟩ := hC2 b hb; exact hH.lt c o b ho hbc
  have hF2far : ∀ b, b ∈ flat rows2.length ie.size Fs2 → b ∉ F i := fun b hb hbi => by
    obtain ⟨c, o, _, hne, ho, hbc⟩ := hC2 b hb; exact hH.disj c i o _ b ho hi hne hbc hbi
  have hzs : z.cells.size = inf.size := by rw [← Array.length_toList, e5, e7, e2]
  have hold : ∃ old : Nat → Option Value, ((s = .slice none 0 0 ∧ rows.length = 0) ∨ ∃ g cap arr, s = .slice (some ⟨g, 0, none⟩) rows.length cap ∧ w.heap[g]? = some (.cells arr el (0, 0)) ∧ rows.length ≤ cap ∧ cap ≤ maxLen ∧ arr.size = cap * inf.size ∧ ∀ p, p < rows.length * inf.size → arr[p]? = old p) ∧
      ∃ (cs1 : Nat → Nat → Value) (Fs1 : Nat → Nat → List Nat), (∀ (i : Nat) (r : List V), rows[i]? = some r → r.length = ie.size) ∧ (∀ (i j : Nat) (r : List V) (x : V), rows[i]? = some r → r[j]? = some x → old (i * ie.size + j) = some (cs1 i j) ∧ RD S w (cs1 i j) x (Fs1 i j)) ∧
        (∀ b, b ∈ flat rows.length ie.size Fs1 → b ∈ F i ∧ s.ownBlock ≠ some b) ∧ (flat rows.length ie.size Fs1).Nodup ∧ (∀ g, s.ownBlock = some g → g ∈ F i) := by
    generalize F i = Fi at hob hFi
    rw [e2]
    cases hob with
    | vnil => exact ⟨fun _ => none, .inl ⟨rfl, rfl⟩, fun _ _ => undef, fun _ _ => [], fun i r h => (by simp at h), fun i j r x h => (by simp at h), fun b hb => (by simp [flat] at hb), (by simp [flat]), fun g hg => (by simp [Value.ownBlock] at hg)⟩
    | vec g cap arr _ _ _ _ cs Fs hh hcap hmax hsz hk hc hr =>
      refine ⟨fun p => arr[p]?, .inr ⟨g, cap, arr, rfl, hh, hcap, hmax, hsz, fun _ _ => rfl⟩, cs, Fs, hk, fun i j r x h1 h2 => ⟨hc i j r x h1 h2, hr i j r x h1 h2⟩, fun b hb => ⟨List.mem_cons_of_mem _ hb, fun h => ?_⟩, (List.nodup_cons.1 hFi).2, fun g' hg' => ?_⟩
      · simp only [Value.ownBlock, Option.some.injEq] at h
        subst h
        exact (List.nodup_cons.1 hFi).1 hb
      · simp only [Value.ownBlock, Option.some.injEq] at hg'
        subst hg'; simp
  obtain ⟨old, hv, cs1, Fs1, hk1, hc1, hFs1, hnd1, hown⟩ := hold
  rw [← e2] at hsrc
  obtain ⟨v', w', hrun, hg, hres⟩ := run_append_vec w t tx ty el inf z u1 e1 e4 hzs s rows.length x rows2.length news hsrc old hv hlen (by rw [e3]; exact hb)
  refine ⟨v', w', hrun, ?_⟩
  have hkeep : ∀ b, b < w.heap.size → (∀ c o, c ∈ i :: C → look H c = some o → b ∈ F c → False) → w'.heap[b]? = w.heap[b]? := fun b hb hn =>
    hg.block b hb fun he => hn i _ (by simp) hi (hown b he.symm)
  rcases hres with ⟨rfl, rfl, h0, h1⟩ | ⟨g', cap', arr', rfl, hh', hcap', hmax', hsz', hold', hnew', hblk, hlt'⟩
  · have hr1 : rows = [] := List.eq_nil_of_length_eq_zero h0
    have hr2 : rows2 = [] := List.eq_nil_of_length_eq_zero h1
    subst hr1 hr2
    have hnn' : nn' = false := by
      cases nn' with
      | false => rfl
      | true =>
        rcases hnn rfl with h | h
        · subst h
          generalize F i = Fi at hob
          cases hob
        · exact absurd rfl h
    subst hnn'
    refine Post.repl hH (i :: C) hq (root := .slice none 0 0) (Fi := []) hg.os hg.tape hg.output hg.size hkeep (fun ρ' => .vnil el ie.size) List.nodup_nil (fun b hb => by cases hb) (.own _ q fun r hr => ?_)
    simp at hr; exact hr
  · rw [e2] at hsz' hold' hnew'
    let cs : Nat → Nat → Value := fun a b => if a < rows.length then cs1 a b else cs2 (a - rows.length) b
    let Fs : Nat → Nat → List Nat := fun a b => if a < rows.length then Fs1 a b else Fs2 (a - rows.length) b
    have hflat : flat (rows.length + rows2.length) ie.size Fs = flat rows.length ie.size Fs1 ++ flat rows2.length ie.size Fs2 := flat_add _ _ _ _ _
    have hks : Keeps S w S w' := fun b hb => ⟨hb, hkeep b (hH.slt b hb) fun c o hc ho hbc => hH.sep c o b ho hbc hb⟩
    -- nested blocks stand as they were
    have hn1 : ∀ b, b ∈ flat rows.length ie.size Fs1 → w'.heap[b]? = w.heap[b]? := fun b hb => hg.block b (hlt b (hFs1 b hb).1) fun he => (hFs1 b hb).2 he.symm
    have hn2 : ∀ b, b ∈ flat rows2.length ie.size Fs2 → w'.heap[b]? = w.heap[b]? := fun b hb => hg.block b (hF2lt b hb) fun he => hF2far b hb (hown b he.symm)
    have hg1 : g' ∉ flat rows.length ie.size Fs1 := fun h => by
      rcases hblk with e | e
      · exact (hFs1 g' h).2 e
      · have := hlt g' (hFs1 g' h).1; omega
    have hg2 : g' ∉ flat rows2.length ie.size Fs2 := fun h => by
      rcases hblk with e | e
      · exact hF2far g' h (hown g' e)
      · have := hF2lt g' h; omega
    have hlr : (rows ++ rows2).length = rows.length + rows2.length := by simp
    refine Post.repl hH (i :: C) hq (root := .slice (some ⟨g', 0, none⟩) (rows.length + rows2.length) cap') (Fi := g' :: flat (rows.length + rows2.length) ie.size Fs) hg.os hg.tape hg.output hg.size hkeep (fun ρ' => ?_) ?_ (fun b hb => ?_) (.own _ q fun r hr => ?_)
    · have hgetr : ∀ (a : Nat) (r : List V), (rows ++ rows2)[a]? = some r → (a < rows.length ∧ rows[a]? = some r) ∨ (rows.length ≤ a ∧ rows2[a - rows.length]? = some r) := fun a r ha => by
        by_cases hlt : a < rows.length
        · rw [List.getElem?_append_left hlt] at ha; exact .inl ⟨hlt, ha⟩
        · rw [List.getElem?_append_right (by omega)] at ha; exact .inr ⟨by omega, ha⟩
      rw [← hlr]
      refine .vec g' cap' arr' nn' el ie.size (rows ++ rows2) cs Fs hh' (by rw [hlr]; exact hcap') hmax' hsz' (fun a r ha => ?_) (fun a b r y ha hb' => ?_) (fun a b r y ha hb' => ?_)
      · rcases hgetr a r ha with ⟨_, h⟩ | ⟨_, h⟩
        · exact hk1 a r h
        · exact hk2 _ r h
      · rcases hgetr a r ha with ⟨hlt, h⟩ | ⟨hge, h⟩
        · have hb2 : b < ie.size := by have := (List.getElem?_eq_some_iff.1 hb').1; rw [hk1 a r h] at this; exact this
          rw [hold' _ (idx_lt hlt hb2), (hc1 a b r y h hb').1]
          simp only [cs, if_pos hlt]
        · have hb2 : b < ie.size := by have := (List.getElem?_eq_some_iff.1 hb').1; rw [hk2 _ r h] at this; exact this
          have ha2 : a - rows.length < rows2.length := (List.getElem?_eq_some_iff.1 h).1
          have := hnew' ((a - rows.length) * ie.size + b) (idx_lt ha2 hb2)
          rw [show rows.length * ie.size + ((a - rows.length) * ie.size + b) = a * ie.size + b by rw [← Nat.add_assoc, ← Nat.add_mul]; congr 2; omega] at this
          rw [this, (hc2 _ b r y h hb').1]
          simp only [cs, if_neg (by omega : ¬ a < rows.length)]
      · rcases hgetr a r ha with ⟨hlt, h⟩ | ⟨hge, h⟩
        · have hb2 : b < ie.size := by have := (List.getElem?_eq_some_iff.1 hb').1; rw [hk1 a r h] at this; exact this
          have := (hc1 a b r y h hb').2
          simp only [cs, Fs, if_pos hlt]
          exact this.mono hks fun b' hb'' => hn1 b' (mem_flat.2 ⟨a, b, hlt, hb2, hb''⟩)
        · have hb2 : b < ie.size := by have := (List.getElem?_eq_some_iff.1 hb').1; rw [hk2 _ r h] at this; exact this
          have ha2 : a - rows.length < rows2.length := (List.getElem?_eq_some_iff.1 h).1
          have := (hc2 _ b r y h hb').2
          simp only [cs, Fs, if_neg (by omega : ¬ a < rows.length)]
          exact this.mono hks fun b' hb'' => hn2 b' (mem_flat.2 ⟨a - rows.length, b, ha2, hb2, hb''⟩)
    · rw [hflat, List.nodup_cons]
      refine ⟨fun h => ?_, List.nodup_append.2 ⟨hnd1, hF2, fun a ha b hb e => ?_⟩⟩
      · rcases List.mem_append.1 h with h | h
        · exact hg1 h
        · exact hg2 h
      · subst e; exact hF2far a hb (hFs1 a ha).1
    · rw [hflat] at hb
      rcases List.mem_cons.1 hb with rfl | hb
      · rcases hblk with e | e
        · exact .inl ⟨i, _, by simp, hi, hown _ e⟩
        · exact .inr ⟨e, hlt'⟩
      · rcases List.mem_append.1 hb with hb | hb
        · exact .inl ⟨i, _, by simp, hi, (hFs1 b hb).1⟩
        · obtain ⟨c, o, hc, _, ho, hbc⟩ := hC2 b hb
          exact .inl ⟨c, o, by simp [hc], ho, hbc⟩
    · simp at hr; exact hr

end
end Go.Av
