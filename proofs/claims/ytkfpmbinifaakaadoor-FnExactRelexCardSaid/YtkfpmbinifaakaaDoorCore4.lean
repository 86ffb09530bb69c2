/-
  Core4: slices laid down for good; contracts of functions; calls.
-/
import Derived.Test.YtkfpmbinifaakaaDoorCore3
namespace Go.Av

/-! ### a slice that the activation owns is laid down: from now on nobody writes it -/
mutual
def V.share : V → V
  | .sl nn _ rows => .sl nn false (V.shareR rows)
  | x => x
def V.shareL : List V → List V
  | [] => []
  | x :: r => V.share x :: V.shareL r
def V.shareR : List (List V) → List (List V)
  | [] => []
  | x :: r => V.shareL x :: V.shareR r
end

theorem V.shareL_eq (l : List V) : V.shareL l = l.map V.share := by
  induction l with
  | nil => rfl
  | cons x l ih => simp [V.shareL, ih]

theorem V.shareR_eq (l : List (List V)) : V.shareR l = l.map V.shareL := by
  induction l with
  | nil => rfl
  | cons x l ih => simp [V.shareR, ih]

theorem RD.share {S S' : Nat → Prop} {w : World} {v : Value} {x : V} {F : List Nat} (h : RD S w v x F) (hS : ∀ b, S b → S' b) (hF : ∀ b, b ∈ F → S' b) : RD S' w v x.share [] := by
  induction h with
  | c v h => exact .c v h
  | nils x => exact .nils false
  | shr a cap nn rows k cs hlen hcap hk hc hr ih =>
    simp only [V.share, V.shareR_eq]
    have e : rows.length = (rows.map V.shareL).length := by simp
    rw [e]
    refine .shr a cap nn (rows.map V.shareL) k cs (by rw [← e]; exact hlen) (by rw [← e]; exact hcap) (fun i r hi => ?_) (fun i j r x hi hj => ?_) (fun i j r x hi hj => ?_)
    · rw [List.getElem?_map, Option.map_eq_some_iff] at hi
      obtain ⟨r0, hr0, rfl⟩ := hi
      rw [V.shareL_eq, List.length_map]; exact hk i r0 hr0
    all_goals
      rw [List.getElem?_map, Option.map_eq_some_iff] at hi
      obtain ⟨r0, hr0, rfl⟩ := hi
      rw [V.shareL_eq, List.getElem?_map, Option.map_eq_some_iff] at hj
      obtain ⟨x0, hx0, rfl⟩ := hj
    · exact ⟨hS _ (hc i j r0 x0 hr0 hx0).1, (hc i j r0 x0 hr0 hx0).2⟩
    · exact ih i j r0 x0 hr0 hx0 (fun b hb => by cases hb)
  | exc g cap arr ety nn rows k cs Fs hh hcap hmax hsz hk hc hr ih =>
    simp only [V.share, V.shareR_eq]
    have e : rows.length = (rows.map V.shareL).length := by simp
    rw [e]
    refine .shr ⟨g, 0, none⟩ cap nn (rows.map V.shareL) k cs (by rw [← e]; exact Nat.le_trans hcap hmax) (by rw [← e]; exact hcap) (fun i r hi => ?_) (fun i j r x hi hj => ?_) (fun i j r x hi hj => ?_)
    · rw [List.getElem?_map, Option.map_eq_some_iff] at hi
      obtain ⟨r0, hr0, rfl⟩ := hi
      rw [V.shareL_eq, List.length_map]; exact hk i r0 hr0
    all_goals
      rw [List.getElem?_map, Option.map_eq_some_iff] at hi
      obtain ⟨r0, hr0, rfl⟩ := hi
      rw [V.shareL_eq, List.getElem?_map, Option.map_eq_some_iff] at hj
      obtain ⟨x0, hx0, rfl⟩ := hj
    · refine ⟨hF _ (by simp), ?_⟩
      have hcell := hc i j r0 x0 hr0 hx0
      have hadd : (⟨g, 0, none⟩ : Addr).add (i * k + j) = ⟨g, i * k + j, none⟩ := by rw [Addr.add_lit, Nat.zero_add]
      rw [hadd, cell_of_row w g (i * k + j) arr ety (0, 0) hh]
      exact hcell
    · have hi' : i < rows.length := (List.getElem?_eq_some_iff.1 hr0).1
      have hj' : j < k := by
        have := (List.getElem?_eq_some_iff.1 hx0).1
        rw [hk i r0 hr0] at this; exact this
      exact ih i j r0 x0 hr0 hx0 (fun b hb => hF b (List.mem_cons_of_mem _ (mem_flat.2 ⟨i, j, hi', hj', hb⟩)))

theorem ObR.toRD {ρ : Nat → Option Value} {S : Nat → Prop} {w : World} {r : Value} {nn : Bool} {e k : Nat} {rows : List (List V)} {F : List Nat} (h : ObR ρ S w r (.vec nn e k rows) F) : RD S w r (.sl nn true rows) F := by
  cases h with
  | vnil => exact .nils true
  | vec g cap arr _ _ _ _ cs Fs hh hcap hmax hsz hk hc hr => exact .exc g cap arr e nn rows k cs Fs hh hcap hmax hsz hk hc hr

mutual
/-- object i's slice as data -/
def V.frz (i : Nat) (y : V) : V → V
  | .own j => if i = j then y else .own j
  | .fn f cs => .fn f (V.frzL i y cs)
  | .agg cs => .agg (V.frzL i y cs)
  | .tup cs => .tup (V.frzL i y cs)
  | x => x
def V.frzL (i : Nat) (y : V) : List V → List V
  | [] => []
  | x :: r => V.frz i y x :: V.frzL i y r
end

theorem V.frzL_eq (i : Nat) (y : V) (l : List V) : V.frzL i y l = l.map (V.frz i y) := by
  induction l with
  | nil => rfl
  | cons x l ih => simp [V.frzL, ih]

def Ob.frz (i : Nat) (y : V) : Ob → Ob
  | .cells e cs => .cells e (V.frzL i y cs)
  | o => o

def hfrz (i : Nat) (y : V) : Hp → Hp
  | [] => []
  | (j, o) :: H => if i = j then hfrz i y H else (j, o.frz i y) :: hfrz i y H

theorem look_hfrz (i : Nat) (y : V) (H : Hp) (j : Nat) : look (hfrz i y H) j = if j = i then none else (look H j).map (Ob.frz i y) := by
  induction H with
  | nil => simp [hfrz, look]
  | cons x H ih =>
    obtain ⟨k, p⟩ := x
    simp only [hfrz]
    by_cases h : i = k
    · subst h
      simp only [if_true, ih, look]
      by_cases hj : j = i <;> simp [hj]
    · simp only [h, if_false, look, ih]
      by_cases hj : j = k
      · subst hj; simp [Ne.symm h]
      · simp [hj]

theorem RV.frz {ρ ρ' : Nat → Option Value} {S S' : Nat → Prop} {w : World} {i : Nat} {nn : Bool} {rows : List (List V)} (hρ : ∀ j r, ρ' j = some r → ρ j = some r)
    (hS : ∀ b, S b → S' b) (hy : ∃ r, ρ i = some r ∧ RD S' w r (.sl nn false rows) []) {v : Value} {x : V} (h : RV ρ S w v x) : RV ρ' S' w v (V.frz i (.sl nn false rows) x) := by
  have hk : Keeps S w S' w := fun b hb => ⟨hS b hb, rfl⟩
  induction h with
  | junk v => exact .junk v
  | c v => exact .c v
  | sl v nn x rows h => exact .sl v nn x rows (h.mono hk (fun b hb => by cases hb))
  | own v j h =>
    simp only [V.frz]
    split
    · subst_vars
      obtain ⟨r, hr, hd⟩ := hy
      rw [h r hr]
      exact .sl _ nn false rows hd
    · exact .own v j fun r hr => h r (hρ j r hr)
  | loc v j off h => exact .loc v j off fun r hr => h r (hρ j r hr)
  | vp v j k a b h => exact .vp v j k a b fun r hr => h r (hρ j r hr)
  | el a cells cs hc hr => exact .el a cells cs (fun j x hx => ⟨hS _ (hc j x hx).1, (hc j x hx).2⟩) (fun j x hx => (hr j x hx).mono hk (fun b hb => by cases hb))
  | fn f arr caps hsz hr ih =>
    simp only [V.frz, V.frzL_eq]
    refine .fn f arr _ (by simpa using hsz) fun j x c hx hc => ?_
    rw [List.getElem?_map, Option.map_eq_some_iff] at hx
    obtain ⟨z, hz, rfl⟩ := hx
    exact ih j z c hz hc
  | agg arr cells hsz h1 hr ih =>
    simp only [V.frz, V.frzL_eq]
    refine .agg arr _ (by simpa using hsz) h1 fun j x c hx hc => ?_
    rw [List.getElem?_map, Option.map_eq_some_iff] at hx
    obtain ⟨z, hz, rfl⟩ := hx
    exact ih j z c hz hc
  | tup arr cells hsz hr ih =>
    simp only [V.frz, V.frzL_eq]
    refine .tup arr _ (by simpa using hsz) fun j x c hx hc => ?_
    rw [List.getElem?_map, Option.map_eq_some_iff] at hx
    obtain ⟨z, hz, rfl⟩ := hx
    exact ih j z c hz hc

theorem Weak.frz {st : St} {i : Nat} {nn : Bool} {e k : Nat} {rows rows' : List (List V)} (hi : look st.H i = some (.vec nn e k rows)) (hrows : V.shareR rows = rows') :
    Weak st ⟨V.frzL i (.sl nn false rows') st.T, hfrz i (.sl nn false rows') st.H⟩ := by
  subst hrows
  intro B G ρ S F a w h
  obtain ⟨r, hr, hob⟩ := h.heap.obj i _ hi
  let ρ' : Nat → Option Value := fun j => if j = i then none else ρ j
  let S' : Nat → Prop := fun b => S b ∨ b ∈ F i
  have hρ : ∀ j r, ρ' j = some r → ρ j = some r := fun j r hj => by
    simp only [ρ'] at hj
    split at hj
    · cases hj
    · exact hj
  have hS : ∀ b, S b → S' b := fun b hb => .inl hb
  have hy : ∃ r, ρ i = some r ∧ RD S' w r (.sl nn false (V.shareR rows)) [] := ⟨r, hr, hob.toRD.share hS (fun b hb => .inr hb)⟩
  have hlook : ∀ j o', look (hfrz i (.sl nn false (V.shareR rows)) st.H) j = some o' → j ≠ i ∧ ∃ o, look st.H j = some o ∧ o' = o.frz i (.sl nn false (V.shareR rows)) := by
    intro j o' hj
    rw [look_hfrz] at hj
    split at hj
    · cases hj
    · rename_i hne
      rw [Option.map_eq_some_iff] at hj
      obtain ⟨o, ho, rfl⟩ := hj
      exact ⟨hne, o, ho, rfl⟩
  have hkeep : Keeps S w S' w := fun b hb => ⟨hS b hb, rfl⟩
  refine ⟨ρ', S', F, ⟨h.defers.more (fun b hb => hb.imp id fun hb => h.heap.blocks ⟨i, _, hi, hb⟩), by simp [V.frzL_eq, h.size], fun j x hx => ?_, ⟨fun j hj => ?_, fun j o' ho => ?_, fun j o' ho => ?_, fun j j' o o' b hj hj' hne hb hb' => ?_, fun j o' b ho hb => ?_, fun j o' b ho hb => ?_, fun b hb => ?_⟩, h.glob.mono hkeep⟩,
    ⟨rfl, rfl, rfl, Nat.le_refl _, fun _ _ _ => rfl, hS, fun b hb => ?_, ?_⟩, fun j r _ hj => hρ j r hj⟩
  · simp only [V.frzL_eq, List.getElem?_map, Option.map_eq_some_iff] at hx
    obtain ⟨z, hz, rfl⟩ := hx
    exact (h.tmps j z hz).frz hρ hS hy
  · simp only [ρ']
    split
    · rfl
    · rename_i hne
      simp only [look_hfrz, if_neg hne, Option.map_eq_none_iff] at hj
      exact h.heap.dom j hj
  · obtain ⟨hne, o, hl, rfl⟩ := hlook j o' ho
    obtain ⟨r', hr', hob'⟩ := h.heap.obj j o hl
    refine ⟨r', by simp only [ρ']; rw [if_neg hne]; exact hr', ?_⟩
    generalize F j = Fj at hob' ⊢
    cases hob' with
    | cells g arr ety cs hh hsz hcs =>
      refine .cells g arr ety _ hh (by simpa [V.frzL_eq] using hsz) fun q x hx => ?_
      rw [V.frzL_eq, List.getElem?_map, Option.map_eq_some_iff] at hx
      obtain ⟨z, hz, rfl⟩ := hx
      obtain ⟨c, h1, h2, h3⟩ := hcs q z hz
      exact ⟨c, h1, h2, h3.frz hρ hS hy⟩
    | vnil => exact .vnil _ _
    | vec g cap arr nn' ety k' rows' cs Fs hh hcap hmax hsz hk hc hrd =>
      exact .vec g cap arr nn' ety k' rows' cs Fs hh hcap hmax hsz hk hc fun a b r x h1 h2 => (hrd a b r x h1 h2).mono hkeep (fun _ _ => rfl)
  · obtain ⟨_, o, hl, _⟩ := hlook j o' ho
    exact h.heap.nodup j o hl
  · obtain ⟨_, p, hl, _⟩ := hlook j o hj
    obtain ⟨_, p', hl', _⟩ := hlook j' o' hj'
    exact h.heap.disj j j' p p' b hl hl' hne hb hb'
  · obtain ⟨hne, o, hl, _⟩ := hlook j o' ho
    rintro (hs | hs)
    · exact h.heap.sep j o b hl hb hs
    · exact h.heap.disj j i o _ b hl hi hne hb hs
  · obtain ⟨_, o, hl, _⟩ := hlook j o' ho
    exact h.heap.lt j o b hl hb
  · rcases hb with hb | hb
    · exact h.heap.slt b hb
    · exact h.heap.lt i _ b hi hb
  · rcases hb with hb | hb
    · exact .inl hb
    · exact .inr (.inl ⟨i, _, hi, hb⟩)
  · rintro b ⟨j, o', ho, hb⟩
    obtain ⟨_, o, hl, _⟩ := hlook j o' ho
    exact .inl ⟨j, o, hl, hb⟩

/-- a nil slice as an object of the activation's own -/
theorem Weak.nil (t i e k : Nat) {st : St} (ht : st.T[t]? = some (.c (.slice none 0 0))) (hf : fresh [i] st = true) : Weak st ⟨st.T.set t (.own i), (i, .vec false e k []) :: st.H⟩ := by
  intro B G ρ S F a w h
  obtain ⟨h100, hT, hH⟩ := fresh_spec hf (by simp : i ∈ [i])
  obtain ⟨hl, hO⟩ := hasH_false hH
  let ρ' : Nat → Option Value := fun j => if j = i then some (.slice none 0 0) else ρ j
  let F' : Nat → List Nat := fun j => if j = i then [] else F j
  have hρ : ∀ j r (x : V), x.has i = false → ρ' j = some r → x.has j = true → ρ j = some r := fun j r x hx hj hh => by
    simp only [ρ'] at hj
    split at hj
    · subst_vars; rw [hx] at hh; cases hh
    · exact hj
  refine ⟨ρ', S, F', ⟨h.defers, by simp [h.size], fun j x hx => ?_, ⟨fun j hj => ?_, fun j o ho => ?_, fun j o ho => ?_, fun j j' o o' b hj hj' hne hb hb' => ?_, fun j o b ho hb => ?_, fun j o b ho hb => ?_, h.heap.slt⟩, h.glob⟩,
    ⟨rfl, rfl, rfl, Nat.le_refl _, fun _ _ _ => rfl, fun _ hb => hb, fun _ hb => .inl hb, ?_⟩, fun j r hj hr => ?_⟩
  · simp only [List.getElem?_set] at hx
    split at hx
    · subst_vars
      split at hx
      · cases hx
        have := (h.tmps _ _ ht).c_inv
        rw [this]
        exact .own _ i fun r hr => by simp only [ρ', if_true] at hr; cases hr; rfl
      · cases hx
    · exact (h.tmps j x hx).mono (fun q r hq hh => hρ q r x (hasL_false hT (List.mem_of_getElem? hx)) hq hh) (fun b hb => ⟨hb, rfl⟩)
  · simp only [look] at hj
    split at hj
    · cases hj
    · rename_i hne; simp only [ρ', if_neg hne]; exact h.heap.dom j hj
  · simp only [look] at ho
    split at ho
    · cases ho; subst_vars; exact ⟨.slice none 0 0, by simp [ρ'], by simpa [F'] using ObR.vnil e k⟩
    · rename_i hne
      obtain ⟨r, hr, hob⟩ := h.heap.obj j o ho
      refine ⟨r, by simp only [ρ', if_neg hne]; exact hr, ?_⟩
      simp only [F', if_neg hne]
      refine hob.mono (fun q r hq hh => ?_) (fun b hb => ⟨hb, rfl⟩) (fun _ _ => rfl)
      simp only [ρ'] at hq
      split at hq
      · subst_vars; rw [hO j o ho] at hh; cases hh
      · exact hq
  · simp only [look] at ho
    split at ho
    · simp_all [F']
    · rename_i hne; simp only [F', if_neg hne]; exact h.heap.nodup j o ho
  · simp only [look] at hj hj'
    simp only [F'] at hb hb'
    split at hj
    · simp_all
    · split at hj'
      · simp_all
      · simp_all; exact h.heap.disj j j' o o' b hj hj' hne hb hb'
  · simp only [look] at ho
    simp only [F'] at hb
    split at ho
    · simp_all
    · simp_all; exact h.heap.sep j o b ho hb
  · simp only [look] at ho
    simp only [F'] at hb
    split at ho
    · simp_all
    · simp_all; exact h.heap.lt j o b ho hb
  · rintro b ⟨j, o, ho, hb⟩
    simp only [look] at ho
    simp only [F'] at hb
    split at ho
    · simp_all
    · rename_i hne; rw [if_neg hne] at hb; exact .inl ⟨j, o, ho, hb⟩
  · simp only [ρ'] at hr
    split at hr
    · omega
    · exact hr

end Go.Av
