/-
  Core32: nil slices told as data or as objects, wherever they lie; ends with several results; results that hold no shared data.
-/
import Derived.Test.YtkfpmbinifaakaaDoorCore28
namespace Go.Av

section
variable {P : Program} {G : Nat → Option (List V)} {L : Option Nat} {B : Nat}

theorem RV.nilS {ρ : Nat → Option Value} {S : Nat → Prop} {w : World} {v : Value} {x : V} (h : RV ρ S w v x) : RV ρ S w v (layC [] x) := by
  unfold layC
  split
  · simpa using h
  · rw [h.c_inv]; exact .sl _ _ _ _ (.nils false)
  · exact h

theorem RV.nilV {ρ : Nat → Option Value} {S : Nat → Prop} {w : World} {v : Value} {x : V} (h : RV ρ S w v x) : RV ρ S w v (layV [] x) := by
  unfold layV
  split
  · rename_i cs
    obtain ⟨arr, ha, hsz, h1c, hr⟩ := h.agg_inv
    rw [ha]
    refine .agg arr _ (by simpa using hsz) h1c fun j x c hx hc => ?_
    rw [List.getElem?_map, Option.map_eq_some_iff] at hx
    obtain ⟨y, hy, rfl⟩ := hx
    obtain ⟨c', hc', hrv⟩ := hr j y hy
    rw [hc] at hc'
    cases hc'
    exact hrv.nilS
  · exact h.nilS

/-- an object told otherwise -/
theorem HRel.reob {ρ : Nat → Option Value} {S : Nat → Prop} {F : Nat → List Nat} {H : Hp} {w : World} (h : HRel ρ S F H w) {i : Nat} {o o' : Ob} (hl : look H i = some o)
    (hr : ∀ r, ρ i = some r → ObR ρ S w r o (F i) → ObR ρ S w r o' (F i)) : HRel ρ S F (hput H i o') w := by
  have key : ∀ j p, look (hput H i o') j = some p → ∃ p', look H j = some p' := fun j p hp => by
    rw [look_hput] at hp
    split at hp
    · subst_vars; exact ⟨o, hl⟩
    · exact ⟨p, hp⟩
  refine ⟨fun j hj => ?_, fun j p hp => ?_, fun j p hp => ?_, fun j k p p' b hj hk hne hb hb' => ?_, fun j p b hp hb => ?_, fun j p b hp hb => ?_, h.slt⟩
  · rw [look_hput] at hj
    split at hj
    · cases hj
    · exact h.dom j hj
  · rw [look_hput] at hp
    split at hp
    · cases hp; subst_vars
      obtain ⟨r, h1, h2⟩ := h.obj _ o hl
      exact ⟨r, h1, hr r h1 h2⟩
    · exact h.obj j p hp
  · obtain ⟨q, hq⟩ := key j p hp; exact h.nodup j q hq
  · obtain ⟨q, hq⟩ := key j p hj
    obtain ⟨q', hq'⟩ := key k p' hk
    exact h.disj j k q q' b hq hq' hne hb hb'
  · obtain ⟨q, hq⟩ := key j p hp; exact h.sep j q b hq hb
  · obtain ⟨q, hq⟩ := key j p hp; exact h.lt j q b hq hb

theorem Ub.hput {F : Nat → List Nat} {H : Hp} {i : Nat} {o o' : Ob} (hl : look H i = some o) {b : Nat} (h : Ub (hput H i o') F b) : Ub H F b := by
  obtain ⟨j, p, hp, hb⟩ := h
  rw [look_hput] at hp
  split at hp
  · subst_vars; exact ⟨_, o, hl, hb⟩
  · exact ⟨j, p, hp, hb⟩

/-- some slots' nil slices as data -/
def nilT (f : V → V) (ks : List Nat) : Nat → List V → List V
  | _, [] => []
  | i, x :: T => (if ks.contains i then f x else x) :: nilT f ks (i + 1) T

theorem nilT_get (f : V → V) (ks : List Nat) : ∀ (i : Nat) (T : List V) (j : Nat) (y : V), (nilT f ks i T)[j]? = some y → ∃ x, T[j]? = some x ∧ (y = f x ∨ y = x)
  | _, [], j, y, h => by simp [nilT] at h
  | i, x :: T, 0, y, h => by
    simp only [nilT, List.getElem?_cons_zero, Option.some.injEq] at h
    refine ⟨x, by simp, ?_⟩
    subst h
    split
    · exact .inl rfl
    · exact .inr rfl
  | i, x :: T, j + 1, y, h => by
    simp only [nilT, List.getElem?_cons_succ] at h
    obtain ⟨z, h1, h2⟩ := nilT_get f ks (i + 1) T j y h
    exact ⟨z, by simpa using h1, h2⟩

theorem nilT_len (f : V → V) (ks : List Nat) : ∀ (i : Nat) (T : List V), (nilT f ks i T).length = T.length
  | _, [] => rfl
  | i, x :: T => by simp [nilT, nilT_len f ks (i + 1) T]

theorem Weak.nils (ks : List Nat) {T : List V} {H : Hp} : Weak ⟨T, H⟩ ⟨nilT (layV []) ks 0 T, H⟩ := by
  intro B G ρ S F a w h
  refine ⟨ρ, S, F, ⟨h.defers, by simpa [nilT_len] using h.size, fun i y hy => ?_, h.heap, h.glob⟩, Evo.refl _ _ _, AgF.refl _⟩
  obtain ⟨x, hx, rfl | rfl⟩ := nilT_get _ ks 0 T i y hy
  · exact (h.tmps i x hx).nilV
  · exact h.tmps i _ hx

/-- nil slices in the cells of an object as data -/
theorem Weak.nilsH (i : Nat) (ks : List Nat) {T : List V} {H : Hp} {e : TypeId} {cs : List V} (hl : look H i = some (.cells e cs)) : Weak ⟨T, H⟩ ⟨T, hput H i (.cells e (nilT (layC []) ks 0 cs))⟩ := by
  intro B G ρ S F a w h
  refine ⟨ρ, S, F, ⟨h.defers, h.size, h.tmps, h.heap.reob hl fun r hr hob => ?_, h.glob⟩, ⟨rfl, rfl, rfl, Nat.le_refl _, fun _ _ _ => rfl, fun _ hb => hb, fun _ hb => .inl hb, fun b hb => .inl (Ub.hput hl hb)⟩, AgF.refl _⟩
  generalize F i = Fi at hob ⊢
  cases hob with
  | cells g arr _ _ hh hsz hr =>
    refine .cells g arr e _ hh (by simpa [nilT_len] using hsz) fun j y hy => ?_
    obtain ⟨x, hx, rfl | rfl⟩ := nilT_get _ ks 0 cs j y hy
    · obtain ⟨c, h1, h2, h3⟩ := hr j x hx
      exact ⟨c, h1, h2, h3.nilS⟩
    · exact hr j _ hx

/-- a nil slice comes in as an object -/
theorem HRel.addNil {ρ : Nat → Option Value} {S : Nat → Prop} {F : Nat → List Nat} {H : Hp} {w : World} (h : HRel ρ S F H w) {i e k : Nat} (hi : hasH i H = false) :
    HRel (fun j => if j = i then some (.slice none 0 0) else ρ j) S (fun j => if j = i then [] else F j) ((i, .vec false e k []) :: H) w := by
  obtain ⟨hl, hO⟩ := hasH_false hi
  refine ⟨fun j hj => ?_, fun j o ho => ?_, fun j o ho => ?_, fun j j' o o' b hj hj' hne hb hb' => ?_, fun j o b ho hb => ?_, fun j o b ho hb => ?_, h.slt⟩
  · simp only [look] at hj
    split at hj
    · cases hj
    · rename_i hne; simp only [if_neg hne]; exact h.dom j hj
  · simp only [look] at ho
    split at ho
    · cases ho; subst_vars; exact ⟨.slice none 0 0, by simp, by simpa using ObR.vnil e k⟩
    · rename_i hne
      obtain ⟨r, hr, hob⟩ := h.obj j o ho
      refine ⟨r, by simp only [if_neg hne]; exact hr, ?_⟩
      simp only [if_neg hne]
      refine hob.mono (fun q r hq hh => ?_) (fun b hb => ⟨hb, rfl⟩) (fun _ _ => rfl)
      split at hq
      · subst_vars; rw [hO j o ho] at hh; cases hh
      · exact hq
  · simp only [look] at ho
    split at ho
    · simp_all
    · rename_i hne; simp only [if_neg hne]; exact h.nodup j o ho
  · simp only [look] at hj hj'
    split at hj
    · simp_all
    · split at hj'
      · simp_all
      · simp_all; exact h.disj j j' o o' b hj hj' hne hb hb'
  · simp only [look] at ho
    split at ho
    · simp_all
    · simp_all; exact h.sep j o b ho hb
  · simp only [look] at ho
    split at ho
    · simp_all
    · simp_all; exact h.lt j o b ho hb

theorem Ub.addNil {F : Nat → List Nat} {H : Hp} {i e k b : Nat} (h : Ub ((i, .vec false e k []) :: H) (fun j => if j = i then [] else F j) b) : Ub H F b := by
  obtain ⟨j, o, ho, hb⟩ := h
  simp only [look] at ho
  split at ho
  · simp_all
  · rename_i hne; simp only [if_neg hne] at hb; exact ⟨j, o, ho, hb⟩

/-- a nil slice in a cell of an object, as an object of its own -/
theorem Weak.nilCell (i j q e k : Nat) {T : List V} {H : Hp} {ety : TypeId} {cs : List V} (hl : look H i = some (.cells ety cs)) (hj : cs[j]? = some (.c (.slice none 0 0))) (hf : fresh [q] ⟨T, H⟩ = true) :
    Weak ⟨T, H⟩ ⟨T, (q, .vec false e k []) :: hput H i (.cells ety (cs.set j (.own q)))⟩ := by
  intro B G ρ S F a w h
  obtain ⟨h100, hT, hH⟩ := fresh_spec hf (by simp : q ∈ [q])
  obtain ⟨hlq, hO⟩ := hasH_false hH
  have hqi : q ≠ i := fun e => by subst e; rw [hl] at hlq; cases hlq
  have hadd := h.heap.addNil (e := e) (k := k) hH
  have hl1 : look ((q, .vec false e k []) :: H) i = some (.cells ety cs) := by simp only [look, if_neg (Ne.symm hqi)]; exact hl
  have hre := hadd.reob (o' := .cells ety (cs.set j (.own q))) hl1 fun r hr hob => by
    simp only [if_neg (Ne.symm hqi)] at hob ⊢
    generalize F i = Fi at hob ⊢
    cases hob with
    | cells g arr _ _ hh hsz hr =>
      refine .cells g arr ety _ hh (by simpa using hsz) fun p y hy => ?_
      rw [List.getElem?_set] at hy
      split at hy
      · subst_vars
        split at hy
        · cases hy
          obtain ⟨c, h1, h2, h3⟩ := hr _ _ hj
          have := h3.c_inv
          refine ⟨c, h1, h2, ?_⟩
          rw [this]
          exact .own _ q fun r hr => by simp only [if_true] at hr; cases hr; rfl
        · cases hy
      · exact hr p y hy
  have hput_cons : hput ((q, .vec false e k []) :: H) i (.cells ety (cs.set j (.own q))) = (q, .vec false e k []) :: hput H i (.cells ety (cs.set j (.own q))) := by
    simp only [hput, if_neg (Ne.symm hqi)]
  rw [hput_cons] at hre
  refine ⟨_, S, _, ⟨h.defers, h.size, fun p x hx => ?_, hre, h.glob⟩, ⟨rfl, rfl, rfl, Nat.le_refl _, fun _ _ _ => rfl, fun _ hb => hb, fun _ hb => .inl hb, fun b hb => .inl ?_⟩, fun p r hp hr => ?_⟩
  · refine (h.tmps p x hx).mono (fun p' r hq hh => ?_) (fun b hb => ⟨hb, rfl⟩)
    split at hq
    · subst_vars
      rw [hasL_false hT (List.mem_of_getElem? hx)] at hh; cases hh
    · exact hq
  · have := (hput_cons ▸ hb : Ub (hput ((q, .vec false e k []) :: H) i (.cells ety (cs.set j (.own q)))) _ b)
    exact Ub.addNil (Ub.hput hl1 this)
  · simp only at hr
    split at hr
    · omega
    · exact hr

/-- ends, told by the result's reading -/
theorem Ends.gen {fn : Func} {r0 : V} {T : List V} {H : Hp} {e : Exit} (m : Ren) (he : e = .normal ∨ e = .ret) (h : RetV P fn ⟨T, H⟩ r0) {r' : V} {H' : Hp} (hm : (m.ok && m.keep && selfOk m) = true) (hr : r0.rn m = r') (hH : handV m H m = some H') : Ends P fn r' H' e ⟨T, H⟩ := by
  subst hr
  simp only [Bool.and_eq_true] at hm
  exact ⟨he, r0, h, Weak.rn m hm.1.1 hm.1.2 (SubT.rnL m [r0]) (handV_sub hH (selfOk_spec hm.2) fun p _ => rfl)⟩

/-! ### results that hold no data of others' -/
mutual
inductive Deep : V → Prop
  | c (v : Value) : Deep (.c v)
  | junk : Deep .junk
  | own (i : Nat) : Deep (.own i)
  | loc (i o : Nat) : Deep (.loc i o)
  | sl (nn : Bool) (rows : List (List V)) (h : ∀ r, r ∈ rows → DeepL r) : Deep (.sl nn true rows)
  | agg (cs : List V) (h : DeepL cs) : Deep (.agg cs)
  | tup (cs : List V) (h : DeepL cs) : Deep (.tup cs)
inductive DeepL : List V → Prop
  | nil : DeepL []
  | cons {x : V} {l : List V} (h : Deep x) (k : DeepL l) : DeepL (x :: l)
end

theorem DeepL.mem {l : List V} : DeepL l → ∀ x, x ∈ l → Deep x
  | .nil, x, hx => by cases hx
  | .cons h k, x, hx => by
    rcases List.mem_cons.1 hx with rfl | hx
    · exact h
    · exact k.mem x hx

theorem DeepR.map {α : Type} {enc : α → List V} (h : ∀ a, DeepL (enc a)) (l : List α) : ∀ r, r ∈ l.map enc → DeepL r := fun r hr => by
  obtain ⟨a, _, rfl⟩ := List.mem_map.1 hr
  exact h a

theorem RD.deep {S S' : Nat → Prop} {w : World} {v : Value} {x : V} {F : List Nat} (h : RD S w v x F) (hx : Deep x) : RD S' w v x F := by
  induction h with
  | c v h => exact .c v h
  | nils x => exact .nils x
  | shr a cap nn rows k cs hlen hcap hk hc hr ih => cases hx
  | exc g cap arr ety nn rows k cs Fs hh hcap hmax hsz hk hc hr ih =>
    cases hx with
    | sl _ _ hd => exact .exc g cap arr ety nn rows k cs Fs hh hcap hmax hsz hk hc fun i j r x h1 h2 => ih i j r x h1 h2 ((hd r (List.mem_of_getElem? h1)).mem x (List.mem_of_getElem? h2))

theorem RV.deep {ρ : Nat → Option Value} {S S' : Nat → Prop} {w : World} {v : Value} {x : V} (h : RV ρ S w v x) (hx : Deep x) : RV ρ S' w v x := by
  induction h with
  | junk v => exact .junk v
  | c v => exact .c v
  | sl v nn x rows h => exact .sl v nn x rows (h.deep hx)
  | own v i h => exact .own v i h
  | loc v i off h => exact .loc v i off h
  | vp v i k a b h => exact .vp v i k a b h
  | el => cases hx
  | fn => cases hx
  | agg arr cells hsz h1 hr ih =>
    cases hx with
    | agg _ hd => exact .agg arr cells hsz h1 fun j x c hx hc => ih j x c hx hc (hd.mem x (List.mem_of_getElem? hx))
  | tup arr cells hsz hr ih =>
    cases hx with
    | tup _ hd => exact .tup arr cells hsz fun j x c hx hc => ih j x c hx hc (hd.mem x (List.mem_of_getElem? hx))

/-- objects that hold no data of others' -/
inductive DeepH : Hp → Prop
  | nil : DeepH []
  | cons {i : Nat} {nn : Bool} {e k : Nat} {rows : List (List V)} {H : Hp} (h : ∀ r, r ∈ rows → DeepL r) (t : DeepH H) : DeepH ((i, .vec nn e k rows) :: H)

theorem DeepH.get {H : Hp} : DeepH H → ∀ {i : Nat} {o : Ob}, look H i = some o → ∃ nn e k rows, o = .vec nn e k rows ∧ ∀ r, r ∈ rows → DeepL r
  | .nil, i, o, h => by simp [look] at h
  | .cons h t, i, o, ho => by
    simp only [look] at ho
    split at ho
    · cases ho; exact ⟨_, _, _, _, rfl, h⟩
    · exact t.get ho

theorem ObR.deep {ρ ρ' : Nat → Option Value} {S S' : Nat → Prop} {w : World} {r : Value} {nn : Bool} {e k : Nat} {rows : List (List V)} {F : List Nat} (h : ObR ρ S w r (.vec nn e k rows) F) (hd : ∀ r, r ∈ rows → DeepL r) : ObR ρ' S' w r (.vec nn e k rows) F := by
  cases h with
  | vnil => exact .vnil _ _
  | vec g cap arr _ _ _ _ cs Fs hh hcap hmax hsz hk hc hr =>
    exact .vec g cap arr nn e k rows cs Fs hh hcap hmax hsz hk hc fun i j r x h1 h2 => (hr i j r x h1 h2).deep ((hd r (List.mem_of_getElem? h1)).mem x (List.mem_of_getElem? h2))

end
end Go.Av
