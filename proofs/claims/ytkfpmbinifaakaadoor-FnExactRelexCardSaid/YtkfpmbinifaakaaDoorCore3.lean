/-
  Core3: weaker states (names anew, slices laid down); contracts of functions; calls.
-/
import Derived.Test.YtkfpmbinifaakaaDoorCore2
namespace Go.Av

/-! ### names anew -/
abbrev Ren := List (Nat × Nat)
def mget : Ren → Nat → Option Nat
  | [], _ => none
  | (a, b) :: m, i => if i = a then some b else mget m i

mutual
def V.rn (m : Ren) : V → V
  | .own j => match mget m j with | some k => .own k | none => .junk
  | .loc j o => match mget m j with | some k => .loc k o | none => .junk
  | .vp j a i' j' => match mget m j with | some k => .vp k a i' j' | none => .junk
  | .fn f cs => .fn f (V.rnL m cs)
  | .agg cs => .agg (V.rnL m cs)
  | .tup cs => .tup (V.rnL m cs)
  | x => x
def V.rnL (m : Ren) : List V → List V
  | [] => []
  | x :: r => V.rn m x :: V.rnL m r
end

theorem V.rnL_eq (m : Ren) (l : List V) : V.rnL m l = l.map (V.rn m) := by
  induction l with
  | nil => rfl
  | cons x l ih => simp [V.rnL, ih]

/-- one to one -/
def Ren.ok (m : Ren) : Bool := decide (m.map (·.2)).Nodup

theorem mget_mem {m : Ren} {i j : Nat} (h : mget m i = some j) : (i, j) ∈ m := by
  induction m with
  | nil => cases h
  | cons x m ih =>
    obtain ⟨a, b⟩ := x
    simp only [mget] at h
    split at h
    · cases h; subst_vars; simp
    · exact List.mem_cons_of_mem _ (ih h)

theorem Ren.inj {m : Ren} (hm : m.ok = true) {i i' j : Nat} (h : mget m i = some j) (h' : mget m i' = some j) : i = i' := by
  have hn : (m.map (·.2)).Nodup := of_decide_eq_true hm
  have h1 := mget_mem h
  have h2 := mget_mem h'
  clear h h' hm
  induction m with
  | nil => cases h1
  | cons x m ih =>
    simp only [List.map_cons, List.nodup_cons] at hn
    rcases List.mem_cons.1 h1 with e1 | m1
    · rcases List.mem_cons.1 h2 with e2 | m2
      · have := e1.trans e2.symm; exact (Prod.mk.inj this).1
      · subst e1; exact absurd (List.mem_map_of_mem (f := (·.2)) m2) hn.1
    · rcases List.mem_cons.1 h2 with e2 | m2
      · subst e2; exact absurd (List.mem_map_of_mem (f := (·.2)) m1) hn.1
      · exact ih hn.2 m1 m2

/-- the roots under the new names -/
noncomputable def rnρ (m : Ren) (ρ : Nat → Option Value) (j : Nat) : Option Value := by
  classical
  exact if h : ∃ i, mget m i = some j then ρ (Classical.choose h) else none

theorem rnρ_eq {m : Ren} (hm : m.ok = true) {ρ : Nat → Option Value} {i j : Nat} (h : mget m i = some j) : rnρ m ρ j = ρ i := by
  have hx : ∃ i, mget m i = some j := ⟨i, h⟩
  unfold rnρ
  rw [dif_pos hx, Ren.inj hm (Classical.choose_spec hx) h]

theorem rnρ_some {m : Ren} {ρ : Nat → Option Value} {j : Nat} {r : Value} (h : rnρ m ρ j = some r) : ∃ i, mget m i = some j ∧ ρ i = some r := by
  unfold rnρ at h
  split at h
  · rename_i hx; exact ⟨_, Classical.choose_spec hx, h⟩
  · cases h

theorem RV.rn {m : Ren} {ρ ρ' : Nat → Option Value} {S : Nat → Prop} {w : World} (hρ : ∀ i j r, mget m i = some j → ρ' j = some r → ρ i = some r)
    {v : Value} {x : V} (h : RV ρ S w v x) : RV ρ' S w v (x.rn m) := by
  induction h with
  | junk v => exact .junk v
  | c v => exact .c v
  | sl v nn x rows h => exact .sl v nn x rows h
  | own v i h =>
    simp only [V.rn]
    cases hi : mget m i with
    | none => exact .junk v
    | some j => exact .own v j fun r hr => h r (hρ i j r hi hr)
  | loc v i off h =>
    simp only [V.rn]
    cases hi : mget m i with
    | none => exact .junk v
    | some j => exact .loc v j off fun r hr => h r (hρ i j r hi hr)
  | vp v i k a b h =>
    simp only [V.rn]
    cases hi : mget m i with
    | none => exact .junk v
    | some j => exact .vp v j k a b fun r hr => h r (hρ i j r hi hr)
  | el a cells cs hc hr => exact .el a cells cs hc hr
  | fn f arr caps hsz hr ih =>
    simp only [V.rn, V.rnL_eq]
    refine .fn f arr _ (by simpa using hsz) fun j x c hx hc => ?_
    rw [List.getElem?_map, Option.map_eq_some_iff] at hx
    obtain ⟨y, hy, rfl⟩ := hx
    exact ih j y c hy hc
  | agg arr cells hsz h1 hr ih =>
    simp only [V.rn, V.rnL_eq]
    refine .agg arr _ (by simpa using hsz) h1 fun j x c hx hc => ?_
    rw [List.getElem?_map, Option.map_eq_some_iff] at hx
    obtain ⟨y, hy, rfl⟩ := hx
    exact ih j y c hy hc
  | tup arr cells hsz hr ih =>
    simp only [V.rn, V.rnL_eq]
    refine .tup arr _ (by simpa using hsz) fun j x c hx hc => ?_
    rw [List.getElem?_map, Option.map_eq_some_iff] at hx
    obtain ⟨y, hy, rfl⟩ := hx
    exact ih j y c hy hc

/-- slot for slot the same under the new names, or nothing said any more -/
def SubT (m : Ren) : List V → List V → Prop
  | [], [] => True
  | x :: T, y :: T' => (y = .junk ∨ x.rn m = y) ∧ SubT m T T'
  | _, _ => False

theorem SubT.length {m : Ren} : ∀ {T T' : List V}, SubT m T T' → T.length = T'.length
  | [], [], _ => rfl
  | _ :: _, _ :: _, h => by simp [h.2.length]
  | [], _ :: _, h => h.elim
  | _ :: _, [], h => h.elim

theorem SubT.get {m : Ren} : ∀ {T T' : List V}, SubT m T T' → ∀ {i : Nat} {y : V}, T'[i]? = some y → y = .junk ∨ ∃ x, T[i]? = some x ∧ x.rn m = y
  | [], [], _, i, y, h => by simp at h
  | x :: T, z :: T', h, i, y, hy => by
    cases i with
    | zero =>
      simp only [List.getElem?_cons_zero, Option.some.injEq] at hy
      subst hy
      exact h.1.imp id fun e => ⟨x, by simp, e⟩
    | succ i =>
      simp only [List.getElem?_cons_succ] at hy ⊢
      exact h.2.get hy
  | [], _ :: _, h, _, _, _ => h.elim
  | _ :: _, [], h, _, _, _ => h.elim

def SubO (m : Ren) : Ob → Ob → Prop
  | .cells e cs, .cells e' cs' => e = e' ∧ SubT m cs cs'
  | .vec nn e k rows, .vec nn' e' k' rows' => (nn' = nn ∨ nn' = false) ∧ e = e' ∧ k = k' ∧ rows = rows'
  | _, _ => False

/-- each object of the second heap is one of the first under its new name -/
def SubH (m : Ren) (H : Hp) : Hp → Prop
  | [] => True
  | (j, o') :: H' => (∃ i o, mget m i = some j ∧ look H i = some o ∧ SubO m o o') ∧ SubH m H H'

theorem SubH.get {m : Ren} {H : Hp} : ∀ {H' : Hp}, SubH m H H' → ∀ {j : Nat} {o' : Ob}, look H' j = some o' → ∃ i o, mget m i = some j ∧ look H i = some o ∧ SubO m o o'
  | [], _, _, _, h => by simp [look] at h
  | (k, p) :: H', h, j, o', hj => by
    simp only [look] at hj
    split at hj
    · cases hj; subst_vars; exact h.1
    · exact h.2.get hj

theorem ObR.rn {m : Ren} {ρ ρ' : Nat → Option Value} {S : Nat → Prop} {w : World} (hρ : ∀ i j r, mget m i = some j → ρ' j = some r → ρ i = some r)
    {r : Value} {o o' : Ob} {F : List Nat} (h : ObR ρ S w r o F) (hs : SubO m o o') : ObR ρ' S w r o' F := by
  cases h with
  | cells g arr ety cs hh hsz hr =>
    cases o' with
    | vec => exact hs.elim
    | cells e' cs' =>
      obtain ⟨rfl, hs⟩ := hs
      refine .cells g arr ety cs' hh (hsz.trans hs.length) fun j y hy => ?_
      have hlt : j < cs.length := by rw [hs.length]; exact (List.getElem?_eq_some_iff.1 hy).1
      rcases hs.get hy with rfl | ⟨x, hx, rfl⟩
      · obtain ⟨c, h1, h2, _⟩ := hr j cs[j] (List.getElem?_eq_getElem hlt)
        exact ⟨c, h1, h2, .junk c⟩
      · obtain ⟨c, h1, h2, h3⟩ := hr j x hx
        exact ⟨c, h1, h2, h3.rn hρ⟩
  | vnil ety k =>
    cases o' with
    | cells => exact hs.elim
    | vec nn' e' k' rows' =>
      obtain ⟨h1, rfl, rfl, rfl⟩ := hs
      have : nn' = false := by rcases h1 with rfl | rfl <;> rfl
      subst this
      exact .vnil _ _
  | vec g cap arr nn ety k rows cs Fs hh hcap hmax hsz hk hc hr =>
    cases o' with
    | cells => exact hs.elim
    | vec nn' e' k' rows' =>
      obtain ⟨_, rfl, rfl, rfl⟩ := hs
      exact .vec g cap arr nn' _ _ _ cs Fs hh hcap hmax hsz hk hc hr

/-- names under 100 are kept -/
def Ren.keep (m : Ren) : Bool := m.all fun p => Nat.ble 100 p.2 || p.1 == p.2

theorem Ren.keep_spec {m : Ren} (hm : m.keep = true) {i j : Nat} (h : mget m i = some j) (hj : j < 100) : i = j := by
  have := List.all_eq_true.1 hm _ (mget_mem h)
  simp only [Bool.or_eq_true, Nat.ble_eq, beq_iff_eq] at this
  omega

theorem HRel.rn {m : Ren} (hm : m.ok = true) {ρ : Nat → Option Value} {S : Nat → Prop} {F : Nat → List Nat} {H H' : Hp} {w : World} (h : HRel ρ S F H w) (hH : SubH m H H') :
    ∃ ρ' F', HRel ρ' S F' H' w ∧ (∀ i j r, mget m i = some j → ρ' j = some r → ρ i = some r) ∧ (∀ j r, ρ' j = some r → ∃ i, mget m i = some j ∧ ρ i = some r) ∧
      (∀ j o', look H' j = some o' → ∃ i o, mget m i = some j ∧ look H i = some o ∧ F' j = F i ∧ ρ' j = ρ i) := by
  classical
  refine ⟨fun j => if (look H' j).isSome then rnρ m ρ j else none, fun j => if h : ∃ i, mget m i = some j then F (Classical.choose h) else [], ?_, ?_, ?_, ?_⟩
  rotate_left
  · intro i j r hi hr
    simp only at hr
    split at hr
    · rw [rnρ_eq hm hi] at hr; exact hr
    · cases hr
  · intro j r hr
    simp only at hr
    split at hr
    · exact rnρ_some hr
    · cases hr
  · intro j o' ho
    obtain ⟨i, o, hi, hl, _⟩ := hH.get ho
    refine ⟨i, o, hi, hl, ?_, ?_⟩
    · have hx : ∃ i, mget m i = some j := ⟨i, hi⟩
      simp only [dif_pos hx]
      rw [Ren.inj hm (Classical.choose_spec hx) hi]
    · simp [ho, rnρ_eq hm hi]
  have key : ∀ j o', look H' j = some o' → ∃ i o, mget m i = some j ∧ look H i = some o ∧ SubO m o o' ∧
      (if h : ∃ i, mget m i = some j then F (Classical.choose h) else []) = F i ∧ (if (look H' j).isSome then rnρ m ρ j else none) = ρ i := by
    intro j o' ho
    obtain ⟨i, o, hi, hl, hs⟩ := hH.get ho
    have hx : ∃ i, mget m i = some j := ⟨i, hi⟩
    refine ⟨i, o, hi, hl, hs, ?_, ?_⟩
    · rw [dif_pos hx, Ren.inj hm (Classical.choose_spec hx) hi]
    · simp [ho, rnρ_eq hm hi]
  refine ⟨fun j hj => by simp [hj], fun j o' ho => ?_, fun j o' ho => ?_, fun j j' o o' b hj hj' hne hb hb' => ?_, fun j o' b ho hb => ?_, fun j o' b ho hb => ?_, h.slt⟩
  · obtain ⟨i, o, hi, hl, hs, e1, e2⟩ := key j o' ho
    obtain ⟨r, hr, hob⟩ := h.obj i o hl
    refine ⟨r, by rw [e2]; exact hr, ?_⟩
    refine (e1.symm ▸ hob : ObR ρ S w r o _).rn (fun i' j' r' hi' hr' => by
      split at hr'
      · rw [rnρ_eq hm hi'] at hr'; exact hr'
      · cases hr') hs
  · obtain ⟨i, o, _, hl, _, e1, _⟩ := key j o' ho
    rw [e1]
    exact h.nodup i o hl
  · obtain ⟨i, p, hi, hl, _, e1, _⟩ := key j o hj
    obtain ⟨i', p', hi', hl', _, e1', _⟩ := key j' o' hj'
    rw [e1] at hb
    rw [e1'] at hb'
    refine h.disj i i' p p' b hl hl' (fun e => hne ?_) hb hb'
    subst e
    rw [hi] at hi'
    exact Option.some.inj hi'
  · obtain ⟨i, o, _, hl, _, e1, _⟩ := key j o' ho
    rw [e1] at hb
    exact h.sep i o b hl hb
  · obtain ⟨i, o, _, hl, _, e1, _⟩ := key j o' ho
    rw [e1] at hb
    exact h.lt i o b hl hb

theorem Weak.rn (m : Ren) {st st' : St} (hm : m.ok = true) (hk : m.keep = true) (hT : SubT m st.T st'.T) (hH : SubH m st.H st'.H) : Weak st st' := by
  intro B G ρ S F a w h
  obtain ⟨ρ', F', h1, h2, h3, h4⟩ := h.heap.rn hm hH
  refine ⟨ρ', S, F', ⟨h.defers, h.size.trans hT.length, fun i y hy => ?_, h1, h.glob⟩, ⟨rfl, rfl, rfl, Nat.le_refl _, fun _ _ _ => rfl, fun _ hb => hb, fun _ hb => .inl hb, ?_⟩, ?_⟩
  · rcases hT.get hy with rfl | ⟨x, hx, rfl⟩
    · exact .junk _
    · exact (h.tmps i x hx).rn h2
  · rintro b ⟨j, o', ho, hb⟩
    obtain ⟨i, o, _, hl, e, _⟩ := h4 j o' ho
    exact .inl ⟨i, o, hl, e ▸ hb⟩
  · intro j r hj hr
    obtain ⟨i, hi, hir⟩ := h3 j r hr
    obtain rfl := Ren.keep_spec hk hi hj
    exact hir

end Go.Av
