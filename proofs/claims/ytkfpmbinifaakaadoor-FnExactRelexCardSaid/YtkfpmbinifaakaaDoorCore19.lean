/-
  Core19: operations that reckon (stepV, effV) look at their operands' objects alone; the walk's form for all regions.
-/
import Derived.Test.YtkfpmbinifaakaaDoorCore18
namespace Go.Av

def V.ids : V → List Nat
  | .own i => [i]
  | .loc i _ => [i]
  | .vp i _ _ _ => [i]
  | _ => []

section
variable {P : Program} {G : Nat → Option (List V)}

def AgV (H' H : Hp) (v : V) : Prop := ∀ i, i ∈ v.ids → look H' i = look H i

theorem cellsV_local {H H' : Hp} {v : V} (h : AgV H' H v) : cellsV H' v = cellsV H v := by
  cases v <;> simp_all [cellsV, live, AgV, V.ids]

theorem ptrAdd_local {H H' : Hp} {n : Nat} {v : V} (h : AgV H' H v) : ptrAdd H' n v = ptrAdd H n v := by
  cases v <;> simp_all [ptrAdd, live, AgV, V.ids]

theorem lenV_local {H H' : Hp} {v : V} (h : AgV H' H v) : lenV H' v = lenV H v := by
  cases v with
  | c u =>
    cases u with
    | slice a n c => cases a <;> rfl
    | _ => rfl
  | own i => simp_all [lenV, AgV, V.ids]
  | _ => rfl

theorem loadV_local {D : Tab} {H H' : Hp} {t : TypeId} {v : V} (h : AgV H' H v) : loadV D H' t v = loadV D H t v := by
  cases v <;> simp_all [loadV, AgV, V.ids]

theorem fillV_local {H H' : Hp} {place : Nat → Option (Nat × Nat)} : ∀ {parts : List (Nat × V)} {cells : List V}, (∀ p, p ∈ parts → AgV H' H p.2) → fillV H' place cells parts = fillV H place cells parts
  | [], _, _ => rfl
  | (i, v) :: rest, cells, h => by
    have hc : cellsV H' v = cellsV H v := cellsV_local (h (i, v) (by simp))
    have ih : ∀ cells, fillV H' place cells rest = fillV H place cells rest := fun cells => fillV_local fun p hp => h p (by simp [hp])
    simp only [fillV, hc, ih]

theorem buildV_local {D : Tab} {H H' : Hp} {t : TypeId} {parts : List (Nat × V)} (h : ∀ p, p ∈ parts → AgV H' H p.2) : buildV D H' t parts = buildV D H t parts := by
  have e : ∀ place cells, fillV H' place cells parts = fillV H place cells parts := fun _ _ => fillV_local h
  simp only [buildV, e]

theorem map_local {e e' : Operand → V} {parts : List (Nat × Operand)} (he : ∀ p, p ∈ parts → e' p.2 = e p.2) : parts.map (fun p => (p.1, e' p.2)) = parts.map fun p => (p.1, e p.2) :=
  List.map_congr_left fun p hp => by rw [he p hp]

theorem stepV_local {D : Tab} {H H' : Hp} {e e' : Operand → V} {op : Op} (he : ∀ x, x ∈ op.operands → e' x = e x) (hH : ∀ x, x ∈ op.operands → AgV H' H (e x)) : stepV D H' e' op = stepV D H e op := by
  cases op
  case move x => simp only [stepV]; rw [he x (by simp [Op.operands])]
  case assign x => simp only [stepV]; rw [he x (by simp [Op.operands])]
  case pick c a b => simp only [stepV]; rw [he c (by simp [Op.operands]), he a (by simp [Op.operands]), he b (by simp [Op.operands])]
  case nilCheck x =>
    have h := hH x (by simp [Op.operands])
    simp only [stepV]
    rw [he x (by simp [Op.operands])]
    generalize e x = v at h
    cases v <;> simp_all [live, AgV, V.ids]
  case binOp op t x y t' => simp only [stepV]; rw [he x (by simp [Op.operands]), he y (by simp [Op.operands])]
  case unOp op t x => cases op <;> first | rfl | (simp only [stepV]; rw [he x (by simp [Op.operands])])
  case convert s d x => simp only [stepV]; rw [he x (by simp [Op.operands])]
  case fieldAddr s x f =>
    have h := hH x (by simp [Op.operands])
    simp only [stepV]
    rw [he x (by simp [Op.operands])]
    simp only [ptrAdd_local h]
  case field s x f => simp only [stepV]; rw [he x (by simp [Op.operands])]
  case load t a => simp only [stepV]; rw [he a (by simp [Op.operands]), loadV_local (hH a (by simp [Op.operands]))]
  case extract x i => simp only [stepV]; rw [he x (by simp [Op.operands])]
  case makeFunc fn first caps =>
    cases fn <;> first
      | rfl
      | (simp only [stepV]
         split
         · rw [List.map_congr_left fun x hx => he x (by simp [Op.operands] at hx ⊢; exact .inr hx)]
         · rfl)
  case build t parts =>
    simp only [stepV]
    rw [map_local fun p hp => he p.2 (by simp [Op.operands]; exact ⟨p.1, by simpa using hp⟩)]
    refine buildV_local fun p hp => ?_
    obtain ⟨q, hq, rfl⟩ := List.mem_map.1 hp
    exact hH q.2 (by simp [Op.operands]; exact ⟨q.1, by simpa using hq⟩)
  case call c =>
    obtain ⟨callee, args, ats⟩ := c
    have h1 : ∀ x, x ∈ args.toList → e' x = e x := fun x hx => he x (by simp only [Op.operands, Call.operands]; exact Array.mem_append.2 (.inr (by simpa using hx)))
    have h2 : ∀ x, x ∈ args.toList → AgV H' H (e x) := fun x hx => hH x (by simp only [Op.operands, Call.operands]; exact Array.mem_append.2 (.inr (by simpa using hx)))
    simp only [stepV]
    generalize args.toList = as at h1 h2
    split
    · rw [h1 _ (by simp), lenV_local (h2 _ (by simp))]
    · rw [h1 _ (by simp), h1 _ (by simp)]
    · rw [h1 _ (by simp), h1 _ (by simp)]
    · rfl
  all_goals rfl

/-- an operation that reckons, with all that it does: computed. q: the name of what it makes -/
def effV (D : Tab) (q : Nat) (H : Hp) (e : Operand → V) (op : Op) : Option Eff :=
  match op with
  | .box t x => (cellsV H (e x)).bind fun cs => bif V.hasL q cs then none else some { v := .loc q 0, R := (e x).ids, new := [(q, .cells t cs)], N := [q] }
  | .alloc t => (D.at t).map fun i => { v := .loc q 0, new := [(q, .cells t (i.zero.map .c))], N := [q] }
  | .store t a x => match D.at t, e a, cellsV H (e x) with
    | some it, .loc i off, some ys => match look H i with
      | some (.cells ety cs) => if ys.length = it.size ∧ off + ys.length ≤ cs.length then some { v := .junk, R := (e x).ids, C := [i], new := [(i, .cells ety (putAt cs ys off))] } else none
      | _ => none
    | _, _, _ => none
  | .buildSlice t n parts => match D.at t with
    | some it => match it.d with
      | .slice el => match D.at el with
        | some ie => (fillV H (fun i => some (i * ie.size, ie.size)) ((List.replicate n (ie.zero.map .c)).flatten) (parts.toList.map fun p => (p.1, e p.2))).bind fun cells => (absL H cells).bind fun yc =>
          if ie.size ≠ 0 ∧ n * ie.size ≤ 16777216 ∧ cells.length = n * ie.size ∧ yc.2.Nodup then some { v := .own q, R := parts.toList.flatMap fun p => (e p.2).ids, C := yc.2, new := [(q, .vec true el ie.size (chunk n ie.size yc.1))], N := [q] } else none
        | none => none
      | _ => none
    | none => none
  | op => (stepV D H e op).map fun v => { v := v, R := op.operands.toList.flatMap fun x => (e x).ids }

theorem OpOkL.of_step {D : Tab} (hD : TabOk P D) {o : Oper} {e : Operand → V} {H : Hp} {v : V} (h : stepV D H e o.op = some v) : OpOkL P G o e { v := v, R := o.op.operands.toList.flatMap fun x => (e x).ids } H := by
  intro e' H' he hH _
  have hs : stepV D H' e' o.op = some v := by
    rw [stepV_local he fun x hx i hi => hH i (.inl (List.mem_flatMap.2 ⟨x, by simpa using hx, hi⟩)), h]
  exact (stepV_sound hD hs).congr fun x => by rw [look_eff]; simp [Eff.touch, look]

theorem touch_new {q : Nat} {o : Ob} {E : Eff} (h : look E.new q = some o) : E.touch q = true := by simp [Eff.touch, h]

theorem absV_c (H H' : Hp) (u : Value) : absV H' (.c u) = absV H (.c u) := by
  cases u <;> first
    | rfl
    | (rename_i a n c; cases a <;> first | rfl | (cases n <;> first | rfl | (cases c <;> rfl)))

theorem effV_sound {D : Tab} (hD : TabOk P D) {o : Oper} {q : Nat} {e : Operand → V} {H : Hp} {E : Eff} (h : effV D q H e o.op = some E) : OpOkL P G o e E H := by
  unfold effV at h
  split at h
  · rename_i t x ho
    rw [Option.bind_eq_some_iff] at h
    obtain ⟨cs, hcs, h⟩ := h
    cases hq : V.hasL q cs with
    | true => rw [hq] at h; cases h
    | false =>
      rw [hq] at h
      simp only [cond_false, Option.some.injEq] at h
      subst h
      intro e' H' he hH hN
      have hx : e' x = e x := he x (by simp [ho, Op.operands])
      have hc : cellsV H' (e' x) = some cs := by rw [hx, cellsV_local fun i hi => hH i (.inl hi)]; exact hcs
      simp only [List.all_cons, List.all_nil, Bool.and_true, Bool.not_eq_true'] at hN
      exact (OpOk.box q ho hc hN hq).congr fun y => by rw [look_eff]; simp [Eff.touch, look]; split <;> simp_all
  · rename_i t ho
    rw [Option.map_eq_some_iff] at h
    obtain ⟨i, hi, h⟩ := h
    subst h
    intro e' H' he hH hN
    simp only [List.all_cons, List.all_nil, Bool.and_true, Bool.not_eq_true'] at hN
    exact (OpOk.alloc hD q ho hi hN).congr fun y => by rw [look_eff]; simp [Eff.touch, look]; split <;> simp_all
  · rename_i t a x ho
    split at h
    · rename_i it i off ys ht ha hx
      split at h
      · rename_i ety cs hi
        split at h
        · rename_i hs
          cases h
          intro e' H' he hH hN
          have ha' : e' a = .loc i off := (he a (by simp [ho, Op.operands])).trans ha
          have hx' : cellsV H' (e' x) = some ys := by
            rw [he x (by simp [ho, Op.operands]), cellsV_local fun k hk => hH k (.inl hk)]; exact hx
          have hi' : look H' i = some (.cells ety cs) := by
            rw [hH i (.inr (by simp [Eff.touch]))]; exact hi
          exact (OpOk.store hD ho ht ha' hi' hx' hs.1 hs.2).congr fun y => by
            rw [look_eff, look_hput]
            by_cases he : y = i <;> simp [Eff.touch, look, he]
        · cases h
      · cases h
    · cases h
  · rename_i t n parts ho
    split at h
    · rename_i it ht
      split at h
      · rename_i el hit
        split at h
        · rename_i ie hel
          rw [Option.bind_eq_some_iff] at h
          obtain ⟨cells, hf, h⟩ := h
          rw [Option.bind_eq_some_iff] at h
          obtain ⟨⟨ys, C⟩, hab, h⟩ := h
          split at h
          · rename_i hs
            cases h
            intro e' H' he hH hN
            have hp : ∀ p, p ∈ parts.toList → e' p.2 = e p.2 := fun p hp => he p.2 (by simp [ho, Op.operands]; exact ⟨p.1, by simpa using hp⟩)
            have hf' : fillV H' (fun i => some (i * ie.size, ie.size)) ((List.replicate n (ie.zero.map .c)).flatten) (parts.toList.map fun p => (p.1, e' p.2)) = some cells := by
              rw [map_local hp, fillV_local fun p hpp => ?_]
              · exact hf
              · obtain ⟨r, hr, rfl⟩ := List.mem_map.1 hpp
                exact fun i hi => hH i (.inl (List.mem_flatMap.2 ⟨r, hr, hi⟩))
            have hab' : absL H' cells = some (ys, C) := by
              -- the cells that are own slices are given up: they are touched
              have key : ∀ (l : List V) (ys : List V) (C' : List Nat), absL H l = some (ys, C') → (∀ c, c ∈ C' → c ∈ C) → absL H' l = some (ys, C') := by
                intro l
                induction l with
                | nil => intro ys C' h _; exact h
                | cons y l ih =>
                  intro ys C' h hsub
                  simp only [absL, Option.bind_eq_some_iff, Option.map_eq_some_iff] at h ⊢
                  obtain ⟨⟨z, C1⟩, h1, ⟨zs, C2⟩, h2, h3⟩ := h
                  cases h3
                  refine ⟨(z, C1), ?_, (zs, C2), ih zs C2 h2 fun c hc => hsub c (List.mem_append.2 (.inr hc)), rfl⟩
                  cases y with
                  | own j =>
                    simp only [absV] at h1 ⊢
                    split at h1
                    · rename_i nn x1 x2 rows hl
                      cases h1
                      have hj : look H' j = look H j := hH j (.inr (by simp [Eff.touch]; exact .inl (hsub j (by simp))))
                      rw [hj, hl]
                    · cases h1
                  | c u => rw [absV_c H H']; exact h1
                  | _ => exact h1
              exact key cells ys C hab fun c hc => hc
            simp only [List.all_cons, List.all_nil, Bool.and_true, Bool.not_eq_true'] at hN
            exact OpOk.buildSlice hD q ho ht hit hel hs.1 hs.2.1 hf' hs.2.2.1 hab' hs.2.2.2 hN
          · cases h
        · cases h
      · cases h
    · cases h
  · rename_i op _ _ _ _ 
    rw [Option.map_eq_some_iff] at h
    obtain ⟨v, hv, h⟩ := h
    subst h
    exact OpOkL.of_step hD hv

end
end Go.Av
