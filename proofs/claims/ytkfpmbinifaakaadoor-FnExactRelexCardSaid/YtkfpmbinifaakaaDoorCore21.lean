/-
  Core21: calls by contract: own slices laid down for good as they are handed over; objects handed over under the contract's names.
-/
import Derived.Test.YtkfpmbinifaakaaDoorCore20
namespace Go.Av

section
variable {P : Program} {G : Nat → Option (List V)}

/-- an own slice is laid down: it is no object any more, its blocks are written no more -/
theorem HRel.lay {ρ : Nat → Option Value} {S : Nat → Prop} {F : Nat → List Nat} {H : Hp} {w : World} (hH : HRel ρ S F H w) {j : Nat} {nn : Bool} {ty k : Nat} {rows : List (List V)} (hj : look H j = some (.vec nn ty k rows)) :
    ∃ ρ' S', HRel ρ' S' F (hrem [j] H) w ∧ (∀ i r, ρ' i = some r → ρ i = some r) ∧ (∀ b, S b → S' b) ∧ (∃ r, ρ j = some r ∧ RD S' w r (.sl nn false (V.shareR rows)) []) ∧ Evo S (Ub H F) w S' (Ub (hrem [j] H) F) w := by
  obtain ⟨r, hr, hob⟩ := hH.obj j _ hj
  let ρ' : Nat → Option Value := fun i => if i = j then none else ρ i
  let S' : Nat → Prop := fun b => S b ∨ b ∈ F j
  have hρ : ∀ i r, ρ' i = some r → ρ i = some r := fun i r hi => by
    simp only [ρ'] at hi
    split at hi
    · cases hi
    · exact hi
  have hS : ∀ b, S b → S' b := fun b hb => .inl hb
  have hl : ∀ i o, look (hrem [j] H) i = some o → i ≠ j ∧ look H i = some o := fun i o hi => by
    rw [look_hrem] at hi
    split at hi
    · cases hi
    · exact ⟨by simpa using ‹¬ i ∈ [j]›, hi⟩
  have hkeep : Keeps S w S' w := fun b hb => ⟨hS b hb, rfl⟩
  refine ⟨ρ', S', ⟨fun i hi => ?_, fun i o hi => ?_, fun i o hi => hH.nodup i o (hl i o hi).2, fun i i' o p b hi hi' hne => hH.disj i i' o p b (hl i o hi).2 (hl i' p hi').2 hne, fun i o b hi hb => ?_, fun i o b hi hb => hH.lt i o b (hl i o hi).2 hb, fun b hb => ?_⟩, hρ, hS, ⟨r, hr, hob.toRD.share hS (fun b hb => .inr hb)⟩,
    ⟨rfl, rfl, rfl, Nat.le_refl _, fun _ _ _ => rfl, hS, fun b hb => ?_, fun b ⟨i, o, hi, hb⟩ => .inl ⟨i, o, (hl i o hi).2, hb⟩⟩⟩
  · simp only [ρ']
    split
    · rfl
    · rename_i hne
      rw [look_hrem, if_neg (by simpa using hne)] at hi
      exact hH.dom i hi
  · obtain ⟨hne, hi⟩ := hl i o hi
    obtain ⟨r', hr', hob'⟩ := hH.obj i o hi
    exact ⟨r', by simp only [ρ']; rw [if_neg hne]; exact hr', hob'.mono (fun q r hq _ => hρ q r hq) hkeep (fun _ _ => rfl)⟩
  · obtain ⟨hne, hi⟩ := hl i o hi
    rintro (hs | hs)
    · exact hH.sep i o b hi hb hs
    · exact hH.disj i j o _ b hi hj hne hb hs
  · rcases hb with hb | hb
    · exact hH.slt b hb
    · exact hH.lt j _ b hj hb
  · rcases hb with hb | hb
    · exact .inl hb
    · exact .inr (.inl ⟨j, _, hj, hb⟩)

/-- own slices as the data that they become -/
def layC (Z : List (Nat × V)) : V → V
  | .own j => match Z.find? (·.1 == j) with
    | some p => p.2
    | none => .own j
  | .c (.slice none 0 0) => .sl false false []
  | x => x

def layV (Z : List (Nat × V)) : V → V
  | .agg cs => .agg (cs.map (layC Z))
  | x => layC Z x

/-- what is laid down, and the data that it becomes -/
def LayOk (H : Hp) : List (Nat × List (List V)) → Prop
  | [] => True
  | (j, rows') :: Z => (∃ nn t k rows, look H j = some (.vec nn t k rows) ∧ V.shareR rows = rows') ∧ LayOk H Z

theorem LayOk.get {H : Hp} : ∀ {Z : List (Nat × List (List V))}, LayOk H Z → ∀ {p : Nat × List (List V)}, p ∈ Z → ∃ nn t k rows, look H p.1 = some (.vec nn t k rows) ∧ V.shareR rows = p.2
  | (j, rows') :: Z, h, p, hp => by
    rcases List.mem_cons.1 hp with rfl | hp
    · exact h.1
    · exact LayOk.get h.2 hp

def rowsAt (H : Hp) (j : Nat) : Option (List (List V)) := match look H j with
  | some (.vec _ _ _ rows) => some rows
  | _ => none

theorem LayOk.cons {H : Hp} {j : Nat} {Z : List (Nat × List (List V))} {α : Type} (enc enc' : α → List V) (l : List α) (h : rowsAt H j = some (l.map enc)) (he : ∀ x, V.shareL (enc x) = enc' x) (k : LayOk H Z) : LayOk H ((j, l.map enc') :: Z) := by
  unfold rowsAt at h
  split at h
  · rename_i nn t k' rows hl
    cases h
    refine ⟨⟨nn, t, k', _, hl, ?_⟩, k⟩
    rw [V.shareR_eq, List.map_map]
    exact List.map_congr_left fun x _ => he x
  · cases h

theorem RD.low {S : Nat → Prop} {w : World} {v : Value} {nn x : Bool} {rows : List (List V)} {F : List Nat} (h : RD S w v (.sl nn x rows) F) : RD S w v (.sl false x rows) F := by
  cases h with
  | nils => exact .nils x
  | shr a cap _ _ k cs hlen hcap hk hc hr => exact .shr a cap false rows k cs hlen hcap hk hc hr
  | exc g cap arr ety _ _ k cs Fs hh hcap hmax hsz hk hc hr => exact .exc g cap arr ety false rows k cs Fs hh hcap hmax hsz hk hc hr

def layD (Z : List (Nat × List (List V))) : List (Nat × V) := Z.map fun p => (p.1, .sl false false p.2)

theorem hrem_hrem (A B : List Nat) (H : Hp) (x : Nat) : look (hrem A (hrem B H)) x = look (hrem (B ++ A) H) x := by
  simp only [look_hrem, List.mem_append]
  by_cases h1 : x ∈ A <;> by_cases h2 : x ∈ B <;> simp [h1, h2]

/-- many laid down -/
theorem HRel.lays {ρ0 : Nat → Option Value} {S0 : Nat → Prop} {F : Nat → List Nat} {H0 : Hp} {w : World} (hH0 : HRel ρ0 S0 F H0 w) : ∀ (C : List Nat), C.Nodup → (∀ j, j ∈ C → ∃ nn t k rows, look H0 j = some (.vec nn t k rows)) →
    ∃ ρ' S', HRel ρ' S' F (hrem C H0) w ∧ (∀ i r, ρ' i = some r → ρ0 i = some r) ∧ (∀ b, S0 b → S' b) ∧ (∀ j, j ∈ C → ∀ nn t k rows, look H0 j = some (.vec nn t k rows) → ∃ r, ρ0 j = some r ∧ RD S' w r (.sl nn false (V.shareR rows)) []) ∧ Evo S0 (Ub H0 F) w S' (Ub (hrem C H0) F) w
  | [], _, _ => ⟨ρ0, S0, hH0.congr fun x => by rw [look_hrem]; simp, fun _ _ h => h, fun _ h => h, fun j hj => (by cases hj), ⟨rfl, rfl, rfl, Nat.le_refl _, fun _ _ _ => rfl, fun _ h => h, fun _ h => .inl h, fun b ⟨i, o, hi, hb⟩ => .inl ⟨i, o, by rw [look_hrem] at hi; simpa using hi, hb⟩⟩⟩
  | j :: C, hn, hC => by
    rw [List.nodup_cons] at hn
    obtain ⟨ρ1, S1, h1, a1, b1, c1, e1⟩ := HRel.lays hH0 C hn.2 fun i hi => hC i (List.mem_cons_of_mem _ hi)
    obtain ⟨nn, t, k, rows, hj⟩ := hC j (by simp)
    have hj' : look (hrem C H0) j = some (.vec nn t k rows) := by rw [look_hrem, if_neg hn.1]; exact hj
    obtain ⟨ρ2, S2, h2, a2, b2, c2, e2⟩ := h1.lay hj'
    have hlk : ∀ x, look (hrem (j :: C) H0) x = look (hrem [j] (hrem C H0)) x := fun x => by
      simp only [look_hrem, List.mem_cons, List.not_mem_nil, or_false]
      by_cases h1 : x = j <;> by_cases h2 : x ∈ C <;> simp [h1, h2]
    refine ⟨ρ2, S2, h2.congr hlk, fun i r h => a1 i r (a2 i r h), fun b h => b2 b (b1 b h), fun i hi nn' t' k' rows' hl => ?_, ?_⟩
    · rcases List.mem_cons.1 hi with rfl | hi
      · rw [hj] at hl
        cases hl
        obtain ⟨r, hr, hd⟩ := c2
        exact ⟨r, a1 _ r hr, hd⟩
      · obtain ⟨r, hr, hd⟩ := c1 i hi nn' t' k' rows' hl
        exact ⟨r, hr, hd.mono (fun b hb => ⟨b2 b hb, rfl⟩) (fun b hb => by cases hb)⟩
    · have := e1.trans e2
      exact ⟨this.os, this.tape, this.output, this.size, this.keep, this.sub, this.newS, fun b hb => this.newU b (Ub.congr hlk hb)⟩

/-- objects as a contract takes them: under its names, slices without the mark of being there -/
def Ob.low (m : Ren) : Ob → Ob
  | .cells e cs => .cells e (V.rnL m cs)
  | .vec _ e k rows => .vec false e k rows

theorem Ob.low_sub (m : Ren) (o : Ob) : SubO m o (o.low m) := by
  cases o with
  | cells e cs => exact ⟨rfl, SubT.rnL m cs⟩
  | vec nn e k rows => exact ⟨.inr rfl, rfl, rfl, rfl⟩

/-- what is handed over, as the contract sees it -/
def handV (q : Ren) (H : Hp) : Ren → Option Hp
  | [] => some []
  | (j, i) :: r => match look H j, handV q H r with
    | some o, some H' => some ((i, o.low q) :: H')
    | _, _ => none

theorem handV_sub {q : Ren} {H H1 : Hp} : ∀ {r : Ren} {Hc : Hp}, handV q H r = some Hc → (∀ p, p ∈ r → mget q p.1 = some p.2) → (∀ p, p ∈ r → look H1 p.1 = look H p.1) → SubH q H1 Hc
  | [], Hc, h, _, _ => by cases h; trivial
  | (j, i) :: r, Hc, h, hq, hl => by
    simp only [handV] at h
    split at h
    · rename_i o H' ho hr
      cases h
      exact ⟨⟨j, o, hq (j, i) (by simp), by rw [hl (j, i) (by simp)]; exact ho, Ob.low_sub q o⟩, handV_sub hr (fun p hp => hq p (by simp [hp])) fun p hp => hl p (by simp [hp])⟩
    · cases h

theorem look_keepH {m : Ren} : ∀ {H : Hp} {j : Nat} {o' : Ob}, (H.map (·.1)).Nodup → look (keepH m H) j = some o' → ∃ i o, mget m i = some j ∧ look H i = some o ∧ o' = o.rn m
  | [], j, o', _, h => by cases h
  | (i, o) :: H, j, o', hn, h => by
    simp only [List.map_cons, List.nodup_cons] at hn
    have step : look (keepH m H) j = some o' → ∃ i' o2, mget m i' = some j ∧ look ((i, o) :: H) i' = some o2 ∧ o' = o2.rn m := fun h => by
      obtain ⟨i', o2, h1, h2, h3⟩ := look_keepH hn.2 h
      refine ⟨i', o2, h1, ?_, h3⟩
      simp only [look]
      split
      · subst_vars
        have hmem : ∀ (H : Hp) (i : Nat) (o : Ob), look H i = some o → i ∈ H.map (·.1) := by
          intro H
          induction H with
          | nil => intro i o h; cases h
          | cons p H ih =>
            obtain ⟨j, p⟩ := p
            intro i o h
            simp only [look] at h
            split at h
            · subst_vars; simp
            · simp only [List.map_cons, List.mem_cons]; exact .inr (ih i o h)
        exact absurd (hmem H _ o2 h2) hn.1
      · exact h2
    simp only [keepH] at h
    split at h
    · rename_i k hk
      simp only [look] at h
      split at h
      · cases h; subst_vars; exact ⟨i, o, hk, by simp [look], rfl⟩
      · exact step h
    · exact step h

/-- a call's names fit -/
def namesOk (q m : Ren) (Z : List Nat) (N : List Nat) : Bool :=
  q.ok && m.ok && m.all (fun p => (Nat.ble 100 p.1 || mget q p.2 == some p.1) && (Nat.blt p.1 100 || N.contains p.2)) && decide Z.Nodup && q.all (fun p => !Z.contains p.1 && mget q p.1 == some p.2)

theorem OpOkL.call {o : Oper} {e : Operand → V} {Hi : Hp} {f : Operand} {as : Array Operand} {ats : Array TypeId} {fid : FuncId} {caps : List V} (ho : o.op = .call { callee := .value f, args := as, argTypes := ats }) (hf : e f = .fn fid caps) (hcf : callOk P fid)
    {vs : List V} {Hc Hc' : Hp} {rc : V} (h : AC P G fid vs Hc rc Hc') (q m : Ren) (Zr : List (Nat × List (List V))) (N : List Nat) (hn : namesOk q m (Zr.map (·.1)) N = true) (hHc' : nodupH Hc' = true)
    (hZr : LayOk Hi Zr) (hh : handV q Hi q = some Hc) (ha : V.rnL q ((as.toList.map e ++ caps).map (layV (layD Zr))) = vs) :
    OpOkL P G o e { v := rc.rn m, C := Zr.map (·.1) ++ q.map (·.1), new := keepH m Hc', N := N } Hi := by
  have hZ : ∀ j, j ∈ Zr.map (·.1) → ∃ nn t k rows, look Hi j = some (.vec nn t k rows) := fun j hj => by
    obtain ⟨p, hp, rfl⟩ := List.mem_map.1 hj
    obtain ⟨nn, t, k, rows, h1, _⟩ := hZr.get hp
    exact ⟨nn, t, k, rows, h1⟩
  generalize hZe : Zr.map (·.1) = Z at *
  unfold namesOk at hn
  simp only [Bool.and_eq_true, List.all_eq_true, decide_eq_true_eq, Bool.or_eq_true, Bool.not_eq_true'] at hn
  obtain ⟨⟨⟨⟨n1, n2⟩, n3⟩, n4⟩, n5⟩ := hn
  intro e' H he hH hN ρ S F η w hη hHr hG
  have touched : ∀ j, j ∈ Z ++ q.map (·.1) → look H j = look Hi j := fun j hj => hH j (.inr (by unfold Eff.touch; simp only [Bool.or_eq_true, List.contains_iff_mem]; exact .inl hj))
  have hfop : f ∈ o.op.operands := by simp [ho, Op.operands, Call.operands]
  have hasop : ∀ x, x ∈ as.toList → x ∈ o.op.operands := fun x hx => by
    simp only [ho, Op.operands, Call.operands]
    exact Array.mem_append.2 (.inr (by simpa using hx))
  have hfe : e' f = .fn fid caps := (he f hfop).trans hf
  have hmap : as.toList.map e' = as.toList.map e := List.map_congr_left fun x hx => he x (hasop x hx)
  obtain ⟨ρ1, S1, hH1, a1, b1, c1, e1⟩ := hHr.lays Z n4 fun j hj => by
    obtain ⟨nn, t, k, rows, hl⟩ := hZ j hj
    exact ⟨nn, t, k, rows, by rw [touched j (by simp [hj])]; exact hl⟩
  have hk : Keeps S w S1 w := hHr.keeps e1
  -- a value, laid down
  have layc : ∀ v x, RV ρ S w v x → RV ρ1 S1 w v (layC (layD Zr) x) := fun v x hv => by
    unfold layC
    split
    · rename_i j
      split
      · rename_i p hp
        have hpm := List.mem_of_find?_eq_some hp
        have hpj := List.find?_some hp
        simp only [beq_iff_eq] at hpj
        unfold layD at hpm
        rw [List.mem_map] at hpm
        obtain ⟨p', hp', rfl⟩ := hpm
        simp only at hpj
        obtain ⟨nn, t, k, rows, hl, hsh⟩ := hZr.get hp'
        have hjZ : p'.1 ∈ Z := by rw [← hZe]; exact List.mem_map_of_mem hp'
        subst hpj
        obtain ⟨r, hr, hd⟩ := c1 p'.1 hjZ nn t k rows (by rw [touched p'.1 (by simp [hjZ])]; exact hl)
        rw [hv.own_inv r hr]
        rw [hsh] at hd
        exact .sl _ _ _ _ hd.low
      · exact hv.mono (fun i r hi _ => a1 i r hi) hk
    · rw [hv.c_inv]; exact .sl _ _ _ _ (.nils false)
    · exact hv.mono (fun i r hi _ => a1 i r hi) hk
  have lay : ∀ v x, RV ρ S w v x → RV ρ1 S1 w v (layV (layD Zr) x) := fun v x hv => by
    unfold layV
    split
    · rename_i cs
      obtain ⟨arr, ha, hsz, h1c, hr⟩ := hv.agg_inv
      rw [ha]
      refine .agg arr _ (by simpa using hsz) h1c fun j x c hx hc => ?_
      rw [List.getElem?_map, Option.map_eq_some_iff] at hx
      obtain ⟨y, hy, rfl⟩ := hx
      obtain ⟨c', hc', hrv⟩ := hr j y hy
      rw [hc] at hc'
      cases hc'
      exact layc c y hrv
    · exact layc v x hv
  have lay2 : ∀ v x, RV ρ S w v x → RV ρ1 S1 w v x := fun v x hv => hv.mono (fun i r hi _ => a1 i r hi) hk
  -- the call
  have hfv := hη f hfop
  rw [hfe] at hfv
  obtain ⟨arr, harr, hsz, hcap⟩ := hfv.fn_inv
  have fits : CallFits q m ((as.toList.map e' ++ caps).map (layV (layD Zr))) (hrem Z H) vs Hc rc Hc' (rc.rn m) (keepH m Hc' ++ hrem (q.map (·.1)) (hrem Z H)) N := by
    have hqZ : ∀ p, p ∈ q → p.1 ∉ Z ∧ mget q p.1 = some p.2 := fun p hp => by
      have := n5 p hp
      simp only [beq_iff_eq] at this
      exact ⟨by simpa using this.1, this.2⟩
    refine ⟨n1, n2, ?_, handV_sub hh (fun p hp => (hqZ p hp).2) (fun p hp => ?_), rfl, fun j o' hj => ?_, fun i j hij hi => ?_, fun i j hij hi => ?_, fun j hj => ?_⟩
    · rw [hmap]
      have key : ∀ (l : List V), SubT q l (V.rnL q l) := SubT.rnL q
      rw [← ha]
      exact key _
    · rw [look_hrem, if_neg (hqZ p hp).1]
      exact touched p.1 (List.mem_append.2 (.inr (List.mem_map_of_mem hp)))
    · rw [look_app] at hj
      cases hkj : look (keepH m Hc') j with
      | some o2 =>
        rw [hkj] at hj
        cases hj
        obtain ⟨i, o2, h1, h2, h3⟩ := look_keepH (of_decide_eq_true hHc') hkj
        exact .inr ⟨i, o2, h1, h2, h3 ▸ Ob.rn_sub m o2⟩
      | none =>
        rw [hkj] at hj
        simp only at hj
        rw [look_hrem] at hj
        split at hj
        · cases hj
        · rename_i hnq
          refine .inl ⟨?_, hj, fun i hij => ?_⟩
          · cases hq : mget q j with
            | none => rfl
            | some i => exact absurd (List.mem_map_of_mem (f := (·.1)) (mget_mem hq)) hnq
          · have h3 := n3 _ (mget_mem hij)
            rcases Nat.lt_or_ge i 100 with hlt | hge
            · have := h3.1
              rcases this with h | h
              · rw [Nat.ble_eq] at h; simp only at h; omega
              · simp only [beq_iff_eq] at h
                exact hnq (List.mem_map_of_mem (f := (·.1)) (mget_mem h))
            · have := h3.2
              rcases this with h | h
              · rw [Nat.blt_eq] at h; simp only at h; omega
              · simp only [List.contains_iff_mem] at h
                have hNj := List.all_eq_true.1 hN j h
                simp only [Bool.not_eq_true'] at hNj
                have := (hasH_false hNj).1
                rw [look_hrem] at hj
                split at hj
                · cases hj
                · rw [this] at hj; cases hj
    · have h3 := (n3 _ (mget_mem hij)).1
      rcases h3 with h | h
      · rw [Nat.ble_eq] at h; simp only at h; omega
      · simpa using h
    · have h3 := (n3 _ (mget_mem hij)).2
      rcases h3 with h | h
      · rw [Nat.blt_eq] at h; simp only at h; omega
      · simpa using h
    · have hNj := List.all_eq_true.1 hN j hj
      simp only [Bool.not_eq_true'] at hNj
      rw [look_hrem]
      split
      · rfl
      · exact (hasH_false hNj).1
  unfold ExecTo execOp
  simp only [ho, resolve, harr, Deferred.ofValue, Sem.run_bind, Sem.run_pure, Result.andThen_ok, invoke, Array.empty_append]
  have hcf' := hcf (as.map η ++ arr) w
  simp only [hcf']
  have hcall := AC.call h fits (ρ := ρ1) (S := S1) (F := F) (xs := as.map η ++ arr) (w := w) (by simp [hsz]) (fun i x hx => ?_) hH1 (hG.mono hk) (fun j o' hj i hi => ?_)
  · refine hcall.mono ?_
    rintro en w' ⟨x, rfl, hp⟩
    refine ⟨x, rfl, ?_⟩
    obtain ⟨ρ', S', F', hv, hH', hE', hA'⟩ := hp
    have hlk : ∀ y, look (keepH m Hc' ++ hrem (Z ++ q.map (·.1)) H) y = look (keepH m Hc' ++ hrem (q.map (·.1)) (hrem Z H)) y := fun y => by
      simp only [look_app, hrem_hrem]
    have := e1.trans hE'
    exact ⟨ρ', S', F', hv, hH'.congr hlk, ⟨this.os, this.tape, this.output, this.size, this.keep, this.sub, this.newS, fun b hb => this.newU b (Ub.congr hlk hb)⟩, fun j r hj hN => a1 j r (hA' j r hj hN)⟩
  · rw [List.getElem?_map, Option.map_eq_some_iff] at hx
    obtain ⟨x0, hx0, rfl⟩ := hx
    refine lay _ _ ?_
    by_cases hi : i < as.size
    · rw [List.getElem?_append_left (by simpa using hi), List.getElem?_map, Option.map_eq_some_iff] at hx0
      obtain ⟨y, hy, rfl⟩ := hx0
      have hy' : as[i]? = some y := by simpa using hy
      have : (as.map η ++ arr).getD i undef = η y := by
        rw [Array.getD_eq_getD_getElem?, Array.getElem?_append_left (by simpa using hi), Array.getElem?_map, hy']; rfl
      rw [this]
      exact hη y (hasop y (List.mem_of_getElem? hy))
    · rw [List.getElem?_append_right (by simpa using hi)] at hx0
      simp only [List.length_map, Array.length_toList] at hx0
      have hlt : i - as.size < arr.size := by rw [hsz]; exact (List.getElem?_eq_some_iff.1 hx0).1
      have : (as.map η ++ arr).getD i undef = arr[i - as.size] := by
        rw [Array.getD_eq_getD_getElem?, Array.getElem?_append_right (by simpa using hi)]
        simp [Array.getElem?_eq_getElem hlt]
      rw [this]
      exact hcap _ x0 _ hx0 (Array.getElem?_eq_getElem hlt)
  · rw [look_hrem] at hj
    split at hj
    · cases hj
    · have hNi := List.all_eq_true.1 hN i hi
      simp only [Bool.not_eq_true'] at hNi
      exact (hasH_false hNi).2 j o' hj

end
end Go.Av
