/-
  Abstract values, states, walks, part 2.
-/
import Derived.Test.YtefhoiablidajaaDoorCore1
set_option linter.unusedSimpArgs false
set_option linter.unusedVariables false

namespace Go.Av

section
variable {P : Program} {G : Nat → Option (List V)}

/-- an array of cells reads as a list -/
def Cells (ρ : Nat → Option Value) (S : Nat → Prop) (w : World) (arr : Array Value) (cs : List V) : Prop :=
  arr.size = cs.length ∧ (∀ (j : Nat) (c : Value), arr[j]? = some c → c.oneCell' = true) ∧ ∀ (j : Nat) (x : V), cs[j]? = some x → ∃ c, arr[j]? = some c ∧ RV ρ S w c x

theorem put_get (vs : List Value) : ∀ (off k : Nat) (arr : Array Value) (p : Nat), k + vs.length + off ≤ arr.size →
    ((vs.zipIdx k).foldl (fun (cs : Array Value) (p : Value × Nat) => cs.setIfInBounds (off + p.2) p.1) arr)[p]? = if off + k ≤ p ∧ p < off + k + vs.length then vs[p - (off + k)]? else arr[p]? := by
  induction vs with
  | nil => intro off k arr p h; simp; omega
  | cons v vs ih =>
    intro off k arr p h
    simp only [List.length_cons] at h ⊢
    simp only [List.zipIdx_cons, List.foldl_cons]
    rw [ih off (k + 1) _ p (by simp; omega), Array.getElem?_setIfInBounds]
    by_cases c1 : off + (k + 1) ≤ p ∧ p < off + (k + 1) + vs.length
    · rw [if_pos c1, if_pos (by omega), show p - (off + k) = (p - (off + (k + 1))) + 1 by omega, List.getElem?_cons_succ]
    · rw [if_neg c1]
      by_cases c2 : off + k = p
      · rw [if_pos c2, if_pos (by omega), if_pos (by omega), show p - (off + k) = 0 by omega]; rfl
      · rw [if_neg c2, if_neg (by omega)]

theorem splice_get {α : Type} (xs ys : List α) (off p : Nat) (h : off + ys.length ≤ xs.length) :
    (xs.take off ++ ys ++ xs.drop (off + ys.length))[p]? = if off ≤ p ∧ p < off + ys.length then ys[p - off]? else xs[p]? := by
  have lt1 : (xs.take off).length = off := by rw [List.length_take]; omega
  rw [List.append_assoc]
  by_cases c1 : p < off
  · rw [List.getElem?_append_left (by omega), List.getElem?_take, if_pos c1, if_neg (by omega)]
  · rw [List.getElem?_append_right (by omega), lt1]
    by_cases c2 : p < off + ys.length
    · rw [List.getElem?_append_left (by omega), if_pos (by omega)]
    · rw [List.getElem?_append_right (by omega), List.getElem?_drop, if_neg (by omega)]
      congr 1; omega

/-- some cells put over others -/
theorem Cells.over {ρ : Nat → Option Value} {S : Nat → Prop} {w : World} {arr vs out : Array Value} {cs ys : List V} {off : Nat} (h : Cells ρ S w arr cs) (k : Cells ρ S w vs ys) (hf : off + ys.length ≤ cs.length)
    (hsz : out.size = arr.size) (hout : ∀ p, out[p]? = if off ≤ p ∧ p < off + ys.length then vs[p - off]? else arr[p]?) : Cells ρ S w out (cs.take off ++ ys ++ cs.drop (off + ys.length)) := by
  refine ⟨?_, fun j c hj => ?_, fun j x hj => ?_⟩
  · rw [hsz, h.1]
    simp only [List.length_append, List.length_take, List.length_drop]
    omega
  · rw [hout] at hj
    split at hj
    · exact k.2.1 _ c hj
    · exact h.2.1 _ c hj
  · rw [splice_get cs ys off j hf] at hj
    rw [hout]
    split at hj
    · rw [if_pos ‹_›]; exact k.2.2 _ x hj
    · rw [if_neg ‹_›]; exact h.2.2 _ x hj

theorem fillV_sound {ρ : Nat → Option Value} {S : Nat → Prop} {F : Nat → List Nat} {H : Hp} {w : World} (hH : HRel ρ S F H w) {place : Nat → Option (Nat × Nat)} (η : Operand → Value) (e : Operand → V) :
    ∀ (parts : List (Nat × Operand)) {cells out : List V} {arr : Array Value}, (∀ p, p ∈ parts → RV ρ S w (η p.2) (e p.2)) → Cells ρ S w arr cells →
      fillV H place cells (parts.map fun p => (p.1, e p.2)) = some out → ∃ arr', Instr.fill place arr (parts.map fun p => (p.1, η p.2)) = some arr' ∧ Cells ρ S w arr' out := by
  intro parts
  induction parts with
  | nil => intro cells out arr _ hc h; simp [fillV] at h; subst h; exact ⟨arr, rfl, hc⟩
  | cons p parts ih =>
    intro cells out arr hp hc h
    simp only [List.map_cons, fillV] at h
    split at h
    · rename_i off size cs h1 h2
      split at h
      · cases h
      · rename_i hn
        have hv := (hp p (by simp)).cells hH h2
        have hsz : cs.length = size ∧ off + size ≤ cells.length := by omega
        obtain ⟨rfl, hle⟩ := hsz
        have hcs : Cells ρ S w (η p.2).cells cs := hv
        have hstep : Cells ρ S w ((η p.2).cells.zipIdx.foldl (fun cs (c, j) => cs.setIfInBounds (off + j) c) arr) (cells.take off ++ cs ++ cells.drop (off + cs.length)) := by
          have h1 := hv.1
          have h2 := hc.1
          have hput := fun q => put_get (η p.2).cells.toList off 0 arr q (by simp; omega)
          have heq : ((η p.2).cells.zipIdx.foldl (fun cs (c, j) => cs.setIfInBounds (off + j) c) arr) = ((η p.2).cells.toList.zipIdx 0).foldl (fun (cs : Array Value) (p : Value × Nat) => cs.setIfInBounds (off + p.2) p.1) arr := by
            rw [← Array.foldl_toList]; simp
          rw [heq]
          refine Cells.over hc hcs hle ?_ fun q => ?_
          · generalize hz : (η p.2).cells.toList.zipIdx 0 = zs
            clear hz hput heq hcs h1 h2 hc
            induction zs generalizing arr with
            | nil => rfl
            | cons z zs ih => simp only [List.foldl_cons]; rw [ih]; simp
          · rw [hput]
            simp only [Nat.add_zero, Array.length_toList, h1, Array.getElem?_toList]
        obtain ⟨arr', ha, hc'⟩ := ih (fun q hq => hp q (List.mem_cons_of_mem _ hq)) hstep h
        refine ⟨arr', ?_, hc'⟩
        simp only [List.map_cons, Instr.fill, h1]
        rw [if_neg (by have := hv.1; have := hc.1; simp; omega)]
        exact ha
    · cases h

theorem run_placesV {D : Tab} (hD : TabOk P D) {w : World} : ∀ (fields : List Field) {places : List (Nat × Nat)}, placesV D (fields.map fun f => (f.offset, f.type)) = some places →
    (fields.mapM fun f => (do pure (f.offset, ← sizeOf f.type) : Sem (Nat × Nat))).run P w = .ok places w := by
  intro fields
  induction fields with
  | nil => intro places h; simp [placesV] at h; subst h; rfl
  | cons f fields ih =>
    intro places h
    simp only [List.map_cons, placesV, Option.bind_eq_some_iff, Option.map_eq_some_iff, sizeV] at h
    obtain ⟨s, ⟨i, hi, rfl⟩, r, hr, rfl⟩ := h
    simp only [List.mapM_cons, Sem.run_bind, (hD _ _ hi).sizeOf w, Result.andThen_ok, Sem.run_pure, ih hr]

theorem buildV_sound {D : Tab} (hD : TabOk P D) {ρ : Nat → Option Value} {S : Nat → Prop} {F : Nat → List Nat} {H : Hp} {w : World} (hH : HRel ρ S F H w) {t : TypeId} {parts : Array (Nat × Operand)} {η : Operand → Value} {e : Operand → V}
    (hp : ∀ p, p ∈ parts.toList → RV ρ S w (η p.2) (e p.2)) {v : V} (h : buildV D H t (parts.toList.map fun p => (p.1, e p.2)) = some v) :
    ∃ x, (Instr.build t (parts.map fun (i, x) => (i, η x))).run P w = .ok x w ∧ RV ρ S w x v := by
  unfold buildV at h
  split at h
  · rename_i i hty
    have ty := hD _ _ hty
    obtain ⟨z, hz, hzc, hz1⟩ := ty.zeroValue w
    obtain ⟨_, ⟨d, u1, u2⟩, _⟩ := ty
    have hz0 : Cells ρ S w z.cells (i.zero.map .c) := by
      refine ⟨by simp [← hzc], fun j c hj => ?_, fun j x hj => ?_⟩
      · refine List.all_eq_true.1 hz1 c ?_
        rw [← hzc]
        exact List.mem_of_getElem? (by simpa using hj)
      · rw [← hzc, List.getElem?_map, Option.map_eq_some_iff] at hj
        obtain ⟨c, hc, rfl⟩ := hj
        exact ⟨c, by simpa using hc, .c c⟩
    have hmap : (parts.map fun (i, x) => (i, η x)).toList = parts.toList.map fun p => (p.1, η p.2) := by simp
    have fin : ∀ {place : Nat → Option (Nat × Nat)} {out : List V}, fillV H place (i.zero.map .c) (parts.toList.map fun p => (p.1, e p.2)) = some out →
        ∃ arr, Instr.fill place z.cells (parts.map fun (i, x) => (i, η x)).toList = some arr ∧ RV ρ S w (.agg arr) (.agg out) := by
      intro place out ho
      obtain ⟨arr, ha, hc⟩ := fillV_sound hH η e parts.toList hp hz0 ho
      refine ⟨arr, by rw [hmap]; exact ha, .agg arr out hc.1 hc.2.1 fun j x c hx hj => ?_⟩
      obtain ⟨c', h1, h2⟩ := hc.2.2 j x hx
      rw [hj] at h1; cases h1; exact h2
    split at h
    · rename_i fs hd
      rw [hd] at u2
      obtain ⟨fields, rfl⟩ : ∃ fields, d = .struct fields := by cases d <;> simp_all [TD.is]
      simp only [TD.is] at u2
      simp only [Option.bind_eq_some_iff, Option.map_eq_some_iff] at h
      obtain ⟨places, hpl, out, ho, rfl⟩ := h
      rw [← u2] at hpl
      obtain ⟨arr, ha, hr⟩ := fin ho
      refine ⟨.agg arr, ?_, hr⟩
      have hm : (fields.mapM fun f => (do pure (f.offset, ← sizeOf f.type) : Sem (Nat × Nat))).run P w = .ok places.toArray w := by
        have := run_placesV hD (w := w) fields.toList hpl
        rw [Array.mapM_eq_mapM_toList]
        simp only [Sem.run_map, this, Result.andThen_ok]
      simp only [Instr.build, Sem.run_bind, hz, Result.andThen_ok, run_underlying u1, hm]
      have hpe : (fun j : Nat => places.toArray[j]?) = fun j : Nat => places[j]? := by funext j; simp
      rw [hpe, ha]
      rfl
    · rename_i n el hd
      rw [hd] at u2
      obtain ⟨n', el', rfl⟩ : ∃ n' el', d = .array n' el' := by cases d <;> simp_all [TD.is]
      simp only [TD.is] at u2
      obtain ⟨rfl, rfl⟩ := u2
      split at h
      · rename_i s hs
        rw [Option.map_eq_some_iff] at h
        obtain ⟨out, ho, rfl⟩ := h
        simp only [sizeV, Option.map_eq_some_iff] at hs
        obtain ⟨ie, hie, rfl⟩ := hs
        obtain ⟨arr, ha, hr⟩ := fin ho
        refine ⟨.agg arr, ?_, hr⟩
        simp only [Instr.build, Sem.run_bind, hz, Result.andThen_ok, run_underlying u1, (hD _ _ hie).sizeOf w]
        rw [ha]
        rfl
      · cases h
    · cases h
  · cases h

theorem stepV_sound {D : Tab} (hD : TabOk P D) {o : Oper} {e : Operand → V} {H : Hp} {v : V} (h : stepV D H e o.op = some v) : OpOk P G o e H v H [] := by
  refine OpOk.pure fun ρ S F η w hη hH => ?_
  unfold execOp
  generalize o.op = op at *
  cases op with
  | move x => simp only [stepV, Option.some.injEq] at h; subst h; exact ⟨_, rfl, hη x (by simp [Op.operands])⟩
  | assign x => simp only [stepV, Option.some.injEq] at h; subst h; exact ⟨_, rfl, hη x (by simp [Op.operands])⟩
  | pick c a b =>
    dsimp only
    have h1 := hη c (by simp [Op.operands])
    have h2 := hη a (by simp [Op.operands])
    have h3 := hη b (by simp [Op.operands])
    simp only [stepV] at h
    split at h
    · rename_i t ht
      rw [ht] at h1
      have hc := h1.c_inv
      refine ⟨if t then η a else η b, by simp [hc, asBool], ?_⟩
      split at h
      · rename_i x y ha hb
        rw [ha] at h2; rw [hb] at h3
        rw [h2.c_inv, h3.c_inv]
        cases h
        cases t <;> exact .c _
      · cases h
        cases t
        · simpa using h3
        · simpa using h2
    · cases h
  | nilCheck x =>
    dsimp only
    have h1 := hη x (by simp [Op.operands])
    simp only [stepV] at h
    split at h
    · rename_i i o hx
      rw [hx] at h1
      cases hl : live H i with
      | false => rw [hl] at h; cases h
      | true =>
        rw [hl] at h; cases h
        obtain ⟨r, hr, _⟩ := hH.root hl
        obtain ⟨g, _, e2⟩ := h1.loc_inv r hr
        rw [e2] at h1 ⊢
        exact ⟨_, rfl, h1⟩
    · rename_i i k a b hx
      rw [hx] at h1
      cases hl : live H i with
      | false => rw [hl] at h; cases h
      | true =>
        rw [hl] at h; cases h
        obtain ⟨r, hr, _⟩ := hH.root hl
        obtain ⟨g, n, cap, _, e2⟩ := h1.vp_inv r hr
        rw [e2] at h1 ⊢
        exact ⟨_, rfl, h1⟩
    · rename_i cs hx
      cases h
      rw [hx] at h1
      generalize η x = u at *
      cases h1 with
      | el a _ cc h1 h2 => exact ⟨_, rfl, .el a cs cc h1 h2⟩
    · rename_i f cs hx
      cases h
      rw [hx] at h1
      generalize η x = u at *
      cases h1 with
      | fn _ arr _ h1 h2 => exact ⟨_, rfl, .fn f arr cs h1 h2⟩
    · cases h
  | binOp op t x y t' =>
    dsimp only
    simp only [stepV] at h
    obtain ⟨r, hr, rfl⟩ := binV_sound hD h (x := x) (y := y) (hη x (by simp [Op.operands])) (hη y (by simp [Op.operands]))
    refine ⟨r, ?_, .c r⟩
    simp only [Sem.run_bind] at hr ⊢
    rw [hr]; rfl
  | unOp op t x =>
    dsimp only
    have h1 := hη x (by simp [Op.operands])
    cases op <;> first
      | (simp only [stepV, reduceCtorEq] at h; done)
      | (simp only [stepV] at h
         split at h
         · rename_i hx
           cases h
           rw [hx] at h1
           rw [h1.c_inv]
           exact ⟨_, rfl, .c _⟩
         · cases h)
  | convert s d x =>
    dsimp only
    have h1 := hη x (by simp [Op.operands])
    simp only [stepV] at h
    split at h
    · rename_i i j k n hs hd hx
      rw [hx] at h1
      split at h
      · rename_i k' hk
        cases h
        obtain ⟨_, ⟨ds, s1, _⟩, _⟩ := hD _ _ hs
        obtain ⟨_, ⟨dd, d1, d2⟩, _⟩ := hD _ _ hd
        rw [hk] at d2
        have : dd = .int k' := by cases dd <;> simp_all [TD.is]
        subst this
        rw [h1.c_inv]
        refine ⟨_, ?_, .c _⟩
        simp [convert, run_underlying s1, run_underlying d1, Conv.intToInt]
      · cases h
    · cases h
  | fieldAddr s x f =>
    dsimp only
    have h1 := hη x (by simp [Op.operands])
    simp only [stepV] at h
    split at h
    · rename_i i hty
      split at h
      · rename_i fs hd
        split at h
        · rename_i o ft hf
          split at h
          · rename_i m hs
            obtain ⟨_, ⟨d, u1, u2⟩, _⟩ := hD _ _ hty
            rw [hd] at u2
            obtain ⟨fields, rfl⟩ : ∃ fields, d = .struct fields := by cases d <;> simp_all [TD.is]
            simp only [TD.is] at u2
            rw [← u2, List.getElem?_map, Option.map_eq_some_iff] at hf
            obtain ⟨fl, hfl, he⟩ := hf
            cases he
            simp only [sizeV, Option.map_eq_some_iff] at hs
            obtain ⟨ie, hie, hsz⟩ := hs
            obtain ⟨a, ha, hv⟩ := ptrAdd_sound h hH h1
            refine ⟨_, ?_, hv⟩
            have hfl' : fields[f]? = some fl := by simpa using hfl
            simp [Instr.fieldAt, run_underlying u1, hfl', ha, Instr.sureAddr, fieldPlace, (hD _ _ hie).sizeOf w, hsz]
          · cases h
        · cases h
      · cases h
    · cases h
  | field s x f =>
    dsimp only
    have h1 := hη x (by simp [Op.operands])
    simp only [stepV] at h
    split at h
    · rename_i i cs hty hx
      split at h
      · rename_i fs hd
        split at h
        · rename_i o ft hf
          obtain ⟨_, ⟨d, u1, u2⟩, _⟩ := hD _ _ hty
          rw [hd] at u2
          obtain ⟨fields, rfl⟩ : ∃ fields, d = .struct fields := by cases d <;> simp_all [TD.is]
          simp only [TD.is] at u2
          rw [← u2, List.getElem?_map, Option.map_eq_some_iff] at hf
          obtain ⟨fl, hfl, he⟩ := hf
          cases he
          have hfl' : fields[f]? = some fl := by simpa using hfl
          rw [hx] at h1
          obtain ⟨arr, ha, hsz, h1c, hr⟩ := h1.agg_inv
          rw [ha]
          unfold takeV at h
          split at h
          · rename_i ie hie
            have tye := hD _ _ hie
            simp only [Sem.run_bind, Instr.field, run_underlying u1, Result.andThen_ok, hfl', asAgg, Sem.run_pure, part, tye.isAgg w]
            cases hag : ie.d.agg with
            | true =>
              rw [hag] at h
              simp only [cond_true] at h
              cases hle : Nat.ble ie.size (cs.drop fl.offset).length with
              | false => rw [hle] at h; cases h
              | true =>
                rw [hle] at h; cases h
                have hle' := Nat.le_of_ble_eq_true hle
                simp only [List.length_drop] at hle'
                simp only [if_true, Sem.run_bind, tye.sizeOf w, Result.andThen_ok, Sem.run_pure]
                refine ⟨_, rfl, .agg _ _ (by simp; omega) (fun j c hj => ?_) (fun j x c hj hc => ?_)⟩
                · rw [Array.getElem?_extract] at hj
                  split at hj
                  · exact h1c _ c hj
                  · cases hj
                · rw [List.getElem?_take] at hj
                  split at hj
                  · rw [List.getElem?_drop] at hj
                    rw [Array.getElem?_extract] at hc
                    split at hc
                    · obtain ⟨c', e1, e2⟩ := hr _ x hj
                      rw [e1] at hc; cases hc; exact e2
                    · cases hc
                  · cases hj
            | false =>
              rw [hag] at h
              simp only [cond_false, List.getElem?_drop, Nat.add_zero] at h
              obtain ⟨c, e1, e2⟩ := hr _ v h
              exact ⟨c, by simp [e1], e2⟩
          · cases h
        · cases h
      · cases h
    · cases h
  | load t a =>
    dsimp only
    simp only [stepV] at h
    obtain ⟨r, hr, hv⟩ := loadV_sound hD h hH (hη a (by simp [Op.operands]))
    exact ⟨r, by simp [hr], hv⟩
  | extract x i =>
    dsimp only
    have h1 := hη x (by simp [Op.operands])
    simp only [stepV] at h
    split at h
    · rename_i vs hx
      rw [hx] at h1
      generalize η x = u at *
      cases h1 with
      | tup arr _ hsz hr =>
        have hlt : i < arr.size := by rw [hsz]; exact (List.getElem?_eq_some_iff.1 h).1
        refine ⟨arr[i], ?_, hr i v _ h (Array.getElem?_eq_getElem hlt)⟩
        simp [Instr.extract, Array.getElem?_eq_getElem hlt]
    · cases h
  | makeFunc fn first caps => 
    dsimp only
    cases fn <;> try (simp only [stepV, reduceCtorEq] at h; done)
    rename_i f
    simp only [stepV] at h
    split at h
    · rename_i h0
      cases h
      have hf : first = #[] := by simpa using h0
      subst hf
      refine ⟨.func (.func f) #[] (caps.map η), by simp [Instr.makeFunc], .fn f (caps.map η) _ (by simp) fun j x c hx hc => ?_⟩
      rw [List.getElem?_map, Option.map_eq_some_iff] at hx
      rw [Array.getElem?_map, Option.map_eq_some_iff] at hc
      obtain ⟨y, hy, rfl⟩ := hx
      obtain ⟨y', hy', rfl⟩ := hc
      have : y = y' := by simpa [hy'] using hy.symm
      subst this
      exact hη y (by simp [Op.operands]; exact Array.mem_of_getElem? hy')
    · cases h
  | build t parts =>
    dsimp only
    simp only [stepV] at h
    obtain ⟨x, hx, hv⟩ := buildV_sound hD hH (η := η) (fun p hp => hη p.2 (by simp [Op.operands]; exact ⟨p.1, by simpa using hp⟩)) h
    exact ⟨x, by simp only [Sem.run_bind, hx, Result.andThen_ok, Sem.run_pure], hv⟩
  | call c =>
    dsimp only
    obtain ⟨cal, args, ats⟩ := c
    simp only [stepV] at h
    split at h
    · rename_i x t hargs hats
      have ha : args = #[x] := Array.toList_inj.1 hargs
      have hb : ats = #[t] := Array.toList_inj.1 hats
      subst ha hb
      have h1 := hη x (by simp [Op.operands, Call.operands])
      split at h
      · rename_i i hty
        obtain ⟨_, ⟨d, u1, u2⟩, _⟩ := hD _ _ hty
        split at h
        · rename_i el hd
          rw [hd] at u2
          have hdd : d = .slice el := by cases d <;> simp_all [TD.is]
          subst hdd
          rw [Option.map_eq_some_iff] at h
          obtain ⟨n, hn, rfl⟩ := h
          obtain ⟨a, cap, hs⟩ : ∃ a cap, η x = .slice a n cap := by
            generalize η x = u at *
            unfold lenV at hn
            split at hn
            · rename_i hx
              cases hn
              rw [hx] at h1
              cases h1.sl_inv with
              | nils => exact ⟨_, _, rfl⟩
              | shr a cap => exact ⟨_, _, rfl⟩
            · rename_i hx
              cases hn
              rw [hx] at h1
              exact ⟨_, _, h1.c_inv⟩
            · rename_i j hx
              split at hn
              · rename_i hl
                cases hn
                rw [hx] at h1
                obtain ⟨r, hr, hob⟩ := hH.obj j _ hl
                rw [h1.own_inv r hr]
                generalize F j = Fj at hob
                cases hob with
                | vnil => exact ⟨_, _, rfl⟩
                | vec g cap => exact ⟨_, _, rfl⟩
              · cases hn
            · cases hn
          refine ⟨_, ?_, .c _⟩
          simp [resolve, invoke, builtin, Builtin.len_, run_underlying u1, hs, goInt]
        · rename_i hd
          rw [hd] at u2
          have hdd : d = .string := by cases d <;> simp_all [TD.is]
          subst hdd
          split at h
          · rename_i s hx
            cases h
            rw [hx] at h1
            refine ⟨_, ?_, .c _⟩
            simp [resolve, invoke, builtin, Builtin.len_, run_underlying u1, h1.c_inv, goInt]
          · cases h
        · cases h
      · cases h
    · rename_i x y hargs
      have ha : args = #[x, y] := Array.toList_inj.1 hargs
      subst ha
      have h1 := hη x (by simp [Op.operands, Call.operands])
      have h2 := hη y (by simp [Op.operands, Call.operands])
      split at h
      · rename_i k a k' b hx hy
        cases h
        rw [hx] at h1; rw [hy] at h2
        refine ⟨_, ?_, .c _⟩
        simp [resolve, invoke, builtin, Builtin.max_, Builtin.max2, h1.c_inv, h2.c_inv]
      · cases h
    · rename_i x y hargs
      have ha : args = #[x, y] := Array.toList_inj.1 hargs
      subst ha
      have h1 := hη x (by simp [Op.operands, Call.operands])
      have h2 := hη y (by simp [Op.operands, Call.operands])
      split at h
      · rename_i k a k' b hx hy
        cases h
        rw [hx] at h1; rw [hy] at h2
        refine ⟨_, ?_, .c _⟩
        simp [resolve, invoke, builtin, Builtin.min_, Builtin.min2, h1.c_inv, h2.c_inv]
      · cases h
    · cases h
  | _ => simp only [stepV, reduceCtorEq] at h

end
end Go.Av

namespace Go.Av

section
variable {P : Program} {G : Nat → Option (List V)}

def callOk (P : Program) (f : FuncId) : Prop := ∀ args w, (callFunc f args).run P w = .ok (.enter f args) w

theorem OpOk.call {o : Oper} {e : Operand → V} {H H' : Hp} {v : V} {N : List Nat} {f : Operand} {as : Array Operand} {ats : Array TypeId} {fid : FuncId} {caps : List V}
    (ho : o.op = .call { callee := .value f, args := as, argTypes := ats }) (hf : e f = .fn fid caps) (hcf : callOk P fid)
    {vs : List V} {Hc Hc' : Hp} {rc : V} (h : AC P G fid vs Hc rc Hc') {q m : Ren} (c : CallFits q m (as.toList.map e ++ caps) H vs Hc rc Hc' v H' N)
    (hN : (N.all fun i => !hasH i H) = true) : OpOk P G o e H v H' N := by
  intro ρ S F η w hη hH hG
  have hfv := hη f (by simp [ho, Op.operands, Call.operands])
  rw [hf] at hfv
  obtain ⟨arr, ha, hsz, hr⟩ := hfv.fn_inv
  unfold ExecTo execOp
  simp only [ho, resolve, ha, Deferred.ofValue, Sem.run_bind, Sem.run_pure, Result.andThen_ok, invoke, Array.empty_append]
  have hcf' := hcf (as.map η ++ arr) w
  simp only [hcf']
  refine AC.call h c (by simp [hsz]) (fun i x hx => ?_) hH hG (fun j o hj i hi => ?_)
  · by_cases hi : i < as.size
    · rw [List.getElem?_append_left (by simpa using hi), List.getElem?_map, Option.map_eq_some_iff] at hx
      obtain ⟨y, hy, rfl⟩ := hx
      have hy' : as[i]? = some y := by simpa using hy
      have : (as.map η ++ arr).getD i undef = η y := by
        rw [Array.getD_eq_getD_getElem?, Array.getElem?_append_left (by simpa using hi), Array.getElem?_map, hy']; rfl
      rw [this]
      refine hη y ?_
      simp only [ho, Op.operands, Call.operands]
      exact Array.mem_append.2 (.inr (Array.mem_of_getElem? hy'))
    · rw [List.getElem?_append_right (by simpa using hi)] at hx
      simp only [List.length_map, Array.length_toList] at hx
      have hlt : i - as.size < arr.size := by rw [hsz]; exact (List.getElem?_eq_some_iff.1 hx).1
      have : (as.map η ++ arr).getD i undef = arr[i - as.size] := by
        rw [Array.getD_eq_getD_getElem?, Array.getElem?_append_right (by simpa using hi)]
        simp [Array.getElem?_eq_getElem hlt]
      rw [this]
      exact hr _ x _ hx (Array.getElem?_eq_getElem hlt)
  · have := List.all_eq_true.1 hN i hi
    simp only [Bool.not_eq_true'] at this
    exact (hasH_false this).2 j o hj

/-- a call of a function that leaves the objects alone -/
theorem CallFits.pure {args vs : List V} {H : Hp} {r : V} (hr : r.rn [] = r) (ha : SubT [] args vs) : CallFits [] [] args H vs [] r [] r H [] :=
  ⟨rfl, rfl, ha, trivial, hr, fun j o' ho => .inl ⟨rfl, ho, fun i => by simp [mget]⟩, fun i j h => by simp [mget] at h, fun i j h => by simp [mget] at h, fun j h => by cases h⟩

/-! ### a new object -/
theorem Ub.cons_new {i : Nat} {o : Ob} {H : Hp} {F : Nat → List Nat} {Fi : List Nat} {b : Nat} (h : Ub ((i, o) :: H) (fun j => if j = i then Fi else F j) b) : b ∈ Fi ∨ Ub H F b := by
  obtain ⟨j, p, hj, hb⟩ := h
  simp only [look] at hj
  replace hb : b ∈ (if j = i then Fi else F j) := hb
  split at hj
  · rw [if_pos ‹_›] at hb; exact .inl hb
  · rw [if_neg ‹_›] at hb; exact .inr ⟨j, p, hj, hb⟩

/-- an object is added, in blocks that are new -/
theorem Post.new {ρ : Nat → Option Value} {S : Nat → Prop} {F : Nat → List Nat} {H : Hp} {w w' : World} (hH : HRel ρ S F H w) {i : Nat} (hi : hasH i H = false) {o : Ob} {root : Value} {Fi : List Nat}
    (hos : w'.os = w.os) (htape : w'.tape = w.tape) (hout : w'.output = w.output) (hsize : w.heap.size ≤ w'.heap.size) (hkeep : ∀ b, b < w.heap.size → w'.heap[b]? = w.heap[b]?)
    (hob' : ObR ρ S w' root o Fi) (hnd : Fi.Nodup) (hFi : ∀ b, b ∈ Fi → w.heap.size ≤ b ∧ b < w'.heap.size)
    (hoi : o.has i = false) {x : Value} {v : V} (hv : RV (fun j => if j = i then some root else ρ j) S w' x v) : Post ρ S F H w v ((i, o) :: H) [i] x w' := by
  obtain ⟨hl, hO⟩ := hasH_false hi
  let ρ' : Nat → Option Value := fun j => if j = i then some root else ρ j
  have hρ : ∀ (y : Nat → Bool), y i = false → ∀ j r, ρ' j = some r → y j = true → ρ j = some r := fun y hy j r hj hh => by
    simp only [ρ'] at hj
    split at hj
    · subst_vars; rw [hy] at hh; cases hh
    · exact hj
  have hk : Keeps S w S w' := fun b hb => ⟨hb, hkeep b (hH.slt b hb)⟩
  refine ⟨ρ', S, fun j => if j = i then Fi else F j, hv, ⟨fun j hj => ?_, fun j p hp => ?_, fun j p hp => ?_, fun j j' p p' b hj hj' hne hb hb' => ?_, fun j p b hp hb => ?_, fun j p b hp hb => ?_, fun b hb => Nat.lt_of_lt_of_le (hH.slt b hb) hsize⟩,
    ⟨hos, htape, hout, hsize, fun b hb _ => hkeep b hb, fun _ h => h, fun _ h => .inl h, fun b hb => ?_⟩, fun j r hj hN => ?_⟩
  · simp only [look] at hj
    split at hj
    · cases hj
    · rename_i hne; simp only [ρ', if_neg hne]; exact hH.dom j hj
  · simp only [look] at hp
    split at hp
    · cases hp
      subst_vars
      refine ⟨root, by simp [ρ'], ?_⟩
      rw [if_pos rfl]
      exact hob'.mono (hρ (fun j => o.has j) hoi) (fun b hb => ⟨hb, rfl⟩) (fun _ _ => rfl)
    · rename_i hne
      obtain ⟨r, hr, hobj⟩ := hH.obj j p hp
      refine ⟨r, by simp only [ρ', if_neg hne]; exact hr, ?_⟩
      rw [if_neg hne]
      exact hobj.mono (hρ (fun j => p.has j) (hO j p hp)) hk (fun b hb => hkeep b (hH.lt j p b hp hb))
  · simp only [look] at hp
    split at hp
    · rename_i e; rw [if_pos e]; exact hnd
    · rename_i e; rw [if_neg e]; exact hH.nodup j p hp
  · simp only [look] at hj hj'
    by_cases e1 : j = i
    · by_cases e2 : j' = i
      · exact hne (e1.trans e2.symm)
      · rw [if_pos e1] at hb; rw [if_neg e2] at hb' hj'
        have := hFi b hb
        have := hH.lt j' p' b hj' hb'
        omega
    · by_cases e2 : j' = i
      · rw [if_neg e1] at hb hj; rw [if_pos e2] at hb'
        have := hFi b hb'
        have := hH.lt j p b hj hb
        omega
      · rw [if_neg e1] at hb hj; rw [if_neg e2] at hb' hj'
        exact hH.disj j j' p p' b hj hj' hne hb hb'
  · simp only [look] at hp
    by_cases e1 : j = i
    · rw [if_pos e1] at hb
      intro hs
      have := hFi b hb
      have := hH.slt b hs
      omega
    · rw [if_neg e1] at hb hp; exact hH.sep j p b hp hb
  · simp only [look] at hp
    by_cases e1 : j = i
    · rw [if_pos e1] at hb; exact (hFi b hb).2
    · rw [if_neg e1] at hb hp; exact Nat.lt_of_lt_of_le (hH.lt j p b hp hb) hsize
  · rcases Ub.cons_new hb with h | h
    · exact .inr (hFi b h).1
    · exact .inl h
  · simp only [List.mem_singleton] at hN
    simp only [ρ', if_neg hN] at hj
    exact hj

theorem heap_new (w : World) (o : Obj) (b : Nat) (h : b < w.heap.size) : (w.alloc o).heap[b]? = w.heap[b]? := heap_alloc_old w o b h

/-- a new variable that holds such cells -/
theorem Post.newVar {ρ : Nat → Option Value} {S : Nat → Prop} {F : Nat → List Nat} {H : Hp} {w : World} (hH : HRel ρ S F H w) {i : Nat} (hi : hasH i H = false) {ety : TypeId} {cs : List V} {arr : Array Value}
    (hc : Cells ρ S w arr cs) (hci : V.hasL i cs = false) : Post ρ S F H w (.loc i 0) ((i, .cells ety cs) :: H) [i] (.pointer (some ⟨w.heap.size, 0, none⟩)) (w.alloc (.cells arr ety)) := by
  have hk : Keeps S w S (w.alloc (.cells arr ety)) := fun b hb => ⟨hb, heap_new w _ b (hH.slt b hb)⟩
  refine Post.new hH hi (w' := w.alloc (.cells arr ety)) (o := .cells ety cs) (root := .pointer (some ⟨w.heap.size, 0, none⟩)) (Fi := [w.heap.size]) rfl rfl rfl (by simp) (fun b hb => heap_new w _ b hb) ?_ (by simp) (fun b hb => by simp at hb; subst hb; simp) (by simpa [Ob.has] using hci) ?_
  · exact .cells w.heap.size arr ety cs (heap_alloc_new w _) hc.1 fun j x hx => by
      obtain ⟨c, h1, h2⟩ := hc.2.2 j x hx
      exact ⟨c, h1, hc.2.1 j c h1, h2.mono (fun _ _ h _ => h) hk⟩
  · exact .loc _ i 0 fun r hr => by simp at hr; subst hr; exact ⟨_, rfl, rfl⟩

theorem OpOk.box {o : Oper} {e : Operand → V} {H : Hp} {t : TypeId} {x : Operand} {cs : List V} (i : Nat) (ho : o.op = .box t x) (hc : cellsV H (e x) = some cs) (hi : hasH i H = false) (hci : V.hasL i cs = false) :
    OpOk P G o e H (.loc i 0) ((i, .cells t cs) :: H) [i] := by
  intro ρ S F η w hη hH hG
  have h1 := (hη x (by simp [ho, Op.operands])).cells hH hc
  unfold ExecTo execOp
  simp only [ho, Instr.box, newVar, newRow, Sem.run_bind, run_newObj, Result.andThen_ok, Sem.run_pure]
  exact Post.newVar hH hi h1 hci

theorem OpOk.alloc {D : Tab} (hD : TabOk P D) {o : Oper} {e : Operand → V} {H : Hp} {t : TypeId} {ty : Ty} (i : Nat) (ho : o.op = .alloc t) (ht : D.at t = some ty) (hi : hasH i H = false) :
    OpOk P G o e H (.loc i 0) ((i, .cells t (ty.zero.map .c)) :: H) [i] := by
  intro ρ S F η w hη hH hG
  obtain ⟨z, hz, hzc, hz1⟩ := (hD _ _ ht).zeroValue w
  unfold ExecTo execOp
  simp only [ho, Instr.alloc, hz, newVar, newRow, Sem.run_bind, run_newObj, Result.andThen_ok, Sem.run_pure]
  refine Post.newVar hH hi (arr := z.cells) ⟨by simp [← hzc], fun j c hj => ?_, fun j x hj => ?_⟩ ?_
  · refine List.all_eq_true.1 hz1 c ?_
    rw [← hzc]
    exact List.mem_of_getElem? (by simpa using hj)
  · rw [← hzc, List.getElem?_map, Option.map_eq_some_iff] at hj
    obtain ⟨c, hc, rfl⟩ := hj
    exact ⟨c, by simpa using hc, .c c⟩
  · generalize ty.zero = l
    induction l with
    | nil => rfl
    | cons y l ih => simp [V.hasL, V.has, ih]

end
end Go.Av

namespace Go.Av

section
variable {P : Program} {G : Nat → Option (List V)} {L : Option Nat} {B : Nat}

/-- is the operation wanted: what its guard says -/
def wantV (ops : Array Oper) (T : List V) : Option (Nat × Bool) → Option Bool
  | none => some true
  | some (j, b) => (gval ops T j).map fun b' => b' == some b

def setO (T : List V) (d : Option Tmp) (v : V) : List V := match d with | some t => T.set t v | none => T

/-- the operations of a region from place i on -/
def At (P : Program) (G : Nat → Option (List V)) (ops : Array Oper) (i : Nat) (T : List V) (H : Hp) (Q : St → Prop) : Prop := OpsOk P G ops (ops.toList.drop i) ⟨T, H⟩ Q

theorem OpsOk.step {ops : Array Oper} {o : Oper} {l : List Oper} {st : St} {Q : St → Prop} {v : V} {H' : Hp} {N : List Nat} (hw : wantV ops st.T o.guard = some true) (hop : OpOk P G o (ev G st.T) st.H v H' N) (hN : fresh N st = true)
    (h : OpsOk P G ops l (st.put o.dst v H') Q) : OpsOk P G ops (o :: l) st Q := by
  unfold OpsOk
  unfold wantV at hw
  cases hg : o.guard with
  | none => exact ⟨v, H', N, hN, hop, h⟩
  | some jb =>
    obtain ⟨j, b⟩ := jb
    rw [hg] at hw
    simp only [Option.map_eq_some_iff] at hw
    obtain ⟨b', h1, h2⟩ := hw
    exact ⟨b', h1, .inl ⟨by simpa using h2, v, H', N, hN, hop, h⟩⟩

theorem OpsOk.pass {ops : Array Oper} {o : Oper} {l : List Oper} {st : St} {Q : St → Prop} (hw : wantV ops st.T o.guard = some false) (h : OpsOk P G ops l (st.put o.dst V.und st.H) Q) : OpsOk P G ops (o :: l) st Q := by
  unfold OpsOk
  unfold wantV at hw
  cases hg : o.guard with
  | none => rw [hg] at hw; cases hw
  | some jb =>
    obtain ⟨j, b⟩ := jb
    rw [hg] at hw
    simp only [Option.map_eq_some_iff] at hw
    obtain ⟨b', h1, h2⟩ := hw
    exact ⟨b', h1, .inr ⟨by simpa using h2, h⟩⟩

theorem drop_at {ops : Array Oper} {i : Nat} {o : Oper} (h : ops[i]? = some o) : ops.toList.drop i = o :: ops.toList.drop (i + 1) := by
  have h' : ops.toList[i]? = some o := by simpa using h
  obtain ⟨h1, h2⟩ := List.getElem?_eq_some_iff.1 h'
  rw [List.drop_eq_getElem_cons h1, h2]

theorem set_self {α : Type} : ∀ {l : List α} {i : Nat} {a : α}, l[i]? = some a → l.set i a = l
  | [], _, _, _ => rfl
  | x :: l, 0, a, h => by simp at h; subst h; rfl
  | x :: l, i + 1, a, h => by simp at h; simp [set_self h]

theorem CodeOk.val {c : Code} {T : List V} {H : Hp} {Q : Exit → St → Prop} (d : Nat) (v v' : V) (hd : T[d]? = some v) (hv : v = v') (k : CodeOk L P G c ⟨T.set d v', H⟩ Q) : CodeOk L P G c ⟨T, H⟩ Q := by
  subst hv
  rwa [set_self hd] at k

/-! ### a call of a function that leaves the objects alone -/
/-! ### the end of a function -/
theorem Ends.tmp {fn : Func} {t : Tmp} {r : V} {T : List V} {H : Hp} {e : Exit} (he : e = .normal ∨ e = .ret) (h : fn.results = #[.tmp t]) (ht : T[t]? = some r) (hr : r.rn [] = r) : Ends P fn r [] e ⟨T, H⟩ :=
  ⟨he, r, RetV.tmp h ht, Weak.rn [] rfl rfl ⟨.inr hr, trivial⟩ trivial⟩

end
end Go.Av

namespace Go.Av

section
variable {P : Program} {G : Nat → Option (List V)}

/-- append, whatever the source, onto a slice that the activation owns -/
theorem run_append_vec (w : World) (t tx ty e : TypeId) (i : TypeInfo) (z : Value) (ht : P.underlying t = some (.slice e)) (hi : P.info? e = some i) (hz : i.zero = some z) (hzs : z.cells.size = i.size)
    (v : Value) (n : Nat) (x : Value) (m : Nat) (news : List Value) (hs : Src P i.size tx x m news w) (old : Nat → Option Value) (e0 : TypeId)
    (hv : (v = .slice none 0 0 ∧ n = 0) ∨ ∃ g cap arr, v = .slice (some ⟨g, 0, none⟩) n cap ∧ w.heap[g]? = some (.cells arr e0 (0, 0)) ∧ n ≤ cap ∧ cap ≤ maxLen ∧ arr.size = cap * i.size ∧ ∀ p, p < n * i.size → arr[p]? = old p)
    (h63 : n + m ≤ maxLen) (hb : (n + m) * i.bytes ≤ 140737488355328) :
    ∃ v' w', (Builtin.append_ #[t, tx] ty #[v, x]).run P w = .ok v' w' ∧ w.grownBy w' v.ownBlock ∧
      ((v' = .slice none 0 0 ∧ v = .slice none 0 0 ∧ n = 0 ∧ m = 0) ∨
       ∃ g' cap' arr' e1, (e0 = e → e1 = e) ∧ (n + m = 0 → v = .slice (some ⟨g', 0, none⟩) 0 cap') ∧ v' = .slice (some ⟨g', 0, none⟩) (n + m) cap' ∧ w'.heap[g']? = some (.cells arr' e1 (0, 0)) ∧ n + m ≤ cap' ∧ cap' ≤ maxLen ∧ arr'.size = cap' * i.size ∧
         (∀ p, p < n * i.size → arr'[p]? = old p) ∧ (∀ p, p < m * i.size → arr'[n * i.size + p]? = news[p]?) ∧ (v.ownBlock = some g' ∨ w.heap.size ≤ g') ∧ g' < w'.heap.size) := by
  have hsmall : n + m ≤ 9223372036854775807 := by simp only [maxLen] at h63; omega
  have grown : ∀ (oc : Nat) (olds : List Value), olds.length = n * i.size → (∀ p, p < n * i.size → olds[p]? = old p) → oc < n + m → ∀ row,
      w.grownBy (w.drew.alloc (.cells ((olds ++ news).toArray ++ Builtin.zeroCells z.cells (grownCap w (n + m) oc e - (n + m))) e)) row ∧
      ∃ g' cap' arr', Value.slice (some ⟨w.heap.size, 0, none⟩) (n + m) (grownCap w (n + m) oc e) = .slice (some ⟨g', 0, none⟩) (n + m) cap' ∧
         (w.drew.alloc (.cells ((olds ++ news).toArray ++ Builtin.zeroCells z.cells (grownCap w (n + m) oc e - (n + m))) e)).heap[g']? = some (.cells arr' e (0, 0)) ∧ n + m ≤ cap' ∧ cap' ≤ maxLen ∧ arr'.size = cap' * i.size ∧
         (∀ p, p < n * i.size → arr'[p]? = old p) ∧ (∀ p, p < m * i.size → arr'[n * i.size + p]? = news[p]?) ∧ (v.ownBlock = some g' ∨ w.heap.size ≤ g') ∧
         g' < (w.drew.alloc (.cells ((olds ++ news).toArray ++ Builtin.zeroCells z.cells (grownCap w (n + m) oc e - (n + m))) e)).heap.size := by
    intro oc olds hlen hold ho row
    have hge := grownCap_ge w (n + m) oc e
    have hcm : grownCap w (n + m) oc e ≤ maxLen := grownCap_le_maxLen w (n + m) oc e h63
    refine ⟨⟨rfl, rfl, rfl, by simp, fun k hk _ => heap_alloc_old w.drew _ k hk⟩, w.heap.size, _, _, rfl, heap_alloc_new w.drew _, hge, hcm, ?_, fun p hp => ?_, fun p hp => ?_, .inr (Nat.le_refl _), by simp⟩
    · simp only [Array.size_append, List.size_toArray, List.length_append, size_zeroCells, hzs, hlen, hs.newsLen, ← Nat.add_mul]
      congr 1
      omega
    · rw [Array.getElem?_append_left (by simp [hlen, hs.newsLen]; omega)]
      simp only [List.getElem?_toArray]
      rw [List.getElem?_append_left (by omega)]
      exact hold p hp
    · rw [Array.getElem?_append_left (by simp [hlen, hs.newsLen]; omega)]
      simp only [List.getElem?_toArray]
      rw [List.getElem?_append_right (by omega), hlen]
      congr 1; omega
  rcases hv with ⟨rfl, rfl⟩ | ⟨g, cap, arr, rfl, hg, hnc, hcm, hsz, harr⟩
  · by_cases hm : m = 0
    · subst hm
      refine ⟨.slice none 0 0, w, ?_, ⟨rfl, rfl, rfl, Nat.le_refl _, fun _ _ _ => rfl⟩, .inl ⟨rfl, rfl, rfl, rfl⟩⟩
      have hnews : news = [] := List.eq_nil_of_length_eq_zero (by rw [hs.newsLen]; simp)
      rcases hs.kind with ⟨e', hk⟩ | hk <;> simp [Builtin.append_, run_underlying ht, run_underlying hk, sizeOf, typeInfo, hi, hs.len, hs.cells]
    · have hr := run_append_grow_src w t tx ty e i z ht hi hz none 0 0 [] (by simp [Builtin.firstCells]) x m news hs (by omega) (by omega) (growslice_fits (by omega) hb)
      obtain ⟨h1, h2⟩ := grown 0 [] (by simp) (fun p hp => by simp at hp) (by omega) (Value.slice none 0 0).ownBlock
      obtain ⟨g', c', a', hx⟩ := h2
      exact ⟨_, _, hr, h1, .inr ⟨g', c', a', e, fun _ => rfl, fun h => by omega, hx⟩⟩
  · by_cases hroom : n + m ≤ cap
    · have hfit : 0 + n * i.size + news.length ≤ arr.size := by rw [hs.newsLen, hsz]; have := Nat.mul_le_mul_right i.size hroom; rw [Nat.add_mul] at this; omega
      have hst := run_storeCells_at P g (n * i.size) e0 news 0 arr w hg (by simpa using hfit) hs.one
      simp only [Nat.add_zero] at hst
      have hr : (Builtin.append_ #[t, tx] ty #[.slice (some ⟨g, 0, none⟩) n cap, x]).run P w = .ok (.slice (some ⟨g, 0, none⟩) (n + m) cap) (w.setRow g (arr.toList.take (n * i.size) ++ news ++ arr.toList.drop (n * i.size + news.length)).toArray) := by
        rcases hs.kind with ⟨e', hk⟩ | hk <;> simp [Builtin.append_, run_underlying ht, run_underlying hk, sizeOf, typeInfo, hi, hs.len, hroom, hs.cells, Addr.add_lit, hst]
      have hf' : n * i.size + news.length ≤ arr.toList.length := by simpa using hfit
      refine ⟨_, _, hr, ⟨rfl, rfl, rfl, by simp, fun k _ hk => setRow_other w g k _ (fun e => hk (by simp [Value.ownBlock, e]))⟩, .inr ⟨g, cap, _, e0, fun h => h, fun h => by rw [show n = 0 by omega], rfl, setRow_heap w g arr _ e0 _ hg, hroom, hcm, ?_, fun p hp => ?_, fun p hp => ?_, .inl rfl, ?_⟩⟩
      · simp only [List.size_toArray, List.length_append, List.length_take, List.length_drop, Array.length_toList]
        simp only [Array.length_toList] at hf'
        omega
      · simp only [List.getElem?_toArray]
        rw [splice_get _ _ _ _ hf', if_neg (by omega)]
        simpa using harr p hp
      · simp only [List.getElem?_toArray]
        rw [splice_get _ _ _ _ hf', if_pos (by rw [hs.newsLen]; omega)]
        congr 1; omega
      · simp only [setRow_size]; exact (Array.getElem?_eq_some_iff.1 hg).1
    · have hold : (Builtin.firstCells i.size n (.slice (some ⟨g, 0, none⟩) n cap)).run P w.drew = .ok (arr.toList.take (n * i.size)).toArray w.drew := by
        have hn : n * i.size ≤ arr.size := by rw [hsz]; exact Nat.mul_le_mul_right _ hnc
        refine run_firstCells_some w.drew i.size n ⟨g, 0, none⟩ n cap _ (by simp; omega) fun j u hj => ?_
        rw [Addr.add_lit, Nat.zero_add, cell_of_row w.drew g j arr e0 (0, 0) hg]
        rw [List.getElem?_take] at hj
        split at hj
        · simpa using hj
        · cases hj
      have hr := run_append_grow_src w t tx ty e i z ht hi hz (some ⟨g, 0, none⟩) n cap _ hold x m news hs (by omega) (by omega) (growslice_fits (by omega) hb)
      have hn : n * i.size ≤ arr.size := by rw [hsz]; exact Nat.mul_le_mul_right _ hnc
      obtain ⟨h1, h2⟩ := grown cap (arr.toList.take (n * i.size)) (by simp; omega) (fun p hp => by rw [List.getElem?_take, if_pos hp]; simpa using harr p hp) (by omega) (Value.slice (some ⟨g, 0, none⟩) n cap).ownBlock
      obtain ⟨g', c', a', hx⟩ := h2
      exact ⟨_, _, hr, h1, .inr ⟨g', c', a', e, fun _ => rfl, fun h => by omega, hx⟩⟩

/-! ### some objects are used up, one comes in their place -/
def hrem (C : List Nat) (H : Hp) : Hp := H.filter fun p => !C.contains p.1

theorem look_hrem (C : List Nat) (H : Hp) (j : Nat) : look (hrem C H) j = if j ∈ C then none else look H j := by
  induction H with
  | nil => simp [hrem, look]
  | cons x H ih =>
    obtain ⟨k, p⟩ := x
    unfold hrem at ih ⊢
    simp only [List.filter_cons]
    by_cases hk : k ∈ C
    · simp only [List.contains_eq_mem, hk, decide_true, Bool.not_true, Bool.false_eq_true, if_false, look]
      simp only [List.contains_eq_mem] at ih
      rw [ih]
      by_cases hj : j = k
      · subst hj; simp [hk]
      · simp [hj]
    · simp only [List.contains_eq_mem, hk, decide_false, Bool.not_false, if_true, look]
      simp only [List.contains_eq_mem] at ih
      rw [ih]
      by_cases hj : j = k
      · subst hj; simp [hk]
      · simp [hj]

theorem Post.repl {ρ : Nat → Option Value} {S : Nat → Prop} {F : Nat → List Nat} {H : Hp} {w w' : World} (hH : HRel ρ S F H w) (C : List Nat) {i : Nat} (hi : hasH i H = false) {o : Ob} {root : Value} {Fi : List Nat}
    (hos : w'.os = w.os) (htape : w'.tape = w.tape) (hout : w'.output = w.output) (hsize : w.heap.size ≤ w'.heap.size) (hkeep : ∀ b, b < w.heap.size → (∀ c o, c ∈ C → look H c = some o → b ∈ F c → False) → w'.heap[b]? = w.heap[b]?)
    (hob' : ∀ ρ', ObR ρ' S w' root o Fi) (hnd : Fi.Nodup) (hFi : ∀ b, b ∈ Fi → (∃ c o, c ∈ C ∧ look H c = some o ∧ b ∈ F c) ∨ (w.heap.size ≤ b ∧ b < w'.heap.size))
    {x : Value} {v : V} (hv : RV (fun j => if j = i then some root else if j ∈ C then none else ρ j) S w' x v) : Post ρ S F H w v ((i, o) :: hrem C H) [i] x w' := by
  obtain ⟨hl, hO⟩ := hasH_false hi
  let ρ' : Nat → Option Value := fun j => if j = i then some root else if j ∈ C then none else ρ j
  have hρ : ∀ (p : Ob), p.has i = false → ∀ j r, ρ' j = some r → p.has j = true → ρ j = some r := fun p hy j r hj hh => by
    simp only [ρ'] at hj
    split at hj
    · subst_vars; rw [hy] at hh; cases hh
    · split at hj
      · cases hj
      · exact hj
  -- a block of an object that stays, or of S, is kept
  have kS : ∀ b, S b → w'.heap[b]? = w.heap[b]? := fun b hb => hkeep b (hH.slt b hb) fun c o _ ho hc => hH.sep c o b ho hc hb
  have hk : Keeps S w S w' := fun b hb => ⟨hb, kS b hb⟩
  have kO : ∀ j p b, j ∉ C → look H j = some p → b ∈ F j → w'.heap[b]? = w.heap[b]? := fun j p b hj hp hb => hkeep b (hH.lt j p b hp hb) fun c o hc ho hbc => hH.disj j c p o b hp ho (fun e => hj (e ▸ hc)) hb hbc
  have lookr : ∀ j p, look ((i, o) :: hrem C H) j = some p → (j = i ∧ p = o) ∨ (j ≠ i ∧ j ∉ C ∧ look H j = some p) := fun j p hp => by
    simp only [look, look_hrem] at hp
    split at hp
    · cases hp; exact .inl ⟨‹_›, rfl⟩
    · split at hp
      · cases hp
      · exact .inr ⟨‹_›, ‹_›, hp⟩
  -- the new object's blocks are no other's
  have far : ∀ j p b, j ∉ C → look H j = some p → b ∈ F j → b ∈ Fi → False := fun j p b hj hp hb hbi => by
    rcases hFi b hbi with ⟨c, q, hc, hq, hbc⟩ | ⟨h1, _⟩
    · exact hH.disj j c p q b hp hq (fun e => hj (e ▸ hc)) hb hbc
    · have := hH.lt j p b hp hb; omega
  refine ⟨ρ', S, fun j => if j = i then Fi else F j, hv, ⟨fun j hj => ?_, fun j p hp => ?_, fun j p hp => ?_, fun j j' p p' b hj hj' hne hb hb' => ?_, fun j p b hp hb => ?_, fun j p b hp hb => ?_, fun b hb => Nat.lt_of_lt_of_le (hH.slt b hb) hsize⟩,
    ⟨hos, htape, hout, hsize, fun b hb hu => hkeep b hb fun c o _ ho hbc => hu ⟨c, o, ho, hbc⟩, fun _ h => h, fun _ h => .inl h, fun b hb => ?_⟩, fun j r hj hN => ?_⟩
  · simp only [look, look_hrem] at hj
    simp only [ρ']
    split at hj
    · cases hj
    · rename_i hne
      rw [if_neg hne]
      split at hj
      · rw [if_pos ‹_›]
      · rw [if_neg ‹_›]; exact hH.dom j hj
  · rcases lookr j p hp with ⟨rfl, rfl⟩ | ⟨hne, hC, hp⟩
    · exact ⟨root, by simp [ρ'], by rw [if_pos rfl]; exact hob' ρ'⟩
    · obtain ⟨r, hr, hobj⟩ := hH.obj j p hp
      refine ⟨r, by simp only [ρ', if_neg hne, if_neg hC]; exact hr, ?_⟩
      rw [if_neg hne]
      exact hobj.mono (hρ p (hO j p hp)) hk (fun b hb => kO j p b hC hp hb)
  · rcases lookr j p hp with ⟨rfl, rfl⟩ | ⟨hne, hC, hp⟩
    · rw [if_pos rfl]; exact hnd
    · rw [if_neg hne]; exact hH.nodup j p hp
  · rcases lookr j p hj with ⟨rfl, rfl⟩ | ⟨hne1, hC1, hp1⟩
    · rcases lookr j' p' hj' with ⟨rfl, rfl⟩ | ⟨hne2, hC2, hp2⟩
      · exact hne rfl
      · rw [if_pos rfl] at hb; rw [if_neg hne2] at hb'
        exact far j' p' b hC2 hp2 hb' hb
    · rcases lookr j' p' hj' with ⟨rfl, rfl⟩ | ⟨hne2, hC2, hp2⟩
      · rw [if_neg hne1] at hb; rw [if_pos rfl] at hb'
        exact far j p b hC1 hp1 hb hb'
      · rw [if_neg hne1] at hb; rw [if_neg hne2] at hb'
        exact hH.disj j j' p p' b hp1 hp2 hne hb hb'
  · rcases lookr j p hp with ⟨rfl, rfl⟩ | ⟨hne, hC, hp⟩
    · rw [if_pos rfl] at hb
      intro hs
      rcases hFi b hb with ⟨c, q, hc, hq, hbc⟩ | ⟨h1, _⟩
      · exact hH.sep c q b hq hbc hs
      · have := hH.slt b hs; omega
    · rw [if_neg hne] at hb; exact hH.sep j p b hp hb
  · rcases lookr j p hp with ⟨rfl, rfl⟩ | ⟨hne, hC, hp⟩
    · rw [if_pos rfl] at hb
      rcases hFi b hb with ⟨c, q, hc, hq, hbc⟩ | ⟨_, h2⟩
      · exact Nat.lt_of_lt_of_le (hH.lt c q b hq hbc) hsize
      · exact h2
    · rw [if_neg hne] at hb; exact Nat.lt_of_lt_of_le (hH.lt j p b hp hb) hsize
  · obtain ⟨j, p, hp, hb⟩ := hb
    rcases lookr j p hp with ⟨rfl, rfl⟩ | ⟨hne, hC, hp⟩
    · replace hb : b ∈ (if j = j then Fi else F j) := hb
      rw [if_pos rfl] at hb
      rcases hFi b hb with ⟨c, q, hc, hq, hbc⟩ | ⟨h1, _⟩
      · exact .inl ⟨c, q, hq, hbc⟩
      · exact .inr h1
    · replace hb : b ∈ (if j = i then Fi else F j) := hb
      rw [if_neg hne] at hb
      exact .inl ⟨j, p, hp, hb⟩
  · simp only [List.mem_singleton] at hN
    simp only [ρ', if_neg hN] at hj
    split at hj
    · cases hj
    · exact hj

/-! ### append -/
theorem flat_add (n m k : Nat) (Fs Gs : Nat → Nat → List Nat) : flat (n + m) k (fun i j => if i < n then Fs i j else Gs (i - n) j) = flat n k Fs ++ flat m k Gs := by
  unfold flat
  rw [List.range_add, List.flatMap_append]
  congr 1
  · simp only [List.flatMap_def]
    congr 1
    refine List.map_congr_left fun i hi => ?_
    have : i < n := by simpa using hi
    simp [this]
  · simp only [List.flatMap_def, List.map_map]
    congr 1
    refine List.map_congr_left fun i hi => ?_
    have : ¬ (n + i < n) := by omega
    simp [this]

/-- what is appended: rows of data -/
structure SrcV (P : Program) (S : Nat → Prop) (w : World) (k : Nat) (tx : TypeId) (x : Value) (rows : List (List V)) (F : List Nat) : Prop where
  ex : ∃ (news : List Value) (cs : Nat → Nat → Value) (Fs : Nat → Nat → List Nat), Src P k tx x rows.length news w ∧ F = flat rows.length k Fs ∧ (∀ (i : Nat) (r : List V), rows[i]? = some r → r.length = k) ∧
    ∀ (i j : Nat) (r : List V) (y : V), rows[i]? = some r → r[j]? = some y → news[i * k + j]? = some (cs i j) ∧ RD S w (cs i j) y (Fs i j)

theorem idx_lt {n k i j : Nat} (hi : i < n) (hj : j < k) : i * k + j < n * k := by
  have : (i + 1) * k ≤ n * k := Nat.mul_le_mul_right k hi
  rw [Nat.add_mul] at this
  omega

theorem SrcV.of_sl {S : Nat → Prop} {w : World} {tx : TypeId} {e' : TypeId} (hk : P.underlying tx = some (.slice e')) {k : Nat} {x : Value} {nn b : Bool} {rows : List (List V)} (h : RD S w x (.sl nn b rows) [])
    (hrk : ∀ r, r ∈ rows → r.length = k) : SrcV P S w k tx x rows [] := by
  have hr : ∀ (i : Nat) (r : List V), rows[i]? = some r → r.length = k := fun i r hi => hrk r (List.mem_of_getElem? hi)
  cases h with
  | nils => exact ⟨[], fun _ _ => undef, fun _ _ => [], Src.ofNil w hk 0, rfl, fun i r h => by simp at h, fun i j r y h => by simp at h⟩
  | shr a cap _ _ k' cs hlen hcap hk' hc hd =>
    have hkk : ∀ (i : Nat) (r : List V), rows[i]? = some r → k' = k := fun i r hi => (hk' i r hi).symm.trans (hr i r hi)
    let news : List Value := (List.range rows.length).flatMap fun i => (List.range k).map fun j => cs i j
    have hget : ∀ (n : Nat) (i j : Nat), i < n → j < k → ((List.range n).flatMap fun i => (List.range k).map fun j => cs i j)[i * k + j]? = some (cs i j) := by
      intro n
      induction n with
      | zero => intro i j hi; omega
      | succ n ih =>
        intro i j hi hj
        rw [List.range_succ, List.flatMap_append]
        have hl : ((List.range n).flatMap fun i => (List.range k).map fun j => cs i j).length = n * k := by
          clear ih hi
          induction n with
          | zero => simp
          | succ n ih => rw [List.range_succ, List.flatMap_append, List.length_append, ih]; simp [Nat.add_mul]
        by_cases hin : i < n
        · rw [List.getElem?_append_left (by rw [hl]; exact idx_lt hin hj)]
          exact ih i j hin hj
        · obtain rfl : i = n := by omega
          rw [List.getElem?_append_right (by omega), hl]
          simp [hj]
    have hlen' : news.length = rows.length * k := by
      show ((List.range rows.length).flatMap _).length = _
      generalize rows.length = n
      induction n with
      | zero => simp
      | succ n ih => rw [List.range_succ, List.flatMap_append, List.length_append, ih]; simp [Nat.add_mul]
    have hcell : ∀ (i j : Nat), i < rows.length → j < k → w.cell? (a.add (i * k + j)) = some (cs i j) ∧ (cs i j).oneCell' = true := fun i j hi hj => by
      have h1 : rows[i]? = some rows[i] := List.getElem?_eq_getElem hi
      have hj' : j < rows[i].length := by rw [hr i _ h1]; exact hj
      have h2 : rows[i][j]? = some rows[i][j] := List.getElem?_eq_getElem hj'
      obtain ⟨_, h3⟩ := hc i j _ _ h1 h2
      rw [hkk i _ h1] at h3
      exact ⟨h3, (hd i j _ _ h1 h2).one⟩
    have hsplit : ∀ p, p < rows.length * k → ∃ i j, i < rows.length ∧ j < k ∧ p = i * k + j := fun p hp => by
      have hk0 : 0 < k := by
        rcases Nat.eq_zero_or_pos k with h0 | h0
        · rw [h0, Nat.mul_zero] at hp; omega
        · exact h0
      refine ⟨p / k, p % k, Nat.div_lt_of_lt_mul (by rwa [Nat.mul_comm]), Nat.mod_lt _ hk0, ?_⟩
      rw [Nat.mul_comm]; exact (Nat.div_add_mod p k).symm
    refine ⟨news, cs, fun _ _ => [], Src.ofSlice w hk a rows.length cap news hlen' (fun p u hu => ?_) (fun u hu => ?_), ?_, hr, fun i j r y h1 h2 => ⟨?_, hd i j r y h1 h2⟩⟩
    · have hp : p < rows.length * k := by rw [← hlen']; exact (List.getElem?_eq_some_iff.1 hu).1
      obtain ⟨i, j, hi, hj, rfl⟩ := hsplit p hp
      have := hget rows.length i j hi hj
      rw [show news[i * k + j]? = some (cs i j) from this] at hu
      cases hu
      exact (hcell i j hi hj).1
    · obtain ⟨p, hp⟩ := List.getElem?_of_mem hu
      have hlt : p < rows.length * k := by rw [← hlen']; exact (List.getElem?_eq_some_iff.1 hp).1
      obtain ⟨i, j, hi, hj, rfl⟩ := hsplit p hlt
      have := hget rows.length i j hi hj
      rw [show news[i * k + j]? = some (cs i j) from this] at hp
      cases hp
      exact (hcell i j hi hj).2
    · have : ∀ n k : Nat, flat n k (fun _ _ => []) = [] := fun n k => by
        apply List.eq_nil_iff_forall_not_mem.2
        intro b hb
        obtain ⟨_, _, _, _, h⟩ := mem_flat.1 hb
        cases h
      exact (this _ _).symm
    · exact hget rows.length i j (List.getElem?_eq_some_iff.1 h1).1 (by have := (List.getElem?_eq_some_iff.1 h2).1; rw [hr i r h1] at this; exact this)

def byteRow (b : UInt8) : List V := [.c (.int .u8 b.toNat)]

theorem SrcV.of_str {S : Nat → Prop} {w : World} {tx : TypeId} (hk : P.underlying tx = some .string) (s : ByteArray) : SrcV P S w 1 tx (.string s) (s.data.toList.map byteRow) [] := by
  have hl : (s.data.toList.map byteRow).length = s.size := by rw [List.length_map, Array.length_toList]; rfl
  refine ⟨byteCells s, fun i _ => .int .u8 ((s.data.toList.getD i 0).toNat), fun _ _ => [], ?_, ?_, fun i r h => ?_, fun i j r y h1 h2 => ?_⟩
  · rw [hl]; exact Src.ofString w hk s
  · refine (List.eq_nil_iff_forall_not_mem.2 fun b hb => ?_).symm
    obtain ⟨_, _, _, _, h⟩ := mem_flat.1 hb
    cases h
  · rw [List.getElem?_map, Option.map_eq_some_iff] at h
    obtain ⟨b, _, rfl⟩ := h
    rfl
  · rw [List.getElem?_map, Option.map_eq_some_iff] at h1
    obtain ⟨b, hb, rfl⟩ := h1
    cases j with
    | zero =>
      simp [byteRow] at h2
      subst h2
      have hg : s.data.toList.getD i 0 = b := by simp [List.getD_eq_getElem?_getD, hb]
      refine ⟨?_, ?_⟩
      · show (byteCells s)[i * 1 + 0]? = some (.int .u8 ((s.data.toList.getD i 0).toNat))
        rw [hg]
        simp only [byteCells, Nat.mul_one, Nat.add_zero, List.getElem?_map, hb, Option.map_some]
      · show RD S w (.int .u8 ((s.data.toList.getD i 0).toNat)) (.c (.int .u8 b.toNat)) []
        rw [hg]
        exact .c _ rfl
    | succ j => simp [byteRow] at h2

end
end Go.Av

namespace Go.Av

section
variable {P : Program} {G : Nat → Option (List V)}

theorem SrcV.of_own {ρ : Nat → Option Value} {S : Nat → Prop} {w : World} {tx e' : TypeId} (ht : P.underlying tx = some (.slice e')) {r : Value} {nn : Bool} {e : Tg} {k : Nat} {rows : List (List V)} {F : List Nat} (h : ObR ρ S w r (.vec nn e k rows) F) (hF : F.Nodup) :
    ∃ F', SrcV P S w k tx r rows F' ∧ (∀ b, b ∈ F' → b ∈ F) ∧ F'.Nodup := by
  cases h with
  | vnil => exact ⟨[], ⟨[], fun _ _ => undef, fun _ _ => [], Src.ofNil w ht 0, rfl, fun i r h => by simp at h, fun i j r y h => by simp at h⟩, fun _ h => (by cases h), List.nodup_nil⟩
  | vec g cap arr _ _ _ _ cs Fs hh hcap hmax hsz hk hc hr =>
    refine ⟨flat rows.length k Fs, ⟨arr.toList.take (rows.length * k), cs, Fs, ?_, rfl, hk, fun i j r y h1 h2 => ⟨?_, hr i j r y h1 h2⟩⟩, fun b hb => List.mem_cons_of_mem _ hb, (List.nodup_cons.1 hF).2⟩
    · have hn : rows.length * k ≤ arr.size := by rw [hsz]; exact Nat.mul_le_mul_right _ hcap
      refine Src.ofSlice w ht ⟨g, 0, none⟩ rows.length cap _ (by simp; omega) (fun p u hu => ?_) (fun u hu => ?_)
      · rw [Addr.add_lit, Nat.zero_add, cell_of_row w g p arr _ (0, 0) hh]
        rw [List.getElem?_take] at hu
        split at hu
        · simpa using hu
        · cases hu
      · obtain ⟨p, hp⟩ := List.getElem?_of_mem hu
        have hlt : p < rows.length * k := by have := (List.getElem?_eq_some_iff.1 hp).1; simp at this; omega
        rw [List.getElem?_take, if_pos hlt] at hp
        have hk0 : 0 < k := by
          rcases Nat.eq_zero_or_pos k with h0 | h0
          · rw [h0, Nat.mul_zero] at hlt; omega
          · exact h0
        have hi : p / k < rows.length := Nat.div_lt_of_lt_mul (by rwa [Nat.mul_comm])
        have hj : p % k < k := Nat.mod_lt _ hk0
        have h1 : rows[p / k]? = some rows[p / k] := List.getElem?_eq_getElem hi
        have hj' : p % k < rows[p / k].length := by rw [hk _ _ h1]; exact hj
        have h2 : rows[p / k][p % k]? = some rows[p / k][p % k] := List.getElem?_eq_getElem hj'
        have h3 := hc _ _ _ _ h1 h2
        rw [show p / k * k + p % k = p by rw [Nat.mul_comm]; exact Nat.div_add_mod p k] at h3
        have hp' : arr[p]? = some u := by simpa using hp
        rw [h3] at hp'
        cases hp'
        exact (hr _ _ _ _ h1 h2).one
    · have hi : i < rows.length := (List.getElem?_eq_some_iff.1 h1).1
      have hj : j < k := by have := (List.getElem?_eq_some_iff.1 h2).1; rw [hk i r h1] at this; exact this
      rw [List.getElem?_take, if_pos (idx_lt hi hj)]
      simpa using hc i j r y h1 h2

theorem Post.append {D : Tab} (hD : TabOk P D) {ρ : Nat → Option Value} {S : Nat → Prop} {F : Nat → List Nat} {H : Hp} {w : World} (hH : HRel ρ S F H w) {t tx ty el : TypeId} {it ie : Ty} (ht : D.at t = some it) (hit : it.d = .slice el) (hel : D.at el = some ie)
    {i : Nat} {nn : Bool} {tag : Tg} (tag' : Tg) (htg : ∀ e1 v', ((∀ e0 v, tag.ok ie.size e0 v → e0 = el) → e1 = el) → ((∀ e0 v, tag.ok ie.size e0 v → tight ie.size v) → tight ie.size v') → tag'.ok ie.size e1 v') (htn : tag'.nilOk) {rows rows2 : List (List V)} (hi : look H i = some (.vec nn tag ie.size rows)) {x : Value} {F2 : List Nat} (hx : SrcV P S w ie.size tx x rows2 F2) (hF2 : F2.Nodup) (C : List Nat) (hC2 : ∀ b, b ∈ F2 → ∃ c o, c ∈ C ∧ c ≠ i ∧ look H c = some o ∧ b ∈ F c)
    (hlen : rows.length + rows2.length ≤ maxLen) (hb : (rows.length + rows2.length) * ie.bytes ≤ 140737488355328) {q : Nat} (hq : hasH q H = false) {nn' : Bool} (hnn : nn' = true → nn = true ∨ rows2 ≠ []) {s : Value} (hs : RV ρ S w s (.own i)) :
    ∃ r w', (Builtin.append_ #[t, tx] ty #[s, x]).run P w = .ok r w' ∧ Post ρ S F H w (.own q) ((q, .vec nn' tag' ie.size (rows ++ rows2)) :: hrem (i :: C) H) [q] r w' := by
  obtain ⟨root, hroot, hob⟩ := hH.obj i _ hi
  have hsr := hs.own_inv root hroot
  subst hsr
  obtain ⟨news, cs2, Fs2, hsrc, rfl, hk2, hc2⟩ := hx.ex
  obtain ⟨_, ⟨d, u1, u2⟩, _⟩ := hD _ _ ht
  rw [hit] at u2
  have hd : d = .slice el := by cases d <;> simp_all [TD.is]
  subst hd
  obtain ⟨⟨inf, z, e1, e2, e3, e4, e5, _, e7⟩, _, _⟩ := hD _ _ hel
  have hFi := hH.nodup i _ hi
  have hlt := fun b hb => hH.lt i _ b hi hb
  have hF2lt : ∀ b, b ∈ flat rows2.length ie.size Fs2 → b < w.heap.size := fun b hb => by
    obtain ⟨c, o, _, _, ho, hbc⟩ := hC2 b hb; exact hH.lt c o b ho hbc
  have hF2far : ∀ b, b ∈ flat rows2.length ie.size Fs2 → b ∉ F i := fun b hb hbi => by
    obtain ⟨c, o, _, hne, ho, hbc⟩ := hC2 b hb; exact hH.disj c i o _ b ho hi hne hbc hbi
  have hzs : z.cells.size = inf.size := by rw [← Array.length_toList, e5, e7, e2]
  have hold : ∃ (old : Nat → Option Value) (e0 : TypeId), ((∀ e0 v, tag.ok ie.size e0 v → e0 = el) → e0 = el) ∧ ((∀ e0 v, tag.ok ie.size e0 v → tight ie.size v) → tight ie.size s) ∧ ((s = .slice none 0 0 ∧ rows.length = 0) ∨ ∃ g cap arr, s = .slice (some ⟨g, 0, none⟩) rows.length cap ∧ w.heap[g]? = some (.cells arr e0 (0, 0)) ∧ rows.length ≤ cap ∧ cap ≤ maxLen ∧ arr.size = cap * inf.size ∧ ∀ p, p < rows.length * inf.size → arr[p]? = old p) ∧
      ∃ (cs1 : Nat → Nat → Value) (Fs1 : Nat → Nat → List Nat), (∀ (i : Nat) (r : List V), rows[i]? = some r → r.length = ie.size) ∧ (∀ (i j : Nat) (r : List V) (x : V), rows[i]? = some r → r[j]? = some x → old (i * ie.size + j) = some (cs1 i j) ∧ RD S w (cs1 i j) x (Fs1 i j)) ∧
        (∀ b, b ∈ flat rows.length ie.size Fs1 → b ∈ F i ∧ s.ownBlock ≠ some b) ∧ (flat rows.length ie.size Fs1).Nodup ∧ (∀ g, s.ownBlock = some g → g ∈ F i) := by
    generalize F i = Fi at hob hFi
    rw [e2]
    cases hob with
    | vnil => exact ⟨fun _ => none, el, fun _ => rfl, fun _ _ => .inr rfl, .inl ⟨rfl, rfl⟩, fun _ _ => undef, fun _ _ => [], fun i r h => (by simp at h), fun i j r x h => (by simp at h), fun b hb => (by simp [flat] at hb), (by simp [flat]), fun g hg => (by simp [Value.ownBlock] at hg)⟩
    | vec g cap arr _ _ _ _ cs Fs hh hcap hmax hsz hk hc hr ht =>
      refine ⟨fun p => arr[p]?, _, fun h => h _ _ ht, fun h => h _ _ ht, .inr ⟨g, cap, arr, rfl, hh, hcap, hmax, hsz, fun _ _ => rfl⟩, cs, Fs, hk, fun i j r x h1 h2 => ⟨hc i j r x h1 h2, hr i j r x h1 h2⟩, fun b hb => ⟨List.mem_cons_of_mem _ hb, fun h => ?_⟩, (List.nodup_cons.1 hFi).2, fun g' hg' => ?_⟩
      · simp only [Value.ownBlock, Option.some.injEq] at h
        subst h
        exact (List.nodup_cons.1 hFi).1 hb
      · simp only [Value.ownBlock, Option.some.injEq] at hg'
        subst hg'; simp
  obtain ⟨old, e0, he0, hti, hv, cs1, Fs1, hk1, hc1, hFs1, hnd1, hown⟩ := hold
  rw [← e2] at hsrc
  obtain ⟨v', w', hrun, hg, hres⟩ := run_append_vec w t tx ty el inf z u1 e1 e4 hzs s rows.length x rows2.length news hsrc old e0 hv hlen (by rw [e3]; exact hb)
  refine ⟨v', w', hrun, ?_⟩
  have hkeep : ∀ b, b < w.heap.size → (∀ c o, c ∈ i :: C → look H c = some o → b ∈ F c → False) → w'.heap[b]? = w.heap[b]? := fun b hb hn =>
    hg.block b hb fun he => hn i _ (by simp) hi (hown b he.symm)
  rcases hres with ⟨rfl, rfl, h0, h1⟩ | ⟨g', cap', arr', e1, he1, hz0, rfl, hh', hcap', hmax', hsz', hold', hnew', hblk, hlt'⟩
  · have hr1 : rows = [] := List.eq_nil_of_length_eq_zero h0
    have hr2 : rows2 = [] := List.eq_nil_of_length_eq_zero h1
    subst hr1 hr2
    have hnn' : nn' = false := by
      cases nn' with
      | false => rfl
      | true =>
        rcases hnn rfl with h | h
        · subst h
          generalize F i = Fi at hob
          cases hob
        · exact absurd rfl h
    subst hnn'
    refine Post.repl hH (i :: C) hq (root := .slice none 0 0) (Fi := []) hg.os hg.tape hg.output hg.size hkeep (fun ρ' => .vnil tag' ie.size htn) List.nodup_nil (fun b hb => by cases hb) (.own _ q fun r hr => ?_)
    simp at hr; exact hr
  · rw [e2] at hsz' hold' hnew'
    let cs : Nat → Nat → Value := fun a b => if a < rows.length then cs1 a b else cs2 (a - rows.length) b
    let Fs : Nat → Nat → List Nat := fun a b => if a < rows.length then Fs1 a b else Fs2 (a - rows.length) b
    have hflat : flat (rows.length + rows2.length) ie.size Fs = flat rows.length ie.size Fs1 ++ flat rows2.length ie.size Fs2 := flat_add _ _ _ _ _
    have hks : Keeps S w S w' := fun b hb => ⟨hb, hkeep b (hH.slt b hb) fun c o hc ho hbc => hH.sep c o b ho hbc hb⟩
    -- nested blocks stand as they were
    have hn1 : ∀ b, b ∈ flat rows.length ie.size Fs1 → w'.heap[b]? = w.heap[b]? := fun b hb => hg.block b (hlt b (hFs1 b hb).1) fun he => (hFs1 b hb).2 he.symm
    have hn2 : ∀ b, b ∈ flat rows2.length ie.size Fs2 → w'.heap[b]? = w.heap[b]? := fun b hb => hg.block b (hF2lt b hb) fun he => hF2far b hb (hown b he.symm)
    have hg1 : g' ∉ flat rows.length ie.size Fs1 := fun h => by
      rcases hblk with e | e
      · exact (hFs1 g' h).2 e
      · have := hlt g' (hFs1 g' h).1; omega
    have hg2 : g' ∉ flat rows2.length ie.size Fs2 := fun h => by
      rcases hblk with e | e
      · exact hF2far g' h (hown g' e)
      · have := hF2lt g' h; omega
    have hlr : (rows ++ rows2).length = rows.length + rows2.length := by simp
    refine Post.repl hH (i :: C) hq (root := .slice (some ⟨g', 0, none⟩) (rows.length + rows2.length) cap') (Fi := g' :: flat (rows.length + rows2.length) ie.size Fs) hg.os hg.tape hg.output hg.size hkeep (fun ρ' => ?_) ?_ (fun b hb => ?_) (.own _ q fun r hr => ?_)
    · have hgetr : ∀ (a : Nat) (r : List V), (rows ++ rows2)[a]? = some r → (a < rows.length ∧ rows[a]? = some r) ∨ (rows.length ≤ a ∧ rows2[a - rows.length]? = some r) := fun a r ha => by
        by_cases hlt : a < rows.length
        · rw [List.getElem?_append_left hlt] at ha; exact .inl ⟨hlt, ha⟩
        · rw [List.getElem?_append_right (by omega)] at ha; exact .inr ⟨by omega, ha⟩
      rw [← hlr]
      refine .vec g' cap' arr' nn' tag' ie.size (rows ++ rows2) cs Fs hh' (by rw [hlr]; exact hcap') hmax' hsz' (fun a r ha => ?_) (fun a b r y ha hb' => ?_) (fun a b r y ha hb' => ?_) (htg _ _ (fun h => he1 (he0 h)) fun h h0 => by
        have h1 := hti h
        rw [hz0 (by rw [hlr] at h0; exact h0)] at h1
        exact h1 rfl)
      · rcases hgetr a r ha with ⟨_, h⟩ | ⟨_, h⟩
        · exact hk1 a r h
        · exact hk2 _ r h
      · rcases hgetr a r ha with ⟨hlt, h⟩ | ⟨hge, h⟩
        · have hb2 : b < ie.size := by have := (List.getElem?_eq_some_iff.1 hb').1; rw [hk1 a r h] at this; exact this
          rw [hold' _ (idx_lt hlt hb2), (hc1 a b r y h hb').1]
          simp only [cs, if_pos hlt]
        · have hb2 : b < ie.size := by have := (List.getElem?_eq_some_iff.1 hb').1; rw [hk2 _ r h] at this; exact this
          have ha2 : a - rows.length < rows2.length := (List.getElem?_eq_some_iff.1 h).1
          have := hnew' ((a - rows.length) * ie.size + b) (idx_lt ha2 hb2)
          rw [show rows.length * ie.size + ((a - rows.length) * ie.size + b) = a * ie.size + b by rw [← Nat.add_assoc, ← Nat.add_mul]; congr 2; omega] at this
          rw [this, (hc2 _ b r y h hb').1]
          simp only [cs, if_neg (by omega : ¬ a < rows.length)]
      · rcases hgetr a r ha with ⟨hlt, h⟩ | ⟨hge, h⟩
        · have hb2 : b < ie.size := by have := (List.getElem?_eq_some_iff.1 hb').1; rw [hk1 a r h] at this; exact this
          have := (hc1 a b r y h hb').2
          simp only [cs, Fs, if_pos hlt]
          exact this.mono hks fun b' hb'' => hn1 b' (mem_flat.2 ⟨a, b, hlt, hb2, hb''⟩)
        · have hb2 : b < ie.size := by have := (List.getElem?_eq_some_iff.1 hb').1; rw [hk2 _ r h] at this; exact this
          have ha2 : a - rows.length < rows2.length := (List.getElem?_eq_some_iff.1 h).1
          have := (hc2 _ b r y h hb').2
          simp only [cs, Fs, if_neg (by omega : ¬ a < rows.length)]
          exact this.mono hks fun b' hb'' => hn2 b' (mem_flat.2 ⟨a - rows.length, b, ha2, hb2, hb''⟩)
    · rw [hflat, List.nodup_cons]
      refine ⟨fun h => ?_, List.nodup_append.2 ⟨hnd1, hF2, fun a ha b hb e => ?_⟩⟩
      · rcases List.mem_append.1 h with h | h
        · exact hg1 h
        · exact hg2 h
      · subst e; exact hF2far a hb (hFs1 a ha).1
    · rw [hflat] at hb
      rcases List.mem_cons.1 hb with rfl | hb
      · rcases hblk with e | e
        · exact .inl ⟨i, _, by simp, hi, hown _ e⟩
        · exact .inr ⟨e, hlt'⟩
      · rcases List.mem_append.1 hb with hb | hb
        · exact .inl ⟨i, _, by simp, hi, (hFs1 b hb).1⟩
        · obtain ⟨c, o, hc, _, ho, hbc⟩ := hC2 b hb
          exact .inl ⟨c, o, by simp [hc], ho, hbc⟩
    · simp at hr; exact hr

end
end Go.Av

namespace Go.Av

section
variable {P : Program} {G : Nat → Option (List V)}

theorem resolve_append {o : Oper} {η : Operand → Value} {s x : Operand} {t tx : TypeId} (ho : o.op = .call { callee := .builtin .append, args := #[s, x], argTypes := #[t, tx] }) {w w' : World} {v : Value}
    (h : (Builtin.append_ #[t, tx] o.type #[η s, η x]).run P w = .ok v w') : (execOp η o).run P w = .ok (.value v) w' := by
  unfold execOp
  simp only [ho, resolve, invoke, builtin, Sem.run_bind, Sem.run_pure, Result.andThen_ok, List.map_toArray, List.map_cons, List.map_nil, h]

/-- 'append(s, xs...)', xs another slice that the activation owns (the variadic arguments lie so): both are used up -/
theorem OpOk.appendOwnT {D : Tab} (hD : TabOk P D) {o : Oper} {e : Operand → V} {H : Hp} {s x : Operand} {t el : TypeId} {it ie : Ty} (q : Nat) {i j : Nat} {nn nn2 : Bool} {rows rows2 : List (List V)} (nn' : Bool) {tag tag2 : Tg} (tag' : Tg) (htg : ∀ e1 v', ((∀ e0 v, tag.ok ie.size e0 v → e0 = el) → e1 = el) → ((∀ e0 v, tag.ok ie.size e0 v → tight ie.size v) → tight ie.size v') → tag'.ok ie.size e1 v') (htn : tag'.nilOk)
    (ho : o.op = .call { callee := .builtin .append, args := #[s, x], argTypes := #[t, t] }) (ht : D.at t = some it) (hit : it.d = .slice el) (hel : D.at el = some ie)
    (hs : e s = .own i) (hx : e x = .own j) (hij : i ≠ j) (hi : look H i = some (.vec nn tag ie.size rows)) (hj : look H j = some (.vec nn2 tag2 ie.size rows2))
    (hlen : rows.length + rows2.length ≤ maxLen) (hb : (rows.length + rows2.length) * ie.bytes ≤ 140737488355328) (hq : hasH q H = false) (hnn : nn' = true → nn = true ∨ rows2 ≠ []) :
    OpOk P G o e H (.own q) ((q, .vec nn' tag' ie.size (rows ++ rows2)) :: hrem [i, j] H) [q] := by
  intro ρ S F η w hη hH hG
  have h1 := hη s (by simp [ho, Op.operands, Call.operands])
  have h2 := hη x (by simp [ho, Op.operands, Call.operands])
  rw [hs] at h1
  rw [hx] at h2
  obtain ⟨r, hr, hob⟩ := hH.obj j _ hj
  have := h2.own_inv r hr
  obtain ⟨_, ⟨d, u1, u2⟩, _⟩ := hD _ _ ht
  rw [hit] at u2
  have hd : d = .slice el := by cases d <;> simp_all [TD.is]
  subst hd
  obtain ⟨F', hsrc, hsub, hnd⟩ := SrcV.of_own (P := P) u1 hob (hH.nodup j _ hj)
  rw [← this] at hsrc
  obtain ⟨v, w', hrun, hp⟩ := Post.append hD hH ht hit hel tag' htg htn hi hsrc hnd [j] (fun b hb' => ⟨j, _, by simp, Ne.symm hij, hj, hsub b hb'⟩) hlen hb hq hnn h1 (tx := t) (ty := o.type)
  unfold ExecTo
  rw [resolve_append ho hrun]
  exact hp

/-- 'append(s, xs...)', xs another slice that the activation owns (the variadic arguments lie so): both are used up -/
theorem OpOk.appendOwn {D : Tab} (hD : TabOk P D) {o : Oper} {e : Operand → V} {H : Hp} {s x : Operand} {t el : TypeId} {it ie : Ty} (q : Nat) {i j : Nat} {nn nn2 : Bool} {rows rows2 : List (List V)} (nn' : Bool)
    (ho : o.op = .call { callee := .builtin .append, args := #[s, x], argTypes := #[t, t] }) (ht : D.at t = some it) (hit : it.d = .slice el) (hel : D.at el = some ie)
    (hs : e s = .own i) (hx : e x = .own j) (hij : i ≠ j) (hi : look H i = some (.vec nn el ie.size rows)) (hj : look H j = some (.vec nn2 el ie.size rows2))
    (hlen : rows.length + rows2.length ≤ maxLen) (hb : (rows.length + rows2.length) * ie.bytes ≤ 140737488355328) (hq : hasH q H = false) (hnn : nn' = true → nn = true ∨ rows2 ≠ []) :
    OpOk P G o e H (.own q) ((q, .vec nn' el ie.size (rows ++ rows2)) :: hrem [i, j] H) [q] :=
  OpOk.appendOwnT hD q nn' (tag := .ty el) (tag2 := .ty el) (.ty el) (fun _ _ h h2 => ⟨h fun _ _ h => h.1, h2 fun _ _ h => h.2⟩) trivial ho ht hit hel hs hx hij hi hj hlen hb hq hnn

/-- 'append(s, xs...)', xs data -/
theorem OpOk.appendData {D : Tab} (hD : TabOk P D) {o : Oper} {e : Operand → V} {H : Hp} {s x : Operand} {t tx el el' : TypeId} {it itx ie : Ty} (q : Nat) {i : Nat} {nn nn2 b2 : Bool} {rows rows2 : List (List V)} (nn' : Bool)
    (ho : o.op = .call { callee := .builtin .append, args := #[s, x], argTypes := #[t, tx] }) (ht : D.at t = some it) (hit : it.d = .slice el) (htx : D.at tx = some itx) (hitx : itx.d = .slice el') (hel : D.at el = some ie)
    (hs : e s = .own i) (hx : e x = .sl nn2 b2 rows2) (hi : look H i = some (.vec nn el ie.size rows)) (hrk : ∀ r, r ∈ rows2 → r.length = ie.size)
    (hlen : rows.length + rows2.length ≤ maxLen) (hb : (rows.length + rows2.length) * ie.bytes ≤ 140737488355328) (hq : hasH q H = false) (hnn : nn' = true → nn = true ∨ rows2 ≠ []) :
    OpOk P G o e H (.own q) ((q, .vec nn' el ie.size (rows ++ rows2)) :: hrem [i] H) [q] := by
  intro ρ S F η w hη hH hG
  have h1 := hη s (by simp [ho, Op.operands, Call.operands])
  have h2 := hη x (by simp [ho, Op.operands, Call.operands])
  rw [hs] at h1
  rw [hx] at h2
  obtain ⟨_, ⟨d, u1, u2⟩, _⟩ := hD _ _ htx
  rw [hitx] at u2
  have hd : d = .slice el' := by cases d <;> simp_all [TD.is]
  subst hd
  obtain ⟨v, w', hrun, hp⟩ := Post.append hD hH ht hit hel (tag := .ty el) (.ty el) (fun e1 v h h2 => ⟨h fun _ _ h => h.1, h2 fun _ _ h => h.2⟩) trivial hi (SrcV.of_sl u1 h2.sl_inv hrk) List.nodup_nil [] (fun b hb' => by cases hb') hlen hb hq hnn h1 (tx := tx) (ty := o.type)
  unfold ExecTo
  rw [resolve_append ho hrun]
  exact hp

/-- 'append(bytes, text...)' -/
theorem OpOk.appendStr {D : Tab} (hD : TabOk P D) {o : Oper} {e : Operand → V} {H : Hp} {s x : Operand} {t tx el : TypeId} {it itx ie : Ty} (q : Nat) {i : Nat} {nn : Bool} {rows : List (List V)} {str : List UInt8} (nn' : Bool)
    (ho : o.op = .call { callee := .builtin .append, args := #[s, x], argTypes := #[t, tx] }) (ht : D.at t = some it) (hit : it.d = .slice el) (htx : D.at tx = some itx) (hitx : itx.d = .str) (hel : D.at el = some ie) (hsz : ie.size = 1)
    (hs : e s = .own i) (hx : e x = V.str str) (hi : look H i = some (.vec nn el 1 rows))
    (hlen : rows.length + str.length ≤ maxLen) (hb : (rows.length + str.length) * ie.bytes ≤ 140737488355328) (hq : hasH q H = false) (hnn : nn' = true → nn = true ∨ str ≠ []) :
    OpOk P G o e H (.own q) ((q, .vec nn' el 1 (rows ++ str.map byteRow)) :: hrem [i] H) [q] := by
  intro ρ S F η w hη hH hG
  have h1 := hη s (by simp [ho, Op.operands, Call.operands])
  have h2 := hη x (by simp [ho, Op.operands, Call.operands])
  rw [hs] at h1
  rw [hx] at h2
  obtain ⟨_, ⟨d, u1, u2⟩, _⟩ := hD _ _ htx
  rw [hitx] at u2
  have hd : d = .string := by cases d <;> simp_all [TD.is]
  subst hd
  have hsrc : SrcV P S w ie.size tx (η x) (str.map byteRow) [] := by
    rw [hsz, h2.c_inv]
    exact SrcV.of_str u1 _
  rw [← hsz] at hi ⊢
  obtain ⟨v, w', hrun, hp⟩ := Post.append hD hH ht hit hel (tag := .ty el) (.ty el) (fun e1 v h h2 => ⟨h fun _ _ h => h.1, h2 fun _ _ h => h.2⟩) trivial hi hsrc List.nodup_nil [] (fun b hb' => by cases hb') (by simpa using hlen) (by simpa using hb) hq (nn' := nn') (fun h => (hnn h).imp id fun hne h0 => hne (by simpa using h0)) h1 (tx := tx) (ty := o.type)
  unfold ExecTo
  rw [resolve_append ho hrun]
  exact hp

/-! ### a store into a variable -/
def putAt (cs ys : List V) (o : Nat) : List V := cs.take o ++ ys ++ cs.drop (o + ys.length)

theorem OpOk.store {D : Tab} (hD : TabOk P D) {o : Oper} {e : Operand → V} {H : Hp} {t : TypeId} {a x : Operand} {it : Ty} {i off : Nat} {ety : TypeId} {cs ys : List V}
    (ho : o.op = .store t a x) (ht : D.at t = some it) (ha : e a = .loc i off) (hi : look H i = some (.cells ety cs)) (hx : cellsV H (e x) = some ys) (hsz : ys.length = it.size) (hfit : off + ys.length ≤ cs.length) :
    OpOk P G o e H .junk (hput H i (.cells ety (putAt cs ys off))) [] := by
  intro ρ S F η w hη hH hG
  have h1 := hη a (by simp [ho, Op.operands])
  have h2 := (hη x (by simp [ho, Op.operands])).cells hH hx
  rw [ha] at h1
  obtain ⟨r, hr, hob⟩ := hH.obj i _ hi
  obtain ⟨g, e1, e2⟩ := h1.loc_inv r hr
  have hFi : F i = [g] ∧ ∃ arr : Array Value, w.heap[g]? = some (.cells arr ety (0, 0)) ∧ Cells ρ S w arr cs := by
    generalize F i = Fi at hob
    cases hob with
    | cells g' arr _ _ hh hsz hcs =>
      cases e1
      refine ⟨rfl, arr, hh, hsz, fun j c hj => ?_, fun j y hy => ?_⟩
      · have hlt : j < cs.length := by rw [← hsz]; exact (Array.getElem?_eq_some_iff.1 hj).1
        obtain ⟨c', h1, h2, _⟩ := hcs j cs[j] (List.getElem?_eq_getElem hlt)
        rw [hj] at h1; cases h1; exact h2
      · obtain ⟨c, h1, _, h3⟩ := hcs j y hy
        exact ⟨c, h1, h3⟩
  obtain ⟨hFi, arr, hh, hcells⟩ := hFi
  have hlen : (η x).cells.toList.length = ys.length := by simpa using h2.1
  have hst := run_storeCells_at P g off ety (η x).cells.toList 0 arr w hh (by rw [hlen, hcells.1]; omega) (fun v hv => by
    obtain ⟨p, hp⟩ := List.getElem?_of_mem hv
    exact h2.2.1 p v (by simpa using hp))
  simp only [Nat.add_zero] at hst
  let out : Array Value := (arr.toList.take off ++ (η x).cells.toList ++ arr.toList.drop (off + (η x).cells.toList.length)).toArray
  have hrun : (execOp η o).run P w = .ok .skip (w.setRow g out) := by
    unfold execOp
    simp only [ho, Instr.storeAt, Instr.sureAddr, e2, storeVar, Sem.run_bind, Sem.run_pure, Result.andThen_ok, (hD _ _ ht).sizeOf w]
    rw [if_neg (by have := h2.1; omega)]
    simp only [hst, Result.andThen_ok]
    rfl
  unfold ExecTo
  rw [hrun]
  have hkeep : ∀ b, b ≠ g → (w.setRow g out).heap[b]? = w.heap[b]? := fun b hb => setRow_other w g b _ hb
  have hgS : ¬ S g := hH.sep i _ g hi (by rw [hFi]; simp)
  have hk : Keeps S w S (w.setRow g out) := fun b hb => ⟨hb, hkeep b fun e => hgS (e ▸ hb)⟩
  have hlook : ∀ j p, look (hput H i (.cells ety (putAt cs ys off))) j = some p → (j = i ∧ p = .cells ety (putAt cs ys off)) ∨ (j ≠ i ∧ look H j = some p) := fun j p hj => by
    rw [look_hput] at hj
    split at hj
    · cases hj; exact .inl ⟨‹_›, rfl⟩
    · exact .inr ⟨‹_›, hj⟩
  have hnew : Cells ρ S w out (putAt cs ys off) := by
    have := h2.1
    have := hcells.1
    refine Cells.over (vs := (η x).cells) hcells ⟨h2.1, h2.2.1, h2.2.2⟩ hfit ?_ fun p => ?_
    · simp only [out, List.size_toArray, List.length_append, List.length_take, List.length_drop, Array.length_toList]; omega
    · simp only [out, List.getElem?_toArray]
      rw [splice_get _ _ _ _ (by simp; omega), hlen]
      simp only [Array.getElem?_toList]
  refine ⟨ρ, S, F, .junk _, ⟨fun j hj => ?_, fun j p hp => ?_, fun j p hp => ?_, fun j j' p p' b hj hj' hne hb hb' => ?_, fun j p b hp hb => ?_, fun j p b hp hb => ?_, fun b hb => by rw [setRow_size]; exact hH.slt b hb⟩,
    ⟨rfl, rfl, rfl, by simp, fun b hb hu => hkeep b fun e => hu ⟨i, _, hi, by rw [hFi]; simp [e]⟩, fun _ h => h, fun _ h => .inl h, fun b hb => ?_⟩, fun _ _ h _ => h⟩
  · rw [look_hput] at hj
    split at hj
    · cases hj
    · exact hH.dom j hj
  · rcases hlook j p hp with ⟨rfl, rfl⟩ | ⟨hne, hp⟩
    · refine ⟨r, hr, ?_⟩
      rw [hFi, e1]
      exact .cells g out ety _ (setRow_heap w g arr _ ety _ hh) hnew.1 fun q y hy => by
        obtain ⟨c, h1, h2⟩ := hnew.2.2 q y hy
        exact ⟨c, h1, hnew.2.1 q c h1, h2.mono (fun _ _ h _ => h) hk⟩
    · obtain ⟨r', hr', hobj⟩ := hH.obj j p hp
      exact ⟨r', hr', hobj.mono (fun _ _ h _ => h) hk fun b hb => hkeep b fun e => hH.disj j i p _ g hp hi hne (e ▸ hb) (by rw [hFi]; simp)⟩
  · rcases hlook j p hp with ⟨rfl, rfl⟩ | ⟨hne, hp⟩
    · exact hH.nodup j _ hi
    · exact hH.nodup j p hp
  · rcases hlook j p hj with ⟨rfl, rfl⟩ | ⟨h1, hp⟩ <;> rcases hlook j' p' hj' with ⟨rfl, rfl⟩ | ⟨h2, hp'⟩
    · exact hne rfl
    · exact hH.disj _ _ _ _ b hi hp' hne hb hb'
    · exact hH.disj _ _ _ _ b hp hi hne hb hb'
    · exact hH.disj _ _ _ _ b hp hp' hne hb hb'
  · rcases hlook j p hp with ⟨rfl, rfl⟩ | ⟨hne, hp⟩
    · exact hH.sep j _ b hi hb
    · exact hH.sep j p b hp hb
  · rw [setRow_size]
    rcases hlook j p hp with ⟨rfl, rfl⟩ | ⟨hne, hp⟩
    · exact hH.lt j _ b hi hb
    · exact hH.lt j p b hp hb
  · obtain ⟨j, p, hp, hb⟩ := hb
    rcases hlook j p hp with ⟨rfl, rfl⟩ | ⟨hne, hp⟩
    · exact .inl ⟨j, _, hi, hb⟩
    · exact .inl ⟨j, p, hp, hb⟩

end
end Go.Av

namespace Go.Av

section
variable {P : Program} {G : Nat → Option (List V)}

theorem slice_ty {D : Tab} (hD : TabOk P D) {t el : TypeId} {it : Ty} (ht : D.at t = some it) (hit : it.d = .slice el) : P.underlying t = some (.slice el) := by
  obtain ⟨_, ⟨d, u1, u2⟩, _⟩ := hD _ _ ht
  rw [hit] at u2
  have hd : d = .slice el := by cases d <;> simp_all [TD.is]
  subst hd
  exact u1

theorem arr_ty {D : Tab} (hD : TabOk P D) {t el : TypeId} {n : Nat} {it : Ty} (ht : D.at t = some it) (hit : it.d = .arr n el) : P.underlying t = some (.array n el) := by
  obtain ⟨_, ⟨d, u1, u2⟩, _⟩ := hD _ _ ht
  rw [hit] at u2
  have hd : d = .array n el := by cases d <;> simp_all [TD.is]
  subst hd
  exact u1

theorem str_ty {D : Tab} (hD : TabOk P D) {t : TypeId} {it : Ty} (ht : D.at t = some it) (hit : it.d = .str) : P.underlying t = some .string := by
  obtain ⟨_, ⟨d, u1, u2⟩, _⟩ := hD _ _ ht
  rw [hit] at u2
  have hd : d = .string := by cases d <;> simp_all [TD.is]
  subst hd
  exact u1

theorem OpOk.indexSl {D : Tab} (hD : TabOk P D) {o : Oper} {e : Operand → V} {H : Hp} {t el : TypeId} {x ix : Operand} {it ie : Ty} {nn b : Bool} {rows : List (List V)} {k : IntKind} {n : Int} (m : Nat) {row : List V}
    (ho : o.op = .indexAddr t x ix) (ht : D.at t = some it) (hit : it.d = .slice el) (hel : D.at el = some ie) (hx : e x = .sl nn b rows) (hix : e ix = .c (.int k n)) (hn : n = m) (hrow : rows[m]? = some row) (hsz : row.length = ie.size) :
    OpOk P G o e H (.el row) H [] := by
  refine OpOk.pure fun ρ S F η w hη hH => ?_
  have h1 := hη x (by simp [ho, Op.operands])
  have h2 := hη ix (by simp [ho, Op.operands])
  rw [hx] at h1
  rw [hix] at h2
  have hlt : m < rows.length := (List.getElem?_eq_some_iff.1 hrow).1
  have hd := h1.sl_inv
  unfold execOp
  simp only [ho, h2.c_inv]
  generalize η x = u at *
  cases hd with
  | nils => simp at hlt
  | shr a cap _ _ k' cs hlen hcap hk hc hr =>
    have hkk : k' = ie.size := by rw [← hk m row hrow]; exact hsz
    subst hkk
    refine ⟨.pointer (some (a.add (m * ie.size))), ?_, .el (a.add (m * ie.size)) row (fun j => cs m j) (fun j y hy => ?_) (fun j y hy => hr m j row y hrow hy)⟩
    · have hn' : 0 ≤ n ∧ n < (rows.length : Int) := by omega
      simp only [Instr.indexAt, Sem.run_bind, asIntOf, Sem.run_pure, Result.andThen_ok, run_underlying (slice_ty hD ht hit), Sem.run_ite, if_pos hn', (hD _ _ hel).sizeOf w]
      subst hn
      rfl
    · obtain ⟨hs, hcell⟩ := hc m j row y hrow hy
      refine ⟨?_, by rw [Addr.add_add]; exact hcell⟩
      have : (a.add (m * ie.size)).block = a.block := by unfold Addr.add; split <;> rfl
      rw [this]; exact hs

theorem OpOk.indexOwn {D : Tab} (hD : TabOk P D) {o : Oper} {e : Operand → V} {H : Hp} {t el : TypeId} {x ix : Operand} {it ie : Ty} {i : Nat} {nn : Bool} {ety : Tg} {rows : List (List V)} {k : IntKind} {n : Int} (m : Nat)
    (ho : o.op = .indexAddr t x ix) (ht : D.at t = some it) (hit : it.d = .slice el) (hel : D.at el = some ie) (hx : e x = .own i) (hi : look H i = some (.vec nn ety ie.size rows)) (hix : e ix = .c (.int k n)) (hn : n = m) (hm : m < rows.length) :
    OpOk P G o e H (.vp i ie.size m 0) H [] := by
  refine OpOk.pure fun ρ S F η w hη hH => ?_
  have h1 := hη x (by simp [ho, Op.operands])
  have h2 := hη ix (by simp [ho, Op.operands])
  rw [hx] at h1
  rw [hix] at h2
  obtain ⟨r, hr, hob⟩ := hH.obj i _ hi
  have hxr := h1.own_inv r hr
  unfold execOp
  simp only [ho, h2.c_inv, hxr]
  generalize F i = Fi at hob
  cases hob with
  | vnil => simp at hm
  | vec g cap arr _ _ _ _ cs Fs hh hcap =>
    refine ⟨.pointer (some ⟨g, m * ie.size, none⟩), ?_, .vp _ i ie.size m 0 fun r' hr' => ⟨g, rows.length, cap, ?_, rfl⟩⟩
    · have hn' : 0 ≤ n ∧ n < (rows.length : Int) := by omega
      simp only [Instr.indexAt, Sem.run_bind, asIntOf, Sem.run_pure, Result.andThen_ok, run_underlying (slice_ty hD ht hit), Sem.run_ite, if_pos hn', (hD _ _ hel).sizeOf w, Addr.add_lit, Nat.zero_add]
      subst hn
      rfl
    · rw [hr] at hr'; cases hr'; rfl

/-- an element of an array variable (a table of the program's) -/
theorem OpOk.indexArr {D : Tab} (hD : TabOk P D) {o : Oper} {e : Operand → V} {H : Hp} {t el : TypeId} {x ix : Operand} {it ie : Ty} {len : Nat} {k : IntKind} {n : Int} (m : Nat) {v : V}
    (ho : o.op = .indexAddr t x ix) (ht : D.at t = some it) (hit : it.d = .arr len el) (hel : D.at el = some ie) (hx : ptrAdd H (m * ie.size) (e x) = some v) (hix : e ix = .c (.int k n)) (hn : n = m) (hm : m < len) :
    OpOk P G o e H v H [] := by
  refine OpOk.pure fun ρ S F η w hη hH => ?_
  have h1 := hη x (by simp [ho, Op.operands])
  have h2 := hη ix (by simp [ho, Op.operands])
  rw [hix] at h2
  obtain ⟨a, ha, hv⟩ := ptrAdd_sound hx hH h1
  unfold execOp
  simp only [ho, h2.c_inv, ha]
  refine ⟨_, ?_, hv⟩
  have hn' : 0 ≤ n ∧ n < (len : Int) := by omega
  simp only [Instr.indexAt, Sem.run_bind, asIntOf, Sem.run_pure, Result.andThen_ok, run_underlying (arr_ty hD ht hit), Instr.sureAddr, Sem.run_ite, if_pos hn', (hD _ _ hel).sizeOf w]
  subst hn
  rfl

/-- a byte of a string -/
theorem OpOk.indexStr {D : Tab} (hD : TabOk P D) {o : Oper} {e : Operand → V} {H : Hp} {t : TypeId} {x ix : Operand} {it : Ty} {s : List UInt8} {k : IntKind} {n : Int} (m : Nat) {c : UInt8}
    (ho : o.op = .index t x ix) (ht : D.at t = some it) (hit : it.d = .str) (hx : e x = V.str s) (hix : e ix = .c (.int k n)) (hn : n = m) (hc : s[m]? = some c) : OpOk P G o e H (.c (.int .u8 c.toNat)) H [] := by
  refine OpOk.pure fun ρ S F η w hη hH => ?_
  have h1 := hη x (by simp [ho, Op.operands])
  have h2 := hη ix (by simp [ho, Op.operands])
  rw [hx] at h1
  rw [hix] at h2
  unfold execOp
  simp only [ho, h2.c_inv, h1.c_inv]
  refine ⟨_, ?_, .c _⟩
  subst hn
  have hlt : m < s.length := (List.getElem?_eq_some_iff.1 hc).1
  have hb : (⟨⟨s⟩⟩ : ByteArray)[((m : Nat) : Int).toNat]? = some c := by
    have h : (⟨⟨s⟩⟩ : ByteArray).size = s.length := rfl
    rw [Int.toNat_natCast, getElem?_pos (⟨⟨s⟩⟩ : ByteArray) m (by rw [h]; exact hlt)]
    have := (List.getElem?_eq_some_iff.1 hc).2
    rw [← this]; rfl
  simp only [Instr.index, Sem.run_bind, asIntOf, Sem.run_pure, Result.andThen_ok, run_underlying (str_ty hD ht hit), if_pos (Int.natCast_nonneg m), hb]

/-- an element of an array value, of one cell -/
theorem OpOk.indexAgg {D : Tab} (hD : TabOk P D) {o : Oper} {e : Operand → V} {H : Hp} {t el : TypeId} {x ix : Operand} {it ie : Ty} {len : Nat} {cs : List V} {k : IntKind} {n : Int} (m : Nat) {v : V}
    (ho : o.op = .index t x ix) (ht : D.at t = some it) (hit : it.d = .arr len el) (hel : D.at el = some ie) (hag : ie.d.agg = false) (hs1 : ie.size = 1) (hx : e x = .agg cs) (hix : e ix = .c (.int k n)) (hn : n = m) (hm : m < len) (hv : cs[m]? = some v) :
    OpOk P G o e H v H [] := by
  refine OpOk.pure fun ρ S F η w hη hH => ?_
  have h1 := hη x (by simp [ho, Op.operands])
  have h2 := hη ix (by simp [ho, Op.operands])
  rw [hx] at h1
  rw [hix] at h2
  obtain ⟨arr, ha, hsz, h1c, hr⟩ := h1.agg_inv
  obtain ⟨c, hc, hrv⟩ := hr m v hv
  unfold execOp
  simp only [ho, h2.c_inv, ha]
  refine ⟨c, ?_, hrv⟩
  subst hn
  have hn' : (0 : Int) ≤ (m : Int) ∧ (m : Int) < (len : Int) := by omega
  simp only [Instr.index, Sem.run_bind, asIntOf, Sem.run_pure, Result.andThen_ok, run_underlying (arr_ty hD ht hit), Sem.run_ite, if_pos hn', (hD _ _ hel).sizeOf w, hs1, Int.toNat_natCast, Nat.mul_one, run_part_one (hD _ _ hel) hag hc w]

/-! ### cuts -/
def cutOk (e : Operand → V) (len lo hi : Nat) (l h : Option Operand) : Prop :=
  lo ≤ hi ∧ hi ≤ len ∧ (match l with | some x => ∃ k, e x = .c (.int k (lo : Int)) | none => lo = 0) ∧ (match h with | some x => ∃ k, e x = .c (.int k (hi : Int)) | none => hi = len)

theorem run_sliceBounds {ρ : Nat → Option Value} {S : Nat → Prop} {w : World} {isSlice : Bool} {η : Operand → Value} {e : Operand → V} {len cap lo hi : Nat} {l h : Option Operand} (hl : ∀ x, l = some x → RV ρ S w (η x) (e x)) (hh : ∀ x, h = some x → RV ρ S w (η x) (e x))
    (hc : cutOk e len lo hi l h) (hcap : len ≤ cap) : (Instr.sliceBounds isSlice len cap (l.map η) (h.map η) none).run P w = .ok (lo, hi, cap) w := by
  obtain ⟨h1, h2, h3, h4⟩ := hc
  have b1 : ∀ (k : IntKind) (y : Nat) (c : BoundsCode) (n : Nat), n ≤ y → (Instr.sliceBound (.int k (n : Int)) y c).run P w = .ok n w := fun k y c n hn => by
    have : (0 : Int) ≤ (n : Int) ∧ (n : Int) ≤ (y : Int) := by omega
    simp only [Instr.sliceBound, Sem.run_bind, asIntOf, Sem.run_pure, Result.andThen_ok, if_pos this, Int.toNat_natCast]
  unfold Instr.sliceBounds
  cases l with
  | none =>
    simp only at h3
    subst h3
    cases h with
    | none =>
      simp only at h4
      subst h4
      simp
    | some y =>
      obtain ⟨k, hk⟩ := h4
      have hy := hh y rfl
      rw [hk] at hy
      simp [hy.c_inv, b1 k cap _ hi (by omega)]
  | some x =>
    obtain ⟨kx, hkx⟩ := h3
    have hx := hl x rfl
    rw [hkx] at hx
    cases h with
    | none =>
      simp only at h4
      subst h4
      simp [hx.c_inv, b1 kx hi _ lo h1]
    | some y =>
      obtain ⟨k, hk⟩ := h4
      have hy := hh y rfl
      rw [hk] at hy
      simp [hy.c_inv, hx.c_inv, b1 k cap _ hi (by omega), b1 kx hi _ lo h1]

theorem extract_list (s : List UInt8) (lo hi : Nat) (_h : lo ≤ hi) (_h2 : hi ≤ s.length) : (⟨⟨s⟩⟩ : ByteArray).extract lo hi = ⟨⟨(s.drop lo).take (hi - lo)⟩⟩ := by
  have h0 : (⟨⟨s⟩⟩ : ByteArray).size = s.length := rfl
  apply ByteArray.ext
  apply Array.ext'
  simp [ByteArray.data_extract]

theorem OpOk.cutStr {D : Tab} (hD : TabOk P D) {o : Oper} {e : Operand → V} {H : Hp} {t : TypeId} {x : Operand} {l h : Option Operand} {it : Ty} {s : List UInt8} (lo hi : Nat)
    (ho : o.op = .slice t x l h none) (ht : D.at t = some it) (hit : it.d = .str) (hx : e x = V.str s) (hc : cutOk e s.length lo hi l h) : OpOk P G o e H (V.str ((s.drop lo).take (hi - lo))) H [] := by
  refine OpOk.pure fun ρ S F η w hη hH => ?_
  have h1 := hη x (by simp [ho, Op.operands])
  rw [hx] at h1
  have hb := run_sliceBounds (P := P) (ρ := ρ) (S := S) (w := w) (isSlice := false) (η := η) (e := e) (l := l) (h := h) (fun y hy => hη y (by simp [ho, Op.operands, hy])) (fun y hy => hη y (by simp [ho, Op.operands, hy])) hc (Nat.le_refl _)
  refine ⟨_, ?_, .c _⟩
  unfold execOp
  simp only [ho, h1.c_inv, Instr.sliceAt, Sem.run_bind, run_underlying (str_ty hD ht hit), Result.andThen_ok, Instr.slice, Option.map_none]
  have h0 : (⟨⟨s⟩⟩ : ByteArray).size = s.length := rfl
  simp [hb, h0, extract_list s lo hi hc.1 hc.2.1]

theorem OpOk.cutSl {D : Tab} (hD : TabOk P D) {o : Oper} {e : Operand → V} {H : Hp} {t el : TypeId} {x : Operand} {l h : Option Operand} {it ie : Ty} {nn b : Bool} {rows : List (List V)} (lo hi : Nat)
    (ho : o.op = .slice t x l h none) (ht : D.at t = some it) (hit : it.d = .slice el) (hel : D.at el = some ie) (hx : e x = .sl nn b rows) (hrk : ∀ r, r ∈ rows → r.length = ie.size) (hc : cutOk e rows.length lo hi l h) :
    OpOk P G o e H (.sl nn b ((rows.drop lo).take (hi - lo))) H [] := by
  refine OpOk.pure fun ρ S F η w hη hH => ?_
  have h1 := hη x (by simp [ho, Op.operands])
  rw [hx] at h1
  have hd := h1.sl_inv
  unfold execOp
  simp only [ho, Instr.sliceAt, Sem.run_bind, run_underlying (slice_ty hD ht hit), Result.andThen_ok, Option.map_none]
  have h3 := hc.1
  have h4 := hc.2.1
  generalize hu : η x = u at *
  cases hd with
  | nils =>
    have hlo : lo = 0 := by simp at h4; omega
    have hhi : hi = 0 := by simp at h4; omega
    subst hlo hhi
    have hb := run_sliceBounds (P := P) (ρ := ρ) (S := S) (w := w) (isSlice := true) (η := η) (e := e) (l := l) (h := h) (cap := 0) (fun y hy => hη y (by simp [ho, Op.operands, hy])) (fun y hy => hη y (by simp [ho, Op.operands, hy])) hc (by simp)
    refine ⟨.slice none 0 0, ?_, .sl _ _ _ _ (.nils b)⟩
    simp only [List.length_nil] at hb
    simp [Instr.slice, run_underlying (slice_ty hD ht hit), hb, (hD _ _ hel).sizeOf w]
  | shr a cap _ _ k cs hlen hcap hk hcc hr =>
    have hb := run_sliceBounds (P := P) (ρ := ρ) (S := S) (w := w) (isSlice := true) (η := η) (e := e) (l := l) (h := h) (cap := cap) (fun y hy => hη y (by simp [ho, Op.operands, hy])) (fun y hy => hη y (by simp [ho, Op.operands, hy])) hc hcap
    refine ⟨.slice (some (if cap = lo then a else a.add (lo * ie.size))) (hi - lo) (cap - lo), ?_, ?_⟩
    · simp only [Instr.slice, Sem.run_bind, run_underlying (slice_ty hD ht hit), Result.andThen_ok, hb, (hD _ _ hel).sizeOf w, Sem.run_pure]
      split <;> rfl
    · have hl2 : ((rows.drop lo).take (hi - lo)).length = hi - lo := by simp; omega
      have hget : ∀ (i : Nat) (r : List V), ((rows.drop lo).take (hi - lo))[i]? = some r → rows[lo + i]? = some r := fun i r hi' => by
        rw [List.getElem?_take] at hi'
        split at hi'
        · rw [List.getElem?_drop] at hi'; exact hi'
        · cases hi'
      refine .sl _ _ _ _ ?_
      have key := RD.shr (S := S) (w := w) (if cap = lo then a else a.add (lo * ie.size)) (cap - lo) nn ((rows.drop lo).take (hi - lo)) k (fun i j => cs (lo + i) j) (by omega) (by omega) (fun i r h => hk _ r (hget i r h)) (fun i j r y h1 h2 => ?_) (fun i j r y h1 h2 => hr _ j r y (hget i r h1) h2)
      · rw [hl2] at key; exact key
      · have hlt : lo < rows.length := by
          have := (List.getElem?_eq_some_iff.1 (hget i r h1)).1; omega
        rw [if_neg (by omega)]
        obtain ⟨hs, hcell⟩ := hcc (lo + i) j r y (hget i r h1) h2
        have hkk : k = ie.size := by rw [← hk _ r (hget i r h1)]; exact hrk r (List.mem_of_getElem? (hget i r h1))
        refine ⟨?_, ?_⟩
        · have : (a.add (lo * ie.size)).block = a.block := by unfold Addr.add; split <;> rfl
          rw [this]; exact hs
        · rw [Addr.add_add, ← hkk, show lo * k + (i * k + j) = (lo + i) * k + j by rw [Nat.add_mul, Nat.add_assoc]]
          exact hcell

/-- a table of the program's as a slice: 'table[:]', elements of one cell -/
theorem OpOk.cutArr {D : Tab} (hD : TabOk P D) {o : Oper} {e : Operand → V} {H : Hp} {t el : TypeId} {x : Operand} {it ie : Ty} {n : Nat} {cells : List V}
    (ho : o.op = .slice t x none none none) (ht : D.at t = some it) (hit : it.d = .arr n el) (hel : D.at el = some ie) (hs1 : ie.size = 1) (hx : e x = .el cells) (hn : cells.length = n) (hmax : n ≤ maxLen) :
    OpOk P G o e H (.sl true false (cells.map fun c => [c])) H [] := by
  refine OpOk.pure fun ρ S F η w hη hH => ?_
  have h1 := hη x (by simp [ho, Op.operands])
  rw [hx] at h1
  obtain ⟨a, cs, ha, hc, hr⟩ := h1.el_inv
  unfold execOp
  simp only [ho, ha]
  refine ⟨.slice (some a) n n, ?_, .sl _ _ _ _ ?_⟩
  · have hb := run_sliceBounds (P := P) (ρ := ρ) (S := S) (w := w) (isSlice := false) (η := η) (e := e) (l := none) (h := none) (len := n) (cap := n) (lo := 0) (hi := n) (fun y hy => by cases hy) (fun y hy => by cases hy) ⟨Nat.zero_le _, Nat.le_refl _, rfl, rfl⟩ (Nat.le_refl _)
    simp only [Option.map_none] at hb
    simp [Instr.sliceAt, run_underlying (arr_ty hD ht hit), Instr.sureAddr, hb, (hD _ _ hel).sizeOf w, hs1, Addr.add]
  · have hl : (cells.map fun c => [c]).length = n := by simpa using hn
    rw [show Value.slice (some a) n n = Value.slice (some a) (cells.map fun c => [c]).length n by rw [hl]]
    refine .shr a n true _ 1 (fun i _ => cs i) (by rw [hl]; exact hmax) (by rw [hl]; exact Nat.le_refl _) (fun i r hi => ?_) (fun i j r y hi hj => ?_) (fun i j r y hi hj => ?_)
    all_goals
      rw [List.getElem?_map, Option.map_eq_some_iff] at hi
      obtain ⟨c, hci, rfl⟩ := hi
    · rfl
    · cases j with
      | zero =>
        simp at hj; subst hj
        simpa using hc i c hci
      | succ j => simp at hj
    · cases j with
      | zero => simp at hj; subst hj; exact hr i c hci
      | succ j => simp at hj

/-! ### strings -/
theorem OpOk.concat {o : Oper} {e : Operand → V} {H : Hp} {t t' : TypeId} {x y : Operand} {a b : List UInt8} (ho : o.op = .binOp .add t x y t') (hx : e x = V.str a) (hy : e y = V.str b) (hl : a.length + b.length ≤ maxLen) :
    OpOk P G o e H (V.str (a ++ b)) H [] := by
  refine OpOk.pure fun ρ S F η w hη hH => ?_
  have h1 := hη x (by simp [ho, Op.operands])
  have h2 := hη y (by simp [ho, Op.operands])
  rw [hx] at h1
  rw [hy] at h2
  refine ⟨_, ?_, .c _⟩
  unfold execOp
  simp only [ho, h1.c_inv, h2.c_inv]
  have hs : (⟨⟨a⟩⟩ : ByteArray).size = a.length := rfl
  have hs2 : (⟨⟨b⟩⟩ : ByteArray).size = b.length := rfl
  have happ : (⟨⟨a⟩⟩ : ByteArray) ++ ⟨⟨b⟩⟩ = ⟨⟨a ++ b⟩⟩ := by
    apply ByteArray.ext
    apply Array.ext'
    simp
  have hle : ¬ ((((a.length + b.length : Nat) : Int)) > IntKind.i64.max) := by
    simp only [IntKind.max_i64]
    simp only [maxLen] at hl
    omega
  simp only [Sem.run_bind, eqGuard_at_string, Sem.run_pure, Result.andThen_ok, binOp, Op.stringOp, hs, hs2, if_neg hle, happ]

end
end Go.Av

namespace Go.Av

section
variable {P : Program} {G : Nat → Option (List V)}

/-- a cell as data: an own slice goes in whole -/
def absV (H : Hp) : V → Option (V × List Nat)
  | .c (.slice none 0 0) => some (.sl false true [], [])
  | .c u => if u.oneCell' then some (.c u, []) else none
  | .sl nn b rows => some (.sl nn b rows, [])
  | .own j => match look H j with
    | some (.vec nn e _ rows) => if e.hard then some (.sl nn true rows, [j]) else none
    | _ => none
  | _ => none

def absL (H : Hp) : List V → Option (List V × List Nat)
  | [] => some ([], [])
  | x :: l => (absV H x).bind fun p => (absL H l).map fun r => (p.1 :: r.1, p.2 ++ r.2)

theorem absV_sound {ρ : Nat → Option Value} {S : Nat → Prop} {F : Nat → List Nat} {H : Hp} {w : World} (hH : HRel ρ S F H w) {x y : V} {C : List Nat} (h : absV H x = some (y, C)) {v : Value} (hv : RV ρ S w v x) :
    ∃ Fx, RD S w v y Fx ∧ Fx = C.flatMap F ∧ Fx.Nodup ∧ ∀ c, c ∈ C → ∃ o, look H c = some o := by
  cases x with
  | c u =>
    unfold absV at h
    split at h
    · rename_i hu
      cases hu
      cases h
      rw [hv.c_inv]
      exact ⟨[], .nils true, rfl, List.nodup_nil, fun c hc => by cases hc⟩
    · rename_i u' _ hu
      cases hu
      split at h
      · cases h; rw [hv.c_inv]; exact ⟨[], .c _ ‹_›, rfl, List.nodup_nil, fun c hc => by cases hc⟩
      · cases h
    all_goals first | (cases h; done) | (rename_i hu; cases hu; done)
  | sl nn b rows =>
    cases h
    exact ⟨[], hv.sl_inv, rfl, List.nodup_nil, fun c hc => by cases hc⟩
  | own j =>
    simp only [absV] at h
    split at h
    · rename_i nn e k rows hl
      split at h
      · rename_i hh
        cases h
        obtain ⟨r, hr, hob⟩ := hH.obj j _ hl
        rw [hv.own_inv r hr]
        exact ⟨F j, hob.toRD hh, by simp, hH.nodup j _ hl, fun c hc => by simp at hc; subst hc; exact ⟨_, hl⟩⟩
      · cases h
    · cases h
  | _ => cases h

theorem absL_sound {ρ : Nat → Option Value} {S : Nat → Prop} {F : Nat → List Nat} {H : Hp} {w : World} (hH : HRel ρ S F H w) : ∀ (l : List V) {ys : List V} {C : List Nat}, absL H l = some (ys, C) →
    ys.length = l.length ∧ (∀ c, c ∈ C → ∃ o, look H c = some o) ∧ ∃ Cs : Nat → List Nat, C = (List.range l.length).flatMap Cs ∧
      ∀ (p : Nat) (y : V), ys[p]? = some y → ∃ x, l[p]? = some x ∧ absV H x = some (y, Cs p)
  | [], ys, C, h => by simp only [absL, Option.some.injEq, Prod.mk.injEq] at h; obtain ⟨rfl, rfl⟩ := h; exact ⟨rfl, fun c hc => (by cases hc), fun _ => [], rfl, fun p y hp => (by simp at hp)⟩
  | x :: l, ys, C, h => by
    simp only [absL, Option.bind_eq_some_iff, Option.map_eq_some_iff] at h
    obtain ⟨⟨y, C1⟩, h1, ⟨ys', C2⟩, h2, h3⟩ := h
    cases h3
    obtain ⟨e1, e2, Cs, e3, e4⟩ := absL_sound hH l h2
    refine ⟨by simp [e1], fun c hc => ?_, fun p => match p with | 0 => C1 | p + 1 => Cs p, ?_, fun p z hp => ?_⟩
    · rcases List.mem_append.1 hc with hc | hc
      · cases x with
        | own j =>
          simp only [absV] at h1
          split at h1
          · split at h1
            · cases h1; simp at hc; subst hc; exact ⟨_, ‹_›⟩
            · cases h1
          · cases h1
        | c u =>
          unfold absV at h1
          split at h1
          · cases h1; cases hc
          · split at h1 <;> cases h1; cases hc
          all_goals first | (cases h1; done) | (rename_i hu; cases hu; done)
        | sl nn b rows => cases h1; cases hc
        | _ => cases h1
      · exact e2 c hc
    · simp only [List.length_cons, List.range_succ_eq_map, List.flatMap_cons, List.flatMap_map]
      rw [e3]
    · cases p with
      | zero => simp at hp; subst hp; exact ⟨x, by simp, h1⟩
      | succ p => simp only [List.getElem?_cons_succ] at hp ⊢; exact e4 p z hp

/-- rows out of a row of cells -/
def chunk (n k : Nat) (l : List V) : List (List V) := (List.range n).map fun i => (l.drop (i * k)).take k

theorem chunk_get {n k : Nat} {l : List V} (hl : l.length = n * k) {i : Nat} {r : List V} (h : (chunk n k l)[i]? = some r) : i < n ∧ r.length = k ∧ ∀ (j : Nat) (y : V), r[j]? = some y → j < k ∧ l[i * k + j]? = some y := by
  unfold chunk at h
  rw [List.getElem?_map, Option.map_eq_some_iff] at h
  obtain ⟨i', hi', rfl⟩ := h
  obtain ⟨h1, h2⟩ := List.getElem?_eq_some_iff.1 hi'
  simp at h1 h2
  subst h2
  have hle : (i + 1) * k ≤ n * k := Nat.mul_le_mul_right k h1
  rw [Nat.add_mul] at hle
  refine ⟨h1, by simp; omega, fun j y hy => ?_⟩
  rw [List.getElem?_take] at hy
  split at hy
  · rw [List.getElem?_drop] at hy; exact ⟨‹_›, hy⟩
  · cases hy

theorem flat_flatMap (n k : Nat) (Cs : Nat → List Nat) (F : Nat → List Nat) : flat n k (fun i j => (Cs (i * k + j)).flatMap F) = ((List.range (n * k)).flatMap Cs).flatMap F := by
  induction n with
  | zero => simp [flat]
  | succ n ih =>
    have h1 : flat (n + 1) k (fun i j => (Cs (i * k + j)).flatMap F) = flat n k (fun i j => (Cs (i * k + j)).flatMap F) ++ (List.range k).flatMap fun j => (Cs (n * k + j)).flatMap F := by
      unfold flat; rw [List.range_succ, List.flatMap_append]; simp
    rw [h1, ih, Nat.add_mul, Nat.one_mul, List.range_add, List.flatMap_append, List.flatMap_append]
    congr 1
    rw [List.flatMap_map, List.flatMap_assoc]

theorem nodup_flatMap_of {C : List Nat} {F : Nat → List Nat} (hC : C.Nodup) (h1 : ∀ c, c ∈ C → (F c).Nodup) (h2 : ∀ c c' b, c ∈ C → c' ∈ C → c ≠ c' → b ∈ F c → b ∈ F c' → False) : (C.flatMap F).Nodup := by
  induction C with
  | nil => simp
  | cons c C ih =>
    rw [List.nodup_cons] at hC
    rw [List.flatMap_cons, List.nodup_append]
    refine ⟨h1 c (by simp), ih hC.2 (fun c' h => h1 c' (by simp [h])) (fun a b d ha hb => h2 a b d (by simp [ha]) (by simp [hb])), fun a ha b hb e => ?_⟩
    subst e
    obtain ⟨c', hc', hb'⟩ := List.mem_flatMap.1 hb
    exact h2 c c' a (by simp) (by simp [hc']) (fun e => hC.1 (e ▸ hc')) ha hb'

/-- a new row of cells, out of values that are data (own slices go in whole) -/
theorem Post.newRow {ρ : Nat → Option Value} {S : Nat → Prop} {F : Nat → List Nat} {H : Hp} {w : World} (hH : HRel ρ S F H w) {q : Nat} (hq : hasH q H = false) {ety : TypeId} {n k : Nat} {cells ys : List V} {C : List Nat} {arr : Array Value}
    (hc : Cells ρ S w arr cells) (hl : cells.length = n * k) (ha : absL H cells = some (ys, C)) (hC : C.Nodup) (hn : n ≤ maxLen) :
    Post ρ S F H w (.own q) ((q, .vec true ety k (chunk n k ys)) :: hrem C H) [q] (.slice (some ⟨w.heap.size, 0, none⟩) n n) (w.alloc (.cells arr ety)) := by
  obtain ⟨hyl, hlive, Cs, hCs, hget⟩ := absL_sound hH cells ha
  have hys : ys.length = n * k := hyl.trans hl
  rw [hl] at hCs
  have hndC : (C.flatMap F).Nodup := nodup_flatMap_of hC (fun c hc => by obtain ⟨o, ho⟩ := hlive c hc; exact hH.nodup c o ho) (fun c c' b hc hc' hne hb hb' => by
    obtain ⟨o, ho⟩ := hlive c hc
    obtain ⟨o', ho'⟩ := hlive c' hc'
    exact hH.disj c c' o o' b ho ho' hne hb hb')
  have hold : ∀ b, b < w.heap.size → (w.alloc (.cells arr ety)).heap[b]? = w.heap[b]? := fun b hb => heap_new w _ b hb
  have hk : Keeps S w S (w.alloc (.cells arr ety)) := fun b hb => ⟨hb, hold b (hH.slt b hb)⟩
  have hltC : ∀ b, b ∈ C.flatMap F → b < w.heap.size := fun b hb => by
    obtain ⟨c, hc, hbc⟩ := List.mem_flatMap.1 hb
    obtain ⟨o, ho⟩ := hlive c hc
    exact hH.lt c o b ho hbc
  have hcl : (chunk n k ys).length = n := by simp [chunk]
  have hflat : flat n k (fun i j => (Cs (i * k + j)).flatMap F) = C.flatMap F := by rw [flat_flatMap, hCs]
  refine Post.repl hH C hq (w' := w.alloc (.cells arr ety)) (root := .slice (some ⟨w.heap.size, 0, none⟩) n n) (Fi := w.heap.size :: flat n k (fun i j => (Cs (i * k + j)).flatMap F)) rfl rfl rfl (by simp) (fun b hb _ => hold b hb) (fun ρ' => ?_) ?_ (fun b hb => ?_) (.own _ q fun r hr => ?_)
  · have h0 : Value.slice (some ⟨w.heap.size, 0, none⟩) n n = Value.slice (some ⟨w.heap.size, 0, none⟩) (chunk n k ys).length n := by rw [hcl]
    rw [h0, show flat n k (fun i j => (Cs (i * k + j)).flatMap F) = flat (chunk n k ys).length k (fun i j => (Cs (i * k + j)).flatMap F) by rw [hcl]]
    have cell : ∀ (i j : Nat) (r : List V) (y : V), (chunk n k ys)[i]? = some r → r[j]? = some y → ∃ c, arr[i * k + j]? = some c ∧ RD S (w.alloc (.cells arr ety)) c y ((Cs (i * k + j)).flatMap F) := fun i j r y h1 h2 => by
      obtain ⟨_, _, h3⟩ := chunk_get hys h1
      obtain ⟨_, h4⟩ := h3 j y h2
      obtain ⟨x, hx, hax⟩ := hget _ y h4
      obtain ⟨c, hc1, hc2⟩ := hc.2.2 _ x hx
      obtain ⟨Fx, hd, rfl, _, hl'⟩ := absV_sound hH hax hc2
      refine ⟨c, hc1, hd.mono hk fun b hb => hold b (hltC b ?_)⟩
      obtain ⟨c', hc', hb'⟩ := List.mem_flatMap.1 hb
      refine List.mem_flatMap.2 ⟨c', ?_, hb'⟩
      rw [hCs]
      have hlt : i * k + j < n * k := by rw [← hys]; exact (List.getElem?_eq_some_iff.1 h4).1
      exact List.mem_flatMap.2 ⟨_, List.mem_range.2 hlt, hc'⟩
    refine .vec w.heap.size n arr true ety k (chunk n k ys) (fun i j => arr.getD (i * k + j) undef) (fun i j => (Cs (i * k + j)).flatMap F) (heap_alloc_new w _) (by rw [hcl]; exact Nat.le_refl _) hn (by rw [hc.1, hl]) (fun i r h => (chunk_get hys h).2.1) (fun i j r y h1 h2 => ?_) (fun i j r y h1 h2 => ?_) ⟨rfl, fun h0 => .inr (by rw [hcl] at h0; exact h0)⟩
    · obtain ⟨c, hc1, _⟩ := cell i j r y h1 h2
      simp [Array.getD_eq_getD_getElem?, hc1]
    · obtain ⟨c, hc1, hd⟩ := cell i j r y h1 h2
      have : arr.getD (i * k + j) undef = c := by simp [Array.getD_eq_getD_getElem?, hc1]
      rw [this]; exact hd
  · rw [hflat, List.nodup_cons]
    exact ⟨fun h => by have := hltC _ h; omega, hndC⟩
  · rw [hflat] at hb
    rcases List.mem_cons.1 hb with rfl | hb
    · exact .inr ⟨Nat.le_refl _, by simp⟩
    · obtain ⟨c, hc, hbc⟩ := List.mem_flatMap.1 hb
      obtain ⟨o, ho⟩ := hlive c hc
      exact .inl ⟨c, o, hc, ho, hbc⟩
  · simp at hr; exact hr

/-- a slice literal -/
theorem OpOk.buildSlice {D : Tab} (hD : TabOk P D) {o : Oper} {e : Operand → V} {H : Hp} {t el : TypeId} {n : Nat} {parts : Array (Nat × Operand)} {it ie : Ty} (q : Nat) {cells ys : List V} {C : List Nat}
    (ho : o.op = .buildSlice t n parts) (ht : D.at t = some it) (hit : it.d = .slice el) (hel : D.at el = some ie) (hs0 : ie.size ≠ 0) (hsmall : n * ie.size ≤ 16777216)
    (hf : fillV H (fun i => some (i * ie.size, ie.size)) ((List.replicate n (ie.zero.map .c)).flatten) (parts.toList.map fun p => (p.1, e p.2)) = some cells) (hl : cells.length = n * ie.size) (ha : absL H cells = some (ys, C)) (hC : C.Nodup) (hq : hasH q H = false) :
    OpOk P G o e H (.own q) ((q, .vec true el ie.size (chunk n ie.size ys)) :: hrem C H) [q] := by
  intro ρ S F η w hη hH hG
  obtain ⟨⟨inf, z0, e1, e2, e3, e4, e5, e6, e7⟩, _, _⟩ := hD _ _ hel
  have hz : (zeroValue el).run P w = .ok z0 w := by simp [Go.zeroValue, typeInfo, e1, e4]
  have hzs : z0.cells.size = ie.size := by rw [← Array.length_toList, e5, e7]
  have hzget : ∀ (n p : Nat), p < n * ie.size → ((List.replicate n (ie.zero.map V.c)).flatten)[p]? = (ie.zero.map V.c)[p % ie.size]? := by
    intro n
    induction n with
    | zero => intro p hp; simp at hp
    | succ n ih =>
      intro p hp
      rw [List.replicate_succ, List.flatten_cons]
      have hlen : (ie.zero.map V.c).length = ie.size := by simp [e7]
      by_cases hlt : p < ie.size
      · rw [List.getElem?_append_left (by omega), Nat.mod_eq_of_lt hlt]
      · rw [List.getElem?_append_right (by omega), hlen, ih (p - ie.size) (by rw [Nat.add_mul] at hp; omega), ← Nat.mod_eq_sub_mod (by omega)]
  have hz0 : Cells ρ S w ((Array.range (n * ie.size)).map (z0.cells[· % z0.cells.size]!)) ((List.replicate n (ie.zero.map .c)).flatten) := by
    refine ⟨by simp [e7], fun j c hj => ?_, fun j x hj => ?_⟩
    · rw [Array.getElem?_map, Option.map_eq_some_iff] at hj
      obtain ⟨p, hp, rfl⟩ := hj
      refine List.all_eq_true.1 e6 _ ?_
      rw [← e5, hzs]
      have : p % ie.size < z0.cells.size := by rw [hzs]; exact Nat.mod_lt _ (by omega)
      rw [getElem!_pos z0.cells _ this]
      simp
    · have hlt : j < n * ie.size := by have := (List.getElem?_eq_some_iff.1 hj).1; simpa [e7] using this
      rw [hzget n j hlt, List.getElem?_map, Option.map_eq_some_iff] at hj
      obtain ⟨u, hu, rfl⟩ := hj
      refine ⟨u, ?_, .c u⟩
      rw [← e5] at hu
      have hlt2 : j % ie.size < z0.cells.size := by rw [hzs]; exact Nat.mod_lt _ (by omega)
      rw [Array.getElem?_map, Array.getElem?_range, if_pos hlt]
      simp only [Option.map_some, hzs]
      rw [getElem!_pos z0.cells _ hlt2]
      have := (List.getElem?_eq_some_iff.1 hu).2
      simpa using this
  obtain ⟨arr, hfill, hcells⟩ := fillV_sound hH η e parts.toList (fun p hp => hη p.2 (by simp [ho, Op.operands]; exact ⟨p.1, by simpa using hp⟩)) hz0 hf
  have hmap : (parts.map fun (i, x) => (i, η x)).toList = parts.toList.map fun p => (p.1, η p.2) := by simp
  have hn : n ≤ maxLen := by
    have : n * 1 ≤ n * ie.size := Nat.mul_le_mul_left n (by omega)
    simp only [maxLen]; omega
  have hrun : (execOp η o).run P w = .ok (.value (.slice (some ⟨w.heap.size, 0, none⟩) n n)) (w.alloc (.cells arr el)) := by
    unfold execOp
    have h24 : ¬ (n * ie.size > 2 ^ 24) := by omega
    simp only [ho, Instr.buildSlice, Sem.run_bind, run_underlying (slice_ty hD ht hit), Result.andThen_ok, (hD _ _ hel).sizeOf w, if_neg h24, Sem.run_pure]
    by_cases h0 : n * ie.size = 0
    · have hn0 : n = 0 := by
        rcases Nat.mul_eq_zero.1 h0 with h | h
        · exact h
        · exact absurd h hs0
      subst hn0
      have hz1 : (Array.range (0 * ie.size)).map (z0.cells[· % z0.cells.size]!) = #[] := by simp
      rw [hz1] at hfill
      rw [← hmap] at hfill
      have hz2 : (Array.range 0).map ((#[] : Array Value)[· % (#[] : Array Value).size]!) = #[] := by simp
      simp only [Nat.zero_mul, if_true, Sem.run_bind, Sem.run_pure, Result.andThen_ok]
      rw [hz2, hfill]
      rfl
    · rw [← hmap] at hfill
      simp only [if_neg h0, Sem.run_bind, hz, Result.andThen_ok, Sem.run_pure, hfill]
      rfl
  unfold ExecTo
  rw [hrun]
  exact Post.newRow hH hq hcells hl ha hC hn

end
end Go.Av

