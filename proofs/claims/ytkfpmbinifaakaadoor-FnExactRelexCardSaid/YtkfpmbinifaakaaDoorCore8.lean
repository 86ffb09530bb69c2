/-
  Core8: structs and arrays built; one theorem for all operations that only compute or read.
-/
import Derived.Test.YtkfpmbinifaakaaDoorCore7
namespace Go.Av

section
variable {P : Program} {G : Nat → Option (List V)}

/-- an array of cells reads as a list -/
def Cells (ρ : Nat → Option Value) (S : Nat → Prop) (w : World) (arr : Array Value) (cs : List V) : Prop :=
  arr.size = cs.length ∧ (∀ (j : Nat) (c : Value), arr[j]? = some c → c.oneCell' = true) ∧ ∀ (j : Nat) (x : V), cs[j]? = some x → ∃ c, arr[j]? = some c ∧ RV ρ S w c x

theorem put_get (vs : List Value) : ∀ (off k : Nat) (arr : Array Value) (p : Nat), k + vs.length + off ≤ arr.size →
    ((vs.zipIdx k).foldl (fun (cs : Array Value) (p : Value × Nat) => cs.setIfInBounds (off + p.2) p.1) arr)[p]? = if off + k ≤ p ∧ p < off + k + vs.length then vs[p - (off + k)]? else arr[p]? := by
  induction vs with
  | nil => intro off k arr p h; simp; omega
  | cons v vs ih =>
    intro off k arr p h
    simp only [List.length_cons] at h ⊢
    simp only [List.zipIdx_cons, List.foldl_cons]
    rw [ih off (k + 1) _ p (by simp; omega), Array.getElem?_setIfInBounds]
    by_cases c1 : off + (k + 1) ≤ p ∧ p < off + (k + 1) + vs.length
    · rw [if_pos c1, if_pos (by omega), show p - (off + k) = (p - (off + (k + 1))) + 1 by omega, List.getElem?_cons_succ]
    · rw [if_neg c1]
      by_cases c2 : off + k = p
      · rw [if_pos c2, if_pos (by omega), if_pos (by omega), show p - (off + k) = 0 by omega]; rfl
      · rw [if_neg c2, if_neg (by omega)]

theorem splice_get {α : Type} (xs ys : List α) (off p : Nat) (h : off + ys.length ≤ xs.length) :
    (xs.take off ++ ys ++ xs.drop (off + ys.length))[p]? = if off ≤ p ∧ p < off + ys.length then ys[p - off]? else xs[p]? := by
  have lt1 : (xs.take off).length = off := by rw [List.length_take]; omega
  rw [List.append_assoc]
  by_cases c1 : p < off
  · rw [List.getElem?_append_left (by omega), List.getElem?_take, if_pos c1, if_neg (by omega)]
  · rw [List.getElem?_append_right (by omega), lt1]
    by_cases c2 : p < off + ys.length
    · rw [List.getElem?_append_left (by omega), if_pos (by omega)]
    · rw [List.getElem?_append_right (by omega), List.getElem?_drop, if_neg (by omega)]
      congr 1; omega

/-- some cells put over others -/
theorem Cells.over {ρ : Nat → Option Value} {S : Nat → Prop} {w : World} {arr vs out : Array Value} {cs ys : List V} {off : Nat} (h : Cells ρ S w arr cs) (k : Cells ρ S w vs ys) (hf : off + ys.length ≤ cs.length)
    (hsz : out.size = arr.size) (hout : ∀ p, out[p]? = if off ≤ p ∧ p < off + ys.length then vs[p - off]? else arr[p]?) : Cells ρ S w out (cs.take off ++ ys ++ cs.drop (off + ys.length)) := by
  refine ⟨?_, fun j c hj => ?_, fun j x hj => ?_⟩
  · rw [hsz, h.1]
    simp only [List.length_append, List.length_take, List.length_drop]
    omega
  · rw [hout] at hj
    split at hj
    · exact k.2.1 _ c hj
    · exact h.2.1 _ c hj
  · rw [splice_get cs ys off j hf] at hj
    rw [hout]
    split at hj
    · rw [if_pos ‹_›]; exact k.2.2 _ x hj
    · rw [if_neg ‹_›]; exact h.2.2 _ x hj

theorem fillV_sound {ρ : Nat → Option Value} {S : Nat → Prop} {F : Nat → List Nat} {H : Hp} {w : World} (hH : HRel ρ S F H w) {place : Nat → Option (Nat × Nat)} (η : Operand → Value) (e : Operand → V) :
    ∀ (parts : List (Nat × Operand)) {cells out : List V} {arr : Array Value}, (∀ p, p ∈ parts → RV ρ S w (η p.2) (e p.2)) → Cells ρ S w arr cells →
      fillV H place cells (parts.map fun p => (p.1, e p.2)) = some out → ∃ arr', Instr.fill place arr (parts.map fun p => (p.1, η p.2)) = some arr' ∧ Cells ρ S w arr' out := by
  intro parts
  induction parts with
  | nil => intro cells out arr _ hc h; simp [fillV] at h; subst h; exact ⟨arr, rfl, hc⟩
  | cons p parts ih =>
    intro cells out arr hp hc h
    simp only [List.map_cons, fillV] at h
    split at h
    · rename_i off size cs h1 h2
      split at h
      · cases h
      · rename_i hn
        have hv := (hp p (by simp)).cells hH h2
        have hsz : cs.length = size ∧ off + size ≤ cells.length := by omega
        obtain ⟨rfl, hle⟩ := hsz
        have hcs : Cells ρ S w (η p.2).cells cs := hv
        have hstep : Cells ρ S w ((η p.2).cells.zipIdx.foldl (fun cs (c, j) => cs.setIfInBounds (off + j) c) arr) (cells.take off ++ cs ++ cells.drop (off + cs.length)) := by
          have h1 := hv.1
          have h2 := hc.1
          have hput := fun q => put_get (η p.2).cells.toList off 0 arr q (by simp; omega)
          have heq : ((η p.2).cells.zipIdx.foldl (fun cs (c, j) => cs.setIfInBounds (off + j) c) arr) = ((η p.2).cells.toList.zipIdx 0).foldl (fun (cs : Array Value) (p : Value × Nat) => cs.setIfInBounds (off + p.2) p.1) arr := by
            rw [← Array.foldl_toList]; simp
          rw [heq]
          refine Cells.over hc hcs hle ?_ fun q => ?_
          · generalize hz : (η p.2).cells.toList.zipIdx 0 = zs
            clear hz hput heq hcs h1 h2 hc
            induction zs generalizing arr with
            | nil => rfl
            | cons z zs ih => simp only [List.foldl_cons]; rw [ih]; simp
          · rw [hput]
            simp only [Nat.add_zero, Array.length_toList, h1, Array.getElem?_toList]
        obtain ⟨arr', ha, hc'⟩ := ih (fun q hq => hp q (List.mem_cons_of_mem _ hq)) hstep h
        refine ⟨arr', ?_, hc'⟩
        simp only [List.map_cons, Instr.fill, h1]
        rw [if_neg (by have := hv.1; have := hc.1; simp; omega)]
        exact ha
    · cases h

theorem run_placesV {D : Tab} (hD : TabOk P D) {w : World} : ∀ (fields : List Field) {places : List (Nat × Nat)}, placesV D (fields.map fun f => (f.offset, f.type)) = some places →
    (fields.mapM fun f => (do pure (f.offset, ← sizeOf f.type) : Sem (Nat × Nat))).run P w = .ok places w := by
  intro fields
  induction fields with
  | nil => intro places h; simp [placesV] at h; subst h; rfl
  | cons f fields ih =>
    intro places h
    simp only [List.map_cons, placesV, Option.bind_eq_some_iff, Option.map_eq_some_iff, sizeV] at h
    obtain ⟨s, ⟨i, hi, rfl⟩, r, hr, rfl⟩ := h
    simp only [List.mapM_cons, Sem.run_bind, (hD _ _ hi).sizeOf w, Result.andThen_ok, Sem.run_pure, ih hr]

theorem buildV_sound {D : Tab} (hD : TabOk P D) {ρ : Nat → Option Value} {S : Nat → Prop} {F : Nat → List Nat} {H : Hp} {w : World} (hH : HRel ρ S F H w) {t : TypeId} {parts : Array (Nat × Operand)} {η : Operand → Value} {e : Operand → V}
    (hp : ∀ p, p ∈ parts.toList → RV ρ S w (η p.2) (e p.2)) {v : V} (h : buildV D H t (parts.toList.map fun p => (p.1, e p.2)) = some v) :
    ∃ x, (Instr.build t (parts.map fun (i, x) => (i, η x))).run P w = .ok x w ∧ RV ρ S w x v := by
  unfold buildV at h
  split at h
  · rename_i i hty
    have ty := hD _ _ hty
    obtain ⟨z, hz, hzc, hz1⟩ := ty.zeroValue w
    obtain ⟨_, ⟨d, u1, u2⟩, _⟩ := ty
    have hz0 : Cells ρ S w z.cells (i.zero.map .c) := by
      refine ⟨by simp [← hzc], fun j c hj => ?_, fun j x hj => ?_⟩
      · refine List.all_eq_true.1 hz1 c ?_
        rw [← hzc]
        exact List.mem_of_getElem? (by simpa using hj)
      · rw [← hzc, List.getElem?_map, Option.map_eq_some_iff] at hj
        obtain ⟨c, hc, rfl⟩ := hj
        exact ⟨c, by simpa using hc, .c c⟩
    have hmap : (parts.map fun (i, x) => (i, η x)).toList = parts.toList.map fun p => (p.1, η p.2) := by simp
    have fin : ∀ {place : Nat → Option (Nat × Nat)} {out : List V}, fillV H place (i.zero.map .c) (parts.toList.map fun p => (p.1, e p.2)) = some out →
        ∃ arr, Instr.fill place z.cells (parts.map fun (i, x) => (i, η x)).toList = some arr ∧ RV ρ S w (.agg arr) (.agg out) := by
      intro place out ho
      obtain ⟨arr, ha, hc⟩ := fillV_sound hH η e parts.toList hp hz0 ho
      refine ⟨arr, by rw [hmap]; exact ha, .agg arr out hc.1 hc.2.1 fun j x c hx hj => ?_⟩
      obtain ⟨c', h1, h2⟩ := hc.2.2 j x hx
      rw [hj] at h1; cases h1; exact h2
    split at h
    · rename_i fs hd
      rw [hd] at u2
      obtain ⟨fields, rfl⟩ : ∃ fields, d = .struct fields := by cases d <;> simp_all [TD.is]
      simp only [TD.is] at u2
      simp only [Option.bind_eq_some_iff, Option.map_eq_some_iff] at h
      obtain ⟨places, hpl, out, ho, rfl⟩ := h
      rw [← u2] at hpl
      obtain ⟨arr, ha, hr⟩ := fin ho
      refine ⟨.agg arr, ?_, hr⟩
      have hm : (fields.mapM fun f => (do pure (f.offset, ← sizeOf f.type) : Sem (Nat × Nat))).run P w = .ok places.toArray w := by
        have := run_placesV hD (w := w) fields.toList hpl
        rw [Array.mapM_eq_mapM_toList]
        simp only [Sem.run_map, this, Result.andThen_ok]
      simp only [Instr.build, Sem.run_bind, hz, Result.andThen_ok, run_underlying u1, hm]
      have hpe : (fun j : Nat => places.toArray[j]?) = fun j : Nat => places[j]? := by funext j; simp
      rw [hpe, ha]
      rfl
    · rename_i n el hd
      rw [hd] at u2
      obtain ⟨n', el', rfl⟩ : ∃ n' el', d = .array n' el' := by cases d <;> simp_all [TD.is]
      simp only [TD.is] at u2
      obtain ⟨rfl, rfl⟩ := u2
      split at h
      · rename_i s hs
        rw [Option.map_eq_some_iff] at h
        obtain ⟨out, ho, rfl⟩ := h
        simp only [sizeV, Option.map_eq_some_iff] at hs
        obtain ⟨ie, hie, rfl⟩ := hs
        obtain ⟨arr, ha, hr⟩ := fin ho
        refine ⟨.agg arr, ?_, hr⟩
        simp only [Instr.build, Sem.run_bind, hz, Result.andThen_ok, run_underlying u1, (hD _ _ hie).sizeOf w]
        rw [ha]
        rfl
      · cases h
    · cases h
  · cases h

theorem stepV_sound {D : Tab} (hD : TabOk P D) {o : Oper} {e : Operand → V} {H : Hp} {v : V} (h : stepV D H e o.op = some v) : OpOk P G o e H v H [] := by
  refine OpOk.pure fun ρ S F η w hη hH => ?_
  unfold execOp
  generalize o.op = op at *
  cases op with
  | move x => simp only [stepV, Option.some.injEq] at h; subst h; exact ⟨_, rfl, hη x (by simp [Op.operands])⟩
  | assign x => simp only [stepV, Option.some.injEq] at h; subst h; exact ⟨_, rfl, hη x (by simp [Op.operands])⟩
  | pick c a b =>
    dsimp only
    have h1 := hη c (by simp [Op.operands])
    have h2 := hη a (by simp [Op.operands])
    have h3 := hη b (by simp [Op.operands])
    simp only [stepV] at h
    split at h
    · rename_i t ht
      rw [ht] at h1
      have hc := h1.c_inv
      refine ⟨if t then η a else η b, by simp [hc, asBool], ?_⟩
      split at h
      · rename_i x y ha hb
        rw [ha] at h2; rw [hb] at h3
        rw [h2.c_inv, h3.c_inv]
        cases h
        cases t <;> exact .c _
      · cases h
        cases t
        · simpa using h3
        · simpa using h2
    · cases h
  | nilCheck x =>
    dsimp only
    have h1 := hη x (by simp [Op.operands])
    simp only [stepV] at h
    split at h
    · rename_i i o hx
      rw [hx] at h1
      cases hl : live H i with
      | false => rw [hl] at h; cases h
      | true =>
        rw [hl] at h; cases h
        obtain ⟨r, hr, _⟩ := hH.root hl
        obtain ⟨g, _, e2⟩ := h1.loc_inv r hr
        rw [e2] at h1 ⊢
        exact ⟨_, rfl, h1⟩
    · rename_i i k a b hx
      rw [hx] at h1
      cases hl : live H i with
      | false => rw [hl] at h; cases h
      | true =>
        rw [hl] at h; cases h
        obtain ⟨r, hr, _⟩ := hH.root hl
        obtain ⟨g, n, cap, _, e2⟩ := h1.vp_inv r hr
        rw [e2] at h1 ⊢
        exact ⟨_, rfl, h1⟩
    · rename_i cs hx
      cases h
      rw [hx] at h1
      generalize η x = u at *
      cases h1 with
      | el a _ cc h1 h2 => exact ⟨_, rfl, .el a cs cc h1 h2⟩
    · rename_i f cs hx
      cases h
      rw [hx] at h1
      generalize η x = u at *
      cases h1 with
      | fn _ arr _ h1 h2 => exact ⟨_, rfl, .fn f arr cs h1 h2⟩
    · cases h
  | binOp op t x y t' =>
    dsimp only
    simp only [stepV] at h
    obtain ⟨r, hr, rfl⟩ := binV_sound hD h (x := x) (y := y) (hη x (by simp [Op.operands])) (hη y (by simp [Op.operands]))
    refine ⟨r, ?_, .c r⟩
    simp only [Sem.run_bind] at hr ⊢
    rw [hr]; rfl
  | unOp op t x =>
    dsimp only
    have h1 := hη x (by simp [Op.operands])
    cases op <;> first
      | (simp only [stepV, reduceCtorEq] at h; done)
      | (simp only [stepV] at h
         split at h
         · rename_i hx
           cases h
           rw [hx] at h1
           rw [h1.c_inv]
           exact ⟨_, rfl, .c _⟩
         · cases h)
  | convert s d x =>
    dsimp only
    have h1 := hη x (by simp [Op.operands])
    simp only [stepV] at h
    split at h
    · rename_i i j k n hs hd hx
      rw [hx] at h1
      split at h
      · rename_i k' hk
        cases h
        obtain ⟨_, ⟨ds, s1, _⟩, _⟩ := hD _ _ hs
        obtain ⟨_, ⟨dd, d1, d2⟩, _⟩ := hD _ _ hd
        rw [hk] at d2
        have : dd = .int k' := by cases dd <;> simp_all [TD.is]
        subst this
        rw [h1.c_inv]
        refine ⟨_, ?_, .c _⟩
        simp [convert, run_underlying s1, run_underlying d1, Conv.intToInt]
      · cases h
    · cases h
  | fieldAddr s x f =>
    dsimp only
    have h1 := hη x (by simp [Op.operands])
    simp only [stepV] at h
    split at h
    · rename_i i hty
      split at h
      · rename_i fs hd
        split at h
        · rename_i o ft hf
          split at h
          · rename_i m hs
            obtain ⟨_, ⟨d, u1, u2⟩, _⟩ := hD _ _ hty
            rw [hd] at u2
            obtain ⟨fields, rfl⟩ : ∃ fields, d = .struct fields := by cases d <;> simp_all [TD.is]
            simp only [TD.is] at u2
            rw [← u2, List.getElem?_map, Option.map_eq_some_iff] at hf
            obtain ⟨fl, hfl, he⟩ := hf
            cases he
            simp only [sizeV, Option.map_eq_some_iff] at hs
            obtain ⟨ie, hie, hsz⟩ := hs
            obtain ⟨a, ha, hv⟩ := ptrAdd_sound h hH h1
            refine ⟨_, ?_, hv⟩
            have hfl' : fields[f]? = some fl := by simpa using hfl
            simp [Instr.fieldAt, run_underlying u1, hfl', ha, Instr.sureAddr, fieldPlace, (hD _ _ hie).sizeOf w, hsz]
          · cases h
        · cases h
      · cases h
    · cases h
  | field s x f =>
    dsimp only
    have h1 := hη x (by simp [Op.operands])
    simp only [stepV] at h
    split at h
    · rename_i i cs hty hx
      split at h
      · rename_i fs hd
        split at h
        · rename_i o ft hf
          obtain ⟨_, ⟨d, u1, u2⟩, _⟩ := hD _ _ hty
          rw [hd] at u2
          obtain ⟨fields, rfl⟩ : ∃ fields, d = .struct fields := by cases d <;> simp_all [TD.is]
          simp only [TD.is] at u2
          rw [← u2, List.getElem?_map, Option.map_eq_some_iff] at hf
          obtain ⟨fl, hfl, he⟩ := hf
          cases he
          have hfl' : fields[f]? = some fl := by simpa using hfl
          rw [hx] at h1
          obtain ⟨arr, ha, hsz, h1c, hr⟩ := h1.agg_inv
          rw [ha]
          unfold takeV at h
          split at h
          · rename_i ie hie
            have tye := hD _ _ hie
            simp only [Sem.run_bind, Instr.field, run_underlying u1, Result.andThen_ok, hfl', asAgg, Sem.run_pure, part, tye.isAgg w]
            cases hag : ie.d.agg with
            | true =>
              rw [hag] at h
              simp only [cond_true] at h
              cases hle : Nat.ble ie.size (cs.drop fl.offset).length with
              | false => rw [hle] at h; cases h
              | true =>
                rw [hle] at h; cases h
                have hle' := Nat.le_of_ble_eq_true hle
                simp only [List.length_drop] at hle'
                simp only [if_true, Sem.run_bind, tye.sizeOf w, Result.andThen_ok, Sem.run_pure]
                refine ⟨_, rfl, .agg _ _ (by simp; omega) (fun j c hj => ?_) (fun j x c hj hc => ?_)⟩
                · rw [Array.getElem?_extract] at hj
                  split at hj
                  · exact h1c _ c hj
                  · cases hj
                · rw [List.getElem?_take] at hj
                  split at hj
                  · rw [List.getElem?_drop] at hj
                    rw [Array.getElem?_extract] at hc
                    split at hc
                    · obtain ⟨c', e1, e2⟩ := hr _ x hj
                      rw [e1] at hc; cases hc; exact e2
                    · cases hc
                  · cases hj
            | false =>
              rw [hag] at h
              simp only [cond_false, List.getElem?_drop, Nat.add_zero] at h
              obtain ⟨c, e1, e2⟩ := hr _ v h
              exact ⟨c, by simp [e1], e2⟩
          · cases h
        · cases h
      · cases h
    · cases h
  | load t a =>
    dsimp only
    simp only [stepV] at h
    obtain ⟨r, hr, hv⟩ := loadV_sound hD h hH (hη a (by simp [Op.operands]))
    exact ⟨r, by simp [hr], hv⟩
  | extract x i =>
    dsimp only
    have h1 := hη x (by simp [Op.operands])
    simp only [stepV] at h
    split at h
    · rename_i vs hx
      rw [hx] at h1
      generalize η x = u at *
      cases h1 with
      | tup arr _ hsz hr =>
        have hlt : i < arr.size := by rw [hsz]; exact (List.getElem?_eq_some_iff.1 h).1
        refine ⟨arr[i], ?_, hr i v _ h (Array.getElem?_eq_getElem hlt)⟩
        simp [Instr.extract, Array.getElem?_eq_getElem hlt]
    · cases h
  | makeFunc fn first caps => 
    dsimp only
    cases fn <;> try (simp only [stepV, reduceCtorEq] at h; done)
    rename_i f
    simp only [stepV] at h
    split at h
    · rename_i h0
      cases h
      have hf : first = #[] := by simpa using h0
      subst hf
      refine ⟨.func (.func f) #[] (caps.map η), by simp [Instr.makeFunc], .fn f (caps.map η) _ (by simp) fun j x c hx hc => ?_⟩
      rw [List.getElem?_map, Option.map_eq_some_iff] at hx
      rw [Array.getElem?_map, Option.map_eq_some_iff] at hc
      obtain ⟨y, hy, rfl⟩ := hx
      obtain ⟨y', hy', rfl⟩ := hc
      have : y = y' := by simpa [hy'] using hy.symm
      subst this
      exact hη y (by simp [Op.operands]; exact Array.mem_of_getElem? hy')
    · cases h
  | build t parts =>
    dsimp only
    simp only [stepV] at h
    obtain ⟨x, hx, hv⟩ := buildV_sound hD hH (η := η) (fun p hp => hη p.2 (by simp [Op.operands]; exact ⟨p.1, by simpa using hp⟩)) h
    exact ⟨x, by simp only [Sem.run_bind, hx, Result.andThen_ok, Sem.run_pure], hv⟩
  | call c =>
    dsimp only
    obtain ⟨cal, args, ats⟩ := c
    simp only [stepV] at h
    split at h
    · rename_i x t hargs hats
      have ha : args = #[x] := Array.toList_inj.1 hargs
      have hb : ats = #[t] := Array.toList_inj.1 hats
      subst ha hb
      have h1 := hη x (by simp [Op.operands, Call.operands])
      split at h
      · rename_i i hty
        obtain ⟨_, ⟨d, u1, u2⟩, _⟩ := hD _ _ hty
        split at h
        · rename_i el hd
          rw [hd] at u2
          have hdd : d = .slice el := by cases d <;> simp_all [TD.is]
          subst hdd
          rw [Option.map_eq_some_iff] at h
          obtain ⟨n, hn, rfl⟩ := h
          obtain ⟨a, cap, hs⟩ : ∃ a cap, η x = .slice a n cap := by
            generalize η x = u at *
            unfold lenV at hn
            split at hn
            · rename_i hx
              cases hn
              rw [hx] at h1
              cases h1.sl_inv with
              | nils => exact ⟨_, _, rfl⟩
              | shr a cap => exact ⟨_, _, rfl⟩
            · rename_i hx
              cases hn
              rw [hx] at h1
              exact ⟨_, _, h1.c_inv⟩
            · rename_i j hx
              split at hn
              · rename_i hl
                cases hn
                rw [hx] at h1
                obtain ⟨r, hr, hob⟩ := hH.obj j _ hl
                rw [h1.own_inv r hr]
                generalize F j = Fj at hob
                cases hob with
                | vnil => exact ⟨_, _, rfl⟩
                | vec g cap => exact ⟨_, _, rfl⟩
              · cases hn
            · cases hn
          refine ⟨_, ?_, .c _⟩
          simp [resolve, invoke, builtin, Builtin.len_, run_underlying u1, hs, goInt]
        · rename_i hd
          rw [hd] at u2
          have hdd : d = .string := by cases d <;> simp_all [TD.is]
          subst hdd
          split at h
          · rename_i s hx
            cases h
            rw [hx] at h1
            refine ⟨_, ?_, .c _⟩
            simp [resolve, invoke, builtin, Builtin.len_, run_underlying u1, h1.c_inv, goInt]
          · cases h
        · cases h
      · cases h
    · rename_i x y hargs
      have ha : args = #[x, y] := Array.toList_inj.1 hargs
      subst ha
      have h1 := hη x (by simp [Op.operands, Call.operands])
      have h2 := hη y (by simp [Op.operands, Call.operands])
      split at h
      · rename_i k a k' b hx hy
        cases h
        rw [hx] at h1; rw [hy] at h2
        refine ⟨_, ?_, .c _⟩
        simp [resolve, invoke, builtin, Builtin.max_, Builtin.max2, h1.c_inv, h2.c_inv]
      · cases h
    · rename_i x y hargs
      have ha : args = #[x, y] := Array.toList_inj.1 hargs
      subst ha
      have h1 := hη x (by simp [Op.operands, Call.operands])
      have h2 := hη y (by simp [Op.operands, Call.operands])
      split at h
      · rename_i k a k' b hx hy
        cases h
        rw [hx] at h1; rw [hy] at h2
        refine ⟨_, ?_, .c _⟩
        simp [resolve, invoke, builtin, Builtin.min_, Builtin.min2, h1.c_inv, h2.c_inv]
      · cases h
    · cases h
  | _ => simp only [stepV, reduceCtorEq] at h

end
end Go.Av
