/-
  Core30: a row's arguments as Lean's own values; what was read before the call is read behind it.
-/
import Derived.Test.YtkfpmbinifaakaaDoorCore29
import Derived.ChangeReads
import Derived.ChangeArms
import Derived.ReadAgain
namespace Go.Av
open Go.RowKit Go.WideShapes Go.ChangeShapes

/-- cells that read as these, data in S -/
def CellsR (S : Nat → Prop) (w : World) (cs : List Value) (vs : List V) : Prop :=
  cs.length = vs.length ∧ ∀ (j : Nat) (v : V), vs[j]? = some v → ∃ c, cs[j]? = some c ∧ RD S w c v []

theorem CellsR.append {S : Nat → Prop} {w : World} {a b : List Value} {va vb : List V} (h : CellsR S w a va) (k : CellsR S w b vb) : CellsR S w (a ++ b) (va ++ vb) := by
  refine ⟨by simp [h.1, k.1], fun j v hj => ?_⟩
  have hl := h.1
  by_cases hlt : j < va.length
  · rw [List.getElem?_append_left hlt] at hj
    rw [List.getElem?_append_left (by omega)]
    exact h.2 j v hj
  · rw [List.getElem?_append_right (by omega)] at hj
    rw [List.getElem?_append_right (by omega), hl]
    exact k.2 _ v hj

theorem CellsR.nil {S : Nat → Prop} {w : World} : CellsR S w [] [] := ⟨rfl, fun j v h => by simp at h⟩

section
variable {P : Program}

/-- what a datum of type t is in Lean: of α, its cells, what is known of it -/
def Reader (P : Program) (t : TypeId) {α : Type} (enc : α → List V) (ok : α → Prop) : Prop :=
  ∀ {H : Type} (e : TypeId × Value → H) (w : World) (fuel : Nat) (cs : List Value) (x : DataW H × List MemPlace), DataW.trod e P w 0 (fun _ => true) true fuel t cs = some x →
    ∃ a : α, ok a ∧ ∀ S : Nat → Prop, (∀ p, p ∈ x.2 → S p.block) → CellsR S w cs (enc a)

theorem CellsR.one {S : Nat → Prop} {w : World} {c : Value} {v : V} (h : RD S w c v []) : CellsR S w [c] [v] := by
  refine ⟨rfl, fun j u hj => ?_⟩
  cases j with
  | zero => simp at hj; subst hj; exact ⟨c, rfl, h⟩
  | succ j => simp at hj

theorem Reader.int {t : TypeId} {k : IntKind} (ht : P.underlying t = some (.int k)) : Reader P t (fun n : Int => [V.c (.int k n)]) (fun n => (Lit.int k n).wf = true) := by
  intro H e w fuel cs x h
  obtain ⟨n, rfl, rfl, hw⟩ := DataW.trod_int ht h
  exact ⟨n, hw, fun S _ => CellsR.one (.c _ rfl)⟩

theorem Reader.i64 {t : TypeId} (ht : P.underlying t = some (.int .i64)) : Reader P t encI (fun n => (Lit.int .i64 n).wf = true) := Reader.int ht

theorem Reader.bool {t : TypeId} (ht : P.underlying t = some .bool) : Reader P t encO (fun _ => True) := by
  intro H e w fuel cs x h
  obtain ⟨b, rfl, rfl⟩ := DataW.trod_bool ht h
  exact ⟨b, trivial, fun S _ => CellsR.one (.c _ rfl)⟩

theorem Reader.str {t : TypeId} (ht : P.underlying t = some .string) : Reader P t encS (fun s => s.length ≤ maxLen) := by
  intro H e w fuel cs x h
  obtain ⟨s, rfl, rfl, hl⟩ := DataW.trod_string ht h
  refine ⟨s.data.toList, ?_, fun S _ => CellsR.one ?_⟩
  · simpa using hl
  · exact .c _ rfl

theorem cells?_get {w : World} {base : Nat} {a : Addr} {n : Nat} {cs : List Value} (h : w.cells? base a n = some cs) : cs.length = n ∧ ∀ j, j < n → w.cell? (a.add j) = cs[j]? := by
  unfold World.cells? at h
  split at h
  · refine ⟨by simpa using mapM_some_length h, fun j hj => ?_⟩
    have := mapM_some_get h j j (by simp [hj])
    exact this
  · cases h

theorem Reader.slice {t el : TypeId} {α : Type} {enc : α → List V} {ok : α → Prop} (ht : P.underlying t = some (.slice el)) (he : Reader P el enc ok) (sz : Nat) (hsz : P.cellsOf el = sz) (hpos : 0 < sz) (henc : ∀ x, (enc x).length = sz) :
    Reader P t (fun l : List α => [V.sl false false (l.map enc)]) (fun l => (∀ x, x ∈ l → ok x) ∧ l.length ≤ maxLen) := by
  intro H e w fuel cs x h
  rcases DataW.trod_slice ht h with ⟨rfl, rfl⟩ | ⟨a, len, cap, elems, rest, n, rfl, rfl, rfl, _, hcap, hmax, hlen, hel, _, _⟩
  · exact ⟨[], ⟨fun x hx => (by cases hx), Nat.zero_le _⟩, fun S _ => CellsR.one (.nils false)⟩
  · rw [hsz] at hel
    -- the elements one by one
    have each : ∀ i, i < len → ∃ (y : α) (cc : List Value) (z : DataW H × List MemPlace), elems[i]? = some z ∧ w.cells? 0 (a.add (i * sz)) sz = some cc ∧ ok y ∧ ∀ S : Nat → Prop, (∀ p, p ∈ z.2 → S p.block) → CellsR S w cc (enc y) := by
      intro i hi
      have hz : elems[i]? = some elems[i] := List.getElem?_eq_getElem (by omega)
      have h1 := hel i hi
      rw [hz, Option.bind_eq_some_iff] at h1
      obtain ⟨cc, h2, h3⟩ := h1
      obtain ⟨y, hy, hc⟩ := he e w n cc _ h3
      exact ⟨y, cc, _, hz, h2, hy, hc⟩
    have pick : ∃ l : List α, l.length = len ∧ ∀ i y, l[i]? = some y → ∃ (cc : List Value) (z : DataW H × List MemPlace), elems[i]? = some z ∧ w.cells? 0 (a.add (i * sz)) sz = some cc ∧ ok y ∧ ∀ S : Nat → Prop, (∀ p, p ∈ z.2 → S p.block) → CellsR S w cc (enc y) := by
      clear hcap h
      have : ∀ m, m ≤ len → ∃ l : List α, l.length = m ∧ ∀ i y, l[i]? = some y → ∃ (cc : List Value) (z : DataW H × List MemPlace), elems[i]? = some z ∧ w.cells? 0 (a.add (i * sz)) sz = some cc ∧ ok y ∧ ∀ S : Nat → Prop, (∀ p, p ∈ z.2 → S p.block) → CellsR S w cc (enc y) := by
        intro m
        induction m with
        | zero => intro _; exact ⟨[], rfl, fun i y h => by simp at h⟩
        | succ m ih =>
          intro hm
          obtain ⟨l, hl, hall⟩ := ih (by omega)
          obtain ⟨y, cc, z, h1, h2, h3, h4⟩ := each m (by omega)
          refine ⟨l ++ [y], by simp [hl], fun i y' hi => ?_⟩
          by_cases hlt : i < l.length
          · rw [List.getElem?_append_left hlt] at hi; exact hall i y' hi
          · rw [List.getElem?_append_right (by omega)] at hi
            have : i = m := by
              have := (List.getElem?_eq_some_iff.1 hi).1
              simp at this; omega
            subst this
            rw [hl] at hi
            simp at hi
            subst hi
            exact ⟨cc, z, h1, h2, h3, h4⟩
      exact this len (Nat.le_refl _)
    obtain ⟨l, hl, hall⟩ := pick
    refine ⟨l, ⟨fun x hx => ?_, by omega⟩, fun S hS => CellsR.one ?_⟩
    · obtain ⟨i, hi⟩ := List.getElem?_of_mem hx
      obtain ⟨_, _, _, _, hok, _⟩ := hall i x hi
      exact hok
    · have hlr : (l.map enc).length = len := by simp [hl]
      rw [show Value.slice (some a) len cap = Value.slice (some a) (l.map enc).length cap by rw [hlr]]
      have geti : ∀ (i : Nat) (r : List V), (l.map enc)[i]? = some r → ∃ y, l[i]? = some y ∧ r = enc y := fun i r hi => by
        rw [List.getElem?_map, Option.map_eq_some_iff] at hi
        obtain ⟨y, hy, rfl⟩ := hi
        exact ⟨y, hy, rfl⟩
      have cell : ∀ (i j : Nat) (r : List V) (v : V), (l.map enc)[i]? = some r → r[j]? = some v → ∃ c, w.cell? (a.add (i * sz + j)) = some c ∧ RD S w c v [] := fun i j r v hi hj => by
        obtain ⟨y, hy, rfl⟩ := geti i r hi
        obtain ⟨cc, z, h1, h2, _, h4⟩ := hall i y hy
        obtain ⟨hcl, hcell⟩ := cells?_get h2
        have hcr := h4 S fun p hp => hS p (List.mem_append.2 (.inr (List.mem_flatMap.2 ⟨z, List.mem_append.2 (.inl (List.mem_of_getElem? h1)), hp⟩)))
        obtain ⟨c, hc1, hc2⟩ := hcr.2 j v hj
        refine ⟨c, ?_, hc2⟩
        have hjs : j < sz := by rw [← hcl]; exact (List.getElem?_eq_some_iff.1 hc1).1
        rw [← Addr.add_add, hcell j hjs, hc1]
      refine .shr a cap false (l.map enc) sz (fun i j => (w.cell? (a.add (i * sz + j))).getD undef) (by omega) (by omega) (fun i r hi => ?_) (fun i j r v hi hj => ?_) (fun i j r v hi hj => ?_)
      · obtain ⟨y, _, rfl⟩ := geti i r hi; exact henc y
      · obtain ⟨c, hc, _⟩ := cell i j r v hi hj
        refine ⟨?_, by rw [hc]; rfl⟩
        have hi' : i < len := by have := (List.getElem?_eq_some_iff.1 hi).1; omega
        have hp := hS (.cell a.block (a.off + 0)) (List.mem_append.2 (.inl (List.mem_map.2 ⟨0, List.mem_range.2 ?_, rfl⟩)))
        · exact hp
        · rw [hsz]
          exact Nat.mul_pos (by omega) hpos
      · obtain ⟨c, hc, hd⟩ := cell i j r v hi hj
        simp only [hc, Option.getD_some]; exact hd

/-- what was read before the call reads the same behind it -/
theorem args_kept {H : Type} {enc : TypeId × Value → H} {T : TypeId → Prop} (K : Kids P T) (hz : ∀ t e, T t → P.underlying t = some (.slice e) → 0 < P.cellsOf e) {W W' : World} (hb : Below W.heap.size W W') {sp : Nat → Bool} :
    ∀ {ts : List TypeId} {vs : List Value} {ds : List (DataW H)} {ps : List MemPlace}, (∀ t, t ∈ ts → T t) → DataW.TrodAll enc P W 0 (fun _ => true) true ts vs ds ps → (∀ p, p ∈ ps → sp p.block = true) → DataW.TrodAll enc P W' 0 sp true ts vs ds ps := by
  intro ts vs ds ps hT h hs
  have h1 := DataW.TrodAll.respare K hz (fun t ht => hT t ht) h (spare' := sp) (fun p hp => hs p hp)
  clear h
  induction ts generalizing vs ds ps with
  | nil => cases vs <;> cases ds <;> exact h1
  | cons t ts ih =>
    cases vs with
    | nil => cases ds <;> exact h1
    | cons v vs =>
      cases ds with
      | nil => exact h1
      | cons d ds =>
        obtain ⟨p, q, ⟨n, h1⟩, h2, rfl⟩ := h1
        have hlt := DataW.trod_lt n _ _ _ h1
        refine ⟨p, q, ⟨n, DataW.trod_carry n _ _ _ h1 fun m hm => ?_⟩, ih (fun t ht => hT t (List.mem_cons_of_mem _ ht)) (fun m hm => hs m (List.mem_append.2 (.inr hm))) h2, rfl⟩
        have hlt' := hlt m hm
        cases m with
        | cell b off =>
          simp only [World.sameAt, World.cell?] 
          have : W'.heap[b]? = W.heap[b]? := hb.block b hlt'
          simp only [this]
        | map b =>
          simp only [World.sameAt]
          have : W'.heap[b]? = W.heap[b]? := hb.block b hlt'
          rw [this]

end
end Go.Av
