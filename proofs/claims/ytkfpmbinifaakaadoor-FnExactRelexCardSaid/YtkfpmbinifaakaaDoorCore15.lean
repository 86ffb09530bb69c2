/-
  Core15: slices made: literals, make; elements of one's own slice read and written; bytes to a string.
-/
import Derived.Test.YtkfpmbinifaakaaDoorCore14
namespace Go.Av

section
variable {P : Program} {G : Nat → Option (List V)}

/-- a cell as data: an own slice goes in whole -/
def absV (H : Hp) : V → Option (V × List Nat)
  | .c (.slice none 0 0) => some (.sl false true [], [])
  | .c u => if u.oneCell' then some (.c u, []) else none
  | .sl nn b rows => some (.sl nn b rows, [])
  | .own j => match look H j with
    | some (.vec nn _ _ rows) => some (.sl nn true rows, [j])
    | _ => none
  | _ => none

def absL (H : Hp) : List V → Option (List V × List Nat)
  | [] => some ([], [])
  | x :: l => (absV H x).bind fun p => (absL H l).map fun r => (p.1 :: r.1, p.2 ++ r.2)

theorem absV_sound {ρ : Nat → Option Value} {S : Nat → Prop} {F : Nat → List Nat} {H : Hp} {w : World} (hH : HRel ρ S F H w) {x y : V} {C : List Nat} (h : absV H x = some (y, C)) {v : Value} (hv : RV ρ S w v x) :
    ∃ Fx, RD S w v y Fx ∧ Fx = C.flatMap F ∧ Fx.Nodup ∧ ∀ c, c ∈ C → ∃ o, look H c = some o := by
  cases x with
  | c u =>
    unfold absV at h
    split at h
    · rename_i hu
      cases hu
      cases h
      rw [hv.c_inv]
      exact ⟨[], .nils true, rfl, List.nodup_nil, fun c hc => by cases hc⟩
    · rename_i u' _ hu
      cases hu
      split at h
      · cases h; rw [hv.c_inv]; exact ⟨[], .c _ ‹_›, rfl, List.nodup_nil, fun c hc => by cases hc⟩
      · cases h
    all_goals first | (cases h; done) | (rename_i hu; cases hu; done)
  | sl nn b rows =>
    cases h
    exact ⟨[], hv.sl_inv, rfl, List.nodup_nil, fun c hc => by cases hc⟩
  | own j =>
    simp only [absV] at h
    split at h
    · rename_i nn e k rows hl
      cases h
      obtain ⟨r, hr, hob⟩ := hH.obj j _ hl
      rw [hv.own_inv r hr]
      exact ⟨F j, hob.toRD, by simp, hH.nodup j _ hl, fun c hc => by simp at hc; subst hc; exact ⟨_, hl⟩⟩
    · cases h
  | _ => cases h

theorem absL_sound {ρ : Nat → Option Value} {S : Nat → Prop} {F : Nat → List Nat} {H : Hp} {w : World} (hH : HRel ρ S F H w) : ∀ (l : List V) {ys : List V} {C : List Nat}, absL H l = some (ys, C) →
    ys.length = l.length ∧ (∀ c, c ∈ C → ∃ o, look H c = some o) ∧ ∃ Cs : Nat → List Nat, C = (List.range l.length).flatMap Cs ∧
      ∀ (p : Nat) (y : V), ys[p]? = some y → ∃ x, l[p]? = some x ∧ absV H x = some (y, Cs p)
  | [], ys, C, h => by simp only [absL, Option.some.injEq, Prod.mk.injEq] at h; obtain ⟨rfl, rfl⟩ := h; exact ⟨rfl, fun c hc => (by cases hc), fun _ => [], rfl, fun p y hp => (by simp at hp)⟩
  | x :: l, ys, C, h => by
    simp only [absL, Option.bind_eq_some_iff, Option.map_eq_some_iff] at h
    obtain ⟨⟨y, C1⟩, h1, ⟨ys', C2⟩, h2, h3⟩ := h
    cases h3
    obtain ⟨e1, e2, Cs, e3, e4⟩ := absL_sound hH l h2
    refine ⟨by simp [e1], fun c hc => ?_, fun p => match p with | 0 => C1 | p + 1 => Cs p, ?_, fun p z hp => ?_⟩
    · rcases List.mem_append.1 hc with hc | hc
      · cases x with
        | own j =>
          simp only [absV] at h1
          split at h1
          · cases h1; simp at hc; subst hc; exact ⟨_, ‹_›⟩
          · cases h1
        | c u =>
          unfold absV at h1
          split at h1
          · cases h1; cases hc
          · split at h1 <;> cases h1; cases hc
          all_goals first | (cases h1; done) | (rename_i hu; cases hu; done)
        | sl nn b rows => cases h1; cases hc
        | _ => cases h1
      · exact e2 c hc
    · simp only [List.length_cons, List.range_succ_eq_map, List.flatMap_cons, List.flatMap_map]
      rw [e3]
    · cases p with
      | zero => simp at hp; subst hp; exact ⟨x, by simp, h1⟩
      | succ p => simp only [List.getElem?_cons_succ] at hp ⊢; exact e4 p z hp

/-- rows out of a row of cells -/
def chunk (n k : Nat) (l : List V) : List (List V) := (List.range n).map fun i => (l.drop (i * k)).take k

theorem chunk_get {n k : Nat} {l : List V} (hl : l.length = n * k) {i : Nat} {r : List V} (h : (chunk n k l)[i]? = some r) : i < n ∧ r.length = k ∧ ∀ (j : Nat) (y : V), r[j]? = some y → j < k ∧ l[i * k + j]? = some y := by
  unfold chunk at h
  rw [List.getElem?_map, Option.map_eq_some_iff] at h
  obtain ⟨i', hi', rfl⟩ := h
  obtain ⟨h1, h2⟩ := List.getElem?_eq_some_iff.1 hi'
  simp at h1 h2
  subst h2
  have hle : (i + 1) * k ≤ n * k := Nat.mul_le_mul_right k h1
  rw [Nat.add_mul] at hle
  refine ⟨h1, by simp; omega, fun j y hy => ?_⟩
  rw [List.getElem?_take] at hy
  split at hy
  · rw [List.getElem?_drop] at hy; exact ⟨‹_›, hy⟩
  · cases hy

theorem flat_flatMap (n k : Nat) (Cs : Nat → List Nat) (F : Nat → List Nat) : flat n k (fun i j => (Cs (i * k + j)).flatMap F) = ((List.range (n * k)).flatMap Cs).flatMap F := by
  induction n with
  | zero => simp [flat]
  | succ n ih =>
    have h1 : flat (n + 1) k (fun i j => (Cs (i * k + j)).flatMap F) = flat n k (fun i j => (Cs (i * k + j)).flatMap F) ++ (List.range k).flatMap fun j => (Cs (n * k + j)).flatMap F := by
      unfold flat; rw [List.range_succ, List.flatMap_append]; simp
    rw [h1, ih, Nat.add_mul, Nat.one_mul, List.range_add, List.flatMap_append, List.flatMap_append]
    congr 1
    rw [List.flatMap_map, List.flatMap_assoc]

theorem nodup_flatMap_of {C : List Nat} {F : Nat → List Nat} (hC : C.Nodup) (h1 : ∀ c, c ∈ C → (F c).Nodup) (h2 : ∀ c c' b, c ∈ C → c' ∈ C → c ≠ c' → b ∈ F c → b ∈ F c' → False) : (C.flatMap F).Nodup := by
  induction C with
  | nil => simp
  | cons c C ih =>
    rw [List.nodup_cons] at hC
    rw [List.flatMap_cons, List.nodup_append]
    refine ⟨h1 c (by simp), ih hC.2 (fun c' h => h1 c' (by simp [h])) (fun a b d ha hb => h2 a b d (by simp [ha]) (by simp [hb])), fun a ha b hb e => ?_⟩
    subst e
    obtain ⟨c', hc', hb'⟩ := List.mem_flatMap.1 hb
    exact h2 c c' a (by simp) (by simp [hc']) (fun e => hC.1 (e ▸ hc')) ha hb'

/-- a new row of cells, out of values that are data (own slices go in whole) -/
theorem Post.newRow {ρ : Nat → Option Value} {S : Nat → Prop} {F : Nat → List Nat} {H : Hp} {w : World} (hH : HRel ρ S F H w) {q : Nat} (hq : hasH q H = false) {ety n k : Nat} {cells ys : List V} {C : List Nat} {arr : Array Value}
    (hc : Cells ρ S w arr cells) (hl : cells.length = n * k) (ha : absL H cells = some (ys, C)) (hC : C.Nodup) (hn : n ≤ maxLen) :
    Post ρ S F H w (.own q) ((q, .vec true ety k (chunk n k ys)) :: hrem C H) [q] (.slice (some ⟨w.heap.size, 0, none⟩) n n) (w.alloc (.cells arr ety)) := by
  obtain ⟨hyl, hlive, Cs, hCs, hget⟩ := absL_sound hH cells ha
  have hys : ys.length = n * k := hyl.trans hl
  rw [hl] at hCs
  have hndC : (C.flatMap F).Nodup := nodup_flatMap_of hC (fun c hc => by obtain ⟨o, ho⟩ := hlive c hc; exact hH.nodup c o ho) (fun c c' b hc hc' hne hb hb' => by
    obtain ⟨o, ho⟩ := hlive c hc
    obtain ⟨o', ho'⟩ := hlive c' hc'
    exact hH.disj c c' o o' b ho ho' hne hb hb')
  have hold : ∀ b, b < w.heap.size → (w.alloc (.cells arr ety)).heap[b]? = w.heap[b]? := fun b hb => heap_new w _ b hb
  have hk : Keeps S w S (w.alloc (.cells arr ety)) := fun b hb => ⟨hb, hold b (hH.slt b hb)⟩
  have hltC : ∀ b, b ∈ C.flatMap F → b < w.heap.size := fun b hb => by
    obtain ⟨c, hc, hbc⟩ := List.mem_flatMap.1 hb
    obtain ⟨o, ho⟩ := hlive c hc
    exact hH.lt c o b ho hbc
  have hcl : (chunk n k ys).length = n := by simp [chunk]
  have hflat : flat n k (fun i j => (Cs (i * k + j)).flatMap F) = C.flatMap F := by rw [flat_flatMap, hCs]
  refine Post.repl hH C hq (w' := w.alloc (.cells arr ety)) (root := .slice (some ⟨w.heap.size, 0, none⟩) n n) (Fi := w.heap.size :: flat n k (fun i j => (Cs (i * k + j)).flatMap F)) rfl rfl rfl (by simp) (fun b hb _ => hold b hb) (fun ρ' => ?_) ?_ (fun b hb => ?_) (.own _ q fun r hr => ?_)
  · have h0 : Value.slice (some ⟨w.heap.size, 0, none⟩) n n = Value.slice (some ⟨w.heap.size, 0, none⟩) (chunk n k ys).length n := by rw [hcl]
    rw [h0, show flat n k (fun i j => (Cs (i * k + j)).flatMap F) = flat (chunk n k ys).length k (fun i j => (Cs (i * k + j)).flatMap F) by rw [hcl]]
    have cell : ∀ (i j : Nat) (r : List V) (y : V), (chunk n k ys)[i]? = some r → r[j]? = some y → ∃ c, arr[i * k + j]? = some c ∧ RD S (w.alloc (.cells arr ety)) c y ((Cs (i * k + j)).flatMap F) := fun i j r y h1 h2 => by
      obtain ⟨_, _, h3⟩ := chunk_get hys h1
      obtain ⟨_, h4⟩ := h3 j y h2
      obtain ⟨x, hx, hax⟩ := hget _ y h4
      obtain ⟨c, hc1, hc2⟩ := hc.2.2 _ x hx
      obtain ⟨Fx, hd, rfl, _, hl'⟩ := absV_sound hH hax hc2
      refine ⟨c, hc1, hd.mono hk fun b hb => hold b (hltC b ?_)⟩
      obtain ⟨c', hc', hb'⟩ := List.mem_flatMap.1 hb
      refine List.mem_flatMap.2 ⟨c', ?_, hb'⟩
      rw [hCs]
      have hlt : i * k + j < n * k := by rw [← hys]; exact (List.getElem?_eq_some_iff.1 h4).1
      exact List.mem_flatMap.2 ⟨_, List.mem_range.2 hlt, hc'⟩
    refine .vec w.heap.size n arr true ety k (chunk n k ys) (fun i j => arr.getD (i * k + j) undef) (fun i j => (Cs (i * k + j)).flatMap F) (heap_alloc_new w _) (by rw [hcl]; exact Nat.le_refl _) hn (by rw [hc.1, hl]) (fun i r h => (chunk_get hys h).2.1) (fun i j r y h1 h2 => ?_) (fun i j r y h1 h2 => ?_)
    · obtain ⟨c, hc1, _⟩ := cell i j r y h1 h2
      simp [Array.getD_eq_getD_getElem?, hc1]
    · obtain ⟨c, hc1, hd⟩ := cell i j r y h1 h2
      have : arr.getD (i * k + j) undef = c := by simp [Array.getD_eq_getD_getElem?, hc1]
      rw [this]; exact hd
  · rw [hflat, List.nodup_cons]
    exact ⟨fun h => by have := hltC _ h; omega, hndC⟩
  · rw [hflat] at hb
    rcases List.mem_cons.1 hb with rfl | hb
    · exact .inr ⟨Nat.le_refl _, by simp⟩
    · obtain ⟨c, hc, hbc⟩ := List.mem_flatMap.1 hb
      obtain ⟨o, ho⟩ := hlive c hc
      exact .inl ⟨c, o, hc, ho, hbc⟩
  · simp at hr; exact hr

/-- a slice literal -/
theorem OpOk.buildSlice {D : Tab} (hD : TabOk P D) {o : Oper} {e : Operand → V} {H : Hp} {t el : TypeId} {n : Nat} {parts : Array (Nat × Operand)} {it ie : Ty} (q : Nat) {cells ys : List V} {C : List Nat}
    (ho : o.op = .buildSlice t n parts) (ht : D.at t = some it) (hit : it.d = .slice el) (hel : D.at el = some ie) (hs0 : ie.size ≠ 0) (hsmall : n * ie.size ≤ 16777216)
    (hf : fillV H (fun i => some (i * ie.size, ie.size)) ((List.replicate n (ie.zero.map .c)).flatten) (parts.toList.map fun p => (p.1, e p.2)) = some cells) (hl : cells.length = n * ie.size) (ha : absL H cells = some (ys, C)) (hC : C.Nodup) (hq : hasH q H = false) :
    OpOk P G o e H (.own q) ((q, .vec true el ie.size (chunk n ie.size ys)) :: hrem C H) [q] := by
  intro ρ S F η w hη hH hG
  obtain ⟨⟨inf, z0, e1, e2, e3, e4, e5, e6, e7⟩, _, _⟩ := hD _ _ hel
  have hz : (zeroValue el).run P w = .ok z0 w := by simp [Go.zeroValue, typeInfo, e1, e4]
  have hzs : z0.cells.size = ie.size := by rw [← Array.length_toList, e5, e7]
  have hzget : ∀ (n p : Nat), p < n * ie.size → ((List.replicate n (ie.zero.map V.c)).flatten)[p]? = (ie.zero.map V.c)[p % ie.size]? := by
    intro n
    induction n with
    | zero => intro p hp; simp at hp
    | succ n ih =>
      intro p hp
      rw [List.replicate_succ, List.flatten_cons]
      have hlen : (ie.zero.map V.c).length = ie.size := by simp [e7]
      by_cases hlt : p < ie.size
      · rw [List.getElem?_append_left (by omega), Nat.mod_eq_of_lt hlt]
      · rw [List.getElem?_append_right (by omega), hlen, ih (p - ie.size) (by rw [Nat.add_mul] at hp; omega), ← Nat.mod_eq_sub_mod (by omega)]
  have hz0 : Cells ρ S w ((Array.range (n * ie.size)).map (z0.cells[· % z0.cells.size]!)) ((List.replicate n (ie.zero.map .c)).flatten) := by
    refine ⟨by simp [e7], fun j c hj => ?_, fun j x hj => ?_⟩
    · rw [Array.getElem?_map, Option.map_eq_some_iff] at hj
      obtain ⟨p, hp, rfl⟩ := hj
      refine List.all_eq_true.1 e6 _ ?_
      rw [← e5, hzs]
      have : p % ie.size < z0.cells.size := by rw [hzs]; exact Nat.mod_lt _ (by omega)
      rw [getElem!_pos z0.cells _ this]
      simp
    · have hlt : j < n * ie.size := by have := (List.getElem?_eq_some_iff.1 hj).1; simpa [e7] using this
      rw [hzget n j hlt, List.getElem?_map, Option.map_eq_some_iff] at hj
      obtain ⟨u, hu, rfl⟩ := hj
      refine ⟨u, ?_, .c u⟩
      rw [← e5] at hu
      have hlt2 : j % ie.size < z0.cells.size := by rw [hzs]; exact Nat.mod_lt _ (by omega)
      rw [Array.getElem?_map, Array.getElem?_range, if_pos hlt]
      simp only [Option.map_some, hzs]
      rw [getElem!_pos z0.cells _ hlt2]
      have := (List.getElem?_eq_some_iff.1 hu).2
      simpa using this
  obtain ⟨arr, hfill, hcells⟩ := fillV_sound hH η e parts.toList (fun p hp => hη p.2 (by simp [ho, Op.operands]; exact ⟨p.1, by simpa using hp⟩)) hz0 hf
  have hmap : (parts.map fun (i, x) => (i, η x)).toList = parts.toList.map fun p => (p.1, η p.2) := by simp
  have hn : n ≤ maxLen := by
    have : n * 1 ≤ n * ie.size := Nat.mul_le_mul_left n (by omega)
    simp only [maxLen]; omega
  have hrun : (execOp η o).run P w = .ok (.value (.slice (some ⟨w.heap.size, 0, none⟩) n n)) (w.alloc (.cells arr el)) := by
    unfold execOp
    have h24 : ¬ (n * ie.size > 2 ^ 24) := by omega
    simp only [ho, Instr.buildSlice, Sem.run_bind, run_underlying (slice_ty hD ht hit), Result.andThen_ok, (hD _ _ hel).sizeOf w, if_neg h24, Sem.run_pure]
    by_cases h0 : n * ie.size = 0
    · have hn0 : n = 0 := by
        rcases Nat.mul_eq_zero.1 h0 with h | h
        · exact h
        · exact absurd h hs0
      subst hn0
      have hz1 : (Array.range (0 * ie.size)).map (z0.cells[· % z0.cells.size]!) = #[] := by simp
      rw [hz1] at hfill
      rw [← hmap] at hfill
      have hz2 : (Array.range 0).map ((#[] : Array Value)[· % (#[] : Array Value).size]!) = #[] := by simp
      simp only [Nat.zero_mul, if_true, Sem.run_bind, Sem.run_pure, Result.andThen_ok]
      rw [hz2, hfill]
      rfl
    · rw [← hmap] at hfill
      simp only [if_neg h0, Sem.run_bind, hz, Result.andThen_ok, Sem.run_pure, hfill]
      rfl
  unfold ExecTo
  rw [hrun]
  exact Post.newRow hH hq hcells hl ha hC hn

end
end Go.Av
