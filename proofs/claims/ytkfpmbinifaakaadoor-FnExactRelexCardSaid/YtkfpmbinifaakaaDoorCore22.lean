/-
  Core22: elements of one's own slice: read and written in place.
-/
import Derived.Test.YtkfpmbinifaakaaDoorCore21
namespace Go.Av

section
variable {P : Program} {G : Nat → Option (List V)}

theorem Post.upd {ρ : Nat → Option Value} {S : Nat → Prop} {F : Nat → List Nat} {H : Hp} {w w' : World} (hH : HRel ρ S F H w) (C : List Nat) {i : Nat} {o : Ob} {root : Value} (hroot : ρ i = some root) {Fi : List Nat}
    (hos : w'.os = w.os) (htape : w'.tape = w.tape) (hout : w'.output = w.output) (hsize : w.heap.size ≤ w'.heap.size) (hkeep : ∀ b, b < w.heap.size → (∀ c o, c ∈ C → look H c = some o → b ∈ F c → False) → w'.heap[b]? = w.heap[b]?)
    (hob' : ∀ ρ', ObR ρ' S w' root o Fi) (hnd : Fi.Nodup) (hFi : ∀ b, b ∈ Fi → (∃ c o, c ∈ C ∧ look H c = some o ∧ b ∈ F c) ∨ (w.heap.size ≤ b ∧ b < w'.heap.size))
    {x : Value} {v : V} (hv : RV (fun j => if j = i then some root else if j ∈ C then none else ρ j) S w' x v) : Post ρ S F H w v ((i, o) :: hrem C H) [] x w' := by
  let ρ' : Nat → Option Value := fun j => if j = i then some root else if j ∈ C then none else ρ j
  have hρ : ∀ j r, ρ' j = some r → ρ j = some r := fun j r hj => by
    simp only [ρ'] at hj
    split at hj
    · subst_vars; exact hroot.trans hj
    · split at hj
      · cases hj
      · exact hj
  -- a block of an object that stays, or of S, is kept
  have kS : ∀ b, S b → w'.heap[b]? = w.heap[b]? := fun b hb => hkeep b (hH.slt b hb) fun c o _ ho hc => hH.sep c o b ho hc hb
  have hk : Keeps S w S w' := fun b hb => ⟨hb, kS b hb⟩
  have kO : ∀ j p b, j ∉ C → look H j = some p → b ∈ F j → w'.heap[b]? = w.heap[b]? := fun j p b hj hp hb => hkeep b (hH.lt j p b hp hb) fun c o hc ho hbc => hH.disj j c p o b hp ho (fun e => hj (e ▸ hc)) hb hbc
  have lookr : ∀ j p, look ((i, o) :: hrem C H) j = some p → (j = i ∧ p = o) ∨ (j ≠ i ∧ j ∉ C ∧ look H j = some p) := fun j p hp => by
    simp only [look, look_hrem] at hp
    split at hp
    · cases hp; exact .inl ⟨‹_›, rfl⟩
    · split at hp
      · cases hp
      · exact .inr ⟨‹_›, ‹_›, hp⟩
  -- the new object's blocks are no other's
  have far : ∀ j p b, j ∉ C → look H j = some p → b ∈ F j → b ∈ Fi → False := fun j p b hj hp hb hbi => by
    rcases hFi b hbi with ⟨c, q, hc, hq, hbc⟩ | ⟨h1, _⟩
    · exact hH.disj j c p q b hp hq (fun e => hj (e ▸ hc)) hb hbc
    · have := hH.lt j p b hp hb; omega
  refine ⟨ρ', S, fun j => if j = i then Fi else F j, hv, ⟨fun j hj => ?_, fun j p hp => ?_, fun j p hp => ?_, fun j j' p p' b hj hj' hne hb hb' => ?_, fun j p b hp hb => ?_, fun j p b hp hb => ?_, fun b hb => Nat.lt_of_lt_of_le (hH.slt b hb) hsize⟩,
    ⟨hos, htape, hout, hsize, fun b hb hu => hkeep b hb fun c o _ ho hbc => hu ⟨c, o, ho, hbc⟩, fun _ h => h, fun _ h => .inl h, fun b hb => ?_⟩, fun j r hj _ => ?_⟩
  · simp only [look, look_hrem] at hj
    simp only [ρ']
    split at hj
    · cases hj
    · rename_i hne
      rw [if_neg hne]
      split at hj
      · rw [if_pos ‹_›]
      · rw [if_neg ‹_›]; exact hH.dom j hj
  · rcases lookr j p hp with ⟨rfl, rfl⟩ | ⟨hne, hC, hp⟩
    · exact ⟨root, by simp [ρ'], by rw [if_pos rfl]; exact hob' ρ'⟩
    · obtain ⟨r, hr, hobj⟩ := hH.obj j p hp
      refine ⟨r, by simp only [ρ', if_neg hne, if_neg hC]; exact hr, ?_⟩
      rw [if_neg hne]
      exact hobj.mono (fun q r hq _ => hρ q r hq) hk (fun b hb => kO j p b hC hp hb)
  · rcases lookr j p hp with ⟨rfl, rfl⟩ | ⟨hne, hC, hp⟩
    · rw [if_pos rfl]; exact hnd
    · rw [if_neg hne]; exact hH.nodup j p hp
  · rcases lookr j p hj with ⟨rfl, rfl⟩ | ⟨hne1, hC1, hp1⟩
    · rcases lookr j' p' hj' with ⟨rfl, rfl⟩ | ⟨hne2, hC2, hp2⟩
      · exact hne rfl
      · rw [if_pos rfl] at hb; rw [if_neg hne2] at hb'
        exact far j' p' b hC2 hp2 hb' hb
    · rcases lookr j' p' hj' with ⟨rfl, rfl⟩ | ⟨hne2, hC2, hp2⟩
      · rw [if_neg hne1] at hb; rw [if_pos rfl] at hb'
        exact far j p b hC1 hp1 hb hb'
      · rw [if_neg hne1] at hb; rw [if_neg hne2] at hb'
        exact hH.disj j j' p p' b hp1 hp2 hne hb hb'
  · rcases lookr j p hp with ⟨rfl, rfl⟩ | ⟨hne, hC, hp⟩
    · rw [if_pos rfl] at hb
      intro hs
      rcases hFi b hb with ⟨c, q, hc, hq, hbc⟩ | ⟨h1, _⟩
      · exact hH.sep c q b hq hbc hs
      · have := hH.slt b hs; omega
    · rw [if_neg hne] at hb; exact hH.sep j p b hp hb
  · rcases lookr j p hp with ⟨rfl, rfl⟩ | ⟨hne, hC, hp⟩
    · rw [if_pos rfl] at hb
      rcases hFi b hb with ⟨c, q, hc, hq, hbc⟩ | ⟨_, h2⟩
      · exact Nat.lt_of_lt_of_le (hH.lt c q b hq hbc) hsize
      · exact h2
    · rw [if_neg hne] at hb; exact Nat.lt_of_lt_of_le (hH.lt j p b hp hb) hsize
  · obtain ⟨j, p, hp, hb⟩ := hb
    rcases lookr j p hp with ⟨rfl, rfl⟩ | ⟨hne, hC, hp⟩
    · replace hb : b ∈ (if j = j then Fi else F j) := hb
      rw [if_pos rfl] at hb
      rcases hFi b hb with ⟨c, q, hc, hq, hbc⟩ | ⟨h1, _⟩
      · exact .inl ⟨c, q, hq, hbc⟩
      · exact .inr h1
    · replace hb : b ∈ (if j = i then Fi else F j) := hb
      rw [if_neg hne] at hb
      exact .inl ⟨j, p, hp, hb⟩
  · exact hρ j r hj


theorem flat_nodup {n k : Nat} {Fs : Nat → Nat → List Nat} : (flat n k Fs).Nodup ↔ (∀ i j, i < n → j < k → (Fs i j).Nodup) ∧ (∀ i j i' j' b, i < n → j < k → i' < n → j' < k → b ∈ Fs i j → b ∈ Fs i' j' → i = i' ∧ j = j') := by
  have row : ∀ i, ((List.range k).flatMap fun j => Fs i j).Nodup ↔ (∀ j, j < k → (Fs i j).Nodup) ∧ ∀ j j' b, j < k → j' < k → b ∈ Fs i j → b ∈ Fs i j' → j = j' := fun i => by
    unfold List.Nodup
    rw [List.pairwise_flatMap]
    constructor
    · rintro ⟨h1, h2⟩
      refine ⟨fun j hj => h1 j (by simpa using hj), fun j j' b hj hj' hb hb' => ?_⟩
      rw [List.pairwise_iff_getElem] at h2
      rcases Nat.lt_trichotomy j j' with h | h | h
      · exact absurd rfl (h2 j j' (by simpa using hj) (by simpa using hj') h b (by simpa using hb) b (by simpa using hb'))
      · exact h
      · exact absurd rfl (h2 j' j (by simpa using hj') (by simpa using hj) h b (by simpa using hb') b (by simpa using hb))
    · rintro ⟨h1, h2⟩
      refine ⟨fun j hj => h1 j (by simpa using hj), ?_⟩
      rw [List.pairwise_iff_getElem]
      intro j j' hj hj' hlt x hx y hy e
      simp only [List.length_range] at hj hj'
      simp only [List.getElem_range] at hx hy
      subst e
      have := h2 j j' x hj hj' hx hy
      omega
  unfold flat
  constructor
  · intro h
    unfold List.Nodup at h
    rw [List.pairwise_flatMap] at h
    obtain ⟨h1, h2⟩ := h
    refine ⟨fun i j hi hj => ((row i).1 (h1 i (by simpa using hi))).1 j hj, fun i j i' j' b hi hj hi' hj' hb hb' => ?_⟩
    rw [List.pairwise_iff_getElem] at h2
    have m : ∀ i j, j < k → b ∈ Fs i j → b ∈ (List.range k).flatMap fun j => Fs i j := fun i j hj hb => List.mem_flatMap.2 ⟨j, by simpa using hj, hb⟩
    have e : i = i' := by
      rcases Nat.lt_trichotomy i i' with h | h | h
      · exact absurd rfl (h2 i i' (by simpa using hi) (by simpa using hi') h b (by simpa using m i j hj hb) b (by simpa using m i' j' hj' hb'))
      · exact h
      · exact absurd rfl (h2 i' i (by simpa using hi') (by simpa using hi) h b (by simpa using m i' j' hj' hb') b (by simpa using m i j hj hb))
    subst e
    exact ⟨rfl, ((row i).1 (h1 i (by simpa using hi))).2 j j' b hj hj' hb hb'⟩
  · rintro ⟨h1, h2⟩
    unfold List.Nodup
    rw [List.pairwise_flatMap]
    refine ⟨fun i hi => (row i).2 ⟨fun j hj => h1 i j (by simpa using hi) hj, fun j j' b hj hj' hb hb' => (h2 i j i j' b (by simpa using hi) hj (by simpa using hi) hj' hb hb').2⟩, ?_⟩
    rw [List.pairwise_iff_getElem]
    intro i i' hi hi' hlt x hx y hy e
    simp only [List.length_range] at hi hi'
    simp only [List.getElem_range] at hx hy
    subst e
    obtain ⟨j, hj, hb⟩ := List.mem_flatMap.1 hx
    obtain ⟨j', hj', hb'⟩ := List.mem_flatMap.1 hy
    have := (h2 i j i' j' x hi (by simpa using hj) hi' (by simpa using hj') hb hb').1
    omega

/-- a store into an element of one's own slice -/
theorem OpOk.storeVp {D : Tab} (hD : TabOk P D) {o : Oper} {e : Operand → V} {H : Hp} {t : TypeId} {a x : Operand} {it : Ty} {i k m b : Nat} {nn : Bool} {ety : TypeId} {rows : List (List V)} {row cs ys : List V} {C : List Nat}
    (ho : o.op = .store t a x) (ht : D.at t = some it) (ha : e a = .vp i k m b) (hi : look H i = some (.vec nn ety k rows)) (hrow : rows[m]? = some row) (hx : cellsV H (e x) = some cs) (habs : absL H cs = some (ys, C)) (hC : C.Nodup) (hiC : i ∉ C)
    (hsz : cs.length = it.size) (hfit : b + cs.length ≤ k) :
    OpOk P G o e H .junk ((i, .vec nn ety k (rows.set m (putAt row ys b))) :: hrem (i :: C) H) [] := by
  intro ρ S F η w hη hH hG
  have h1 := hη a (by simp [ho, Op.operands])
  have h2 := (hη x (by simp [ho, Op.operands])).cells hH hx
  rw [ha] at h1
  obtain ⟨r, hr, hob⟩ := hH.obj i _ hi
  have hndi := hH.nodup i _ hi
  obtain ⟨g, n, cap, e1, e2⟩ := h1.vp_inv r hr
  obtain ⟨hyl, hlive, Cs, hCs, hget⟩ := absL_sound hH cs habs
  have hm : m < rows.length := (List.getElem?_eq_some_iff.1 hrow).1
  have hrl : row.length = k := by
    generalize F i = Fi at hob
    cases hob with
    | vnil => simp at hrow
    | vec _ _ _ _ _ _ _ _ _ _ _ _ _ hk => exact hk m row hrow
  have hrowlen : (putAt row ys b).length = k := by
    unfold putAt
    simp only [List.length_append, List.length_take, List.length_drop]; omega
  have hrows' : ∀ (q : Nat) (r' : List V), (rows.set m (putAt row ys b))[q]? = some r' → (q = m ∧ r' = putAt row ys b) ∨ (q ≠ m ∧ rows[q]? = some r') := fun q r' hq => by
    rw [List.getElem?_set] at hq
    by_cases h : m = q
    · rw [if_pos h, if_pos hm] at hq
      exact .inl ⟨h.symm, (Option.some.inj hq).symm⟩
    · rw [if_neg h] at hq
      exact .inr ⟨fun h' => h h'.symm, hq⟩
  have hput : ∀ (j : Nat) (y : V), (putAt row ys b)[j]? = some y → (b ≤ j ∧ j < b + cs.length ∧ ys[j - b]? = some y) ∨ ((j < b ∨ b + cs.length ≤ j) ∧ row[j]? = some y) := fun j y hj => by
    have hlt := (List.getElem?_eq_some_iff.1 hj).1
    rw [hrowlen] at hlt
    unfold putAt at hj
    rw [List.append_assoc] at hj
    by_cases hb : j < b
    · rw [List.getElem?_append_left (by simp; omega), List.getElem?_take, if_pos hb] at hj
      exact .inr ⟨.inl hb, hj⟩
    · rw [List.getElem?_append_right (by simp; omega)] at hj
      simp only [List.length_take] at hj
      rw [show j - min b row.length = j - b by omega] at hj
      by_cases hb2 : j - b < ys.length
      · rw [List.getElem?_append_left hb2] at hj
        exact .inl ⟨by omega, by omega, hj⟩
      · rw [List.getElem?_append_right (by omega), List.getElem?_drop] at hj
        rw [show b + ys.length + (j - b - ys.length) = j by omega] at hj
        exact .inr ⟨.inr (by omega), hj⟩
  -- the object
  have hobj : ∃ (arr : Array Value) (cc : Nat → Nat → Value) (Fs : Nat → Nat → List Nat), r = .slice (some ⟨g, 0, none⟩) rows.length cap ∧ F i = g :: flat rows.length k Fs ∧ w.heap[g]? = some (.cells arr ety (0, 0)) ∧ rows.length ≤ cap ∧ cap ≤ maxLen ∧ arr.size = cap * k ∧
      (∀ (i : Nat) (r : List V), rows[i]? = some r → r.length = k) ∧ (∀ (i j : Nat) (r : List V) (x : V), rows[i]? = some r → r[j]? = some x → arr[i * k + j]? = some (cc i j)) ∧ (∀ (i j : Nat) (r : List V) (x : V), rows[i]? = some r → r[j]? = some x → RD S w (cc i j) x (Fs i j)) := by
    generalize F i = Fi at hob
    cases hob with
    | vnil => simp at hrow
    | vec g' cap' arr _ _ _ _ cc Fs hh hcap hmax hasz hk hc hrd =>
      cases e1
      exact ⟨arr, cc, Fs, rfl, rfl, hh, hcap, hmax, hasz, hk, hc, hrd⟩
  obtain ⟨arr, cc, Fs, hroot, hFi, hh, hcap, hmax, hasz, hk, hc, hrd⟩ := hobj
  have hmk : m * k + k ≤ cap * k := by
    have := Nat.mul_le_mul_right k (show m + 1 ≤ cap by omega)
    rw [Nat.add_mul, Nat.one_mul] at this; exact this
  have hlen : (η x).cells.toList.length = cs.length := by simpa using h2.1
  have hst := run_storeCells_at P g (m * k + b) ety (η x).cells.toList 0 arr w hh (by rw [hlen, hasz]; omega) (fun v hv => by
    obtain ⟨p, hp⟩ := List.getElem?_of_mem hv
    exact h2.2.1 p v (by simpa using hp))
  simp only [Nat.add_zero] at hst
  let out : Array Value := (arr.toList.take (m * k + b) ++ (η x).cells.toList ++ arr.toList.drop (m * k + b + (η x).cells.toList.length)).toArray
  have hrun : (execOp η o).run P w = .ok .skip (w.setRow g out) := by
    unfold execOp
    simp only [ho, Instr.storeAt, Instr.sureAddr, e2, storeVar, Sem.run_bind, Sem.run_pure, Result.andThen_ok, (hD _ _ ht).sizeOf w]
    rw [if_neg (by have := h2.1; omega)]
    simp only [hst, Result.andThen_ok]
    rfl
  unfold ExecTo
  rw [hrun]
  have hkeep : ∀ b, b ≠ g → (w.setRow g out).heap[b]? = w.heap[b]? := fun b hb => setRow_other w g b _ hb
  have hgS : ¬ S g := hH.sep i _ g hi (by rw [hFi]; simp)
  have hkS : Keeps S w S (w.setRow g out) := fun b hb => ⟨hb, hkeep b fun e => hgS (e ▸ hb)⟩
  have hout : ∀ p, out[p]? = if p < m * k + b then arr[p]? else if p < m * k + b + cs.length then (η x).cells[p - (m * k + b)]? else arr[p]? := fun p => by
    simp only [out, List.getElem?_toArray]
    rw [splice_get _ _ _ _ (by simp; omega), hlen]
    simp only [Array.getElem?_toList]
    by_cases h1 : p < m * k + b
    · rw [if_neg (by omega), if_pos h1]
    · rw [if_neg h1]
      by_cases h2 : p < m * k + b + cs.length
      · rw [if_pos ⟨by omega, h2⟩, if_pos h2]
      · rw [if_neg (by omega), if_neg h2]
  have hoisz : out.size = cap * k := by
    simp only [out, List.size_toArray, List.length_append, List.length_take, List.length_drop, Array.length_toList]
    have := h2.1
    omega
  have hblk : ∀ c o', c ∈ C → look H c = some o' → g ∉ F c := fun c o' hcC hl hb => hH.disj c i o' _ g hl hi (fun e => hiC (e ▸ hcC)) hb (by rw [hFi]; simp)
  -- whose the blocks are
  let Gs : Nat → Nat → List Nat := fun q j => if q = m ∧ b ≤ j ∧ j < b + cs.length then (Cs (j - b)).flatMap F else Fs q j
  let gg : Nat → Nat → Value := fun q j => out.getD (q * k + j) undef
  have hCsC : ∀ p c, p < cs.length → c ∈ Cs p → c ∈ C := fun p c hp hc => by rw [hCs]; exact List.mem_flatMap.2 ⟨p, by simpa using hp, hc⟩
  have idx : ∀ q j, q ≠ m → j < k → (q * k + j < m * k ∨ m * k + k ≤ q * k + j) := fun q j hne hj => by
    rcases Nat.lt_or_gt_of_ne hne with h | h
    · left
      have := Nat.mul_le_mul_right k (show q + 1 ≤ m by omega)
      rw [Nat.add_mul, Nat.one_mul] at this; omega
    · right
      have := Nat.mul_le_mul_right k (show m + 1 ≤ q by omega)
      rw [Nat.add_mul, Nat.one_mul] at this; omega
  have cell : ∀ (q j : Nat) (r' : List V) (y : V), (rows.set m (putAt row ys b))[q]? = some r' → r'[j]? = some y → ∃ c, out[q * k + j]? = some c ∧ RD S (w.setRow g out) c y (Gs q j) := by
    intro q j r' y hq hj
    have hjk : j < k := by
      have h' := (List.getElem?_eq_some_iff.1 hj).1
      rcases hrows' q r' hq with ⟨_, rfl⟩ | ⟨_, hq'⟩
      · omega
      · rw [hk q r' hq'] at h'; exact h'
    have stay : ∀ (r0 : List V), rows[q]? = some r0 → r0[j]? = some y → (¬ (q = m ∧ b ≤ j ∧ j < b + cs.length)) → ∃ c, out[q * k + j]? = some c ∧ RD S (w.setRow g out) c y (Gs q j) := by
      intro r0 hr0 hj0 hno
      refine ⟨cc q j, ?_, ?_⟩
      · rw [hout]
        have : (q * k + j < m * k + b ∨ m * k + b + cs.length ≤ q * k + j) := by
          by_cases hqm : q = m
          · subst hqm
            have : ¬ (b ≤ j ∧ j < b + cs.length) := fun h => hno ⟨rfl, h⟩
            omega
          · rcases idx q j hqm hjk with h | h <;> omega
        rcases this with h | h
        · rw [if_pos h]; exact hc q j r0 y hr0 hj0
        · rw [if_neg (by omega), if_neg (by omega)]; exact hc q j r0 y hr0 hj0
      · simp only [Gs]
        rw [if_neg hno]
        refine (hrd q j r0 y hr0 hj0).mono hkS fun b' hb' => hkeep b' fun e => ?_
        rw [hFi, List.nodup_cons] at hndi
        refine hndi.1 (mem_flat.2 ⟨q, j, (List.getElem?_eq_some_iff.1 hr0).1, hjk, ?_⟩)
        exact e ▸ hb'
    rcases hrows' q r' hq with ⟨rfl, rfl⟩ | ⟨hne, hq'⟩
    · rcases hput j y hj with ⟨hb1, hb2, hy⟩ | ⟨hb1, hy⟩
      · obtain ⟨x0, hx0, hax⟩ := hget _ y hy
        obtain ⟨c, hc1, hc2⟩ := h2.2.2 _ x0 hx0
        obtain ⟨Fx, hd, rfl, _, hlv⟩ := absV_sound hH hax hc2
        refine ⟨c, ?_, ?_⟩
        · rw [hout, if_neg (by omega), if_pos (by omega), show q * k + j - (q * k + b) = j - b by omega]
          exact hc1
        · simp only [Gs]
          rw [if_pos ⟨trivial, hb1, hb2⟩]
          refine hd.mono hkS fun b' hb' => hkeep b' fun e => ?_
          obtain ⟨c', hc', hbc⟩ := List.mem_flatMap.1 hb'
          obtain ⟨o', ho'⟩ := hlv c' hc'
          exact hblk c' o' (hCsC _ c' (by omega) hc') ho' (e ▸ hbc)
      · exact stay row hrow hy (fun h => by omega)
    · exact stay r' hq' hj (fun h => hne h.1)
  have hC2 : (C.flatMap F).Nodup := nodup_flatMap_of hC (fun c hc => by obtain ⟨o', ho'⟩ := hlive c hc; exact hH.nodup c o' ho') (fun c c' b' hc hc' hne hb hb' => by
    obtain ⟨o1, ho1⟩ := hlive c hc
    obtain ⟨o2, ho2⟩ := hlive c' hc'
    exact hH.disj c c' o1 o2 b' ho1 ho2 hne hb hb')
  have hndi2 := hndi
  rw [hFi, List.nodup_cons] at hndi2
  have hFs := flat_nodup.1 hndi2.2
  have hCsn : ((List.range cs.length).flatMap fun p => (Cs p).flatMap F).Nodup := by rw [← List.flatMap_assoc, ← hCs]; exact hC2
  have hCs1 := (flat_nodup (n := 1) (k := cs.length) (Fs := fun _ p => (Cs p).flatMap F)).1 (by simpa [flat] using hCsn)
  have mixed : ∀ (p : Nat) (q j b' : Nat), p < cs.length → q < rows.length → j < k → b' ∈ (Cs p).flatMap F → b' ∈ Fs q j → False := fun p q j b' hp hq hj hb hb' => by
    obtain ⟨c', hc', hbc⟩ := List.mem_flatMap.1 hb
    obtain ⟨o', ho'⟩ := hlive c' (hCsC p c' hp hc')
    exact hH.disj c' i o' _ b' ho' hi (fun e => hiC (e ▸ hCsC p c' hp hc')) hbc (by rw [hFi]; exact List.mem_cons_of_mem _ (mem_flat.2 ⟨q, j, hq, hj, hb'⟩))
  have hGn : (flat rows.length k Gs).Nodup := by
    rw [flat_nodup]
    refine ⟨fun q j hq hj => ?_, fun q j q' j' b' hq hj hq' hj' hb hb' => ?_⟩
    · simp only [Gs]
      split
      · exact hCs1.1 0 (j - b) (by omega) (by omega)
      · exact hFs.1 q j hq hj
    · simp only [Gs] at hb hb'
      split at hb
      · rename_i h1
        split at hb'
        · rename_i h2
          have := (hCs1.2 0 (j - b) 0 (j' - b) b' (by omega) (by omega) (by omega) (by omega) hb hb').2
          omega
        · exact (mixed (j - b) q' j' b' (by omega) hq' hj' hb hb').elim
      · split at hb'
        · exact (mixed (j' - b) q j b' (by omega) hq hj hb' hb).elim
        · exact hFs.2 q j q' j' b' hq hj hq' hj' hb hb'
  have hGmem : ∀ b', b' ∈ flat rows.length k Gs → b' ∈ flat rows.length k Fs ∨ ∃ c, c ∈ C ∧ b' ∈ F c := fun b' hb => by
    obtain ⟨q, j, hq, hj, hb⟩ := mem_flat.1 hb
    simp only [Gs] at hb
    split at hb
    · obtain ⟨c', hc', hbc⟩ := List.mem_flatMap.1 hb
      exact .inr ⟨c', hCsC _ c' (by omega) hc', hbc⟩
    · exact .inl (mem_flat.2 ⟨q, j, hq, hj, hb⟩)
  have hlen2 : (rows.set m (putAt row ys b)).length = rows.length := by simp
  refine Post.upd hH (i :: C) (w' := w.setRow g out) (i := i) (root := r) (Fi := g :: flat rows.length k Gs) hr rfl rfl rfl (by simp) (fun b' hb' hno => hkeep b' fun e => hno i _ (by simp) hi (by rw [hFi, e]; simp)) (fun ρ' => ?_) ?_ (fun b' hb => ?_) (.junk _)
  · rw [hroot]
    have hlr : Value.slice (some ⟨g, 0, none⟩) rows.length cap = Value.slice (some ⟨g, 0, none⟩) (rows.set m (putAt row ys b)).length cap := by rw [hlen2]
    rw [hlr, show flat rows.length k Gs = flat (rows.set m (putAt row ys b)).length k Gs by rw [hlen2]]
    refine .vec g cap out nn ety k _ gg Gs (setRow_heap w g arr _ ety _ hh) (by rw [hlen2]; exact hcap) hmax hoisz (fun q r' hq => ?_) (fun q j r' y hq hj => ?_) (fun q j r' y hq hj => ?_)
    · rcases hrows' q r' hq with ⟨_, rfl⟩ | ⟨_, hq'⟩
      · exact hrowlen
      · exact hk q r' hq'
    · obtain ⟨c, hc1, _⟩ := cell q j r' y hq hj
      simp [gg, Array.getD_eq_getD_getElem?, hc1]
    · obtain ⟨c, hc1, hc2⟩ := cell q j r' y hq hj
      have : gg q j = c := by simp [gg, Array.getD_eq_getD_getElem?, hc1]
      rw [this]; exact hc2
  · rw [List.nodup_cons]
    refine ⟨fun hg => ?_, hGn⟩
    rcases hGmem g hg with h | ⟨c, hc, hb⟩
    · exact hndi2.1 h
    · obtain ⟨o', ho'⟩ := hlive c hc
      exact hblk c o' hc ho' hb
  · rcases List.mem_cons.1 hb with rfl | hb
    · exact .inl ⟨i, _, by simp, hi, by rw [hFi]; simp⟩
    · rcases hGmem b' hb with h | ⟨c, hc, hb⟩
      · exact .inl ⟨i, _, by simp, hi, by rw [hFi]; exact List.mem_cons_of_mem _ h⟩
      · obtain ⟨o', ho'⟩ := hlive c hc
        exact .inl ⟨c, o', by simp [hc], ho', hb⟩

/-- a cell, as it can be read where it lies -/
def V.clean : V → V
  | .sl _ true _ => .junk
  | x => x

theorem RD.clean {ρ : Nat → Option Value} {S : Nat → Prop} {w : World} {v : Value} {x : V} {F : List Nat} (h : RD S w v x F) : RV ρ S w v x.clean := by
  cases h with
  | c v h => exact .c v
  | nils x => cases x <;> first | exact .junk _ | exact .sl _ _ _ _ (.nils _)
  | shr a cap nn rows k cs hlen hcap hk hc hr => exact .sl _ _ _ _ (.shr a cap nn rows k cs hlen hcap hk hc hr)
  | exc => exact .junk _

/-- an element of one's own slice is read -/
theorem OpOk.loadVp {D : Tab} (hD : TabOk P D) {o : Oper} {e : Operand → V} {H : Hp} {t : TypeId} {a : Operand} {i k m b : Nat} {nn : Bool} {ety : TypeId} {rows : List (List V)} {row : List V} {v : V}
    (ho : o.op = .load t a) (ha : e a = .vp i k m b) (hi : look H i = some (.vec nn ety k rows)) (hrow : rows[m]? = some row) (hv : takeV D t ((row.drop b).map V.clean) = some v) : OpOk P G o e H v H [] := by
  refine OpOk.pure fun ρ S F η w hη hH => ?_
  have h1 := hη a (by simp [ho, Op.operands])
  rw [ha] at h1
  obtain ⟨r, hr, hob⟩ := hH.obj i _ hi
  obtain ⟨g, n, cap, e1, e2⟩ := h1.vp_inv r hr
  unfold execOp
  simp only [ho, e2]
  generalize F i = Fi at hob
  cases hob with
  | vnil => simp at hrow
  | vec g' cap' arr _ _ _ _ cc Fs hh hcap hmax hasz hk hc hrd =>
    cases e1
    obtain ⟨u, hu, hrv⟩ := takeV_sound hD hv (ρ := ρ) (S := S) (w := w) (a := ⟨g, m * k + b, none⟩) (cc := fun j => cc m (b + j)) fun j x hx => by
      rw [List.getElem?_map, Option.map_eq_some_iff] at hx
      obtain ⟨y, hy, rfl⟩ := hx
      rw [List.getElem?_drop] at hy
      have hcell := hc m (b + j) row y hrow hy
      rw [Addr.add_lit, cell_of_row w g (m * k + b + j) arr ety (0, 0) hh, show m * k + b + j = m * k + (b + j) by omega]
      exact ⟨hcell, (hrd m (b + j) row y hrow hy).one, (hrd m (b + j) row y hrow hy).clean⟩
    exact ⟨u, by simp [Instr.loadAt, Instr.sureAddr, hu], hrv⟩

end
end Go.Av
