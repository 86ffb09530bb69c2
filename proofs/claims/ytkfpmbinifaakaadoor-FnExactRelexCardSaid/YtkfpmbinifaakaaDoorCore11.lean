/-
  Core11: stores; slices made, grown, cut, read; strings.
-/
import Derived.Test.YtkfpmbinifaakaaDoorCore10
namespace Go.Av

section
variable {P : Program} {G : Nat → Option (List V)}

/-- append, whatever the source, onto a slice that the activation owns -/
theorem run_append_vec (w : World) (t tx ty e : TypeId) (i : TypeInfo) (z : Value) (ht : P.underlying t = some (.slice e)) (hi : P.info? e = some i) (hz : i.zero = some z) (hzs : z.cells.size = i.size)
    (v : Value) (n : Nat) (x : Value) (m : Nat) (news : List Value) (hs : Src P i.size tx x m news w) (old : Nat → Option Value)
    (hv : (v = .slice none 0 0 ∧ n = 0) ∨ ∃ g cap arr, v = .slice (some ⟨g, 0, none⟩) n cap ∧ w.heap[g]? = some (.cells arr e (0, 0)) ∧ n ≤ cap ∧ cap ≤ maxLen ∧ arr.size = cap * i.size ∧ ∀ p, p < n * i.size → arr[p]? = old p)
    (h63 : n + m ≤ maxLen) (hb : (n + m) * i.bytes ≤ 140737488355328) :
    ∃ v' w', (Builtin.append_ #[t, tx] ty #[v, x]).run P w = .ok v' w' ∧ w.grownBy w' v.ownBlock ∧
      ((v' = .slice none 0 0 ∧ v = .slice none 0 0 ∧ n = 0 ∧ m = 0) ∨
       ∃ g' cap' arr', v' = .slice (some ⟨g', 0, none⟩) (n + m) cap' ∧ w'.heap[g']? = some (.cells arr' e (0, 0)) ∧ n + m ≤ cap' ∧ cap' ≤ maxLen ∧ arr'.size = cap' * i.size ∧
         (∀ p, p < n * i.size → arr'[p]? = old p) ∧ (∀ p, p < m * i.size → arr'[n * i.size + p]? = news[p]?) ∧ (v.ownBlock = some g' ∨ w.heap.size ≤ g') ∧ g' < w'.heap.size) := by
  have hsmall : n + m ≤ 9223372036854775807 := by simp only [maxLen] at h63; omega
  have grown : ∀ (oc : Nat) (olds : List Value), olds.length = n * i.size → (∀ p, p < n * i.size → olds[p]? = old p) → oc < n + m → ∀ row,
      w.grownBy (w.drew.alloc (.cells ((olds ++ news).toArray ++ Builtin.zeroCells z.cells (grownCap w (n + m) oc e - (n + m))) e)) row ∧
      ∃ g' cap' arr', Value.slice (some ⟨w.heap.size, 0, none⟩) (n + m) (grownCap w (n + m) oc e) = .slice (some ⟨g', 0, none⟩) (n + m) cap' ∧
         (w.drew.alloc (.cells ((olds ++ news).toArray ++ Builtin.zeroCells z.cells (grownCap w (n + m) oc e - (n + m))) e)).heap[g']? = some (.cells arr' e (0, 0)) ∧ n + m ≤ cap' ∧ cap' ≤ maxLen ∧ arr'.size = cap' * i.size ∧
         (∀ p, p < n * i.size → arr'[p]? = old p) ∧ (∀ p, p < m * i.size → arr'[n * i.size + p]? = news[p]?) ∧ (v.ownBlock = some g' ∨ w.heap.size ≤ g') ∧
         g' < (w.drew.alloc (.cells ((olds ++ news).toArray ++ Builtin.zeroCells z.cells (grownCap w (n + m) oc e - (n + m))) e)).heap.size := by
    intro oc olds hlen hold ho row
    have hge := grownCap_ge w (n + m) oc e
    have hcm : grownCap w (n + m) oc e ≤ maxLen := grownCap_le_maxLen w (n + m) oc e h63
    refine ⟨⟨rfl, rfl, rfl, by simp, fun k hk _ => heap_alloc_old w.drew _ k hk⟩, w.heap.size, _, _, rfl, heap_alloc_new w.drew _, hge, hcm, ?_, fun p hp => ?_, fun p hp => ?_, .inr (Nat.le_refl _), by simp⟩
    · simp only [Array.size_append, List.size_toArray, List.length_append, size_zeroCells, hzs, hlen, hs.newsLen, ← Nat.add_mul]
      congr 1
      omega
    · rw [Array.getElem?_append_left (by simp [hlen, hs.newsLen]; omega)]
      simp only [List.getElem?_toArray]
      rw [List.getElem?_append_left (by omega)]
      exact hold p hp
    · rw [Array.getElem?_append_left (by simp [hlen, hs.newsLen]; omega)]
      simp only [List.getElem?_toArray]
      rw [List.getElem?_append_right (by omega), hlen]
      congr 1; omega
  rcases hv with ⟨rfl, rfl⟩ | ⟨g, cap, arr, rfl, hg, hnc, hcm, hsz, harr⟩
  · by_cases hm : m = 0
    · subst hm
      refine ⟨.slice none 0 0, w, ?_, ⟨rfl, rfl, rfl, Nat.le_refl _, fun _ _ _ => rfl⟩, .inl ⟨rfl, rfl, rfl, rfl⟩⟩
      have hnews : news = [] := List.eq_nil_of_length_eq_zero (by rw [hs.newsLen]; simp)
      rcases hs.kind with ⟨e', hk⟩ | hk <;> simp [Builtin.append_, run_underlying ht, run_underlying hk, sizeOf, typeInfo, hi, hs.len, hs.cells]
    · have hr := run_append_grow_src w t tx ty e i z ht hi hz none 0 0 [] (by simp [Builtin.firstCells]) x m news hs (by omega) (by omega) (growslice_fits (by omega) hb)
      obtain ⟨h1, h2⟩ := grown 0 [] (by simp) (fun p hp => by simp at hp) (by omega) (Value.slice none 0 0).ownBlock
      exact ⟨_, _, hr, h1, .inr h2⟩
  · by_cases hroom : n + m ≤ cap
    · have hfit : 0 + n * i.size + news.length ≤ arr.size := by rw [hs.newsLen, hsz]; have := Nat.mul_le_mul_right i.size hroom; rw [Nat.add_mul] at this; omega
      have hst := run_storeCells_at P g (n * i.size) e news 0 arr w hg (by simpa using hfit) hs.one
      simp only [Nat.add_zero] at hst
      have hr : (Builtin.append_ #[t, tx] ty #[.slice (some ⟨g, 0, none⟩) n cap, x]).run P w = .ok (.slice (some ⟨g, 0, none⟩) (n + m) cap) (w.setRow g (arr.toList.take (n * i.size) ++ news ++ arr.toList.drop (n * i.size + news.length)).toArray) := by
        rcases hs.kind with ⟨e', hk⟩ | hk <;> simp [Builtin.append_, run_underlying ht, run_underlying hk, sizeOf, typeInfo, hi, hs.len, hroom, hs.cells, Addr.add_lit, hst]
      have hf' : n * i.size + news.length ≤ arr.toList.length := by simpa using hfit
      refine ⟨_, _, hr, ⟨rfl, rfl, rfl, by simp, fun k _ hk => setRow_other w g k _ (fun e => hk (by simp [Value.ownBlock, e]))⟩, .inr ⟨g, cap, _, rfl, setRow_heap w g arr _ e _ hg, hroom, hcm, ?_, fun p hp => ?_, fun p hp => ?_, .inl rfl, ?_⟩⟩
      · simp only [List.size_toArray, List.length_append, List.length_take, List.length_drop, Array.length_toList]
        simp only [Array.length_toList] at hf'
        omega
      · simp only [List.getElem?_toArray]
        rw [splice_get _ _ _ _ hf', if_neg (by omega)]
        simpa using harr p hp
      · simp only [List.getElem?_toArray]
        rw [splice_get _ _ _ _ hf', if_pos (by rw [hs.newsLen]; omega)]
        congr 1; omega
      · simp only [setRow_size]; exact (Array.getElem?_eq_some_iff.1 hg).1
    · have hold : (Builtin.firstCells i.size n (.slice (some ⟨g, 0, none⟩) n cap)).run P w.drew = .ok (arr.toList.take (n * i.size)).toArray w.drew := by
        have hn : n * i.size ≤ arr.size := by rw [hsz]; exact Nat.mul_le_mul_right _ hnc
        refine run_firstCells_some w.drew i.size n ⟨g, 0, none⟩ n cap _ (by simp; omega) fun j u hj => ?_
        rw [Addr.add_lit, Nat.zero_add, cell_of_row w.drew g j arr e (0, 0) hg]
        rw [List.getElem?_take] at hj
        split at hj
        · simpa using hj
        · cases hj
      have hr := run_append_grow_src w t tx ty e i z ht hi hz (some ⟨g, 0, none⟩) n cap _ hold x m news hs (by omega) (by omega) (growslice_fits (by omega) hb)
      have hn : n * i.size ≤ arr.size := by rw [hsz]; exact Nat.mul_le_mul_right _ hnc
      obtain ⟨h1, h2⟩ := grown cap (arr.toList.take (n * i.size)) (by simp; omega) (fun p hp => by rw [List.getElem?_take, if_pos hp]; simpa using harr p hp) (by omega) (Value.slice (some ⟨g, 0, none⟩) n cap).ownBlock
      exact ⟨_, _, hr, h1, .inr h2⟩

/-! ### some objects are used up, one comes in their place -/
def hrem (C : List Nat) (H : Hp) : Hp := H.filter fun p => !C.contains p.1

theorem look_hrem (C : List Nat) (H : Hp) (j : Nat) : look (hrem C H) j = if j ∈ C then none else look H j := by
  induction H with
  | nil => simp [hrem, look]
  | cons x H ih =>
    obtain ⟨k, p⟩ := x
    unfold hrem at ih ⊢
    simp only [List.filter_cons]
    by_cases hk : k ∈ C
    · simp only [List.contains_eq_mem, hk, decide_true, Bool.not_true, Bool.false_eq_true, if_false, look]
      simp only [List.contains_eq_mem] at ih
      rw [ih]
      by_cases hj : j = k
      · subst hj; simp [hk]
      · simp [hj]
    · simp only [List.contains_eq_mem, hk, decide_false, Bool.not_false, if_true, look]
      simp only [List.contains_eq_mem] at ih
      rw [ih]
      by_cases hj : j = k
      · subst hj; simp [hk]
      · simp [hj]

theorem Post.repl {ρ : Nat → Option Value} {S : Nat → Prop} {F : Nat → List Nat} {H : Hp} {w w' : World} (hH : HRel ρ S F H w) (C : List Nat) {i : Nat} (hi : hasH i H = false) {o : Ob} {root : Value} {Fi : List Nat}
    (hos : w'.os = w.os) (htape : w'.tape = w.tape) (hout : w'.output = w.output) (hsize : w.heap.size ≤ w'.heap.size) (hkeep : ∀ b, b < w.heap.size → (∀ c o, c ∈ C → look H c = some o → b ∈ F c → False) → w'.heap[b]? = w.heap[b]?)
    (hob' : ∀ ρ', ObR ρ' S w' root o Fi) (hnd : Fi.Nodup) (hFi : ∀ b, b ∈ Fi → (∃ c o, c ∈ C ∧ look H c = some o ∧ b ∈ F c) ∨ (w.heap.size ≤ b ∧ b < w'.heap.size))
    {x : Value} {v : V} (hv : RV (fun j => if j = i then some root else if j ∈ C then none else ρ j) S w' x v) : Post ρ S F H w v ((i, o) :: hrem C H) [i] x w' := by
  obtain ⟨hl, hO⟩ := hasH_false hi
  let ρ' : Nat → Option Value := fun j => if j = i then some root else if j ∈ C then none else ρ j
  have hρ : ∀ (p : Ob), p.has i = false → ∀ j r, ρ' j = some r → p.has j = true → ρ j = some r := fun p hy j r hj hh => by
    simp only [ρ'] at hj
    split at hj
    · subst_vars; rw [hy] at hh; cases hh
    · split at hj
      · cases hj
      · exact hj
  -- a block of an object that stays, or of S, is kept
  have kS : ∀ b, S b → w'.heap[b]? = w.heap[b]? := fun b hb => hkeep b (hH.slt b hb) fun c o _ ho hc => hH.sep c o b ho hc hb
  have hk : Keeps S w S w' := fun b hb => ⟨hb, kS b hb⟩
  have kO : ∀ j p b, j ∉ C → look H j = some p → b ∈ F j → w'.heap[b]? = w.heap[b]? := fun j p b hj hp hb => hkeep b (hH.lt j p b hp hb) fun c o hc ho hbc => hH.disj j c p o b hp ho (fun e => hj (e ▸ hc)) hb hbc
  have lookr : ∀ j p, look ((i, o) :: hrem C H) j = some p → (j = i ∧ p = o) ∨ (j ≠ i ∧ j ∉ C ∧ look H j = some p) := fun j p hp => by
    simp only [look, look_hrem] at hp
    split at hp
    · cases hp; exact .inl ⟨‹_›, rfl⟩
    · split at hp
      · cases hp
      · exact .inr ⟨‹_›, ‹_›, hp⟩
  -- the new object's blocks are no other's
  have far : ∀ j p b, j ∉ C → look H j = some p → b ∈ F j → b ∈ Fi → False := fun j p b hj hp hb hbi => by
    rcases hFi b hbi with ⟨c, q, hc, hq, hbc⟩ | ⟨h1, _⟩
    · exact hH.disj j c p q b hp hq (fun e => hj (e ▸ hc)) hb hbc
    · have := hH.lt j p b hp hb; omega
  refine ⟨ρ', S, fun j => if j = i then Fi else F j, hv, ⟨fun j hj => ?_, fun j p hp => ?_, fun j p hp => ?_, fun j j' p p' b hj hj' hne hb hb' => ?_, fun j p b hp hb => ?_, fun j p b hp hb => ?_, fun b hb => Nat.lt_of_lt_of_le (hH.slt b hb) hsize⟩,
    ⟨hos, htape, hout, hsize, fun b hb hu => hkeep b hb fun c o _ ho hbc => hu ⟨c, o, ho, hbc⟩, fun _ h => h, fun _ h => .inl h, fun b hb => ?_⟩, fun j r hj hN => ?_⟩
  · simp only [look, look_hrem] at hj
    simp only [ρ']
    split at hj
    · cases hj
    · rename_i hne
      rw [if_neg hne]
      split at hj
      · rw [if_pos ‹_›]
      · rw [if_neg ‹_›]; exact hH.dom j hj
  · rcases lookr j p hp with ⟨rfl, rfl⟩ | ⟨hne, hC, hp⟩
    · exact ⟨root, by simp [ρ'], by rw [if_pos rfl]; exact hob' ρ'⟩
    · obtain ⟨r, hr, hobj⟩ := hH.obj j p hp
      refine ⟨r, by simp only [ρ', if_neg hne, if_neg hC]; exact hr, ?_⟩
      rw [if_neg hne]
      exact hobj.mono (hρ p (hO j p hp)) hk (fun b hb => kO j p b hC hp hb)
  · rcases lookr j p hp with ⟨rfl, rfl⟩ | ⟨hne, hC, hp⟩
    · rw [if_pos rfl]; exact hnd
    · rw [if_neg hne]; exact hH.nodup j p hp
  · rcases lookr j p hj with ⟨rfl, rfl⟩ | ⟨hne1, hC1, hp1⟩
    · rcases lookr j' p' hj' with ⟨rfl, rfl⟩ | ⟨hne2, hC2, hp2⟩
      · exact hne rfl
      · rw [if_pos rfl] at hb; rw [if_neg hne2] at hb'
        exact far j' p' b hC2 hp2 hb' hb
    · rcases lookr j' p' hj' with ⟨rfl, rfl⟩ | ⟨hne2, hC2, hp2⟩
      · rw [if_neg hne1] at hb; rw [if_pos rfl] at hb'
        exact far j p b hC1 hp1 hb hb'
      · rw [if_neg hne1] at hb; rw [if_neg hne2] at hb'
        exact hH.disj j j' p p' b hp1 hp2 hne hb hb'
  · rcases lookr j p hp with ⟨rfl, rfl⟩ | ⟨hne, hC, hp⟩
    · rw [if_pos rfl] at hb
      intro hs
      rcases hFi b hb with ⟨c, q, hc, hq, hbc⟩ | ⟨h1, _⟩
      · exact hH.sep c q b hq hbc hs
      · have := hH.slt b hs; omega
    · rw [if_neg hne] at hb; exact hH.sep j p b hp hb
  · rcases lookr j p hp with ⟨rfl, rfl⟩ | ⟨hne, hC, hp⟩
    · rw [if_pos rfl] at hb
      rcases hFi b hb with ⟨c, q, hc, hq, hbc⟩ | ⟨_, h2⟩
      · exact Nat.lt_of_lt_of_le (hH.lt c q b hq hbc) hsize
      · exact h2
    · rw [if_neg hne] at hb; exact Nat.lt_of_lt_of_le (hH.lt j p b hp hb) hsize
  · obtain ⟨j, p, hp, hb⟩ := hb
    rcases lookr j p hp with ⟨rfl, rfl⟩ | ⟨hne, hC, hp⟩
    · replace hb : b ∈ (if j = j then Fi else F j) := hb
      rw [if_pos rfl] at hb
      rcases hFi b hb with ⟨c, q, hc, hq, hbc⟩ | ⟨h1, _⟩
      · exact .inl ⟨c, q, hq, hbc⟩
      · exact .inr h1
    · replace hb : b ∈ (if j = i then Fi else F j) := hb
      rw [if_neg hne] at hb
      exact .inl ⟨j, p, hp, hb⟩
  · simp only [List.mem_singleton] at hN
    simp only [ρ', if_neg hN] at hj
    split at hj
    · cases hj
    · exact hj

/-! ### append -/
theorem flat_add (n m k : Nat) (Fs Gs : Nat → Nat → List Nat) : flat (n + m) k (fun i j => if i < n then Fs i j else Gs (i - n) j) = flat n k Fs ++ flat m k Gs := by
  unfold flat
  rw [List.range_add, List.flatMap_append]
  congr 1
  · simp only [List.flatMap_def]
    congr 1
    refine List.map_congr_left fun i hi => ?_
    have : i < n := by simpa using hi
    simp [this]
  · simp only [List.flatMap_def, List.map_map]
    congr 1
    refine List.map_congr_left fun i hi => ?_
    have : ¬ (n + i < n) := by omega
    simp [this]

/-- what is appended: rows of data -/
structure SrcV (P : Program) (S : Nat → Prop) (w : World) (k : Nat) (tx : TypeId) (x : Value) (rows : List (List V)) (F : List Nat) : Prop where
  ex : ∃ (news : List Value) (cs : Nat → Nat → Value) (Fs : Nat → Nat → List Nat), Src P k tx x rows.length news w ∧ F = flat rows.length k Fs ∧ (∀ (i : Nat) (r : List V), rows[i]? = some r → r.length = k) ∧
    ∀ (i j : Nat) (r : List V) (y : V), rows[i]? = some r → r[j]? = some y → news[i * k + j]? = some (cs i j) ∧ RD S w (cs i j) y (Fs i j)

theorem idx_lt {n k i j : Nat} (hi : i < n) (hj : j < k) : i * k + j < n * k := by
  have : (i + 1) * k ≤ n * k := Nat.mul_le_mul_right k hi
  rw [Nat.add_mul] at this
  omega

theorem SrcV.of_sl {S : Nat → Prop} {w : World} {tx : TypeId} {e' : TypeId} (hk : P.underlying tx = some (.slice e')) {k : Nat} {x : Value} {nn b : Bool} {rows : List (List V)} (h : RD S w x (.sl nn b rows) [])
    (hrk : ∀ r, r ∈ rows → r.length = k) : SrcV P S w k tx x rows [] := by
  have hr : ∀ (i : Nat) (r : List V), rows[i]? = some r → r.length = k := fun i r hi => hrk r (List.mem_of_getElem? hi)
  cases h with
  | nils => exact ⟨[], fun _ _ => undef, fun _ _ => [], Src.ofNil w hk 0, rfl, fun i r h => by simp at h, fun i j r y h => by simp at h⟩
  | shr a cap _ _ k' cs hlen hcap hk' hc hd =>
    have hkk : ∀ (i : Nat) (r : List V), rows[i]? = some r → k' = k := fun i r hi => (hk' i r hi).symm.trans (hr i r hi)
    let news : List Value := (List.range rows.length).flatMap fun i => (List.range k).map fun j => cs i j
    have hget : ∀ (n : Nat) (i j : Nat), i < n → j < k → ((List.range n).flatMap fun i => (List.range k).map fun j => cs i j)[i * k + j]? = some (cs i j) := by
      intro n
      induction n with
      | zero => intro i j hi; omega
      | succ n ih =>
        intro i j hi hj
        rw [List.range_succ, List.flatMap_append]
        have hl : ((List.range n).flatMap fun i => (List.range k).map fun j => cs i j).length = n * k := by
          clear ih hi
          induction n with
          | zero => simp
          | succ n ih => rw [List.range_succ, List.flatMap_append, List.length_append, ih]; simp [Nat.add_mul]
        by_cases hin : i < n
        · rw [List.getElem?_append_left (by rw [hl]; exact idx_lt hin hj)]
          exact ih i j hin hj
        · obtain rfl : i = n := by omega
          rw [List.getElem?_append_right (by omega), hl]
          simp [hj]
    have hlen' : news.length = rows.length * k := by
      show ((List.range rows.length).flatMap _).length = _
      generalize rows.length = n
      induction n with
      | zero => simp
      | succ n ih => rw [List.range_succ, List.flatMap_append, List.length_append, ih]; simp [Nat.add_mul]
    have hcell : ∀ (i j : Nat), i < rows.length → j < k → w.cell? (a.add (i * k + j)) = some (cs i j) ∧ (cs i j).oneCell' = true := fun i j hi hj => by
      have h1 : rows[i]? = some rows[i] := List.getElem?_eq_getElem hi
      have hj' : j < rows[i].length := by rw [hr i _ h1]; exact hj
      have h2 : rows[i][j]? = some rows[i][j] := List.getElem?_eq_getElem hj'
      obtain ⟨_, h3⟩ := hc i j _ _ h1 h2
      rw [hkk i _ h1] at h3
      exact ⟨h3, (hd i j _ _ h1 h2).one⟩
    have hsplit : ∀ p, p < rows.length * k → ∃ i j, i < rows.length ∧ j < k ∧ p = i * k + j := fun p hp => by
      have hk0 : 0 < k := by
        rcases Nat.eq_zero_or_pos k with h0 | h0
        · rw [h0, Nat.mul_zero] at hp; omega
        · exact h0
      refine ⟨p / k, p % k, Nat.div_lt_of_lt_mul (by rwa [Nat.mul_comm]), Nat.mod_lt _ hk0, ?_⟩
      rw [Nat.mul_comm]; exact (Nat.div_add_mod p k).symm
    refine ⟨news, cs, fun _ _ => [], Src.ofSlice w hk a rows.length cap news hlen' (fun p u hu => ?_) (fun u hu => ?_), ?_, hr, fun i j r y h1 h2 => ⟨?_, hd i j r y h1 h2⟩⟩
    · have hp : p < rows.length * k := by rw [← hlen']; exact (List.getElem?_eq_some_iff.1 hu).1
      obtain ⟨i, j, hi, hj, rfl⟩ := hsplit p hp
      have := hget rows.length i j hi hj
      rw [show news[i * k + j]? = some (cs i j) from this] at hu
      cases hu
      exact (hcell i j hi hj).1
    · obtain ⟨p, hp⟩ := List.getElem?_of_mem hu
      have hlt : p < rows.length * k := by rw [← hlen']; exact (List.getElem?_eq_some_iff.1 hp).1
      obtain ⟨i, j, hi, hj, rfl⟩ := hsplit p hlt
      have := hget rows.length i j hi hj
      rw [show news[i * k + j]? = some (cs i j) from this] at hp
      cases hp
      exact (hcell i j hi hj).2
    · have : ∀ n k : Nat, flat n k (fun _ _ => []) = [] := fun n k => by
        apply List.eq_nil_iff_forall_not_mem.2
        intro b hb
        obtain ⟨_, _, _, _, h⟩ := mem_flat.1 hb
        cases h
      exact (this _ _).symm
    · exact hget rows.length i j (List.getElem?_eq_some_iff.1 h1).1 (by have := (List.getElem?_eq_some_iff.1 h2).1; rw [hr i r h1] at this; exact this)

def byteRow (b : UInt8) : List V := [.c (.int .u8 b.toNat)]

theorem SrcV.of_str {S : Nat → Prop} {w : World} {tx : TypeId} (hk : P.underlying tx = some .string) (s : ByteArray) : SrcV P S w 1 tx (.string s) (s.data.toList.map byteRow) [] := by
  have hl : (s.data.toList.map byteRow).length = s.size := by rw [List.length_map, Array.length_toList]; rfl
  refine ⟨byteCells s, fun i _ => .int .u8 ((s.data.toList.getD i 0).toNat), fun _ _ => [], ?_, ?_, fun i r h => ?_, fun i j r y h1 h2 => ?_⟩
  · rw [hl]; exact Src.ofString w hk s
  · refine (List.eq_nil_iff_forall_not_mem.2 fun b hb => ?_).symm
    obtain ⟨_, _, _, _, h⟩ := mem_flat.1 hb
    cases h
  · rw [List.getElem?_map, Option.map_eq_some_iff] at h
    obtain ⟨b, _, rfl⟩ := h
    rfl
  · rw [List.getElem?_map, Option.map_eq_some_iff] at h1
    obtain ⟨b, hb, rfl⟩ := h1
    cases j with
    | zero =>
      simp [byteRow] at h2
      subst h2
      have hg : s.data.toList.getD i 0 = b := by simp [List.getD_eq_getElem?_getD, hb]
      refine ⟨?_, ?_⟩
      · show (byteCells s)[i * 1 + 0]? = some (.int .u8 ((s.data.toList.getD i 0).toNat))
        rw [hg]
        simp only [byteCells, Nat.mul_one, Nat.add_zero, List.getElem?_map, hb, Option.map_some]
      · show RD S w (.int .u8 ((s.data.toList.getD i 0).toNat)) (.c (.int .u8 b.toNat)) []
        rw [hg]
        exact .c _ rfl
    | succ j => simp [byteRow] at h2

end
end Go.Av
