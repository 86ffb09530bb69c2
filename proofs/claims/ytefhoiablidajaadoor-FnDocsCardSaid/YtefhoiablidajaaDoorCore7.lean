/-
  Abstract values, states, walks, part 7.
-/
import Derived.Test.YtefhoiablidajaaDoorCore6
import Derived.Lib.RowBridge
import Derived.Lib.SlicesCompact
import Derived.Below
import Derived.Lib.Join
import Derived.Lib.Repeat
set_option linter.unusedSimpArgs false
set_option linter.unusedVariables false

namespace Go.Av

/-- what the library's Compact does in memory -/
def CompMemS (P : Program) (f : FuncId) : Prop :=
  (∀ (blk cap : Nat) (zs : List (List UInt8)) (w : World), Sort.Holds Go.Proofs.encStr w blk 0 zs.toArray → zs.length ≤ 9223372036854775807 → zs.length ≤ cap →
    Calls P f #[.slice (some ⟨blk, 0, none⟩) zs.length cap] w fun e w' => e = .returned (.slice (some ⟨blk, 0, none⟩) (Lib.compact zs).length cap) ∧ ∃ q, w' = Sort.putRow Go.Proofs.encStr (Sort.ahead w q) blk 0 (Lib.compact zs ++ List.replicate (zs.length - (Lib.compact zs).length) []).toArray) ∧
  ∀ w : World, Calls P f #[.slice none 0 0] w fun e w' => e = .returned (.slice none 0 0) ∧ w' = w

theorem grow_none (w : World) : Sort.grow w #[] = w := by
  unfold Sort.grow
  simp

theorem AC.compS {P : Program} {G : Nat → Option (List V)} {f : FuncId} {te : TypeId} (h : CompMemS P f) (nn : Bool) (l : List (List UInt8)) (hlen : l.length ≤ 1048576) : AC P G f [.own 0] [(0, .vec nn te 1 (l.map encS))] (.own 100) [(100, .vec false te 1 ((Lib.compact l).map encS))] := by
  intro ρ S F xs w hsz hxs hH hG
  have l0 : look [(0, Ob.vec nn te 1 (l.map encS))] 0 = some (.vec nn te 1 (l.map encS)) := rfl
  obtain ⟨r0, hr0, ob0⟩ := hH.obj 0 _ l0
  have hnd := hH.nodup 0 _ l0
  have x0 : xs.getD 0 undef = r0 := by
    have h : RV ρ S w (xs.getD 0 undef) (.own 0) := hxs 0 _ rfl
    exact h.own_inv _ hr0
  have hx : xs = #[r0] := by
    have h3 : xs.size = 1 := hsz
    apply Array.ext
    · exact h3
    · intro j h1 h2
      have : j = 0 := by omega
      subst this
      simpa [Array.getD, h1] using x0
  subst hx
  have fin : ∀ x w', Post ρ S F [(0, Ob.vec nn te 1 (l.map encS))] w (.own 100) ((100, .vec false te 1 ((Lib.compact l).map encS)) :: hrem [0] [(0, Ob.vec nn te 1 (l.map encS))]) [100] x w' →
      ∃ y ρ' S' F', Ending.returned x = .returned y ∧ RV ρ' S' w' y (.own 100) ∧ HRel ρ' S' F' [(100, Ob.vec false te 1 ((Lib.compact l).map encS))] w' ∧ Evo S (Ub [(0, Ob.vec nn te 1 (l.map encS))] F) w S' (Ub [(100, Ob.vec false te 1 ((Lib.compact l).map encS))] F') w' ∧ AgF ρ ρ' := fun x w' hP => by
    obtain ⟨ρ', S', F', h1, h2, h3, h4⟩ := hP
    exact ⟨_, ρ', S', F', rfl, h1, h2, h3, fun j r hj hr => h4 j r hr (by simp; omega)⟩
  have hcase : (r0 = .slice none 0 0 ∧ l = []) ∨ ∃ (g cap : Nat) (arr : Array Value) (Fs : Nat → Nat → List Nat), r0 = .slice (some ⟨g, 0, none⟩) l.length cap ∧ F 0 = g :: flat l.length 1 Fs ∧ w.heap[g]? = some (.cells arr te (0, 0)) ∧ l.length ≤ cap ∧ cap ≤ maxLen ∧ arr.size = cap * 1 ∧
      (∀ (i : Nat) (x : List UInt8), l[i]? = some x → arr[i]? = some (Go.Proofs.encStr x)) := by
    generalize F 0 = Fi at ob0
    generalize hrows : l.map encS = rows at ob0
    cases ob0 with
    | vnil => exact .inl ⟨rfl, List.map_eq_nil_iff.1 hrows⟩
    | vec g cap arr _ _ _ _ cc Fs hh hcap hmax hasz hk hc hr htg =>
      have htt := htg.2
      cases htg.1
      have hlen : rows.length = l.length := by rw [← hrows]; simp
      refine .inr ⟨g, cap, arr, Fs, by rw [hlen], by rw [hlen], hh, by omega, hmax, hasz, fun i x hx => ?_⟩
      have h1 : rows[i]? = some (encS x) := by rw [← hrows, List.getElem?_map, hx]; rfl
      have h2 := hc i 0 _ (V.str x) h1 rfl
      have h3 := hr i 0 _ (V.str x) h1 rfl
      rw [Nat.mul_one, Nat.add_zero] at h2
      unfold V.str at h3
      generalize cc i 0 = v at h2 h3
      generalize Fs i 0 = fs at h3
      cases h3
      exact h2
  rcases hcase with ⟨rfl, rfl⟩ | ⟨g, cap, arr, Fs, rfl, hFi, hh, hcap, hmax, hasz, hval⟩
  · refine Calls.mono (h.2 w) fun e w' hq => ?_
    obtain ⟨rfl, rfl⟩ := hq
    refine fin _ w' (Post.repl hH [0] (i := 100) rfl (root := .slice none 0 0) (Fi := []) rfl rfl rfl (Nat.le_refl _) (fun b _ _ => rfl) (fun ρ' => ?_) (by simp) (fun b hb => by cases hb) (.own _ _ fun r hr => ?_))
    · have hs : Lib.compact ([] : List (List UInt8)) = [] := rfl
      rw [hs]
      exact .vnil _ _
    · simp at hr; exact hr
  · have hg : g < w.heap.size := (Array.getElem?_eq_some_iff.1 hh).1
    have hat : arr.toList.take l.length = l.map Go.Proofs.encStr := by
      apply List.ext_getElem?
      intro i
      rw [List.getElem?_take, List.getElem?_map]
      by_cases hi : i < l.length
      · rw [if_pos hi, Array.getElem?_toList, hval i _ (List.getElem?_eq_getElem hi), List.getElem?_eq_getElem hi]; rfl
      · rw [if_neg hi, List.getElem?_eq_none (by omega)]; rfl
    refine Calls.mono (h.1 g cap l w (holds_of_block hh hat) (by omega) hcap) fun e w' hq => ?_
    obtain ⟨rfl, n, rfl⟩ := hq
    have hle := Lib.compact_length_le l
    obtain ⟨m, hm⟩ : ∃ m, m = Lib.compact l ++ List.replicate (l.length - (Lib.compact l).length) [] := ⟨_, rfl⟩
    have hml : m.length = l.length := by rw [hm]; simp; omega
    have hmg : ∀ (i : Nat) (z : List UInt8), (Lib.compact l)[i]? = some z → m[i]? = some z := fun i z hz => by
      rw [hm, List.getElem?_append_left (List.getElem?_eq_some_iff.1 hz).1]; exact hz
    rw [← hm, ← grow_none (Sort.putRow Go.Proofs.encStr (Sort.ahead w n) g 0 m.toArray)]
    have hgb := grownBy_sorted (w := w) (g := g) (n := n) (os := #[]) m.toArray
    have hhe := heap_sorted (w := w) (n := n) (os := #[]) m.toArray hh
    have htk := take_putCells arr m (by omega)
    obtain ⟨w', hw'⟩ : ∃ w', w' = Sort.grow (Sort.putRow Go.Proofs.encStr (Sort.ahead w n) g 0 m.toArray) #[] := ⟨_, rfl⟩
    rw [← hw'] at hgb hhe ⊢
    have own : g ∈ F 0 := by rw [hFi]; simp
    have hfl : flat (Lib.compact l).length 1 (fun _ _ => ([] : List Nat)) = [] := by
      apply List.eq_nil_iff_forall_not_mem.2
      intro b hb
      obtain ⟨_, _, _, _, h⟩ := mem_flat.1 hb
      cases h
    refine fin _ w' (Post.repl hH [0] (i := 100) rfl (root := .slice (some ⟨g, 0, none⟩) (Lib.compact l).length cap) (Fi := g :: flat (Lib.compact l).length 1 (fun _ _ => [])) hgb.os hgb.tape hgb.output hgb.size (fun b hb hn => hgb.block b hb fun he => hn 0 _ (by simp) l0 (by rw [Option.some.inj he]; exact own)) (fun ρ' => ?_) (by rw [hfl]; simp) (fun b hb => ?_) (.own _ _ fun r hr => ?_))
    · have hlf : (Lib.compact l).length = ((Lib.compact l).map encS).length := by simp
      rw [hlf]
      refine .vec g cap _ false te 1 _ (fun i _ => Go.Proofs.encStr ((Lib.compact l).getD i [])) (fun _ _ => []) hhe (by rw [← hlf]; omega) hmax (by simp [Sort.putCells, hasz]) (fun i r hi => ?_) (fun i j r x hi hj => ?_) (fun i j r x hi hj => ?_)
      · rw [List.getElem?_map] at hi
        obtain ⟨z, _, rfl⟩ := Option.map_eq_some_iff.1 hi
        rfl
      · rw [List.getElem?_map] at hi
        obtain ⟨z, hz, rfl⟩ := Option.map_eq_some_iff.1 hi
        have hj0 : j = 0 := by
          have := (List.getElem?_eq_some_iff.1 hj).1
          simp [encS] at this; exact this
        subst hj0
        have hil : i < (Lib.compact l).length := (List.getElem?_eq_some_iff.1 hz).1
        have h1 : ((Sort.putCells Go.Proofs.encStr 0 m.toArray arr).toList.take m.length)[i]? = some (Go.Proofs.encStr z) := by
          rw [htk, List.getElem?_map, hmg i z hz]; rfl
        rw [List.getElem?_take, if_pos (by omega), Array.getElem?_toList] at h1
        rw [Nat.mul_one, Nat.add_zero, h1]
        simp [List.getD, hz]
      · rw [List.getElem?_map] at hi
        obtain ⟨z, hz, rfl⟩ := Option.map_eq_some_iff.1 hi
        have hj0 : j = 0 := by
          have := (List.getElem?_eq_some_iff.1 hj).1
          simp [encS] at this; exact this
        subst hj0
        have hx : V.str z = x := by simpa [encS] using hj
        subst hx
        simp only [List.getD, hz, Option.getD_some]
        exact .c _ rfl
    · rw [hfl] at hb
      simp only [List.mem_singleton] at hb
      subst hb
      exact .inl ⟨0, _, by simp, l0, own⟩
    · simp at hr; exact hr

def compSO (l : List (List UInt8)) : Option (List (List UInt8)) := if l.length ≤ 1048576 then some (Lib.compact l) else none
theorem AC.compSO {P : Program} {G : Nat → Option (List V)} {f : FuncId} {te : TypeId} (hm : CompMemS P f) {l r : List (List UInt8)} (h : compSO l = some r) : AC P G f [.own 0] [(0, .vec false te 1 (l.map encS))] (.own 100) [(100, .vec false te 1 (r.map encS))] := by
  unfold Go.Av.compSO at h
  split at h
  · rename_i hl
    cases h
    exact AC.compS hm false l hl
  · cases h
end Go.Av

namespace Go.Av
open Go.RowKit

def JoinMem (P : Program) (f : FuncId) : Prop :=
  (∀ (bk c : Nat) (xs : List ByteArray) (sep : ByteArray) (w : World), (∀ (j : Nat) x, xs[j]? = some x → w.cell? ⟨bk, 0 + j, none⟩ = some (.string x)) → bk < w.heap.size → xs.length ≤ 140737488355328 → xs.length ≤ c →
    (Lib.join (xs.map (·.data.toList)) sep.data.toList).length ≤ 140737488355328 →
    Calls P f #[.slice (some ⟨bk, 0, none⟩) xs.length c, .string sep] w fun e w' => e = .returned (.string ⟨(Lib.join (xs.map (·.data.toList)) sep.data.toList).toArray⟩) ∧ Below w.heap.size w w') ∧
  ∀ (sep : ByteArray) (w : World), Calls P f #[.slice none 0 0, .string sep] w fun e w' => e = .returned (.string ⟨#[]⟩) ∧ w' = w

theorem AC.join {P : Program} {G : Nat → Option (List V)} {f : FuncId} {te : TypeId} (h : JoinMem P f) (nn : Bool) (l : List (List UInt8)) (sep : List UInt8) (hlen : l.length ≤ 1048576) (hj : (Lib.join l sep).length ≤ 140737488355328) :
    AC P G f [.own 0, V.str sep] [(0, .vec nn te 1 (l.map encS))] (V.str (Lib.join l sep)) [(0, .vec nn te 1 (l.map encS))] := by
  intro ρ S F xs w hsz hxs hH hG
  have l0 : look [(0, Ob.vec nn te 1 (l.map encS))] 0 = some (.vec nn te 1 (l.map encS)) := rfl
  obtain ⟨r0, hr0, ob0⟩ := hH.obj 0 _ l0
  have hnd := hH.nodup 0 _ l0
  have x0 : xs.getD 0 undef = r0 := by
    have h : RV ρ S w (xs.getD 0 undef) (.own 0) := hxs 0 _ rfl
    exact h.own_inv _ hr0
  have x1 : xs.getD 1 undef = .string ⟨⟨sep⟩⟩ := (hxs 1 _ rfl).c_inv
  have hx : xs = #[r0, .string ⟨⟨sep⟩⟩] := by
    have h3 : xs.size = 2 := hsz
    apply Array.ext
    · exact h3
    · intro j h1 h2
      have : j = 0 ∨ j = 1 := by omega
      rcases this with rfl | rfl
      · simpa [Array.getD, h1] using x0
      · simpa [Array.getD, h1] using x1
  subst hx
  have fin : ∀ w', Below w.heap.size w w' → ∃ x ρ' S' F', Ending.returned (.string ⟨⟨Lib.join l sep⟩⟩) = .returned x ∧ RV ρ' S' w' x (V.str (Lib.join l sep)) ∧ HRel ρ' S' F' [(0, Ob.vec nn te 1 (l.map encS))] w' ∧ Evo S (Ub [(0, Ob.vec nn te 1 (l.map encS))] F) w S' (Ub [(0, Ob.vec nn te 1 (l.map encS))] F') w' ∧ AgF ρ ρ' := fun w' hb => by
    have hP := Post.upd hH [0] (i := 0) hr0 (Fi := F 0) hb.os hb.tape hb.output hb.size (fun b hb' _ => hb.block b hb') (fun ρ' => ob0.mono (fun _ _ _ h => by cases h) (fun b hb' => ⟨hb', hb.block b (hH.slt b hb')⟩) (fun b hb' => hb.block b (hH.lt 0 _ b l0 hb'))) hnd (fun b hb' => .inl ⟨0, _, by simp, l0, hb'⟩) (x := .string ⟨⟨Lib.join l sep⟩⟩) (v := V.str (Lib.join l sep)) (.c _)
    obtain ⟨ρ', S', F', h1, h2, h3, h4⟩ := hP
    exact ⟨_, ρ', S', F', rfl, h1, h2, h3, fun j r hj hr => h4 j r hr (by simp)⟩
  have hcase : (r0 = .slice none 0 0 ∧ l = []) ∨ ∃ (g cap : Nat) (arr : Array Value), r0 = .slice (some ⟨g, 0, none⟩) l.length cap ∧ w.heap[g]? = some (.cells arr te (0, 0)) ∧ l.length ≤ cap ∧
      (∀ (i : Nat) (x : List UInt8), l[i]? = some x → arr[i]? = some (Go.Proofs.encStr x)) := by
    generalize F 0 = Fi at ob0
    generalize hrows : l.map encS = rows at ob0
    cases ob0 with
    | vnil => exact .inl ⟨rfl, List.map_eq_nil_iff.1 hrows⟩
    | vec g cap arr _ _ _ _ cc Fs hh hcap hmax hasz hk hc hr htg =>
      have htt := htg.2
      cases htg.1
      have hlen : rows.length = l.length := by rw [← hrows]; simp
      refine .inr ⟨g, cap, arr, by rw [hlen], hh, by omega, fun i x hx => ?_⟩
      have h1 : rows[i]? = some (encS x) := by rw [← hrows, List.getElem?_map, hx]; rfl
      have h2 := hc i 0 _ (V.str x) h1 rfl
      have h3 := hr i 0 _ (V.str x) h1 rfl
      rw [Nat.mul_one, Nat.add_zero] at h2
      unfold V.str at h3
      generalize cc i 0 = v at h2 h3
      generalize Fs i 0 = fs at h3
      cases h3
      exact h2
  rcases hcase with ⟨rfl, rfl⟩ | ⟨g, cap, arr, rfl, hh, hcap, hval⟩
  · refine Calls.mono (h.2 ⟨⟨sep⟩⟩ w) fun e w' hq => ?_
    obtain ⟨rfl, rfl⟩ := hq
    exact fin w' (Below.refl _ _)
  · have hg : g < w.heap.size := (Array.getElem?_eq_some_iff.1 hh).1
    have hm : ((l.map fun b => (⟨⟨b⟩⟩ : ByteArray)).map (·.data.toList)) = l := by
      rw [List.map_map]
      exact (List.map_congr_left fun _ _ => rfl).trans (List.map_id l)
    have := h.1 g cap (l.map fun b => (⟨⟨b⟩⟩ : ByteArray)) ⟨⟨sep⟩⟩ w (fun j x hx => by
      rw [List.getElem?_map] at hx
      obtain ⟨b, hb, rfl⟩ := Option.map_eq_some_iff.1 hx
      unfold World.cell?
      simp only [hh]
      simpa using hval j b hb) hg (by simp; omega) (by simpa using hcap) (by rw [hm]; exact hj)
    rw [hm, List.length_map] at this
    refine Calls.mono this fun e w' hq => ?_
    obtain ⟨rfl, hb⟩ := hq
    exact fin w' hb

def joinO (l : List (List UInt8)) (sep : List UInt8) : Option (List UInt8) := if l.length ≤ 1048576 ∧ (Lib.join l sep).length ≤ 140737488355328 then some (Lib.join l sep) else none
theorem AC.joinO {P : Program} {G : Nat → Option (List V)} {f : FuncId} {te : TypeId} (hm : JoinMem P f) {l : List (List UInt8)} {sep r : List UInt8} (h : joinO l sep = some r) : AC P G f [.own 0, V.str sep] [(0, .vec false te 1 (l.map encS))] (V.str r) [(0, .vec false te 1 (l.map encS))] := by
  unfold Go.Av.joinO at h
  split at h
  · rename_i hl
    cases h
    exact AC.join hm false l sep hl.1 hl.2
  · cases h
end Go.Av

namespace Go.Av
variable {P : Program}

theorem RetV.four {fn : Func} {st : St} {a b c d : ResultVar} {r s t u : V} (h : fn.results = #[a, b, c, d]) (h1 : OneR P st a r) (h2 : OneR P st b s) (h3 : OneR P st c t) (h4 : OneR P st d u) : RetV P fn st (.tup [r, s, t, u]) := by
  intro B G ρ S F act w hst
  obtain ⟨x, hx, rx⟩ := h1 _ G ρ S F act w hst
  obtain ⟨y, hy, ry⟩ := h2 _ G ρ S F act w hst
  obtain ⟨z, hz, rz⟩ := h3 _ G ρ S F act w hst
  obtain ⟨v, hv, rv⟩ := h4 _ G ρ S F act w hst
  refine ⟨.tuple #[x, y, z, v], ?_, .tup #[x, y, z, v] [r, s, t, u] rfl fun j q d hq hd => ?_⟩
  · simp [results_eq, h, hx, hy, hz, hv]
  · match j with
    | 0 => simp at hq hd; subst hq hd; exact rx
    | 1 => simp at hq hd; subst hq hd; exact ry
    | 2 => simp at hq hd; subst hq hd; exact rz
    | 3 => simp at hq hd; subst hq hd; exact rv
    | j + 4 => simp at hq

theorem RetV.five {fn : Func} {st : St} {a b c d e : ResultVar} {r s t u o : V} (h : fn.results = #[a, b, c, d, e]) (h1 : OneR P st a r) (h2 : OneR P st b s) (h3 : OneR P st c t) (h4 : OneR P st d u) (h5 : OneR P st e o) : RetV P fn st (.tup [r, s, t, u, o]) := by
  intro B G ρ S F act w hst
  obtain ⟨x, hx, rx⟩ := h1 _ G ρ S F act w hst
  obtain ⟨y, hy, ry⟩ := h2 _ G ρ S F act w hst
  obtain ⟨z, hz, rz⟩ := h3 _ G ρ S F act w hst
  obtain ⟨v, hv, rv⟩ := h4 _ G ρ S F act w hst
  obtain ⟨p, hp, rp⟩ := h5 _ G ρ S F act w hst
  refine ⟨.tuple #[x, y, z, v, p], ?_, .tup #[x, y, z, v, p] [r, s, t, u, o] rfl fun j q d hq hd => ?_⟩
  · simp [results_eq, h, hx, hy, hz, hv, hp]
  · match j with
    | 0 => simp at hq hd; subst hq hd; exact rx
    | 1 => simp at hq hd; subst hq hd; exact ry
    | 2 => simp at hq hd; subst hq hd; exact rz
    | 3 => simp at hq hd; subst hq hd; exact rv
    | 4 => simp at hq hd; subst hq hd; exact rp
    | j + 5 => simp at hq
end Go.Av

namespace Go.Av

section
variable {P : Program} {G : Nat → Option (List V)} {L : Option Nat} {B : Nat}

theorem Tg.ok.root {c v : Value} {k : Nat} {e : TypeId} (h : (Tg.at_ c).ok k e v) : v = c := h.1

theorem ObR.root {ρ : Nat → Option Value} {S : Nat → Prop} {w : World} {r c : Value} {nn : Bool} {k : Nat} {rows : List (List V)} {F : List Nat} (h : ObR ρ S w r (.vec nn (.at_ c) k rows) F) : r = c := by
  cases h with
  | vnil _ _ ht => exact Eq.symm ht
  | vec g cap arr _ _ _ _ cs Fs hh hcap hmax hsz hk hc hr ht => exact ht.1

/-- the slice in a cell as an object of its own; the cell keeps its value alone -/
theorem StRel.lend {ρ : Nat → Option Value} {S : Nat → Prop} {F : Nat → List Nat} {T : List V} {H : Hp} {a : Act} {w : World} (hst : StRel B G ρ S F ⟨T, H⟩ a w) {i m b j : Nat} {nn nn2 : Bool} {ety : Tg} {k : Nat} {rows : List (List V)} {row : List V} {srows : List (List V)}
    (hi : look H i = some (.vec nn ety k rows)) (hrow : rows[m]? = some row) (hb : row[b]? = some (.sl nn2 true srows)) (hj : fresh [j] ⟨T, H⟩ = true) (h1 : ∀ r, r ∈ srows → r.length = 1) :
    ∃ c, c.oneCell' = true ∧ ∃ ρ' F', StRel B G ρ' S F' ⟨T, (j, .vec false (.at_ c) 1 srows) :: (i, .vec nn ety k (rows.set m (row.set b (.c c)))) :: hrem [i] H⟩ a w ∧
      Evo S (Ub H F) w S (Ub ((j, .vec false (.at_ c) 1 srows) :: (i, .vec nn ety k (rows.set m (row.set b (.c c)))) :: hrem [i] H) F') w ∧ AgF ρ ρ' := by
  obtain ⟨h100, hT, hH⟩ := fresh_spec hj (by simp : j ∈ [j])
  obtain ⟨hl, hO⟩ := hasH_false hH
  have hij : i ≠ j := fun e => by rw [e] at hi; simp only [hl] at hi; cases hi
  have hh0 := hst.heap
  simp only at hh0
  obtain ⟨r, hr, hob⟩ := hh0.obj i _ hi
  have hnd := hh0.nodup i _ hi
  have hlt := fun b' h => hh0.lt i _ b' hi h
  have hsep := fun b' h => hh0.sep i _ b' hi h
  have hdisj := fun x p b' (hx : look H x = some p) (hne : i ≠ x) (h1 : b' ∈ F i) (h2 : b' ∈ F x) => hh0.disj i x _ p b' hi hx hne h1 h2
  generalize hFi : F i = Fi at hob hnd hlt hsep hdisj
  cases hob with
  | vnil => simp at hrow
  | vec g cap arr _ _ _ _ cc Fs hh hcap hmax hsz hk hc hrd ht =>
    have hmn : m < rows.length := (List.getElem?_eq_some_iff.1 hrow).1
    have hbk : b < k := by have := (List.getElem?_eq_some_iff.1 hb).1; rw [hk m row hrow] at this; exact this
    have hd := hrd m b row _ hrow hb
    have hndf := List.nodup_cons.1 hnd
    have hN := flat_nodup.1 hndf.2
    have hsub : ∀ b', b' ∈ Fs m b → b' ∈ g :: flat rows.length k Fs := fun b' h => List.mem_cons_of_mem _ (flat_mem_lt hmn hbk h)
    have hgF : g ∉ Fs m b := fun h => hndf.1 (flat_mem_lt hmn hbk h)
    let c := cc m b
    let ρ' : Nat → Option Value := fun x => if x = j then some c else ρ x
    let rows' := rows.set m (row.set b (.c c))
    let Fs' : Nat → Nat → List Nat := fun p q => if p = m ∧ q = b then [] else Fs p q
    let F' : Nat → List Nat := fun x => if x = j then Fs m b else if x = i then g :: flat rows'.length k Fs' else F x
    have hlen' : rows'.length = rows.length := by simp [rows']
    have hρ : ∀ x r (y : V), y.has j = false → ρ' x = some r → y.has x = true → ρ x = some r := fun x r y hy hx hh => by
      simp only [ρ'] at hx
      split at hx
      · subst_vars; rw [hy] at hh; cases hh
      · exact hx
    have obj : ObR ρ' S w c (.vec false (.at_ c) 1 srows) (Fs m b) := by
      have hd' : RD S w c (.sl nn2 true srows) (Fs m b) := hd
      generalize Fs m b = F0 at hd'
      generalize c = c0 at hd'
      cases hd' with
      | nils => exact .vnil _ _ rfl
      | exc g2 cap2 arr2 ety2 _ _ k3 cs2 Fs2 hh2 hcap2 hmax2 hsz2 hk3 hc2 hr2 ht2 =>
        cases srows with
        | nil =>
          have e0 : flat ([] : List (List V)).length k3 Fs2 = flat ([] : List (List V)).length 1 Fs2 := rfl
          rw [e0]
          refine .vec g2 cap2 arr2 false _ 1 [] cs2 Fs2 hh2 hcap2 hmax2 ?_ (fun i r h => by simp at h) (fun i j r x h => by simp at h) (fun i j r x h => by simp at h) ⟨rfl, fun _ => .inl rfl⟩
          rcases ht2 rfl with h | h
          · rw [hsz2, h]
          · rw [hsz2, h]; simp
        | cons r0 srows =>
          have : k3 = 1 := by rw [← hk3 0 r0 rfl, h1 r0 (by simp)]
          subst this
          exact .vec g2 cap2 arr2 false _ 1 _ cs2 Fs2 hh2 hcap2 hmax2 hsz2 hk3 hc2 hr2 ⟨rfl, fun _ => .inl rfl⟩
    have obi : ObR ρ' S w (.slice (some ⟨g, 0, none⟩) rows.length cap) (.vec nn ety k rows') (g :: flat rows'.length k Fs') := by
      rw [← hlen'] at ht ⊢
      refine .vec g cap arr nn ety k rows' cc Fs' hh (by rw [hlen']; exact hcap) hmax hsz (fun p r hp => ?_) (fun p q r x hp hq => ?_) (fun p q r x hp hq => ?_) ht
      · rcases set_get hp with ⟨rfl, rfl⟩ | ⟨_, hp⟩
        · simp [hk _ row hrow]
        · exact hk p r hp
      · rcases set_get hp with ⟨rfl, rfl⟩ | ⟨_, hp⟩
        · rcases set_get hq with ⟨rfl, rfl⟩ | ⟨_, hq⟩
          · exact hc _ _ row _ hrow hb
          · exact hc _ q row x hrow hq
        · exact hc p q r x hp hq
      · rcases set_get hp with ⟨rfl, rfl⟩ | ⟨hne, hp⟩
        · rcases set_get hq with ⟨rfl, rfl⟩ | ⟨hne, hq⟩
          · simp only [Fs', and_self, if_true]
            exact .c _ hd.one
          · simp only [Fs', true_and, if_neg hne]
            exact hrd _ q row x hrow hq
        · have hpm : ¬ (p = m ∧ q = b) := fun h => hne h.1
          simp only [Fs', if_neg hpm]
          exact hrd p q r x hp hq
    have hF1 : ∀ b', b' ∈ g :: flat rows'.length k Fs' → b' ∈ g :: flat rows.length k Fs ∧ b' ∉ Fs m b := fun b' h => by
      rw [hlen'] at h
      rcases List.mem_cons.1 h with rfl | h
      · exact ⟨by simp, hgF⟩
      · obtain ⟨p, q, hp, hq, h⟩ := mem_flat.1 h
        simp only [Fs'] at h
        split at h
        · cases h
        · rename_i hne
          exact ⟨List.mem_cons_of_mem _ (flat_mem_lt hp hq h), fun h' => hne (hN.2 p q m b b' hp hq hmn hbk h h')⟩
    have lk : ∀ x p, look ((j, .vec false (.at_ c) 1 srows) :: (i, .vec nn ety k rows') :: hrem [i] H) x = some p → (x = j ∧ p = .vec false (.at_ c) 1 srows) ∨ (x ≠ j ∧ x = i ∧ p = .vec nn ety k rows') ∨ (x ≠ j ∧ x ≠ i ∧ look H x = some p) := fun x p hp => by
      simp only [look, look_hrem] at hp
      split at hp
      · cases hp; exact .inl ⟨‹_›, rfl⟩
      · split at hp
        · cases hp; exact .inr (.inl ⟨‹_›, ‹_›, rfl⟩)
        · split at hp
          · cases hp
          · exact .inr (.inr ⟨‹_›, ‹_›, hp⟩)
    have hin : ∀ x p b', look ((j, .vec false (.at_ c) 1 srows) :: (i, .vec nn ety k rows') :: hrem [i] H) x = some p → b' ∈ F' x → (x = j ∧ b' ∈ Fs m b) ∨ (x = i ∧ b' ∈ g :: flat rows.length k Fs ∧ b' ∉ Fs m b) ∨ (x ≠ j ∧ x ≠ i ∧ look H x = some p ∧ b' ∈ F x) := fun x p b' hp hb' => by
      rcases lk x p hp with ⟨rfl, _⟩ | ⟨h1, rfl, _⟩ | ⟨h1, h2, h3⟩
      · simp only [F', if_true] at hb'; exact .inl ⟨rfl, hb'⟩
      · simp only [F', if_neg h1, if_true] at hb'; exact .inr (.inl ⟨rfl, hF1 b' hb'⟩)
      · simp only [F', if_neg h1, if_neg h2] at hb'; exact .inr (.inr ⟨h1, h2, h3, hb'⟩)
    have hUb : ∀ x p b', look ((j, .vec false (.at_ c) 1 srows) :: (i, .vec nn ety k rows') :: hrem [i] H) x = some p → b' ∈ F' x → Ub H F b' := fun x p b' hp hb' => by
      rcases hin x p b' hp hb' with ⟨_, h⟩ | ⟨_, h, _⟩ | ⟨_, _, h3, h⟩
      · exact ⟨i, _, hi, by rw [hFi]; exact hsub b' h⟩
      · exact ⟨i, _, hi, by rw [hFi]; exact h⟩
      · exact ⟨x, p, h3, h⟩
    refine ⟨c, hd.one, ρ', F', ⟨hst.defers, hst.size, fun x y hx => ?_, ⟨fun x hx => ?_, fun x p hp => ?_, fun x p hp => ?_, fun x y p p' b' hx hy hne hbx hby => ?_, fun x p b' hp hb' => ?_, fun x p b' hp hb' => ?_, hh0.slt⟩, hst.glob⟩,
      ⟨rfl, rfl, rfl, Nat.le_refl _, fun _ _ _ => rfl, fun _ h => h, fun _ h => .inl h, fun b' ⟨x, p, hp, h⟩ => .inl (hUb x p b' hp h)⟩, fun x r hx hr => ?_⟩
    · exact (hst.tmps x y hx).mono (fun q r hq hh => hρ q r y (hasL_false hT (List.mem_of_getElem? hx)) hq hh) (fun b' h => ⟨h, rfl⟩)
    · simp only [look, look_hrem] at hx
      split at hx
      · cases hx
      · split at hx
        · cases hx
        · rename_i h1 h2
          simp only [ρ', if_neg h1]
          split at hx
          · rename_i h3; simp only [List.mem_singleton] at h3; exact absurd h3 h2
          · exact hh0.dom x hx
    · rcases lk x p hp with ⟨rfl, rfl⟩ | ⟨h1, rfl, rfl⟩ | ⟨h1, h2, h3⟩
      · exact ⟨c, by simp [ρ'], by simp only [F', if_true]; exact obj⟩
      · exact ⟨_, by simp only [ρ', if_neg h1]; exact hr, by simp only [F', if_neg h1, if_true]; exact obi⟩
      · obtain ⟨r', hr', hob'⟩ := hh0.obj x p h3
        refine ⟨r', by simp only [ρ', if_neg h1]; exact hr', ?_⟩
        simp only [F', if_neg h1, if_neg h2]
        refine hob'.mono (fun q r hq hh => ?_) (fun b' h => ⟨h, rfl⟩) (fun _ _ => rfl)
        simp only [ρ'] at hq
        split at hq
        · subst_vars; rw [hO x p h3] at hh; cases hh
        · exact hq
    · rcases lk x p hp with ⟨rfl, rfl⟩ | ⟨h1, rfl, rfl⟩ | ⟨h1, h2, h3⟩
      · simp only [F', if_true]; exact hN.1 m b hmn hbk
      · simp only [F', if_neg h1, if_true]
        rw [hlen']
        refine List.nodup_cons.2 ⟨fun h => ?_, flat_nodup.2 ⟨fun p q hp hq => ?_, fun p q p' q' b' hp hq hp' hq' g1 g2 => ?_⟩⟩
        · obtain ⟨p, q, hp, hq, h⟩ := mem_flat.1 h
          simp only [Fs'] at h
          split at h
          · cases h
          · exact hndf.1 (flat_mem_lt hp hq h)
        · simp only [Fs']
          split
          · exact List.nodup_nil
          · exact hN.1 p q hp hq
        · simp only [Fs'] at g1 g2
          split at g1
          · cases g1
          · split at g2
            · cases g2
            · exact hN.2 p q p' q' b' hp hq hp' hq' g1 g2
      · simp only [F', if_neg h1, if_neg h2]; exact hh0.nodup x p h3
    · rcases hin x p b' hx hbx with ⟨e1, k1⟩ | ⟨e1, k1, k1'⟩ | ⟨e1, e1', e1'', k1⟩ <;> rcases hin y p' b' hy hby with ⟨e2, k2⟩ | ⟨e2, k2, k2'⟩ | ⟨e2, e2', e2'', k2⟩
      · exact hne (e1.trans e2.symm)
      · exact k2' k1
      · exact hdisj y p' b' e2'' (Ne.symm e2') (hsub b' k1) k2
      · exact k1' k2
      · exact hne (e1.trans e2.symm)
      · exact hdisj y p' b' e2'' (Ne.symm e2') k1 k2
      · exact hdisj x p b' e1'' (Ne.symm e1') (hsub b' k2) k1
      · exact hdisj x p b' e1'' (Ne.symm e1') k2 k1
      · exact hh0.disj x y p p' b' e1'' e2'' hne k1 k2
    · rcases hin x p b' hp hb' with ⟨_, h⟩ | ⟨_, h, _⟩ | ⟨_, _, h3, h⟩
      · exact hsep b' (hsub b' h)
      · exact hsep b' h
      · exact hh0.sep x p b' h3 h
    · rcases hin x p b' hp hb' with ⟨_, h⟩ | ⟨_, h, _⟩ | ⟨_, _, h3, h⟩
      · exact hlt b' (hsub b' h)
      · exact hlt b' h
      · exact hh0.lt x p b' h3 h
    · simp only [ρ'] at hr
      split at hr
      · omega
      · exact hr

theorem CodeOk.lend (i m b j : Nat) {code : Code} {T : List V} {H : Hp} {Q : Exit → St → Prop} {nn nn2 : Bool} {ety : Tg} {k : Nat} {rows : List (List V)} {row : List V} {srows : List (List V)}
    (hi : look H i = some (.vec nn ety k rows)) (hrow : rows[m]? = some row) (hb : row[b]? = some (.sl nn2 true srows)) (hj : fresh [j] ⟨T, H⟩ = true) (h1 : ∀ r, r ∈ srows → r.length = 1)
    (h : ∀ c, c.oneCell' = true → CodeOk L P G code ⟨T, (j, .vec false (.at_ c) 1 srows) :: (i, .vec nn ety k (rows.set m (row.set b (.c c)))) :: hrem [i] H⟩ Q) : CodeOk L P G code ⟨T, H⟩ Q := by
  intro B ρ S F a w R hst hn
  obtain ⟨c, hc, ρ1, F1, hst1, e1, a1⟩ := hst.lend hi hrow hb hj h1
  exact h c hc B ρ1 S F1 a w R hst1 fun e st2 h2 ρ2 S2 F2 a2 w2 hst2 hE2 hA2 => hn e st2 h2 ρ2 S2 F2 a2 w2 hst2 (e1.trans hE2) (a1.trans hA2)

/-- what is loaded from such a cell is that object -/
theorem OpOk.asOwn {o : Oper} {e : Operand → V} {H H' : Hp} {N : List Nat} {c : Value} {j : Nat} {nn : Bool} {k : Nat} {rows : List (List V)} (h : OpOk P G o e H (.c c) H' N) (hj : look H' j = some (.vec nn (.at_ c) k rows)) : OpOk P G o e H (.own j) H' N :=
  fun ρ S F η w hη hH hG => (h ρ S F η w hη hH hG).mono fun x w' hp => by
    obtain ⟨ρ', S', F', hv, hH', hE, hA⟩ := hp
    refine ⟨ρ', S', F', .own _ j fun r hr => ?_, hH', hE, hA⟩
    obtain ⟨r', hr', hob⟩ := hH'.obj j _ hj
    rw [hr'] at hr
    cases hr
    rw [hob.root, hv.c_inv]

/-- and put back -/
theorem Weak.unlend (i m b j : Nat) {T : List V} {H : Hp} {nn nn2 : Bool} {ety : Tg} {k : Nat} {rows : List (List V)} {row : List V} {srows : List (List V)} {c : Value}
    (hi : look H i = some (.vec nn ety k rows)) (hrow : rows[m]? = some row) (hb : row[b]? = some (.c c)) (hj : look H j = some (.vec nn2 (.at_ c) 1 srows)) (hij : i ≠ j) :
    Weak ⟨T, H⟩ ⟨T, (i, .vec nn ety k (rows.set m (row.set b (.sl nn2 true srows)))) :: hrem [i, j] H⟩ := by
  intro B G ρ S F a w hst
  have hh0 := hst.heap
  simp only at hh0
  obtain ⟨r, hr, hob⟩ := hh0.obj i _ hi
  obtain ⟨rj, hrj, hobj⟩ := hh0.obj j _ hj
  have hcj : RD S w c (.sl nn2 true srows) (F j) := by rw [← hobj.root]; exact hobj.toRD rfl
  have hndj := hh0.nodup j _ hj
  have hnd := hh0.nodup i _ hi
  have hlt := fun b' h => hh0.lt i _ b' hi h
  have hsep := fun b' h => hh0.sep i _ b' hi h
  have hdisj := fun x p b' (hx : look H x = some p) (hne : i ≠ x) (h1 : b' ∈ F i) (h2 : b' ∈ F x) => hh0.disj i x _ p b' hi hx hne h1 h2
  generalize hFi : F i = Fi at hob hnd hlt hsep hdisj
  cases hob with
  | vnil => simp at hrow
  | vec g cap arr _ _ _ _ cc Fs hh hcap hmax hsz hk hc hrd ht =>
    have hmn : m < rows.length := (List.getElem?_eq_some_iff.1 hrow).1
    have hbk : b < k := by have := (List.getElem?_eq_some_iff.1 hb).1; rw [hk m row hrow] at this; exact this
    have hd := hrd m b row _ hrow hb
    have hcc : cc m b = c ∧ Fs m b = [] := by
      generalize cc m b = c0 at hd
      generalize Fs m b = F0 at hd
      cases hd
      exact ⟨rfl, rfl⟩
    have hndf := List.nodup_cons.1 hnd
    have hN := flat_nodup.1 hndf.2
    let ρ' : Nat → Option Value := fun x => if x = j then none else ρ x
    let rows' := rows.set m (row.set b (.sl nn2 true srows))
    let Fs' : Nat → Nat → List Nat := fun p q => if p = m ∧ q = b then F j else Fs p q
    let F' : Nat → List Nat := fun x => if x = i then g :: flat rows'.length k Fs' else F x
    have hlen' : rows'.length = rows.length := by simp [rows']
    have hρ : ∀ x r, ρ' x = some r → ρ x = some r := fun x r hx => by
      simp only [ρ'] at hx
      split at hx
      · cases hx
      · exact hx
    have obi : ObR ρ' S w (.slice (some ⟨g, 0, none⟩) rows.length cap) (.vec nn ety k rows') (g :: flat rows'.length k Fs') := by
      rw [← hlen'] at ht ⊢
      refine .vec g cap arr nn ety k rows' cc Fs' hh (by rw [hlen']; exact hcap) hmax hsz (fun p r hp => ?_) (fun p q r x hp hq => ?_) (fun p q r x hp hq => ?_) ht
      · rcases set_get hp with ⟨rfl, rfl⟩ | ⟨_, hp⟩
        · simp [hk _ row hrow]
        · exact hk p r hp
      · rcases set_get hp with ⟨rfl, rfl⟩ | ⟨_, hp⟩
        · rcases set_get hq with ⟨rfl, rfl⟩ | ⟨_, hq⟩
          · exact hc _ _ row _ hrow hb
          · exact hc _ q row x hrow hq
        · exact hc p q r x hp hq
      · rcases set_get hp with ⟨rfl, rfl⟩ | ⟨hne, hp⟩
        · rcases set_get hq with ⟨rfl, rfl⟩ | ⟨hne, hq⟩
          · simp only [Fs', and_self, if_true]
            rw [hcc.1]; exact hcj
          · simp only [Fs', true_and, if_neg hne]
            exact hrd _ q row x hrow hq
        · have hpm : ¬ (p = m ∧ q = b) := fun h => hne h.1
          simp only [Fs', if_neg hpm]
          exact hrd p q r x hp hq
    have hF1 : ∀ b', b' ∈ g :: flat rows'.length k Fs' → b' ∈ g :: flat rows.length k Fs ∨ b' ∈ F j := fun b' h => by
      rw [hlen'] at h
      rcases List.mem_cons.1 h with rfl | h
      · exact .inl (by simp)
      · obtain ⟨p, q, hp, hq, h⟩ := mem_flat.1 h
        simp only [Fs'] at h
        split at h
        · exact .inr h
        · exact .inl (List.mem_cons_of_mem _ (flat_mem_lt hp hq h))
    have lk : ∀ x p, look ((i, .vec nn ety k rows') :: hrem [i, j] H) x = some p → (x = i ∧ p = .vec nn ety k rows') ∨ (x ≠ i ∧ x ≠ j ∧ look H x = some p) := fun x p hp => by
      simp only [look, look_hrem] at hp
      split at hp
      · cases hp; exact .inl ⟨‹_›, rfl⟩
      · split at hp
        · cases hp
        · rename_i h1 h2
          simp only [List.mem_cons, List.not_mem_nil, or_false, not_or] at h2
          exact .inr ⟨h1, h2.2, hp⟩
    have hin : ∀ x p b', look ((i, .vec nn ety k rows') :: hrem [i, j] H) x = some p → b' ∈ F' x → (x = i ∧ (b' ∈ g :: flat rows.length k Fs ∨ b' ∈ F j)) ∨ (x ≠ i ∧ x ≠ j ∧ look H x = some p ∧ b' ∈ F x) := fun x p b' hp hb' => by
      rcases lk x p hp with ⟨rfl, _⟩ | ⟨h1, h2, h3⟩
      · simp only [F', if_true] at hb'; exact .inl ⟨rfl, hF1 b' hb'⟩
      · simp only [F', if_neg h1] at hb'; exact .inr ⟨h1, h2, h3, hb'⟩
    have hUb : ∀ x p b', look ((i, .vec nn ety k rows') :: hrem [i, j] H) x = some p → b' ∈ F' x → Ub H F b' := fun x p b' hp hb' => by
      rcases hin x p b' hp hb' with ⟨_, h | h⟩ | ⟨_, _, h3, h⟩
      · exact ⟨i, _, hi, by rw [hFi]; exact h⟩
      · exact ⟨j, _, hj, h⟩
      · exact ⟨x, p, h3, h⟩
    have far : ∀ b', b' ∈ g :: flat rows.length k Fs → b' ∈ F j → False := fun b' h1 h2 => hdisj j _ b' hj hij h1 h2
    have far2 : ∀ x p b', x ≠ i → x ≠ j → look H x = some p → (b' ∈ g :: flat rows.length k Fs ∨ b' ∈ F j) → b' ∈ F x → False := fun x p b' h1 h2 h3 h4 h5 => by
      rcases h4 with h4 | h4
      · exact hdisj x p b' h3 (Ne.symm h1) h4 h5
      · exact hh0.disj j x _ p b' hj h3 (Ne.symm h2) h4 h5
    refine ⟨ρ', S, F', ⟨hst.defers, hst.size, fun x y hx => ?_, ⟨fun x hx => ?_, fun x p hp => ?_, fun x p hp => ?_, fun x y p p' b' hx hy hne hbx hby => ?_, fun x p b' hp hb' => ?_, fun x p b' hp hb' => ?_, hh0.slt⟩, hst.glob⟩,
      ⟨rfl, rfl, rfl, Nat.le_refl _, fun _ _ _ => rfl, fun _ h => h, fun _ h => .inl h, fun b' ⟨x, p, hp, h⟩ => .inl (hUb x p b' hp h)⟩, fun x r hx hr => hρ x r hr⟩
    · exact (hst.tmps x y hx).mono (fun q r hq _ => hρ q r hq) (fun b' h => ⟨h, rfl⟩)
    · simp only [look, look_hrem] at hx
      split at hx
      · cases hx
      · rename_i h1
        simp only [ρ']
        split
        · rfl
        · rename_i h2
          split at hx
          · rename_i h3; simp only [List.mem_cons, List.not_mem_nil, or_false] at h3; rcases h3 with h | h <;> contradiction
          · exact hh0.dom x hx
    · rcases lk x p hp with ⟨rfl, rfl⟩ | ⟨h1, h2, h3⟩
      · exact ⟨_, by simp only [ρ', if_neg hij]; exact hr, by simp only [F', if_true]; exact obi⟩
      · obtain ⟨r', hr', hob'⟩ := hh0.obj x p h3
        refine ⟨r', by simp only [ρ', if_neg h2]; exact hr', ?_⟩
        simp only [F', if_neg h1]
        exact hob'.mono (fun q r hq _ => hρ q r hq) (fun b' h => ⟨h, rfl⟩) (fun _ _ => rfl)
    · rcases lk x p hp with ⟨rfl, rfl⟩ | ⟨h1, h2, h3⟩
      · simp only [F', if_true]
        rw [hlen']
        refine List.nodup_cons.2 ⟨fun h => ?_, flat_nodup.2 ⟨fun p q hp hq => ?_, fun p q p' q' b' hp hq hp' hq' g1 g2 => ?_⟩⟩
        · obtain ⟨p, q, hp, hq, h⟩ := mem_flat.1 h
          simp only [Fs'] at h
          split at h
          · exact far g (by simp) h
          · exact hndf.1 (flat_mem_lt hp hq h)
        · simp only [Fs']
          split
          · exact hndj
          · exact hN.1 p q hp hq
        · simp only [Fs'] at g1 g2
          split at g1
          · rename_i he
            split at g2
            · rename_i he2; exact ⟨he.1.trans he2.1.symm, he.2.trans he2.2.symm⟩
            · exact (far b' (List.mem_cons_of_mem _ (flat_mem_lt hp' hq' g2)) g1).elim
          · split at g2
            · exact (far b' (List.mem_cons_of_mem _ (flat_mem_lt hp hq g1)) g2).elim
            · exact hN.2 p q p' q' b' hp hq hp' hq' g1 g2
      · simp only [F', if_neg h1]; exact hh0.nodup x p h3
    · rcases hin x p b' hx hbx with ⟨e1, k1⟩ | ⟨e1, e1', e1'', k1⟩ <;> rcases hin y p' b' hy hby with ⟨e2, k2⟩ | ⟨e2, e2', e2'', k2⟩
      · exact hne (e1.trans e2.symm)
      · exact far2 y p' b' e2 e2' e2'' k1 k2
      · exact far2 x p b' e1 e1' e1'' k2 k1
      · exact hh0.disj x y p p' b' e1'' e2'' hne k1 k2
    · rcases hin x p b' hp hb' with ⟨_, h | h⟩ | ⟨_, _, h3, h⟩
      · exact hsep b' h
      · exact hh0.sep j _ b' hj h
      · exact hh0.sep x p b' h3 h
    · rcases hin x p b' hp hb' with ⟨_, h | h⟩ | ⟨_, _, h3, h⟩
      · exact hlt b' h
      · exact hh0.lt j _ b' hj h
      · exact hh0.lt x p b' h3 h

/-- from a cell that keeps a value alone the object is read whose root it is -/
theorem W.ldA {D : Tab} (hD : TabOk P D) {ops : Array Oper} {draw : Bool} {T0 : List V} {H0 : Hp} {i : Nat} {T : List V} {H : Hp} {Es : List (Bool × Eff)} {Q : St → Prop} {t i0 n b j : Nat} {rows : List (List V)} {row : List V} {c : Value} {nn2 : Bool} {k2 : Nat} {rows2 : List (List V)}
    (h : Av.ldO G ops i T H = some (t, i0, n, b, rows)) (hrow : rows[n]? = some row) (hv : takeV D t ((row.drop b).map V.clean) = some (.c c)) (hj : look H j = some (.vec nn2 (.at_ c) k2 rows2))
    (k : W P G ops draw T0 H0 (i + 1) (setO T (dstW ops i) (.own j)) H (Es ++ [(true, { v := .own j, R := [i0, j] })]) Q) : W P G ops draw T0 H0 i T H Es Q := by
  unfold Av.ldO at h
  split at h
  · rename_i t' a hop
    split at h
    · rename_i j' k' m b' ha
      split at h
      · rename_i nn ety k'' rows hl
        split at h
        · subst_vars
          simp only [Option.some.injEq, Prod.mk.injEq] at h
          obtain ⟨rfl, rfl, rfl, rfl, rfl⟩ := h
          refine W.gen0 (.own j) [j', j] hop (fun o ho e' H' he hH' => ?_) k
          exact OpOk.asOwn (OpOk.loadVp hD ho ((he a (by simp [Op.operands])).trans ha) (by rw [hH' j' (by simp)]; exact hl) hrow hv) (by rw [hH' j (by simp)]; exact hj)
        · cases h
      · cases h
    · cases h
  · cases h

/-- 'append(s, xs...)', the first one's own of whatever block -/
def appA (D : Tab) (G : Nat → Option (List V)) (ops : Array Oper) (i : Nat) (T : List V) (H : Hp) : Option (Nat × Nat × TypeId × Nat × Nat × List (List V) × List (List V)) :=
  match opW ops i T with
  | some (.call c) => match c.callee, c.args, c.argTypes with
    | .builtin .append, ⟨[s, x]⟩, ⟨[t, t']⟩ => match D.at t, ev G T s, ev G T x with
      | some it, .own a, .own b => match it.d, look H a, look H b with
        | .slice el, some (.vec _ tg k1 rows), some (.vec _ (.ty el2) k2 rows2) => match D.at el with
          | some ie => if t = t' ∧ a ≠ b ∧ tg.hard = true ∧ el2 = el ∧ k1 = ie.size ∧ k2 = ie.size then some (a, b, el, ie.size, ie.bytes, rows, rows2) else none
          | none => none
        | _, _, _ => none
      | _, _, _ => none
    | _, _, _ => none
  | _ => none

theorem W.appA {D : Tab} (hD : TabOk P D) {ops : Array Oper} {draw : Bool} {T0 : List V} {H0 : Hp} {i : Nat} {T : List V} {H : Hp} {Es : List (Bool × Eff)} {Q : St → Prop} {α : Type} (enc : α → List V) {l l2 r : List α} (b : Nat) (hx : app b l l2 = some r) (hb : Nat.ble 1 b = true) (q : Nat) {a c el sz : Nat}
    (h : appA D G ops i T H = some (a, c, el, sz, b, l.map enc, l2.map enc))
    (k : W P G ops draw T0 H0 (i + 1) (setO T (dstW ops i) (.own q)) ((q, .vec false .any sz (r.map enc)) :: hrem [a, c] H) (Es ++ [(true, { v := .own q, C := [a, c], new := [(q, .vec false .any sz (r.map enc))], N := [q] })]) Q) : W P G ops draw T0 H0 i T H Es Q := by
  obtain ⟨rfl, h1, h2⟩ := app_len (Nat.le_of_ble_eq_true hb) hx
  unfold Av.appA at h
  split at h
  · rename_i cl hop
    obtain ⟨callee, args, ats⟩ := cl
    simp only at h
    split at h
    · rename_i s x t t' 
      split at h
      · rename_i it a' c' ht hs hxv
        split at h
        · rename_i el' nn1 tg k1 rows nn2 el2 k2 rows2 hit hl1 hl2
          split at h
          · rename_i ie hel
            split at h
            · rename_i hc
              obtain ⟨rfl, hne, htg, rfl, rfl, rfl⟩ := hc
              simp only [Option.some.injEq, Prod.mk.injEq] at h
              obtain ⟨rfl, rfl, rfl, rfl, rfl, rfl, rfl⟩ := h
              refine W.gen { v := .own q, C := [a', c'], new := [(q, .vec false .any ie.size ((l ++ l2).map enc))], N := [q] } hop (fun o ho e' H' he hH' hN => ?_) k
              simp only [List.all_cons, List.all_nil, Bool.and_true, Bool.not_eq_true'] at hN
              have := OpOk.appendOwnT (G := G) hD q false (tag := tg) .any (fun _ _ _ h2 => h2 fun _ _ h => h.tight htg) trivial ho ht hit hel ((he s (by simp [ho, Op.operands, Call.operands])).trans hs) ((he x (by simp [ho, Op.operands, Call.operands])).trans hxv) hne
                (by rw [hH' a' (.inr (by simp [Eff.touch]))]; exact hl1) (by rw [hH' c' (.inr (by simp [Eff.touch]))]; exact hl2) (by simpa using h2) (by simpa using h1) hN (by simp)
              rw [List.map_append]
              exact this
            · cases h
          · cases h
        · cases h
      · cases h
    · cases h
  · cases h

/-- all that lies within an own slice's cells becomes data; the slice itself stays own -/
theorem Weak.shareIn (i : Nat) {T : List V} {H : Hp} {nn : Bool} {ety : Tg} {k : Nat} {rows rows' : List (List V)} (hi : look H i = some (.vec nn ety k rows)) (hrows : V.shareR rows = rows') :
    Weak ⟨T, H⟩ ⟨T, (i, .vec nn ety k rows') :: hrem [i] H⟩ := by
  subst hrows
  intro B G ρ S F a w hst
  have hh0 := hst.heap
  simp only at hh0
  obtain ⟨r, hr, hob⟩ := hh0.obj i _ hi
  have hnd := hh0.nodup i _ hi
  have hlen' : (V.shareR rows).length = rows.length := by rw [V.shareR_eq, List.length_map]
  have lk : ∀ x p, look ((i, .vec nn ety k (V.shareR rows)) :: hrem [i] H) x = some p → (x = i ∧ p = .vec nn ety k (V.shareR rows)) ∨ (x ≠ i ∧ look H x = some p) := fun x p hp => by
    simp only [look, look_hrem] at hp
    split at hp
    · cases hp; exact .inl ⟨‹_›, rfl⟩
    · split at hp
      · cases hp
      · exact .inr ⟨‹_›, hp⟩
  obtain ⟨F0, hF0, hob0⟩ : ∃ F0 : List Nat, (∀ b, b ∈ F0 → b ∈ F i) ∧ F0.Nodup ∧ ∀ S' : Nat → Prop, (∀ b, S b → S' b) → (∀ b, b ∈ F i → b ∉ F0 → S' b) → ObR ρ S' w r (.vec nn ety k (V.shareR rows)) F0 := by
    generalize F i = Fi at hob hnd
    cases hob with
    | vnil => exact ⟨[], fun b h => h, List.nodup_nil, fun S' _ _ => .vnil _ _⟩
    | vec g cap arr _ _ _ _ cc Fs hh hcap hmax hsz hk hc hrd ht =>
      have hndf := List.nodup_cons.1 hnd
      have hf0 : flat (V.shareR rows).length k (fun _ _ => []) = [] := by
        apply List.eq_nil_iff_forall_not_mem.2
        intro b hb
        obtain ⟨p, q, _, _, h⟩ := mem_flat.1 hb
        cases h
      refine ⟨[g], fun b h => by rw [List.mem_singleton.1 h]; simp, by simp, fun S' hS hF => ?_⟩
      rw [← hlen'] at ht ⊢
      have get : ∀ (p : Nat) (r' : List V), (V.shareR rows)[p]? = some r' → ∃ r0, rows[p]? = some r0 ∧ r' = r0.map V.share := fun p r' hp => by
        rw [V.shareR_eq, List.getElem?_map, Option.map_eq_some_iff] at hp
        obtain ⟨r0, h1, h2⟩ := hp
        exact ⟨r0, h1, by rw [← h2, V.shareL_eq]⟩
      rw [show [g] = g :: flat (V.shareR rows).length k (fun _ _ => []) by rw [hf0]]
      refine .vec g cap arr nn ety k (V.shareR rows) cc (fun _ _ => []) hh (by rw [hlen']; exact hcap) hmax hsz (fun p r' hp => ?_) (fun p q r' x hp hq => ?_) (fun p q r' x hp hq => ?_) ht
      · obtain ⟨r0, h1, rfl⟩ := get p r' hp
        rw [List.length_map]; exact hk p r0 h1
      · obtain ⟨r0, h1, rfl⟩ := get p r' hp
        rw [List.getElem?_map, Option.map_eq_some_iff] at hq
        obtain ⟨x0, h2, rfl⟩ := hq
        exact hc p q r0 x0 h1 h2
      · obtain ⟨r0, h1, rfl⟩ := get p r' hp
        rw [List.getElem?_map, Option.map_eq_some_iff] at hq
        obtain ⟨x0, h2, rfl⟩ := hq
        have hpn : p < rows.length := (List.getElem?_eq_some_iff.1 h1).1
        have hqk : q < k := by have := (List.getElem?_eq_some_iff.1 h2).1; rw [hk p r0 h1] at this; exact this
        exact (hrd p q r0 x0 h1 h2).share hS fun b hb => hF b (List.mem_cons_of_mem _ (flat_mem_lt hpn hqk hb)) fun h => by
          rw [List.mem_singleton] at h
          subst h
          exact hndf.1 (flat_mem_lt hpn hqk hb)
  let S' : Nat → Prop := fun b => S b ∨ (b ∈ F i ∧ b ∉ F0)
  let F' : Nat → List Nat := fun x => if x = i then F0 else F x
  have hS : ∀ b, S b → S' b := fun b h => .inl h
  have hkp : Keeps S w S' w := fun b h => ⟨hS b h, rfl⟩
  have hin : ∀ x p b', look ((i, .vec nn ety k (V.shareR rows)) :: hrem [i] H) x = some p → b' ∈ F' x → (x = i ∧ b' ∈ F0) ∨ (x ≠ i ∧ look H x = some p ∧ b' ∈ F x) := fun x p b' hp hb' => by
    rcases lk x p hp with ⟨rfl, _⟩ | ⟨h1, h2⟩
    · simp only [F', if_true] at hb'; exact .inl ⟨rfl, hb'⟩
    · simp only [F', if_neg h1] at hb'; exact .inr ⟨h1, h2, hb'⟩
  have hUb : ∀ b, b ∈ F i → Ub H F b := fun b h => ⟨i, _, hi, h⟩
  refine ⟨ρ, S', F', ⟨hst.defers.more fun b h => h.imp id fun h => hh0.blocks (hUb b h.1), hst.size, fun x y hx => (hst.tmps x y hx).mono (fun _ _ h _ => h) hkp,
    ⟨fun x hx => ?_, fun x p hp => ?_, fun x p hp => ?_, fun x y p p' b' hx hy hne hbx hby => ?_, fun x p b' hp hb' => ?_, fun x p b' hp hb' => ?_, fun b h => ?_⟩, hst.glob.mono hkp⟩,
    ⟨rfl, rfl, rfl, Nat.le_refl _, fun _ _ _ => rfl, hS, fun b h => h.imp id fun h => .inl (hUb b h.1), fun b' ⟨x, p, hp, h⟩ => .inl ?_⟩, fun x r _ hr => hr⟩
  · simp only [look, look_hrem] at hx
    split at hx
    · cases hx
    · rename_i h1
      split at hx
      · rename_i h2; simp only [List.mem_singleton] at h2; exact absurd h2 h1
      · exact hh0.dom x hx
  · rcases lk x p hp with ⟨rfl, rfl⟩ | ⟨h1, h2⟩
    · exact ⟨r, hr, by simp only [F', if_true]; exact hob0.2 S' hS fun b h1 h2 => .inr ⟨h1, h2⟩⟩
    · obtain ⟨r', hr', hob'⟩ := hh0.obj x p h2
      exact ⟨r', hr', by simp only [F', if_neg h1]; exact hob'.mono (fun _ _ h _ => h) hkp (fun _ _ => rfl)⟩
  · rcases lk x p hp with ⟨rfl, rfl⟩ | ⟨h1, h2⟩
    · simp only [F', if_true]; exact hob0.1
    · simp only [F', if_neg h1]; exact hh0.nodup x p h2
  · rcases hin x p b' hx hbx with ⟨e1, k1⟩ | ⟨e1, e1', k1⟩ <;> rcases hin y p' b' hy hby with ⟨e2, k2⟩ | ⟨e2, e2', k2⟩
    · exact hne (e1.trans e2.symm)
    · exact hh0.disj i y _ p' b' hi e2' (Ne.symm e2) (hF0 b' k1) k2
    · exact hh0.disj i x _ p b' hi e1' (Ne.symm e1) (hF0 b' k2) k1
    · exact hh0.disj x y p p' b' e1' e2' hne k1 k2
  · rintro (h | ⟨h, h'⟩)
    · rcases hin x p b' hp hb' with ⟨_, h1⟩ | ⟨_, h2, h1⟩
      · exact hh0.sep i _ b' hi (hF0 b' h1) h
      · exact hh0.sep x p b' h2 h1 h
    · rcases hin x p b' hp hb' with ⟨_, h1⟩ | ⟨h3, h2, h1⟩
      · exact h' h1
      · exact hh0.disj i x _ p b' hi h2 (Ne.symm h3) h h1
  · rcases hin x p b' hp hb' with ⟨_, h1⟩ | ⟨_, h2, h1⟩
    · exact hh0.lt i _ b' hi (hF0 b' h1)
    · exact hh0.lt x p b' h2 h1
  · rcases h with h | h
    · exact hh0.slt b h
    · exact hh0.lt i _ b hi h.1
  · rcases hin x p b' hp h with ⟨_, h1⟩ | ⟨_, h2, h1⟩
    · exact hUb b' (hF0 b' h1)
    · exact ⟨x, p, h2, h1⟩

def V.dat : V → Bool
  | .c _ => true
  | .sl _ false _ => true
  | _ => false
theorem RD.dat {S : Nat → Prop} {w : World} {v : Value} {y : V} {F : List Nat} (h : RD S w v y F) (hy : y.dat = true) : F = [] := by
  cases h with
  | c => rfl
  | nils => rfl
  | shr => rfl
  | exc => cases hy

theorem OpOk.appendSelf {D : Tab} (hD : TabOk P D) {o : Oper} {e : Operand → V} {H : Hp} {s x : Operand} {t el : TypeId} {it ie : Ty} (q : Nat) {i : Nat} {nn : Bool} {rows : List (List V)} (nn' : Bool)
    (ho : o.op = .call { callee := .builtin .append, args := #[s, x], argTypes := #[t, t] }) (ht : D.at t = some it) (hit : it.d = .slice el) (hel : D.at el = some ie)
    (hs : e s = .own i) (hx : e x = .own i) (hi : look H i = some (.vec nn (.ty el) ie.size rows)) (hdat : ∀ r, r ∈ rows → ∀ y, y ∈ r → y.dat = true)
    (hlen : rows.length + rows.length ≤ maxLen) (hb : (rows.length + rows.length) * ie.bytes ≤ 140737488355328) (hq : hasH q H = false) (hnn : nn' = true → nn = true ∨ rows ≠ []) :
    OpOk P G o e H (.own q) ((q, .vec nn' (.ty el) ie.size (rows ++ rows)) :: hrem [i] H) [q] := by
  intro ρ S F η w hη hH hG
  have h1 := hη s (by simp [ho, Op.operands, Call.operands])
  have h2 := hη x (by simp [ho, Op.operands, Call.operands])
  rw [hs] at h1
  rw [hx] at h2
  obtain ⟨r, hr, hob⟩ := hH.obj i _ hi
  have := h2.own_inv r hr
  obtain ⟨_, ⟨d, u1, u2⟩, _⟩ := hD _ _ ht
  rw [hit] at u2
  have hd : d = .slice el := by cases d <;> simp_all [TD.is]
  subst hd
  obtain ⟨F', hsrc, hsub, hnd⟩ := SrcV.of_own (P := P) u1 hob (hH.nodup i _ hi)
  rw [← this] at hsrc
  have hno : ∀ b, b ∈ F' → False := fun b hb => by
    obtain ⟨news, cs, Fs, _, rfl, hk, hc⟩ := hsrc.ex
    obtain ⟨p, q, hp, hq, hb⟩ := mem_flat.1 hb
    have hr1 : rows[p]? = some rows[p] := List.getElem?_eq_getElem hp
    have hq' : q < rows[p].length := by rw [hk _ _ hr1]; exact hq
    have hr2 : rows[p][q]? = some rows[p][q] := List.getElem?_eq_getElem hq'
    rw [(hc p q _ _ hr1 hr2).2.dat (hdat _ (List.getElem_mem hp) _ (List.getElem_mem hq'))] at hb
    cases hb
  obtain ⟨v, w', hrun, hp⟩ := Post.append hD hH ht hit hel (tag := .ty el) (.ty el) (fun e1 v h h2 => ⟨h fun _ _ h => h.1, h2 fun _ _ h => h.2⟩) trivial hi hsrc hnd [] (fun b hb => (hno b hb).elim) hlen hb hq hnn h1 (tx := t) (ty := o.type)
  unfold ExecTo
  rw [resolve_append ho hrun]
  exact hp

/-- 'append(s, xs...)', twice the same of one's own, data alone within -/
def appZ (D : Tab) (G : Nat → Option (List V)) (ops : Array Oper) (i : Nat) (T : List V) (H : Hp) : Option (Nat × TypeId × Nat × Nat × List (List V)) :=
  match opW ops i T with
  | some (.call c) => match c.callee, c.args, c.argTypes with
    | .builtin .append, ⟨[s, x]⟩, ⟨[t, t']⟩ => match D.at t, ev G T s, ev G T x with
      | some it, .own a, .own b => match it.d, look H a with
        | .slice el, some (.vec _ (.ty el1) k1 rows) => match D.at el with
          | some ie => if t = t' ∧ a = b ∧ el1 = el ∧ k1 = ie.size then some (a, el, ie.size, ie.bytes, rows) else none
          | none => none
        | _, _ => none
      | _, _, _ => none
    | _, _, _ => none
  | _ => none

theorem W.appZ {D : Tab} (hD : TabOk P D) {ops : Array Oper} {draw : Bool} {T0 : List V} {H0 : Hp} {i : Nat} {T : List V} {H : Hp} {Es : List (Bool × Eff)} {Q : St → Prop} {α : Type} (enc : α → List V) {l r : List α} (b : Nat) (hx : app b l l = some r) (hb : Nat.ble 1 b = true) (q : Nat) {a el sz : Nat}
    (h : appZ D G ops i T H = some (a, el, sz, b, l.map enc)) (hdat : ∀ x : α, (enc x).all V.dat = true)
    (k : W P G ops draw T0 H0 (i + 1) (setO T (dstW ops i) (.own q)) ((q, .vec false el sz (r.map enc)) :: hrem [a] H) (Es ++ [(true, { v := .own q, C := [a], new := [(q, .vec false el sz (r.map enc))], N := [q] })]) Q) : W P G ops draw T0 H0 i T H Es Q := by
  obtain ⟨rfl, h1, h2⟩ := app_len (Nat.le_of_ble_eq_true hb) hx
  unfold Av.appZ at h
  split at h
  · rename_i cl hop
    obtain ⟨callee, args, ats⟩ := cl
    simp only at h
    split at h
    · rename_i s x t t' 
      split at h
      · rename_i it a' c' ht hs hxv
        split at h
        · rename_i el' nn1 el1 k1 rows hit hl1
          split at h
          · rename_i ie hel
            split at h
            · rename_i hc
              obtain ⟨rfl, rfl, rfl, rfl⟩ := hc
              simp only [Option.some.injEq, Prod.mk.injEq] at h
              obtain ⟨rfl, rfl, rfl, rfl, rfl⟩ := h
              refine W.gen { v := .own q, C := [a'], new := [(q, .vec false _ ie.size ((l ++ l).map enc))], N := [q] } hop (fun o ho e' H' he hH' hN => ?_) k
              simp only [List.all_cons, List.all_nil, Bool.and_true, Bool.not_eq_true'] at hN
              have := OpOk.appendSelf (G := G) hD q false ho ht hit hel ((he s (by simp [ho, Op.operands, Call.operands])).trans hs) ((he x (by simp [ho, Op.operands, Call.operands])).trans hxv)
                (by rw [hH' a' (.inr (by simp [Eff.touch]))]; exact hl1) (fun r hr y hy => by obtain ⟨x, _, rfl⟩ := List.mem_map.1 hr; exact List.all_eq_true.1 (hdat x) y hy) (by simpa using h2) (by simpa using h1) hN (by simp)
              rw [List.map_append]
              exact this
            · cases h
          · cases h
        · cases h
      · cases h
    · cases h
  · cases h

/-! ### a new own slice of which it is forgotten that it is not nil -/
def Ob.dim : Ob → Ob
  | .vec _ e k rows => .vec false e k rows
  | o => o
def dimH (H : Hp) : Hp := H.map fun p => (p.1, p.2.dim)
def Eff.dim (E : Eff) : Eff := { E with new := dimH E.new }
theorem look_dimH (H : Hp) (x : Nat) : look (dimH H) x = (look H x).map Ob.dim := by
  induction H with
  | nil => rfl
  | cons p H ih =>
    obtain ⟨j, o⟩ := p
    simp only [dimH, List.map_cons, look]
    split
    · rfl
    · exact ih
theorem ObR.lower {ρ : Nat → Option Value} {S : Nat → Prop} {w : World} {r : Value} {o : Ob} {F : List Nat} (h : ObR ρ S w r o F) : ObR ρ S w r o.dim F := by
  cases h with
  | cells g arr ety cs hh hsz hr => exact .cells g arr ety cs hh hsz hr
  | vnil _ _ ht => exact .vnil _ _ ht
  | vec g cap arr nn ety k rows cs Fs hh hcap hmax hsz hk hc hr ht => exact .vec g cap arr false ety k rows cs Fs hh hcap hmax hsz hk hc hr ht
theorem HRel.lower {ρ : Nat → Option Value} {S : Nat → Prop} {F : Nat → List Nat} {H1 H2 : Hp} {w : World} (h : HRel ρ S F H1 w) (he : ∀ x, look H2 x = look H1 x ∨ look H2 x = (look H1 x).map Ob.dim) : HRel ρ S F H2 w := by
  have back : ∀ x o, look H2 x = some o → ∃ o', look H1 x = some o' ∧ (o = o' ∨ o = o'.dim) := fun x o hx => by
    rcases he x with e | e
    · exact ⟨o, by rw [← e]; exact hx, .inl rfl⟩
    · rw [e, Option.map_eq_some_iff] at hx
      obtain ⟨o', h1, rfl⟩ := hx
      exact ⟨o', h1, .inr rfl⟩
  refine ⟨fun x hx => h.dom x ?_, fun x o hx => ?_, fun x o hx => ?_, fun x y o p b hx hy hne h1 h2 => ?_, fun x o b hx hb => ?_, fun x o b hx hb => ?_, h.slt⟩
  · rcases he x with e | e
    · rw [← e]; exact hx
    · rw [e] at hx; simpa using hx
  · obtain ⟨o', h1, h2⟩ := back x o hx
    obtain ⟨r, hr, hob⟩ := h.obj x o' h1
    rcases h2 with rfl | rfl
    · exact ⟨r, hr, hob⟩
    · exact ⟨r, hr, hob.lower⟩
  · obtain ⟨o', h1, _⟩ := back x o hx; exact h.nodup x o' h1
  · obtain ⟨o', k1, _⟩ := back x o hx
    obtain ⟨p', k2, _⟩ := back y p hy
    exact h.disj x y o' p' b k1 k2 hne h1 h2
  · obtain ⟨o', h1, _⟩ := back x o hx; exact h.sep x o' b h1 hb
  · obtain ⟨o', h1, _⟩ := back x o hx; exact h.lt x o' b h1 hb
theorem OpOk.lower {o : Oper} {e : Operand → V} {H H1 H2 : Hp} {v : V} {N : List Nat} (h : OpOk P G o e H v H1 N) (he : ∀ x, look H2 x = look H1 x ∨ look H2 x = (look H1 x).map Ob.dim) : OpOk P G o e H v H2 N :=
  fun ρ S F η w hη hH hG => (h ρ S F η w hη hH hG).mono fun x w' hp => by
    obtain ⟨ρ', S', F', hv, hH', hE, hA⟩ := hp
    refine ⟨ρ', S', F', hv, hH'.lower he, ⟨hE.os, hE.tape, hE.output, hE.size, hE.keep, hE.sub, hE.newS, fun b hb => hE.newU b ?_⟩, hA⟩
    obtain ⟨i, o', hi, hb⟩ := hb
    rcases he i with e1 | e1
    · exact ⟨i, o', by rw [← e1]; exact hi, hb⟩
    · rw [e1, Option.map_eq_some_iff] at hi
      obtain ⟨o2, h2, _⟩ := hi
      exact ⟨i, o2, h2, hb⟩

def effAt (D : Tab) (G : Nat → Option (List V)) (ops : Array Oper) (q i : Nat) (T : List V) (H : Hp) : Option Eff :=
  match ops[i]? with
  | none => none
  | some o => match wantV ops T o.guard with
    | some true => effV D q H (ev G T) o.op
    | _ => none

/-- one operation, computed; what is new is told lower -/
theorem W.lowN {D : Tab} (hD : TabOk P D) {ops : Array Oper} {draw : Bool} {T0 : List V} {H0 : Hp} {i : Nat} {T : List V} {H : Hp} {Es : List (Bool × Eff)} {Q : St → Prop} (q : Nat) (h : (effAt D G ops q i T H).isSome = true)
    (k : W P G ops draw T0 H0 (i + 1) (setO T (dstW ops i) ((effAt D G ops q i T H).getD default).v) (dimH ((effAt D G ops q i T H).getD default).new ++ hrem ((effAt D G ops q i T H).getD default).C H) (Es ++ [(true, ((effAt D G ops q i T H).getD default).dim)]) Q) : W P G ops draw T0 H0 i T H Es Q := by
  obtain ⟨E, hE⟩ := Option.isSome_iff_exists.1 h
  rw [hE] at k
  simp only [Option.getD_some] at k
  unfold effAt at hE
  split at hE
  · cases hE
  · rename_i o ho
    split at hE
    · rename_i hw
      have hd : dstW ops i = o.dst := by simp [dstW, ho]
      rw [hd] at k
      refine W.one E.dim ho hw (fun e' H' he hH' hN => ?_) k
      have ht : ∀ x, E.dim.touch x = E.touch x := fun x => by simp [Eff.touch, Eff.dim, look_dimH]
      refine (effV_sound hD hE e' H' he (fun x hx => hH' x (hx.imp id fun h => by rw [ht]; exact h)) hN).lower fun x => ?_
      have e1 : look (E.dim.new ++ hrem E.dim.C H') x = (match (look E.new x).map Ob.dim with | some o => some o | none => look (hrem E.C H') x) := by
        rw [← look_dimH]
        exact look_app _ _ _
      rw [e1, look_app]
      cases look E.new x with
      | none => exact .inl rfl
      | some o => exact .inr rfl
    · cases hE

end
end Go.Av

namespace Go.Av

section
variable {P : Program} {G : Nat → Option (List V)} {L : Option Nat}

theorem lend_ix {α : Type} {enc : α → List V} {l : List α} {k : Int} {e : α} {row : List V} {R : List (List V)} (hx : ix l k = some e) (hR : R = (l.map enc).set k.toNat row) : ix R k = some row ∧ (R.map id)[k.toNat]? = some row := by
  obtain ⟨h1, h2⟩ := ix_some hx
  have hk : k.toNat < l.length := (List.getElem?_eq_some_iff.1 h2).1
  have hr : R[k.toNat]? = some row := by
    rw [hR, List.getElem?_set_self (by simpa using hk)]
  refine ⟨?_, ?_⟩
  · unfold ix
    rw [if_pos (by omega), hr]
  · rw [List.map_id, hr]
theorem lend_upd {α : Type} {enc : α → List V} {l l3 : List α} {k : Int} {e' : α} {row row' : List V} {R : List (List V)} (hR : R = (l.map enc).set k.toNat row) (hu : upd l k e' = some l3) (he : enc e' = row') : upd R k row' = some (l3.map enc) := by
  subst hR he
  unfold upd at hu ⊢
  split at hu
  · rename_i hc
    cases hu
    rw [if_pos ⟨hc.1, by simpa using hc.2⟩, List.set_set, List.map_set]
  · cases hu
theorem lend_fin {α : Type} {enc : α → List V} {l l3 : List α} {k : Int} {e' : α} {row row' : List V} {R : List (List V)} (hR : R = (l.map enc).set k.toNat row) (hu : upd l k e' = some l3) (he : row' = enc e') : (R.map id).set k.toNat row' = l3.map enc := by
  subst hR he
  unfold upd at hu
  split at hu
  · cases hu
    rw [List.map_id, List.set_set, List.map_set]
  · cases hu
theorem lend_fin0 {α : Type} {enc : α → List V} {l : List α} {k : Int} {e : α} {row row' : List V} {R : List (List V)} (hR : R = (l.map enc).set k.toNat row) (hx : ix l k = some e) (he : row' = enc e) : (R.map id).set k.toNat row' = l.map enc := by
  subst hR he
  obtain ⟨h1, h2⟩ := ix_some hx
  have hk : k.toNat < l.length := (List.getElem?_eq_some_iff.1 h2).1
  rw [List.map_id, List.set_set, ← List.map_set]
  congr 1
  rw [← (List.getElem?_eq_some_iff.1 h2).2]
  exact List.set_getElem_self hk

/-- the slice in a cell becomes an object of its own (j); what is left is told as rows (R) -/
theorem CodeOk.lendR (i b j : Nat) {α : Type} (enc : α → List V) {l : List α} {k : Int} {e : α} (hx : ix l k = some e) {code : Code} {T : List V} {H : Hp} {Q : Exit → St → Prop} {nn nn2 : Bool} {ety : Tg} {kk : Nat} {srows : List (List V)} (row0 : Value → List V) (H' : Value → List (List V) → Hp)
    (hi : look H i = some (.vec nn ety kk (l.map enc))) (hb : (enc e)[b]? = some (.sl nn2 true srows)) (hr0 : ∀ c, (enc e).set b (.c c) = row0 c) (hj : fresh [j] ⟨T, H⟩ = true) (h1 : ∀ r, r ∈ srows → r.length = 1)
    (hH' : ∀ c R, (j, .vec false (.at_ c) 1 srows) :: (i, .vec nn ety kk (R.map id)) :: hrem [i] H = H' c R)
    (h : ∀ c R, R = (l.map enc).set k.toNat (row0 c) → CodeOk L P G code ⟨T, H' c R⟩ Q) : CodeOk L P G code ⟨T, H⟩ Q := by
  obtain ⟨h0, h2⟩ := ix_some hx
  refine CodeOk.lend i k.toNat b j hi (row := enc e) (by rw [List.getElem?_map, h2]; rfl) hb hj h1 fun c hc => ?_
  have := h c ((l.map enc).set k.toNat (row0 c)) rfl
  rw [← hH', List.map_id] at this
  rw [hr0]
  exact this
theorem Weak.unlendTo (i m b j : Nat) {T : List V} {H : Hp} {nn nn2 : Bool} {ety : Tg} {k : Nat} {rows : List (List V)} {row : List V} {srows : List (List V)} {c : Value} {row' : List V} {rows' : List (List V)}
    (hi : look H i = some (.vec nn ety k rows)) (hrow : rows[m]? = some row) (hb : row[b]? = some (.c c)) (hj : look H j = some (.vec nn2 (.at_ c) 1 srows)) (hij : i ≠ j) (hr : row.set b (.sl nn2 true srows) = row') (he : rows.set m row' = rows') :
    Weak ⟨T, H⟩ ⟨T, (i, .vec nn ety k rows') :: hrem [i, j] H⟩ := by
  subst hr he
  exact Weak.unlend i m b j hi hrow hb hj hij

end
end Go.Av

namespace Go.Av
open Go.RowKit

def RepMem (P : Program) (f : FuncId) : Prop := ∀ (s : ByteArray) (c : Nat) (w : World), c ≤ 9223372036854775807 → s.size * c ≤ 140737488355328 →
  Calls P f #[.string s, .int .i64 c] w fun e w' => e = .returned (.string ⟨(Lib.repeatL s.data.toList c).toArray⟩) ∧ Below w.heap.size w w'

theorem AC.rep {P : Program} {G : Nat → Option (List V)} {f : FuncId} (h : RepMem P f) (s : List UInt8) (c : Nat) (hs : s.length ≤ 1048576) (hc : c ≤ 1048576) :
    AC P G f [V.str s, V.int c] [] (V.str (Lib.repeatL s c)) [] := by
  intro ρ S F xs w hsz hxs hH hG
  have x0 : xs.getD 0 undef = .string ⟨⟨s⟩⟩ := (hxs 0 _ rfl).c_inv
  have x1 : xs.getD 1 undef = .int .i64 c := (hxs 1 _ rfl).c_inv
  have hx : xs = #[.string ⟨⟨s⟩⟩, .int .i64 c] := by
    have h3 : xs.size = 2 := hsz
    apply Array.ext
    · exact h3
    · intro j h1 h2
      have : j = 0 ∨ j = 1 := by omega
      rcases this with rfl | rfl
      · simpa [Array.getD, h1] using x0
      · simpa [Array.getD, h1] using x1
  subst hx
  have hm : s.length * c ≤ 1048576 * 1048576 := Nat.mul_le_mul hs hc
  refine Calls.mono (h ⟨⟨s⟩⟩ c w (by omega) (by show s.length * c ≤ _; omega)) fun e w' hq => ?_
  obtain ⟨rfl, hb⟩ := hq
  refine ⟨_, ρ, S, F, rfl, .c _, ⟨hH.dom, fun i o ho => (by cases ho), fun i o ho => (by cases ho), fun i j o p b ho => (by cases ho), fun i o b ho => (by cases ho), fun i o b ho => (by cases ho), fun b hb' => Nat.lt_of_lt_of_le (hH.slt b hb') hb.size⟩, ⟨hb.os, hb.tape, hb.output, hb.size, fun b hb' _ => hb.block b hb', fun b hb => hb, fun b hb => .inl hb, fun b hb => .inl hb⟩, AgF.refl _⟩

def repO (s : List UInt8) (c : Int) : Option (List UInt8) := if s.length ≤ 1048576 ∧ 0 ≤ c ∧ c ≤ 1048576 then some (Lib.repeatL s c.toNat) else none
theorem AC.repO {P : Program} {G : Nat → Option (List V)} {f : FuncId} (hm : RepMem P f) {s : List UInt8} {c : Int} {r : List UInt8} (h : repO s c = some r) : AC P G f [V.str s, V.int c] [] (V.str r) [] := by
  unfold Go.Av.repO at h
  split at h
  · rename_i hl
    obtain ⟨h1, h2, h3⟩ := hl
    cases h
    obtain ⟨n, rfl⟩ := Int.eq_ofNat_of_zero_le h2
    exact AC.rep hm s n h1 (by omega)
  · cases h

section
variable {P : Program} {G : Nat → Option (List V)} {L : Option Nat}
/-- an own slice is told as one that may have room without elements -/
theorem Weak.toSp (i : Nat) {T : List V} {H : Hp} {nn : Bool} {e : TypeId} {k : Nat} {rows : List (List V)} (hi : look H i = some (.vec nn (.ty e) k rows)) :
    Weak ⟨T, H⟩ ⟨T, (i, .vec nn (.sp e) k rows) :: hrem [i] H⟩ := by
  intro B G ρ S F a w hst
  have hh0 := hst.heap
  simp only at hh0
  obtain ⟨r, hr, hob⟩ := hh0.obj i _ hi
  have hob2 : ObR ρ S w r (.vec nn (.sp e) k rows) (F i) := by
    generalize F i = Fi at hob
    cases hob with
    | vnil => exact .vnil _ _
    | vec g cap arr _ _ _ _ cc Fs hh hcap hmax hsz hk hc hrd ht => exact .vec g cap arr nn _ k rows cc Fs hh hcap hmax hsz hk hc hrd ht.1
  have lk : ∀ x p, look ((i, .vec nn (.sp e) k rows) :: hrem [i] H) x = some p → (x = i ∧ p = .vec nn (.sp e) k rows) ∨ (x ≠ i ∧ look H x = some p) := fun x p hp => by
    simp only [look, look_hrem] at hp
    split at hp
    · cases hp; exact .inl ⟨‹_›, rfl⟩
    · split at hp
      · cases hp
      · exact .inr ⟨‹_›, hp⟩
  have had : ∀ x p, look ((i, .vec nn (.sp e) k rows) :: hrem [i] H) x = some p → ∃ q, look H x = some q := fun x p hp => by
    rcases lk x p hp with ⟨rfl, _⟩ | ⟨_, h⟩
    · exact ⟨_, hi⟩
    · exact ⟨_, h⟩
  refine ⟨ρ, S, F, ⟨hst.defers, hst.size, hst.tmps, ⟨fun x hx => ?_, fun x p hp => ?_, fun x p hp => ?_, fun x y p p' b' hx hy hne hbx hby => ?_, fun x p b' hp hb' => ?_, fun x p b' hp hb' => ?_, hh0.slt⟩, hst.glob⟩,
    ⟨rfl, rfl, rfl, Nat.le_refl _, fun _ _ _ => rfl, fun b h => h, fun b h => .inl h, fun b' ⟨x, p, hp, h⟩ => .inl ?_⟩, fun x r _ hr => hr⟩
  · simp only [look, look_hrem] at hx
    split at hx
    · cases hx
    · rename_i h1
      split at hx
      · rename_i h2; simp only [List.mem_singleton] at h2; exact absurd h2 h1
      · exact hh0.dom x hx
  · rcases lk x p hp with ⟨rfl, rfl⟩ | ⟨h1, h2⟩
    · exact ⟨r, hr, hob2⟩
    · exact hh0.obj x p h2
  · obtain ⟨q, hq⟩ := had x p hp
    exact hh0.nodup x q hq
  · obtain ⟨q, hq⟩ := had x p hx
    obtain ⟨q', hq'⟩ := had y p' hy
    exact hh0.disj x y q q' b' hq hq' hne hbx hby
  · obtain ⟨q, hq⟩ := had x p hp
    exact hh0.sep x q b' hq hb'
  · obtain ⟨q, hq⟩ := had x p hp
    exact hh0.lt x q b' hq hb'
  · obtain ⟨q, hq⟩ := had x p hp
    exact ⟨x, q, hq, h⟩

/-- 'append(s, xs...)', s an own slice that was cut short, xs another own one -/
def appP (D : Tab) (G : Nat → Option (List V)) (ops : Array Oper) (i : Nat) (T : List V) (H : Hp) : Option (Nat × Nat × TypeId × Nat × Nat × List (List V) × List (List V)) :=
  match opW ops i T with
  | some (.call c) => match c.callee, c.args, c.argTypes with
    | .builtin .append, ⟨[s, x]⟩, ⟨[t, t']⟩ => match D.at t, ev G T s, ev G T x with
      | some it, .own a, .own b => match it.d, look H a, look H b with
        | .slice el, some (.vec _ (.sp el1) k1 rows), some (.vec _ (.ty el2) k2 rows2) => match D.at el with
          | some ie => if t = t' ∧ a ≠ b ∧ el1 = el ∧ el2 = el ∧ k1 = ie.size ∧ k2 = ie.size then some (a, b, el, ie.size, ie.bytes, rows, rows2) else none
          | none => none
        | _, _, _ => none
      | _, _, _ => none
    | _, _, _ => none
  | _ => none

theorem W.appP {D : Tab} (hD : TabOk P D) {ops : Array Oper} {draw : Bool} {T0 : List V} {H0 : Hp} {i : Nat} {T : List V} {H : Hp} {Es : List (Bool × Eff)} {Q : St → Prop} {α : Type} (enc : α → List V) {l l2 r : List α} (b : Nat) (hx : app b l l2 = some r) (hb : Nat.ble 1 b = true) (q : Nat) {a c el sz : Nat}
    (h : appP D G ops i T H = some (a, c, el, sz, b, l.map enc, l2.map enc))
    (k : W P G ops draw T0 H0 (i + 1) (setO T (dstW ops i) (.own q)) ((q, .vec false (.sp el) sz (r.map enc)) :: hrem [a, c] H) (Es ++ [(true, { v := .own q, C := [a, c], new := [(q, .vec false (.sp el) sz (r.map enc))], N := [q] })]) Q) : W P G ops draw T0 H0 i T H Es Q := by
  obtain ⟨rfl, h1, h2⟩ := app_len (Nat.le_of_ble_eq_true hb) hx
  unfold Av.appP at h
  split at h
  · rename_i cl hop
    obtain ⟨callee, args, ats⟩ := cl
    simp only at h
    split at h
    · rename_i s x t t' 
      split at h
      · rename_i it a' c' ht hs hxv
        split at h
        · rename_i el' nn1 el1 k1 rows nn2 el2 k2 rows2 hit hl1 hl2
          split at h
          · rename_i ie hel
            split at h
            · rename_i hc
              obtain ⟨rfl, hne, rfl, rfl, rfl, rfl⟩ := hc
              simp only [Option.some.injEq, Prod.mk.injEq] at h
              obtain ⟨rfl, rfl, rfl, rfl, rfl, rfl, rfl⟩ := h
              refine W.gen { v := .own q, C := [a', c'], new := [(q, .vec false (.sp _) ie.size ((l ++ l2).map enc))], N := [q] } hop (fun o ho e' H' he hH' hN => ?_) k
              simp only [List.all_cons, List.all_nil, Bool.and_true, Bool.not_eq_true'] at hN
              have := OpOk.appendOwnT (G := G) hD q false (tag := .sp el2) (tag2 := .ty el2) (.sp el2) (fun _ _ h _ => h fun _ _ h => h) trivial ho ht hit hel ((he s (by simp [ho, Op.operands, Call.operands])).trans hs) ((he x (by simp [ho, Op.operands, Call.operands])).trans hxv) hne
                (by rw [hH' a' (.inr (by simp [Eff.touch]))]; exact hl1) (by rw [hH' c' (.inr (by simp [Eff.touch]))]; exact hl2) (by simpa using h2) (by simpa using h1) hN (by simp)
              rw [List.map_append]
              exact this
            · cases h
          · cases h
        · cases h
      · cases h
    · cases h
  · cases h
end
end Go.Av

