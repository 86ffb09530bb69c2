/-
 Abstract values, states, walks, part 6.
-/
import Derived.Test.YtjlakgfgicjffaaGreatDoorSCore5
import Derived.Sort.OwnSorted
import Derived.Lib.RowBridge
import Derived.Lib.SlicesCompact
set_option linter.unusedSimpArgs false
set_option linter.unusedVariables false

namespace Go.Av

def sortS (l : List (List UInt8)) : List (List UInt8) := l.mergeSort fun x y => decide (x ≤ y)

theorem sortS_len (l : List (List UInt8)) : (sortS l).length = l.length := List.length_mergeSort l

def SortMemS (P : Program) (f : FuncId) : Prop :=
 (∀ (blk cap : Nat) (zs : List (List UInt8)) (w : World), Sort.Holds Go.Proofs.encStr w blk 0 zs.toArray → blk < w.heap.size → zs.length < 4611686018427387904 →
  Calls P f #[.slice (some ⟨blk, 0, none⟩) zs.length cap] w fun e w' => e = .returned (.tuple #[]) ∧ ∃ n os, w' = Sort.grow (Sort.putRow Go.Proofs.encStr (Sort.ahead w n) blk 0 (sortS zs).toArray) os) ∧
 ∀ w : World, Calls P f #[.slice none 0 0] w fun e w' => e = .returned (.tuple #[]) ∧ w' = w

theorem AC.strSort {P : Program} {G : Nat → Option (List V)} {f : FuncId} {te : TypeId} (h : SortMemS P f) (nn : Bool) (l : List (List UInt8)) (hlen : l.length ≤ 1048576) : AC P G f [.own 0] [(0, .vec nn te 1 (l.map eNS))] (.tup []) [(0, .vec nn te 1 ((sortS l).map eNS))] := by
 intro ρ S F xs w hsz hxs hH hG
 have l0 : look [(0, Ob.vec nn te 1 (l.map eNS))] 0 = some (.vec nn te 1 (l.map eNS)) := rfl
 obtain ⟨r0, hr0, ob0⟩ := hH.obj 0 _ l0
 have hnd := hH.nodup 0 _ l0
 have x0 : xs.getD 0 undef = r0 := by
  have h : RV ρ S w (xs.getD 0 undef) (.own 0) := hxs 0 _ rfl
  exact h.own_inv _ hr0
 have hx : xs = #[r0] := by
  have h3 : xs.size = 1 := hsz
  apply Array.ext
  ·exact h3
  ·intro j h1 h2
   have : j = 0 := by omega
   subst this
   simpa [Array.getD, h1] using x0
 subst hx
 have htup : ∀ (ρ' : Nat → Option Value) (S' : Nat → Prop) (w' : World), RV ρ' S' w' (.tuple #[]) (.tup []) := fun ρ' S' w' => .tup #[] [] rfl (fun j x c hx _ => by simp at hx)
 have fin : ∀ w', Post ρ S F [(0, Ob.vec nn te 1 (l.map eNS))] w (.tup []) ((0, .vec nn te 1 ((sortS l).map eNS)) :: hrem [0] [(0, Ob.vec nn te 1 (l.map eNS))]) [] (.tuple #[]) w' →
   ∃ x ρ' S' F', Ending.returned (.tuple #[]) = .returned x ∧ RV ρ' S' w' x (.tup []) ∧ HRel ρ' S' F' [(0, Ob.vec nn te 1 ((sortS l).map eNS))] w' ∧ Evo S (Ub [(0, Ob.vec nn te 1 (l.map eNS))] F) w S' (Ub [(0, Ob.vec nn te 1 ((sortS l).map eNS))] F') w' ∧ AgF ρ ρ' := fun w' hP => by
  obtain ⟨ρ', S', F', h1, h2, h3, h4⟩ := hP
  exact ⟨_, ρ', S', F', rfl, h1, h2, h3, fun j r hj hr => h4 j r hr (by simp)⟩
 have hcase : (r0 = .slice none 0 0 ∧ l = [] ∧ nn = false) ∨ ∃ (g cap : Nat) (arr : Array Value) (cc : Nat → Nat → Value) (Fs : Nat → Nat → List Nat), r0 = .slice (some ⟨g, 0, none⟩) l.length cap ∧ F 0 = g :: flat l.length 1 Fs ∧ w.heap[g]? = some (.cells arr te (0, 0)) ∧ l.length ≤ cap ∧ cap ≤ maxLen ∧ arr.size = cap * 1 ∧
   (∀ (i : Nat) (x : List UInt8), l[i]? = some x → arr[i]? = some (Go.Proofs.encStr x)) := by
  generalize F 0 = Fi at ob0
  generalize hrows : l.map eNS = rows at ob0
  cases ob0 with
  | vnil => exact .inl ⟨rfl, List.map_eq_nil_iff.1 hrows, rfl⟩
  | vec g cap arr _ _ _ _ cc Fs hh hcap hmax hasz hk hc hr =>
   have hlen : rows.length = l.length := by rw [← hrows]; simp
   refine .inr ⟨g, cap, arr, cc, Fs, by rw [hlen], by rw [hlen], hh, by omega, hmax, hasz, fun i x hx => ?_⟩
   have h1 : rows[i]? = some (eNS x) := by rw [← hrows, List.getElem?_map, hx]; rfl
   have h2 := hc i 0 _ (V.s x) h1 rfl
   have h3 := hr i 0 _ (V.s x) h1 rfl
   rw [Nat.mul_one, Nat.add_zero] at h2
   unfold V.s at h3
   generalize cc i 0 = v at h2 h3
   generalize Fs i 0 = fs at h3
   cases h3
   exact h2
 rcases hcase with ⟨rfl, rfl, rfl⟩ | ⟨g, cap, arr, cc, Fs, rfl, hFi, hh, hcap, hmax, hasz, hval⟩
 ·refine Calls.mono (h.2 w) fun e w' hq => ?_
  obtain ⟨rfl, rfl⟩ := hq
  refine fin w' (Post.upd hH [0] (i := 0) hr0 (Fi := F 0) rfl rfl rfl (Nat.le_refl _) (fun b _ _ => rfl) (fun ρ' => ?_) hnd (fun b hb => .inl ⟨0, _, by simp, l0, hb⟩) (htup _ _ _))
  have hs : sortS [] = [] := by simp [sortS]
  rw [hs]
  exact ob0.mono (fun _ _ _ h => by cases h) (fun b hb => ⟨hb, rfl⟩) (fun _ _ => rfl)
 ·have hg : g < w.heap.size := (Array.getElem?_eq_some_iff.1 hh).1
  have hat : arr.toList.take l.length = l.map Go.Proofs.encStr := by
   apply List.ext_getElem?
   intro i
   rw [List.getElem?_take, List.getElem?_map]
   by_cases hi : i < l.length
   ·rw [if_pos hi, Array.getElem?_toList, hval i _ (List.getElem?_eq_getElem hi), List.getElem?_eq_getElem hi]; rfl
   ·rw [if_neg hi, List.getElem?_eq_none (by omega)]; rfl
  refine Calls.mono (h.1 g cap l w (holds_of_block hh hat) hg (by omega)) fun e w' hq => ?_
  obtain ⟨rfl, n, os, rfl⟩ := hq
  have hgb := grownBy_sorted (w := w) (g := g) (n := n) (os := os) (sortS l).toArray
  have hhe := heap_sorted (w := w) (n := n) (os := os) (sortS l).toArray hh
  have hle := sortS_len l
  have htk := take_putCells arr (sortS l) (by omega)
  obtain ⟨w', hw'⟩ : ∃ w', w' = Sort.grow (Sort.putRow Go.Proofs.encStr (Sort.ahead w n) g 0 (sortS l).toArray) os := ⟨_, rfl⟩
  rw [← hw'] at hgb hhe ⊢
  have own : g ∈ F 0 := by rw [hFi]; simp
  have hfl : flat (sortS l).length 1 (fun _ _ => ([] : List Nat)) = [] := by
   apply List.eq_nil_iff_forall_not_mem.2
   intro b hb
   obtain ⟨_, _, _, _, h⟩ := mem_flat.1 hb
   cases h
  refine fin w' (Post.upd hH [0] (i := 0) hr0 (Fi := g :: flat (sortS l).length 1 (fun _ _ => [])) hgb.os hgb.tape hgb.output hgb.size (fun b hb hn => hgb.block b hb fun he => hn 0 _ (by simp) l0 (by rw [Option.some.inj he]; exact own)) (fun ρ' => ?_) (by rw [hfl]; simp) (fun b hb => ?_) (htup _ _ _))
  ·have hlm : ((sortS l).map eNS).length = l.length := by simp [hle]
   have hlf : (sortS l).length = ((sortS l).map eNS).length := by simp
   rw [show l.length = ((sortS l).map eNS).length from hlm.symm, hlf]
   refine .vec g cap _ nn te 1 _ (fun i _ => Go.Proofs.encStr ((sortS l).getD i [])) (fun _ _ => []) hhe (by rw [hlm]; exact hcap) hmax (by simp [Sort.putCells, hasz]) (fun i r hi => ?_) (fun i j r x hi hj => ?_) (fun i j r x hi hj => ?_)
   ·rw [List.getElem?_map] at hi
    obtain ⟨z, _, rfl⟩ := Option.map_eq_some_iff.1 hi
    rfl
   ·rw [List.getElem?_map] at hi
    obtain ⟨z, hz, rfl⟩ := Option.map_eq_some_iff.1 hi
    have hj0 : j = 0 := by
     have := (List.getElem?_eq_some_iff.1 hj).1
     simp [eNS] at this; exact this
    subst hj0
    have hil : i < (sortS l).length := (List.getElem?_eq_some_iff.1 hz).1
    have h1 : (((Sort.putCells Go.Proofs.encStr 0 (sortS l).toArray arr).toList.take (sortS l).length))[i]? = some (Go.Proofs.encStr z) := by
     rw [htk, List.getElem?_map, hz]; rfl
    rw [List.getElem?_take, if_pos hil, Array.getElem?_toList] at h1
    rw [Nat.mul_one, Nat.add_zero, h1]
    simp [List.getD, hz]
   ·rw [List.getElem?_map] at hi
    obtain ⟨z, hz, rfl⟩ := Option.map_eq_some_iff.1 hi
    have hj0 : j = 0 := by
     have := (List.getElem?_eq_some_iff.1 hj).1
     simp [eNS] at this; exact this
    subst hj0
    have hx : V.s z = x := by simpa [eNS] using hj
    subst hx
    simp only [List.getD, hz, Option.getD_some]
    exact .c _ rfl
  ·rw [hfl] at hb
   simp only [List.mem_singleton] at hb
   subst hb
   exact .inl ⟨0, _, by simp, l0, own⟩

def sortSO (l : List (List UInt8)) : Option (List (List UInt8)) := if l.length ≤ 1048576 then some (sortS l) else none
theorem AC.sortSO {P : Program} {G : Nat → Option (List V)} {f : FuncId} {te : TypeId} (hm : SortMemS P f) {l r : List (List UInt8)} (h : sortSO l = some r) : AC P G f [.own 0] [(0, .vec false te 1 (l.map eNS))] (.tup []) [(0, .vec false te 1 (r.map eNS))] := by
 unfold Go.Av.sortSO at h
 split at h
 ·rename_i hl
  cases h
  exact AC.strSort hm false l hl
 ·cases h
end Go.Av

namespace Go.Av

def CompMemS (P : Program) (f : FuncId) : Prop :=
 (∀ (blk cap : Nat) (zs : List (List UInt8)) (w : World), Sort.Holds Go.Proofs.encStr w blk 0 zs.toArray → zs.length ≤ 9223372036854775807 → zs.length ≤ cap →
  Calls P f #[.slice (some ⟨blk, 0, none⟩) zs.length cap] w fun e w' => e = .returned (.slice (some ⟨blk, 0, none⟩) (Lib.compact zs).length cap) ∧ ∃ q, w' = Sort.putRow Go.Proofs.encStr (Sort.ahead w q) blk 0 (Lib.compact zs ++ List.replicate (zs.length - (Lib.compact zs).length) []).toArray) ∧
 ∀ w : World, Calls P f #[.slice none 0 0] w fun e w' => e = .returned (.slice none 0 0) ∧ w' = w

theorem grow_none (w : World) : Sort.grow w #[] = w := by
 unfold Sort.grow
 simp

theorem AC.compS {P : Program} {G : Nat → Option (List V)} {f : FuncId} {te : TypeId} (h : CompMemS P f) (nn : Bool) (l : List (List UInt8)) (hlen : l.length ≤ 1048576) : AC P G f [.own 0] [(0, .vec nn te 1 (l.map eNS))] (.own 100) [(100, .vec false te 1 ((Lib.compact l).map eNS))] := by
 intro ρ S F xs w hsz hxs hH hG
 have l0 : look [(0, Ob.vec nn te 1 (l.map eNS))] 0 = some (.vec nn te 1 (l.map eNS)) := rfl
 obtain ⟨r0, hr0, ob0⟩ := hH.obj 0 _ l0
 have hnd := hH.nodup 0 _ l0
 have x0 : xs.getD 0 undef = r0 := by
  have h : RV ρ S w (xs.getD 0 undef) (.own 0) := hxs 0 _ rfl
  exact h.own_inv _ hr0
 have hx : xs = #[r0] := by
  have h3 : xs.size = 1 := hsz
  apply Array.ext
  ·exact h3
  ·intro j h1 h2
   have : j = 0 := by omega
   subst this
   simpa [Array.getD, h1] using x0
 subst hx
 have fin : ∀ x w', Post ρ S F [(0, Ob.vec nn te 1 (l.map eNS))] w (.own 100) ((100, .vec false te 1 ((Lib.compact l).map eNS)) :: hrem [0] [(0, Ob.vec nn te 1 (l.map eNS))]) [100] x w' →
   ∃ y ρ' S' F', Ending.returned x = .returned y ∧ RV ρ' S' w' y (.own 100) ∧ HRel ρ' S' F' [(100, Ob.vec false te 1 ((Lib.compact l).map eNS))] w' ∧ Evo S (Ub [(0, Ob.vec nn te 1 (l.map eNS))] F) w S' (Ub [(100, Ob.vec false te 1 ((Lib.compact l).map eNS))] F') w' ∧ AgF ρ ρ' := fun x w' hP => by
  obtain ⟨ρ', S', F', h1, h2, h3, h4⟩ := hP
  exact ⟨_, ρ', S', F', rfl, h1, h2, h3, fun j r hj hr => h4 j r hr (by simp; omega)⟩
 have hcase : (r0 = .slice none 0 0 ∧ l = []) ∨ ∃ (g cap : Nat) (arr : Array Value) (Fs : Nat → Nat → List Nat), r0 = .slice (some ⟨g, 0, none⟩) l.length cap ∧ F 0 = g :: flat l.length 1 Fs ∧ w.heap[g]? = some (.cells arr te (0, 0)) ∧ l.length ≤ cap ∧ cap ≤ maxLen ∧ arr.size = cap * 1 ∧
   (∀ (i : Nat) (x : List UInt8), l[i]? = some x → arr[i]? = some (Go.Proofs.encStr x)) := by
  generalize F 0 = Fi at ob0
  generalize hrows : l.map eNS = rows at ob0
  cases ob0 with
  | vnil => exact .inl ⟨rfl, List.map_eq_nil_iff.1 hrows⟩
  | vec g cap arr _ _ _ _ cc Fs hh hcap hmax hasz hk hc hr =>
   have hlen : rows.length = l.length := by rw [← hrows]; simp
   refine .inr ⟨g, cap, arr, Fs, by rw [hlen], by rw [hlen], hh, by omega, hmax, hasz, fun i x hx => ?_⟩
   have h1 : rows[i]? = some (eNS x) := by rw [← hrows, List.getElem?_map, hx]; rfl
   have h2 := hc i 0 _ (V.s x) h1 rfl
   have h3 := hr i 0 _ (V.s x) h1 rfl
   rw [Nat.mul_one, Nat.add_zero] at h2
   unfold V.s at h3
   generalize cc i 0 = v at h2 h3
   generalize Fs i 0 = fs at h3
   cases h3
   exact h2
 rcases hcase with ⟨rfl, rfl⟩ | ⟨g, cap, arr, Fs, rfl, hFi, hh, hcap, hmax, hasz, hval⟩
 ·refine Calls.mono (h.2 w) fun e w' hq => ?_
  obtain ⟨rfl, rfl⟩ := hq
  refine fin _ w' (Post.repl hH [0] (i := 100) rfl (root := .slice none 0 0) (Fi := []) rfl rfl rfl (Nat.le_refl _) (fun b _ _ => rfl) (fun ρ' => ?_) (by simp) (fun b hb => by cases hb) (.own _ _ fun r hr => ?_))
  ·have hs : Lib.compact ([] : List (List UInt8)) = [] := rfl
   rw [hs]
   exact .vnil _ _
  ·simp at hr; exact hr
 ·have hg : g < w.heap.size := (Array.getElem?_eq_some_iff.1 hh).1
  have hat : arr.toList.take l.length = l.map Go.Proofs.encStr := by
   apply List.ext_getElem?
   intro i
   rw [List.getElem?_take, List.getElem?_map]
   by_cases hi : i < l.length
   ·rw [if_pos hi, Array.getElem?_toList, hval i _ (List.getElem?_eq_getElem hi), List.getElem?_eq_getElem hi]; rfl
   ·rw [if_neg hi, List.getElem?_eq_none (by omega)]; rfl
  refine Calls.mono (h.1 g cap l w (holds_of_block hh hat) (by omega) hcap) fun e w' hq => ?_
  obtain ⟨rfl, n, rfl⟩ := hq
  have hle := Lib.compact_length_le l
  obtain ⟨m, hm⟩ : ∃ m, m = Lib.compact l ++ List.replicate (l.length - (Lib.compact l).length) [] := ⟨_, rfl⟩
  have hml : m.length = l.length := by rw [hm]; simp; omega
  have hmg : ∀ (i : Nat) (z : List UInt8), (Lib.compact l)[i]? = some z → m[i]? = some z := fun i z hz => by
   rw [hm, List.getElem?_append_left (List.getElem?_eq_some_iff.1 hz).1]; exact hz
  rw [← hm, ← grow_none (Sort.putRow Go.Proofs.encStr (Sort.ahead w n) g 0 m.toArray)]
  have hgb := grownBy_sorted (w := w) (g := g) (n := n) (os := #[]) m.toArray
  have hhe := heap_sorted (w := w) (n := n) (os := #[]) m.toArray hh
  have htk := take_putCells arr m (by omega)
  obtain ⟨w', hw'⟩ : ∃ w', w' = Sort.grow (Sort.putRow Go.Proofs.encStr (Sort.ahead w n) g 0 m.toArray) #[] := ⟨_, rfl⟩
  rw [← hw'] at hgb hhe ⊢
  have own : g ∈ F 0 := by rw [hFi]; simp
  have hfl : flat (Lib.compact l).length 1 (fun _ _ => ([] : List Nat)) = [] := by
   apply List.eq_nil_iff_forall_not_mem.2
   intro b hb
   obtain ⟨_, _, _, _, h⟩ := mem_flat.1 hb
   cases h
  refine fin _ w' (Post.repl hH [0] (i := 100) rfl (root := .slice (some ⟨g, 0, none⟩) (Lib.compact l).length cap) (Fi := g :: flat (Lib.compact l).length 1 (fun _ _ => [])) hgb.os hgb.tape hgb.output hgb.size (fun b hb hn => hgb.block b hb fun he => hn 0 _ (by simp) l0 (by rw [Option.some.inj he]; exact own)) (fun ρ' => ?_) (by rw [hfl]; simp) (fun b hb => ?_) (.own _ _ fun r hr => ?_))
  ·have hlf : (Lib.compact l).length = ((Lib.compact l).map eNS).length := by simp
   rw [hlf]
   refine .vec g cap _ false te 1 _ (fun i _ => Go.Proofs.encStr ((Lib.compact l).getD i [])) (fun _ _ => []) hhe (by rw [← hlf]; omega) hmax (by simp [Sort.putCells, hasz]) (fun i r hi => ?_) (fun i j r x hi hj => ?_) (fun i j r x hi hj => ?_)
   ·rw [List.getElem?_map] at hi
    obtain ⟨z, _, rfl⟩ := Option.map_eq_some_iff.1 hi
    rfl
   ·rw [List.getElem?_map] at hi
    obtain ⟨z, hz, rfl⟩ := Option.map_eq_some_iff.1 hi
    have hj0 : j = 0 := by
     have := (List.getElem?_eq_some_iff.1 hj).1
     simp [eNS] at this; exact this
    subst hj0
    have hil : i < (Lib.compact l).length := (List.getElem?_eq_some_iff.1 hz).1
    have h1 : ((Sort.putCells Go.Proofs.encStr 0 m.toArray arr).toList.take m.length)[i]? = some (Go.Proofs.encStr z) := by
     rw [htk, List.getElem?_map, hmg i z hz]; rfl
    rw [List.getElem?_take, if_pos (by omega), Array.getElem?_toList] at h1
    rw [Nat.mul_one, Nat.add_zero, h1]
    simp [List.getD, hz]
   ·rw [List.getElem?_map] at hi
    obtain ⟨z, hz, rfl⟩ := Option.map_eq_some_iff.1 hi
    have hj0 : j = 0 := by
     have := (List.getElem?_eq_some_iff.1 hj).1
     simp [eNS] at this; exact this
    subst hj0
    have hx : V.s z = x := by simpa [eNS] using hj
    subst hx
    simp only [List.getD, hz, Option.getD_some]
    exact .c _ rfl
  ·rw [hfl] at hb
   simp only [List.mem_singleton] at hb
   subst hb
   exact .inl ⟨0, _, by simp, l0, own⟩
  ·simp at hr; exact hr

def compSO (l : List (List UInt8)) : Option (List (List UInt8)) := if l.length ≤ 1048576 then some (Lib.compact l) else none
theorem AC.compSO {P : Program} {G : Nat → Option (List V)} {f : FuncId} {te : TypeId} (hm : CompMemS P f) {l r : List (List UInt8)} (h : compSO l = some r) : AC P G f [.own 0] [(0, .vec false te 1 (l.map eNS))] (.own 100) [(100, .vec false te 1 (r.map eNS))] := by
 unfold Go.Av.compSO at h
 split at h
 ·rename_i hl
  cases h
  exact AC.compS hm false l hl
 ·cases h
end Go.Av

