/-
 Abstract values, states, walks, part 6.
-/
import Derived.Test.YtpognfncgfaogaaGreatDoorACore5
import Derived.Sort.OwnSortedInts
import Derived.Lib.LaidTab
import Derived.Lib.ItoaNum
import Derived.Deep.Draws
import Derived.Sort.OwnSorted
import Derived.Lib.RowBridge
import Derived.Lib.SlicesCompact
import Derived.Below
import Derived.Lib.Join
set_option linter.unusedSimpArgs false
set_option linter.unusedVariables false

namespace Go.Av

section
variable {P : Program} {G : Nat → Option (List V)} {L : Option Nat}

def lzB (D : Tab) (G : Nat → Option (List V)) (ops : Array Oper) (draw : Bool) (q : Nat) (T : List V) (H : Hp) : Bool :=
 match runE D G ops ops.size q 0 T H with
 | some r => okR draw ops T H r.Es
 | none => false

theorem lzW {D : Tab} (hD : TabOk P D) {q : Nat} {ops : Array Oper} {draw : Bool} {T : List V} {H : Hp} {Q : St → Prop} (h : lzB D G ops draw q T H = true) (k : Q ⟨(aftE D G ops ops.size q 0 T H).T, (aftE D G ops ops.size q 0 T H).H⟩) : W P G ops draw T H 0 T H [] Q := by
 unfold lzB at h
 unfold aftE at k
 split at h
 ·rename_i r hr
  rw [hr] at k
  exact W.runSome hD _ hr (W.fin (by omega) h k)
 ·cases h

theorem cv {D : Tab} (hD : TabOk P D) (hm : P.follows .mixedOrders = true) (q : Nat) {id : Nat} {l : List Oper} {draw : Bool} {c : Code} {T : List V} {H : Hp} {Q : Exit → St → Prop}
  (k : CO L P G c ⟨(aftE D G l.toArray l.toArray.size q 0 T H).T, (aftE D G l.toArray l.toArray.size q 0 T H).H⟩ Q) (h : lzB D G l.toArray draw q T H = true) : CO L P G (.seq (.region id l.toArray draw) c) ⟨T, H⟩ Q :=
 CO.sw hm (lzW hD h k)

def jnC (m : Ren) (ks : List Nat) (b : Bool) (T : List V) (H : Hp) : Bool × List V × Option Hp := (b && (m.ok && m.keep && selfOk m), keepT m ks 0 T, handV m H m)

theorem jnW {m : Ren} {ks : List Nat} {b : Bool} {T : List V} {H : Hp} {s : St} (h : jnC m ks b T H = (true, s.T, some s.H)) : b = true ∧ Weak ⟨T, H⟩ s := by
 unfold jnC at h
 simp only [Prod.mk.injEq] at h
 obtain ⟨h1, h2, h3⟩ := h
 rw [Bool.and_eq_true] at h1
 exact ⟨h1.1, Weak.sel m ks h1.2 h2 h3⟩

theorem ck {D : Tab} (hD : TabOk P D) (hm : P.follows .mixedOrders = true) (q : Nat) {ι : Type} {J : ι → St} {R : ι → Prop} {id : Nat} {l : List Oper} {draw : Bool} {T : List V} {H : Hp} {Q : Exit → St → Prop} (hk : ∀ i, R i → ∀ st, Weak st (J i) → Q .normal st) (i : ι) (hi : R i) (m : Ren) (ks : List Nat)
  (h : jnC m ks (lzB D G l.toArray draw q T H) (aftE D G l.toArray l.toArray.size q 0 T H).T (aftE D G l.toArray l.toArray.size q 0 T H).H = (true, (J i).T, some (J i).H)) : CO L P G (.region id l.toArray draw) ⟨T, H⟩ Q := by
 obtain ⟨h1, h2⟩ := jnW h
 exact CO.w hm (lzW hD h1 (hk i hi _ h2))

theorem sK {ι : Type} {J : ι → St} {R : ι → Prop} {T : List V} {H : Hp} {Q : Exit → St → Prop} (hk : ∀ i, R i → ∀ st, Weak st (J i) → Q .normal st) (i : ι) (hi : R i) (m : Ren) (ks : List Nat)
  (h : jnC m ks true T H = (true, (J i).T, some (J i).H) := by kernel_rfl) : CO L P G .skip ⟨T, H⟩ Q :=
 CO.skip (hk i hi _ (jnW h).2)

theorem wF {ops : Array Oper} {draw : Bool} {T0 : List V} {H0 : Hp} {i : Nat} {T : List V} {H : Hp} {Es : List (Bool × Eff)} {Q : St → Prop} (k : Q ⟨T, H⟩) (h : (Nat.ble ops.size i && okR draw ops T0 H0 Es) = true := by kernel_rfl) : W P G ops draw T0 H0 i T H Es Q := by
 simp only [Bool.and_eq_true, Nat.ble_eq] at h
 exact W.fin h.1 h.2 k

theorem wK {ops : Array Oper} {draw : Bool} {T0 : List V} {H0 : Hp} {i : Nat} {T : List V} {H : Hp} {Es : List (Bool × Eff)} {ι : Type} {J : ι → St} {R : ι → Prop} {Q : St → Prop} (hk : ∀ i, R i → ∀ st, Weak st (J i) → Q st) (x : ι) (hi : R x) (m : Ren) (ks : List Nat)
  (h : jnC m ks (Nat.ble ops.size i && okR draw ops T0 H0 Es) T H = (true, (J x).T, some (J x).H) := by kernel_rfl) : W P G ops draw T0 H0 i T H Es Q := by
 obtain ⟨h1, h2⟩ := jnW h
 exact wF (hk x hi _ h2) h1

theorem cI {β : Type} {b : Bool} {X Y : Option β} {r : β} {x : Operand} {c1 c2 : Code} {T : List V} {H : Hp} {Q : Exit → St → Prop} (h : (bif b then X else Y) = some r)
  (k : b = true → X = some r → CO L P G c1 ⟨T, H⟩ Q) (k' : b = false → Y = some r → CO L P G c2 ⟨T, H⟩ Q) (hb : ev G T x = .c (.bool b) := by kernel_rfl) : CO L P G (.cond x c1 c2) ⟨T, H⟩ Q :=
 cR (fun hc h => CO.ifT hc (hc ▸ hb) (k hc h)) (fun hc h => CO.ifF hc (hc ▸ hb) (k' hc h)) h

theorem wJ {β : Type} {b : Bool} {X Y : Option β} {r : β} {ops : Array Oper} {draw : Bool} {T0 : List V} {H0 : Hp} {i : Nat} {T : List V} {H : Hp} {Es : List (Bool × Eff)} {Q : St → Prop} (d : Nat) (h : (bif b then X else Y) = some r)
  (k : X = some r → W P G ops draw T0 H0 i (T.set d (.c (.bool true))) H Es Q) (k' : Y = some r → W P G ops draw T0 H0 i (T.set d (.c (.bool false))) H Es Q) (hd : T[d]? = some (.c (.bool b)) := by kernel_rfl) : W P G ops draw T0 H0 i T H Es Q :=
 cR (fun hc h => W.is d hc hd (k h)) (fun hc h => W.is d hc hd (k' h)) h

def ccC (D : Tab) (G : Nat → Option (List V)) (ops : Array Oper) (draw : Bool) (n q : Nat) (rc : V) (T : List V) (H : Hp) : Bool × Option (FuncId × List V × Hp) × V :=
 let r1 := aftE D G ops n q 0 T H
 let T1 := setO r1.T (dstW ops n) rc
 ((runE D G ops n q 0 T H).isSome && match runE D G ops (ops.size - (n + 1)) q (n + 1) T1 r1.H with
  | some r => okR draw ops T H (r1.Es ++ [(true, { v := rc })] ++ r.Es)
  | none => false, callW G ops [] [] n r1.T r1.H, rc.rn [])

def ccR (D : Tab) (G : Nat → Option (List V)) (ops : Array Oper) (n q : Nat) (rc : V) (T : List V) (H : Hp) : Run :=
 aftE D G ops (ops.size - (n + 1)) q (n + 1) (setO (aftE D G ops n q 0 T H).T (dstW ops n) rc) (aftE D G ops n q 0 T H).H

theorem ccW {D : Tab} (hD : TabOk P D) (n q : Nat) {ops : Array Oper} {draw : Bool} {T : List V} {H : Hp} {Q : St → Prop} {fid : FuncId} {vs : List V} {rc : V} (hA : AC P G fid vs [] rc []) (hcf : callOk P fid)
  (h : ccC D G ops draw n q rc T H = (true, some (fid, vs, []), rc)) (k : Q ⟨(ccR D G ops n q rc T H).T, (ccR D G ops n q rc T H).H⟩) : W P G ops draw T H 0 T H [] Q := by
 unfold ccC at h
 simp only [Prod.mk.injEq, Bool.and_eq_true] at h
 obtain ⟨⟨h1, h2⟩, h3, h4⟩ := h
 refine W.run hD n q h1 (W.call0 hA hcf h4 ?_ ?_)
 ·rw [Nat.zero_add]; exact h3
 ·rw [Nat.zero_add]
  unfold ccR at k
  unfold aftE at k
  unfold aftE at h2 ⊢
  split at h2
  ·rename_i r hr
   rw [hr] at k
   exact W.runSome hD _ hr (W.fin (by omega) (by simpa using h2) k)
  ·cases h2

theorem cc {D : Tab} (hD : TabOk P D) (hm : P.follows .mixedOrders = true) (n q : Nat) {id : Nat} {l : List Oper} {draw : Bool} {c : Code} {T : List V} {H : Hp} {Q : Exit → St → Prop} {fid : FuncId} {vs : List V} {rc : V} (hA : AC P G fid vs [] rc []) (hcf : callOk P fid)
  (k : CO L P G c ⟨(ccR D G l.toArray n q rc T H).T, (ccR D G l.toArray n q rc T H).H⟩ Q) (h : ccC D G l.toArray draw n q rc T H = (true, some (fid, vs, []), rc)) : CO L P G (.seq (.region id l.toArray draw) c) ⟨T, H⟩ Q :=
 CO.sw hm (ccW hD n q hA hcf h k)

theorem e1 (t : Tmp) {fn : Func} {T : List V} {H : Hp} {r : V} {Q : Exit → St → Prop} (hQ : Ends P fn r [] .ret ⟨T, H⟩ → Q .ret ⟨T, H⟩) (hf : fn.results = #[.tmp t] := by rfl) (h : (T[t]?, r.rn []) = (some r, r) := by kernel_rfl) : CO L P G .ret ⟨T, H⟩ Q := by
 simp only [Prod.mk.injEq] at h
 exact CO.ret (hQ (Ends.gen [] (.inr rfl) (RetV.one hf (OneR.t h.1)) rfl h.2 rfl))
end
end Go.Av

namespace Go.Av

end Go.Av

namespace Go.Av

end Go.Av

namespace Go.Av

end Go.Av

namespace Go.Av

end Go.Av

namespace Go.Av
open Go.RowKit

def JoinMem (P : Program) (f : FuncId) : Prop :=
 (∀ (bk c : Nat) (xs : List ByteArray) (sep : ByteArray) (w : World), (∀ (j : Nat) x, xs[j]? = some x → w.cell? ⟨bk, 0 + j, none⟩ = some (.string x)) → bk < w.heap.size → xs.length ≤ 140737488355328 → xs.length ≤ c →
  (Lib.join (xs.map (·.data.toList)) sep.data.toList).length ≤ 140737488355328 →
  Calls P f #[.slice (some ⟨bk, 0, none⟩) xs.length c, .string sep] w fun e w' => e = .returned (.string ⟨(Lib.join (xs.map (·.data.toList)) sep.data.toList).toArray⟩) ∧ Below w.heap.size w w') ∧
 ∀ (sep : ByteArray) (w : World), Calls P f #[.slice none 0 0, .string sep] w fun e w' => e = .returned (.string ⟨#[]⟩) ∧ w' = w

theorem AC.join {P : Program} {G : Nat → Option (List V)} {f : FuncId} {te : TypeId} (h : JoinMem P f) (nn : Bool) (l : List (List UInt8)) (sep : List UInt8) (hlen : l.length ≤ 1048576) (hj : (Lib.join l sep).length ≤ 140737488355328) :
  AC P G f [.own 0, V.s sep] [(0, .vec nn te 1 (l.map eNS))] (V.s (Lib.join l sep)) [(0, .vec nn te 1 (l.map eNS))] := by
 intro ρ S F xs w hsz hxs hH hG
 have l0 : look [(0, Ob.vec nn te 1 (l.map eNS))] 0 = some (.vec nn te 1 (l.map eNS)) := rfl
 obtain ⟨r0, hr0, ob0⟩ := hH.obj 0 _ l0
 have hnd := hH.nodup 0 _ l0
 have x0 : xs.getD 0 undef = r0 := by
  have h : RV ρ S w (xs.getD 0 undef) (.own 0) := hxs 0 _ rfl
  exact h.own_inv _ hr0
 have x1 : xs.getD 1 undef = .string ⟨⟨sep⟩⟩ := (hxs 1 _ rfl).c_inv
 have hx : xs = #[r0, .string ⟨⟨sep⟩⟩] := by
  have h3 : xs.size = 2 := hsz
  apply Array.ext
  ·exact h3
  ·intro j h1 h2
   have : j = 0 ∨ j = 1 := by omega
   rcases this with rfl | rfl
   ·simpa [Array.getD, h1] using x0
   ·simpa [Array.getD, h1] using x1
 subst hx
 have fin : ∀ w', Below w.heap.size w w' → ∃ x ρ' S' F', Ending.returned (.string ⟨⟨Lib.join l sep⟩⟩) = .returned x ∧ RV ρ' S' w' x (V.s (Lib.join l sep)) ∧ HRel ρ' S' F' [(0, Ob.vec nn te 1 (l.map eNS))] w' ∧ Evo S (Ub [(0, Ob.vec nn te 1 (l.map eNS))] F) w S' (Ub [(0, Ob.vec nn te 1 (l.map eNS))] F') w' ∧ AgF ρ ρ' := fun w' hb => by
  have hP := Post.upd hH [0] (i := 0) hr0 (Fi := F 0) hb.os hb.tape hb.output hb.size (fun b hb' _ => hb.block b hb') (fun ρ' => ob0.mono (fun _ _ _ h => by cases h) (fun b hb' => ⟨hb', hb.block b (hH.slt b hb')⟩) (fun b hb' => hb.block b (hH.lt 0 _ b l0 hb'))) hnd (fun b hb' => .inl ⟨0, _, by simp, l0, hb'⟩) (x := .string ⟨⟨Lib.join l sep⟩⟩) (v := V.s (Lib.join l sep)) (.c _)
  obtain ⟨ρ', S', F', h1, h2, h3, h4⟩ := hP
  exact ⟨_, ρ', S', F', rfl, h1, h2, h3, fun j r hj hr => h4 j r hr (by simp)⟩
 have hcase : (r0 = .slice none 0 0 ∧ l = []) ∨ ∃ (g cap : Nat) (arr : Array Value), r0 = .slice (some ⟨g, 0, none⟩) l.length cap ∧ w.heap[g]? = some (.cells arr te (0, 0)) ∧ l.length ≤ cap ∧
   (∀ (i : Nat) (x : List UInt8), l[i]? = some x → arr[i]? = some (Go.Proofs.encStr x)) := by
  generalize F 0 = Fi at ob0
  generalize hrows : l.map eNS = rows at ob0
  cases ob0 with
  | vnil => exact .inl ⟨rfl, List.map_eq_nil_iff.1 hrows⟩
  | vec g cap arr _ _ _ _ cc Fs hh hcap hmax hasz hk hc hr htg =>
   have htt := htg.2
   cases htg.1
   have hlen : rows.length = l.length := by rw [← hrows]; simp
   refine .inr ⟨g, cap, arr, by rw [hlen], hh, by omega, fun i x hx => ?_⟩
   have h1 : rows[i]? = some (eNS x) := by rw [← hrows, List.getElem?_map, hx]; rfl
   have h2 := hc i 0 _ (V.s x) h1 rfl
   have h3 := hr i 0 _ (V.s x) h1 rfl
   rw [Nat.mul_one, Nat.add_zero] at h2
   unfold V.s at h3
   generalize cc i 0 = v at h2 h3
   generalize Fs i 0 = fs at h3
   cases h3
   exact h2
 rcases hcase with ⟨rfl, rfl⟩ | ⟨g, cap, arr, rfl, hh, hcap, hval⟩
 ·refine Calls.mono (h.2 ⟨⟨sep⟩⟩ w) fun e w' hq => ?_
  obtain ⟨rfl, rfl⟩ := hq
  exact fin w' (Below.refl _ _)
 ·have hg : g < w.heap.size := (Array.getElem?_eq_some_iff.1 hh).1
  have hm : ((l.map fun b => (⟨⟨b⟩⟩ : ByteArray)).map (·.data.toList)) = l := by
   rw [List.map_map]
   exact (List.map_congr_left fun _ _ => rfl).trans (List.map_id l)
  have := h.1 g cap (l.map fun b => (⟨⟨b⟩⟩ : ByteArray)) ⟨⟨sep⟩⟩ w (fun j x hx => by
   rw [List.getElem?_map] at hx
   obtain ⟨b, hb, rfl⟩ := Option.map_eq_some_iff.1 hx
   unfold World.cell?
   simp only [hh]
   simpa using hval j b hb) hg (by simp; omega) (by simpa using hcap) (by rw [hm]; exact hj)
  rw [hm, List.length_map] at this
  refine Calls.mono this fun e w' hq => ?_
  obtain ⟨rfl, hb⟩ := hq
  exact fin w' hb

end Go.Av

namespace Go.Av
variable {P : Program}

end Go.Av

namespace Go.Av

section
variable {P : Program} {G : Nat → Option (List V)} {L : Option Nat} {B : Nat}

theorem Tg.ok.root {c v : Value} {k : Nat} {e : TypeId} (h : (Tg.at_ c).ok k e v) : v = c := h.1

theorem ObR.root {ρ : Nat → Option Value} {S : Nat → Prop} {w : World} {r c : Value} {nn : Bool} {k : Nat} {rows : List (List V)} {F : List Nat} (h : ObR ρ S w r (.vec nn (.at_ c) k rows) F) : r = c := by
 cases h with
 | vnil _ _ ht => exact Eq.symm ht
 | vec g cap arr _ _ _ _ cs Fs hh hcap hmax hsz hk hc hr ht => exact ht.1

theorem StRel.lend {ρ : Nat → Option Value} {S : Nat → Prop} {F : Nat → List Nat} {T : List V} {H : Hp} {a : Act} {w : World} (hst : StRel B G ρ S F ⟨T, H⟩ a w) {i m b j : Nat} {nn nn2 : Bool} {ety : Tg} {k : Nat} {rows : List (List V)} {row : List V} {srows : List (List V)}
  (hi : look H i = some (.vec nn ety k rows)) (hrow : rows[m]? = some row) (hb : row[b]? = some (.sl nn2 true srows)) (hj : fresh [j] ⟨T, H⟩ = true) (h1 : ∀ r, r ∈ srows → r.length = 1) :
  ∃ c, c.oneCell' = true ∧ ∃ ρ' F', StRel B G ρ' S F' ⟨T, (j, .vec false (.at_ c) 1 srows) :: (i, .vec nn ety k (rows.set m (row.set b (.c c)))) :: hrem [i] H⟩ a w ∧
   Evo S (Ub H F) w S (Ub ((j, .vec false (.at_ c) 1 srows) :: (i, .vec nn ety k (rows.set m (row.set b (.c c)))) :: hrem [i] H) F') w ∧ AgF ρ ρ' := by
 obtain ⟨h100, hT, hH⟩ := fresh_spec hj (by simp : j ∈ [j])
 obtain ⟨hl, hO⟩ := hasH_false hH
 have hij : i ≠ j := fun e => by rw [e] at hi; simp only [hl] at hi; cases hi
 have hh0 := hst.heap
 simp only at hh0
 obtain ⟨r, hr, hob⟩ := hh0.obj i _ hi
 have hnd := hh0.nodup i _ hi
 have hlt := fun b' h => hh0.lt i _ b' hi h
 have hsep := fun b' h => hh0.sep i _ b' hi h
 have hdisj := fun x p b' (hx : look H x = some p) (hne : i ≠ x) (h1 : b' ∈ F i) (h2 : b' ∈ F x) => hh0.disj i x _ p b' hi hx hne h1 h2
 generalize hFi : F i = Fi at hob hnd hlt hsep hdisj
 cases hob with
 | vnil => simp at hrow
 | vec g cap arr _ _ _ _ cc Fs hh hcap hmax hsz hk hc hrd ht =>
  have hmn : m < rows.length := (List.getElem?_eq_some_iff.1 hrow).1
  have hbk : b < k := by have := (List.getElem?_eq_some_iff.1 hb).1; rw [hk m row hrow] at this; exact this
  have hd := hrd m b row _ hrow hb
  have hndf := List.nodup_cons.1 hnd
  have hN := flat_nodup.1 hndf.2
  have hsub : ∀ b', b' ∈ Fs m b → b' ∈ g :: flat rows.length k Fs := fun b' h => List.mem_cons_of_mem _ (flat_mem_lt hmn hbk h)
  have hgF : g ∉ Fs m b := fun h => hndf.1 (flat_mem_lt hmn hbk h)
  let c := cc m b
  let ρ' : Nat → Option Value := fun x => if x = j then some c else ρ x
  let rows' := rows.set m (row.set b (.c c))
  let Fs' : Nat → Nat → List Nat := fun p q => if p = m ∧ q = b then [] else Fs p q
  let F' : Nat → List Nat := fun x => if x = j then Fs m b else if x = i then g :: flat rows'.length k Fs' else F x
  have hlen' : rows'.length = rows.length := by simp [rows']
  have hρ : ∀ x r (y : V), y.has j = false → ρ' x = some r → y.has x = true → ρ x = some r := fun x r y hy hx hh => by
   simp only [ρ'] at hx
   split at hx
   ·subst_vars; rw [hy] at hh; cases hh
   ·exact hx
  have obj : ObR ρ' S w c (.vec false (.at_ c) 1 srows) (Fs m b) := by
   have hd' : RD S w c (.sl nn2 true srows) (Fs m b) := hd
   generalize Fs m b = F0 at hd'
   generalize c = c0 at hd'
   cases hd' with
   | nils => exact .vnil _ _ rfl
   | exc g2 cap2 arr2 ety2 _ _ k3 cs2 Fs2 hh2 hcap2 hmax2 hsz2 hk3 hc2 hr2 ht2 =>
    cases srows with
    | nil =>
     have e0 : flat ([] : List (List V)).length k3 Fs2 = flat ([] : List (List V)).length 1 Fs2 := rfl
     rw [e0]
     refine .vec g2 cap2 arr2 false _ 1 [] cs2 Fs2 hh2 hcap2 hmax2 ?_ (fun i r h => by simp at h) (fun i j r x h => by simp at h) (fun i j r x h => by simp at h) ⟨rfl, fun _ => .inl rfl⟩
     rcases ht2 rfl with h | h
     ·rw [hsz2, h]
     ·rw [hsz2, h]; simp
    | cons r0 srows =>
     have : k3 = 1 := by rw [← hk3 0 r0 rfl, h1 r0 (by simp)]
     subst this
     exact .vec g2 cap2 arr2 false _ 1 _ cs2 Fs2 hh2 hcap2 hmax2 hsz2 hk3 hc2 hr2 ⟨rfl, fun _ => .inl rfl⟩
  have obi : ObR ρ' S w (.slice (some ⟨g, 0, none⟩) rows.length cap) (.vec nn ety k rows') (g :: flat rows'.length k Fs') := by
   rw [← hlen'] at ht ⊢
   refine .vec g cap arr nn ety k rows' cc Fs' hh (by rw [hlen']; exact hcap) hmax hsz (fun p r hp => ?_) (fun p q r x hp hq => ?_) (fun p q r x hp hq => ?_) ht
   ·rcases set_get hp with ⟨rfl, rfl⟩ | ⟨_, hp⟩
    ·simp [hk _ row hrow]
    ·exact hk p r hp
   ·rcases set_get hp with ⟨rfl, rfl⟩ | ⟨_, hp⟩
    ·rcases set_get hq with ⟨rfl, rfl⟩ | ⟨_, hq⟩
     ·exact hc _ _ row _ hrow hb
     ·exact hc _ q row x hrow hq
    ·exact hc p q r x hp hq
   ·rcases set_get hp with ⟨rfl, rfl⟩ | ⟨hne, hp⟩
    ·rcases set_get hq with ⟨rfl, rfl⟩ | ⟨hne, hq⟩
     ·simp only [Fs', and_self, if_true]
      exact .c _ hd.one
     ·simp only [Fs', true_and, if_neg hne]
      exact hrd _ q row x hrow hq
    ·have hpm : ¬ (p = m ∧ q = b) := fun h => hne h.1
     simp only [Fs', if_neg hpm]
     exact hrd p q r x hp hq
  have hF1 : ∀ b', b' ∈ g :: flat rows'.length k Fs' → b' ∈ g :: flat rows.length k Fs ∧ b' ∉ Fs m b := fun b' h => by
   rw [hlen'] at h
   rcases List.mem_cons.1 h with rfl | h
   ·exact ⟨by simp, hgF⟩
   ·obtain ⟨p, q, hp, hq, h⟩ := mem_flat.1 h
    simp only [Fs'] at h
    split at h
    ·cases h
    ·rename_i hne
     exact ⟨List.mem_cons_of_mem _ (flat_mem_lt hp hq h), fun h' => hne (hN.2 p q m b b' hp hq hmn hbk h h')⟩
  have lk : ∀ x p, look ((j, .vec false (.at_ c) 1 srows) :: (i, .vec nn ety k rows') :: hrem [i] H) x = some p → (x = j ∧ p = .vec false (.at_ c) 1 srows) ∨ (x ≠ j ∧ x = i ∧ p = .vec nn ety k rows') ∨ (x ≠ j ∧ x ≠ i ∧ look H x = some p) := fun x p hp => by
   simp only [look, look_hrem] at hp
   split at hp
   ·cases hp; exact .inl ⟨‹_›, rfl⟩
   ·split at hp
    ·cases hp; exact .inr (.inl ⟨‹_›, ‹_›, rfl⟩)
    ·split at hp
     ·cases hp
     ·exact .inr (.inr ⟨‹_›, ‹_›, hp⟩)
  have hin : ∀ x p b', look ((j, .vec false (.at_ c) 1 srows) :: (i, .vec nn ety k rows') :: hrem [i] H) x = some p → b' ∈ F' x → (x = j ∧ b' ∈ Fs m b) ∨ (x = i ∧ b' ∈ g :: flat rows.length k Fs ∧ b' ∉ Fs m b) ∨ (x ≠ j ∧ x ≠ i ∧ look H x = some p ∧ b' ∈ F x) := fun x p b' hp hb' => by
   rcases lk x p hp with ⟨rfl, _⟩ | ⟨h1, rfl, _⟩ | ⟨h1, h2, h3⟩
   ·simp only [F', if_true] at hb'; exact .inl ⟨rfl, hb'⟩
   ·simp only [F', if_neg h1, if_true] at hb'; exact .inr (.inl ⟨rfl, hF1 b' hb'⟩)
   ·simp only [F', if_neg h1, if_neg h2] at hb'; exact .inr (.inr ⟨h1, h2, h3, hb'⟩)
  have hUb : ∀ x p b', look ((j, .vec false (.at_ c) 1 srows) :: (i, .vec nn ety k rows') :: hrem [i] H) x = some p → b' ∈ F' x → Ub H F b' := fun x p b' hp hb' => by
   rcases hin x p b' hp hb' with ⟨_, h⟩ | ⟨_, h, _⟩ | ⟨_, _, h3, h⟩
   ·exact ⟨i, _, hi, by rw [hFi]; exact hsub b' h⟩
   ·exact ⟨i, _, hi, by rw [hFi]; exact h⟩
   ·exact ⟨x, p, h3, h⟩
  refine ⟨c, hd.one, ρ', F', ⟨hst.defers, hst.size, fun x y hx => ?_, ⟨fun x hx => ?_, fun x p hp => ?_, fun x p hp => ?_, fun x y p p' b' hx hy hne hbx hby => ?_, fun x p b' hp hb' => ?_, fun x p b' hp hb' => ?_, hh0.slt⟩, hst.glob⟩,
   ⟨rfl, rfl, rfl, Nat.le_refl _, fun _ _ _ => rfl, fun _ h => h, fun _ h => .inl h, fun b' ⟨x, p, hp, h⟩ => .inl (hUb x p b' hp h)⟩, fun x r hx hr => ?_⟩
  ·exact (hst.tmps x y hx).mono (fun q r hq hh => hρ q r y (hasL_false hT (List.mem_of_getElem? hx)) hq hh) (fun b' h => ⟨h, rfl⟩)
  ·simp only [look, look_hrem] at hx
   split at hx
   ·cases hx
   ·split at hx
    ·cases hx
    ·rename_i h1 h2
     simp only [ρ', if_neg h1]
     split at hx
     ·rename_i h3; simp only [List.mem_singleton] at h3; exact absurd h3 h2
     ·exact hh0.dom x hx
  ·rcases lk x p hp with ⟨rfl, rfl⟩ | ⟨h1, rfl, rfl⟩ | ⟨h1, h2, h3⟩
   ·exact ⟨c, by simp [ρ'], by simp only [F', if_true]; exact obj⟩
   ·exact ⟨_, by simp only [ρ', if_neg h1]; exact hr, by simp only [F', if_neg h1, if_true]; exact obi⟩
   ·obtain ⟨r', hr', hob'⟩ := hh0.obj x p h3
    refine ⟨r', by simp only [ρ', if_neg h1]; exact hr', ?_⟩
    simp only [F', if_neg h1, if_neg h2]
    refine hob'.mono (fun q r hq hh => ?_) (fun b' h => ⟨h, rfl⟩) (fun _ _ => rfl)
    simp only [ρ'] at hq
    split at hq
    ·subst_vars; rw [hO x p h3] at hh; cases hh
    ·exact hq
  ·rcases lk x p hp with ⟨rfl, rfl⟩ | ⟨h1, rfl, rfl⟩ | ⟨h1, h2, h3⟩
   ·simp only [F', if_true]; exact hN.1 m b hmn hbk
   ·simp only [F', if_neg h1, if_true]
    rw [hlen']
    refine List.nodup_cons.2 ⟨fun h => ?_, flat_nodup.2 ⟨fun p q hp hq => ?_, fun p q p' q' b' hp hq hp' hq' g1 g2 => ?_⟩⟩
    ·obtain ⟨p, q, hp, hq, h⟩ := mem_flat.1 h
     simp only [Fs'] at h
     split at h
     ·cases h
     ·exact hndf.1 (flat_mem_lt hp hq h)
    ·simp only [Fs']
     split
     ·exact List.nodup_nil
     ·exact hN.1 p q hp hq
    ·simp only [Fs'] at g1 g2
     split at g1
     ·cases g1
     ·split at g2
      ·cases g2
      ·exact hN.2 p q p' q' b' hp hq hp' hq' g1 g2
   ·simp only [F', if_neg h1, if_neg h2]; exact hh0.nodup x p h3
  ·rcases hin x p b' hx hbx with ⟨e1, k1⟩ | ⟨e1, k1, k1'⟩ | ⟨e1, e1', e1'', k1⟩ <;> rcases hin y p' b' hy hby with ⟨e2, k2⟩ | ⟨e2, k2, k2'⟩ | ⟨e2, e2', e2'', k2⟩
   ·exact hne (e1.trans e2.symm)
   ·exact k2' k1
   ·exact hdisj y p' b' e2'' (Ne.symm e2') (hsub b' k1) k2
   ·exact k1' k2
   ·exact hne (e1.trans e2.symm)
   ·exact hdisj y p' b' e2'' (Ne.symm e2') k1 k2
   ·exact hdisj x p b' e1'' (Ne.symm e1') (hsub b' k2) k1
   ·exact hdisj x p b' e1'' (Ne.symm e1') k2 k1
   ·exact hh0.disj x y p p' b' e1'' e2'' hne k1 k2
  ·rcases hin x p b' hp hb' with ⟨_, h⟩ | ⟨_, h, _⟩ | ⟨_, _, h3, h⟩
   ·exact hsep b' (hsub b' h)
   ·exact hsep b' h
   ·exact hh0.sep x p b' h3 h
  ·rcases hin x p b' hp hb' with ⟨_, h⟩ | ⟨_, h, _⟩ | ⟨_, _, h3, h⟩
   ·exact hlt b' (hsub b' h)
   ·exact hlt b' h
   ·exact hh0.lt x p b' h3 h
  ·simp only [ρ'] at hr
   split at hr
   ·omega
   ·exact hr

theorem CO.lend (i m b j : Nat) {code : Code} {T : List V} {H : Hp} {Q : Exit → St → Prop} {nn nn2 : Bool} {ety : Tg} {k : Nat} {rows : List (List V)} {row : List V} {srows : List (List V)}
  (hi : look H i = some (.vec nn ety k rows)) (hrow : rows[m]? = some row) (hb : row[b]? = some (.sl nn2 true srows)) (hj : fresh [j] ⟨T, H⟩ = true) (h1 : ∀ r, r ∈ srows → r.length = 1)
  (h : ∀ c, c.oneCell' = true → CO L P G code ⟨T, (j, .vec false (.at_ c) 1 srows) :: (i, .vec nn ety k (rows.set m (row.set b (.c c)))) :: hrem [i] H⟩ Q) : CO L P G code ⟨T, H⟩ Q := by
 intro B ρ S F a w R hst hn
 obtain ⟨c, hc, ρ1, F1, hst1, e1, a1⟩ := hst.lend hi hrow hb hj h1
 exact h c hc B ρ1 S F1 a w R hst1 fun e st2 h2 ρ2 S2 F2 a2 w2 hst2 hE2 hA2 => hn e st2 h2 ρ2 S2 F2 a2 w2 hst2 (e1.trans hE2) (a1.trans hA2)

end
end Go.Av

namespace Go.Av

section
variable {P : Program} {G : Nat → Option (List V)} {L : Option Nat}

end
end Go.Av

