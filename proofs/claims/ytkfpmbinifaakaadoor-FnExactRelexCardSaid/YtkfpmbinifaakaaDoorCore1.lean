/-
  Core1: abstract values (V), what it means that a concrete value reads as one (RD for immutable data, RV for slots), abstract heaps of objects that one activation may write, and how these readings last while the world goes on.
-/
import Derived.Tactics
import Derived.Orders
import Derived.Maps.AppendAt
import Derived.Deep.AppendSrc
namespace Go.Av

inductive V where
  | junk
  | c (v : Value)
  | sl (nn x : Bool) (rows : List (List V))
  | own (id : Nat)
  | loc (id off : Nat)
  | vp (id k i j : Nat)
  | el (cells : List V)
  | fn (f : FuncId) (caps : List V)
  | agg (cells : List V)
  | tup (vs : List V)
  deriving Inhabited

/-- rows of cells laid one behind another -/
def flat (n k : Nat) (Fs : Nat → Nat → List Nat) : List Nat := (List.range n).flatMap fun i => (List.range k).flatMap fun j => Fs i j

/-- a concrete cell value reads as immutable data; the last argument: the blocks that it alone owns -/
inductive RD (S : Nat → Prop) (w : World) : Value → V → List Nat → Prop
  | c (v : Value) (h : v.oneCell' = true) : RD S w v (.c v) []
  | nils (x : Bool) : RD S w (.slice none 0 0) (.sl false x []) []
  | shr (a : Addr) (cap : Nat) (nn : Bool) (rows : List (List V)) (k : Nat) (cs : Nat → Nat → Value)
      (hlen : rows.length ≤ maxLen) (hcap : rows.length ≤ cap) (hk : ∀ (i : Nat) (r : List V), rows[i]? = some r → r.length = k)
      (hc : ∀ (i j : Nat) (r : List V) (x : V), rows[i]? = some r → r[j]? = some x → S a.block ∧ w.cell? (a.add (i * k + j)) = some (cs i j))
      (hr : ∀ (i j : Nat) (r : List V) (x : V), rows[i]? = some r → r[j]? = some x → RD S w (cs i j) x []) : RD S w (.slice (some a) rows.length cap) (.sl nn false rows) []
  | exc (g cap : Nat) (arr : Array Value) (ety : TypeId) (nn : Bool) (rows : List (List V)) (k : Nat) (cs : Nat → Nat → Value) (Fs : Nat → Nat → List Nat)
      (hh : w.heap[g]? = some (.cells arr ety (0, 0))) (hcap : rows.length ≤ cap) (hmax : cap ≤ maxLen) (hsz : arr.size = cap * k)
      (hk : ∀ (i : Nat) (r : List V), rows[i]? = some r → r.length = k)
      (hc : ∀ (i j : Nat) (r : List V) (x : V), rows[i]? = some r → r[j]? = some x → arr[i * k + j]? = some (cs i j))
      (hr : ∀ (i j : Nat) (r : List V) (x : V), rows[i]? = some r → r[j]? = some x → RD S w (cs i j) x (Fs i j)) :
      RD S w (.slice (some ⟨g, 0, none⟩) rows.length cap) (.sl nn true rows) (g :: flat rows.length k Fs)

theorem RD.one {S : Nat → Prop} {w : World} {v : Value} {x : V} {F : List Nat} (h : RD S w v x F) : v.oneCell' = true := by
  cases h <;> first | assumption | rfl

theorem mem_flat {n k : Nat} {Fs : Nat → Nat → List Nat} {b : Nat} : b ∈ flat n k Fs ↔ ∃ i j, i < n ∧ j < k ∧ b ∈ Fs i j := by
  simp only [flat, List.mem_flatMap, List.mem_range]
  constructor
  · rintro ⟨i, hi, j, hj, hb⟩; exact ⟨i, j, hi, hj, hb⟩
  · rintro ⟨i, j, hi, hj, hb⟩; exact ⟨i, hi, j, hj, hb⟩

theorem RD.mono {S S' : Nat → Prop} {w w' : World} {v : Value} {x : V} {F : List Nat} (h : RD S w v x F)
    (hS : ∀ b, S b → S' b ∧ w'.heap[b]? = w.heap[b]?) (hF : ∀ b, b ∈ F → w'.heap[b]? = w.heap[b]?) : RD S' w' v x F := by
  induction h with
  | c v h => exact .c v h
  | nils x => exact .nils x
  | shr a cap nn rows k cs hlen hcap hk hc hr ih =>
    refine .shr a cap nn rows k cs hlen hcap hk (fun i j r x h1 h2 => ?_) (fun i j r x h1 h2 => ih i j r x h1 h2 (fun b hb => by cases hb))
    obtain ⟨hs, hcell⟩ := hc i j r x h1 h2
    obtain ⟨hs', hw⟩ := hS _ hs
    exact ⟨hs', (World.cell?_of_block (by simpa [Addr.add] using (by split <;> exact hw))).trans hcell⟩
  | exc g cap arr ety nn rows k cs Fs hh hcap hmax hsz hk hc hr ih =>
    refine .exc g cap arr ety nn rows k cs Fs ((hF g (by simp)).trans hh) hcap hmax hsz hk hc (fun i j r x h1 h2 => ih i j r x h1 h2 (fun b hb => hF b ?_))
    have hi : i < rows.length := (List.getElem?_eq_some_iff.1 h1).1
    have hj : j < k := by
      have := (List.getElem?_eq_some_iff.1 h2).1
      rw [hk i r h1] at this; exact this
    exact List.mem_cons_of_mem _ (mem_flat.2 ⟨i, j, hi, hj, hb⟩)

mutual
/-- does an abstract value speak of object i -/
def V.has (i : Nat) : V → Bool
  | .own j => i == j
  | .loc j _ => i == j
  | .vp j _ _ _ => i == j
  | .fn _ cs => V.hasL i cs
  | .agg cs => V.hasL i cs
  | .tup cs => V.hasL i cs
  | _ => false
def V.hasL (i : Nat) : List V → Bool
  | [] => false
  | x :: r => V.has i x || V.hasL i r
end

theorem V.has_of_mem {i : Nat} {x : V} {l : List V} (hx : x ∈ l) (h : x.has i = true) : V.hasL i l = true := by
  induction l with
  | nil => cases hx
  | cons y l ih =>
    simp only [V.hasL, Bool.or_eq_true]
    rcases List.mem_cons.1 hx with rfl | hx
    · exact .inl h
    · exact .inr (ih hx)

/-- a concrete value reads as an abstract one, in a slot or in a cell of an object; ρ: the roots of the objects -/
inductive RV (ρ : Nat → Option Value) (S : Nat → Prop) (w : World) : Value → V → Prop
  | junk (v : Value) : RV ρ S w v .junk
  | c (v : Value) : RV ρ S w v (.c v)
  | sl (v : Value) (nn x : Bool) (rows : List (List V)) (h : RD S w v (.sl nn x rows) []) : RV ρ S w v (.sl nn x rows)
  | own (v : Value) (i : Nat) (h : ∀ r, ρ i = some r → v = r) : RV ρ S w v (.own i)
  | loc (v : Value) (i off : Nat) (h : ∀ r, ρ i = some r → ∃ g, r = .pointer (some ⟨g, 0, none⟩) ∧ v = .pointer (some ⟨g, off, none⟩)) : RV ρ S w v (.loc i off)
  | vp (v : Value) (i k a b : Nat) (h : ∀ r, ρ i = some r → ∃ g n cap, r = .slice (some ⟨g, 0, none⟩) n cap ∧ v = .pointer (some ⟨g, a * k + b, none⟩)) : RV ρ S w v (.vp i k a b)
  | el (a : Addr) (cells : List V) (cs : Nat → Value) (hc : ∀ (j : Nat) (x : V), cells[j]? = some x → S a.block ∧ w.cell? (a.add j) = some (cs j))
      (hr : ∀ (j : Nat) (x : V), cells[j]? = some x → RD S w (cs j) x []) : RV ρ S w (.pointer (some a)) (.el cells)
  | fn (f : FuncId) (arr : Array Value) (caps : List V) (hsz : arr.size = caps.length)
      (hr : ∀ (j : Nat) (x : V) (c : Value), caps[j]? = some x → arr[j]? = some c → RV ρ S w c x) : RV ρ S w (.func (.func f) #[] arr) (.fn f caps)
  | agg (arr : Array Value) (cells : List V) (hsz : arr.size = cells.length) (h1 : ∀ (j : Nat) (c : Value), arr[j]? = some c → c.oneCell' = true)
      (hr : ∀ (j : Nat) (x : V) (c : Value), cells[j]? = some x → arr[j]? = some c → RV ρ S w c x) : RV ρ S w (.agg arr) (.agg cells)
  | tup (arr : Array Value) (cells : List V) (hsz : arr.size = cells.length)
      (hr : ∀ (j : Nat) (x : V) (c : Value), cells[j]? = some x → arr[j]? = some c → RV ρ S w c x) : RV ρ S w (.tuple arr) (.tup cells)

theorem RD.toRV {ρ : Nat → Option Value} {S : Nat → Prop} {w : World} {v : Value} {x : V} (h : RD S w v x []) : RV ρ S w v x := by
  cases x with
  | c u => cases h; exact .c _
  | sl nn b rows => exact .sl v nn b rows h
  | _ => cases h

/-- what the cells in S hold has not turned, and S has not shrunk -/
def Keeps (S : Nat → Prop) (w : World) (S' : Nat → Prop) (w' : World) : Prop := ∀ b, S b → S' b ∧ w'.heap[b]? = w.heap[b]?

theorem RV.mono {ρ ρ' : Nat → Option Value} {S S' : Nat → Prop} {w w' : World} {v : Value} {x : V} (h : RV ρ S w v x)
    (hρ : ∀ i r, ρ' i = some r → x.has i = true → ρ i = some r) (hS : Keeps S w S' w') : RV ρ' S' w' v x := by
  induction h with
  | junk v => exact .junk v
  | c v => exact .c v
  | sl v nn x rows h => exact .sl v nn x rows (h.mono hS (fun b hb => by cases hb))
  | own v i h => exact .own v i fun r hr => h r (hρ i r hr (by simp [V.has]))
  | loc v i off h => exact .loc v i off fun r hr => h r (hρ i r hr (by simp [V.has]))
  | vp v i k a b h => exact .vp v i k a b fun r hr => h r (hρ i r hr (by simp [V.has]))
  | el a cells cs hc hr =>
    refine .el a cells cs (fun j x hx => ?_) (fun j x hx => (hr j x hx).mono hS (fun b hb => by cases hb))
    obtain ⟨hs, hcell⟩ := hc j x hx
    obtain ⟨hs', hw⟩ := hS _ hs
    exact ⟨hs', (World.cell?_of_block (by simpa [Addr.add] using (by split <;> exact hw))).trans hcell⟩
  | fn f arr caps hsz hr ih =>
    exact .fn f arr caps hsz fun j x c hx hc => ih j x c hx hc fun i r hi hh => hρ i r hi (by simpa [V.has] using V.has_of_mem (List.mem_of_getElem? hx) hh)
  | agg arr cells hsz h1 hr ih =>
    exact .agg arr cells hsz h1 fun j x c hx hc => ih j x c hx hc fun i r hi hh => hρ i r hi (by simpa [V.has] using V.has_of_mem (List.mem_of_getElem? hx) hh)
  | tup arr cells hsz hr ih =>
    exact .tup arr cells hsz fun j x c hx hc => ih j x c hx hc fun i r hi hh => hρ i r hi (by simpa [V.has] using V.has_of_mem (List.mem_of_getElem? hx) hh)

/-- an object that the activation may write: a row of cells behind a pointer, or a slice that it owns alone -/
inductive Ob where
  | cells (ety : TypeId) (cs : List V)
  | vec (nn : Bool) (ety k : Nat) (rows : List (List V))
  deriving Inhabited

def Ob.has (i : Nat) : Ob → Bool
  | .cells _ cs => V.hasL i cs
  | .vec .. => false

inductive ObR (ρ : Nat → Option Value) (S : Nat → Prop) (w : World) : Value → Ob → List Nat → Prop
  | cells (g : Nat) (arr : Array Value) (ety : TypeId) (cs : List V) (hh : w.heap[g]? = some (.cells arr ety (0, 0))) (hsz : arr.size = cs.length)
      (hr : ∀ (j : Nat) (x : V), cs[j]? = some x → ∃ c, arr[j]? = some c ∧ c.oneCell' = true ∧ RV ρ S w c x) : ObR ρ S w (.pointer (some ⟨g, 0, none⟩)) (.cells ety cs) [g]
  | vnil (ety k : Nat) : ObR ρ S w (.slice none 0 0) (.vec false ety k []) []
  | vec (g cap : Nat) (arr : Array Value) (nn : Bool) (ety k : Nat) (rows : List (List V)) (cs : Nat → Nat → Value) (Fs : Nat → Nat → List Nat)
      (hh : w.heap[g]? = some (.cells arr ety (0, 0))) (hcap : rows.length ≤ cap) (hmax : cap ≤ maxLen) (hsz : arr.size = cap * k)
      (hk : ∀ (i : Nat) (r : List V), rows[i]? = some r → r.length = k)
      (hc : ∀ (i j : Nat) (r : List V) (x : V), rows[i]? = some r → r[j]? = some x → arr[i * k + j]? = some (cs i j))
      (hr : ∀ (i j : Nat) (r : List V) (x : V), rows[i]? = some r → r[j]? = some x → RD S w (cs i j) x (Fs i j)) :
      ObR ρ S w (.slice (some ⟨g, 0, none⟩) rows.length cap) (.vec nn ety k rows) (g :: flat rows.length k Fs)

theorem ObR.mono {ρ ρ' : Nat → Option Value} {S S' : Nat → Prop} {w w' : World} {v : Value} {o : Ob} {F : List Nat} (h : ObR ρ S w v o F)
    (hρ : ∀ i r, ρ' i = some r → o.has i = true → ρ i = some r) (hS : Keeps S w S' w') (hF : ∀ b, b ∈ F → w'.heap[b]? = w.heap[b]?) : ObR ρ' S' w' v o F := by
  cases h with
  | cells g arr ety cs hh hsz hr =>
    refine .cells g arr ety cs ((hF g (by simp)).trans hh) hsz fun j x hx => ?_
    obtain ⟨c, h1, h2, h3⟩ := hr j x hx
    exact ⟨c, h1, h2, h3.mono (fun i r hi hh => hρ i r hi (by simpa [Ob.has] using V.has_of_mem (List.mem_of_getElem? hx) hh)) hS⟩
  | vnil ety k => exact .vnil ety k
  | vec g cap arr nn ety k rows cs Fs hh hcap hmax hsz hk hc hr =>
    refine .vec g cap arr nn ety k rows cs Fs ((hF g (by simp)).trans hh) hcap hmax hsz hk hc fun i j r x h1 h2 => (hr i j r x h1 h2).mono hS fun b hb => hF b ?_
    have hi : i < rows.length := (List.getElem?_eq_some_iff.1 h1).1
    have hj : j < k := by
      have := (List.getElem?_eq_some_iff.1 h2).1
      rw [hk i r h1] at this; exact this
    exact List.mem_cons_of_mem _ (mem_flat.2 ⟨i, j, hi, hj, hb⟩)

/-! ### heaps of objects -/
abbrev Hp := List (Nat × Ob)

def look : Hp → Nat → Option Ob
  | [], _ => none
  | (j, o) :: H, i => if i = j then some o else look H i

def hput : Hp → Nat → Ob → Hp
  | [], i, o => [(i, o)]
  | (j, p) :: H, i, o => if i = j then (i, o) :: H else (j, p) :: hput H i o

def hdel : Hp → Nat → Hp
  | [], _ => []
  | (j, p) :: H, i => if i = j then hdel H i else (j, p) :: hdel H i

theorem look_hput (H : Hp) (i j : Nat) (o : Ob) : look (hput H i o) j = if j = i then some o else look H j := by
  induction H with
  | nil => simp [hput, look]
  | cons x H ih =>
    obtain ⟨k, p⟩ := x
    simp only [hput]
    by_cases h : i = k
    · subst h; simp only [if_true, look]; by_cases hj : j = i <;> simp [hj]
    · simp only [h, if_false, look, ih]
      by_cases hj : j = k
      · subst hj; simp [Ne.symm h]
      · simp [hj]

theorem look_hdel (H : Hp) (i j : Nat) : look (hdel H i) j = if j = i then none else look H j := by
  induction H with
  | nil => simp [hdel, look]
  | cons x H ih =>
    obtain ⟨k, p⟩ := x
    simp only [hdel]
    by_cases h : i = k
    · subst h; simp only [if_true, ih, look]; by_cases hj : j = i <;> simp [hj]
    · simp only [h, if_false, look, ih]
      by_cases hj : j = k
      · subst hj; simp [Ne.symm h]
      · simp [hj]

structure HRel (ρ : Nat → Option Value) (S : Nat → Prop) (F : Nat → List Nat) (H : Hp) (w : World) : Prop where
  dom : ∀ i, look H i = none → ρ i = none
  obj : ∀ i o, look H i = some o → ∃ r, ρ i = some r ∧ ObR ρ S w r o (F i)
  nodup : ∀ i o, look H i = some o → (F i).Nodup
  disj : ∀ i j o p b, look H i = some o → look H j = some p → i ≠ j → b ∈ F i → b ∈ F j → False
  sep : ∀ i o b, look H i = some o → b ∈ F i → ¬ S b
  lt : ∀ i o b, look H i = some o → b ∈ F i → b < w.heap.size
  slt : ∀ b, S b → b < w.heap.size

/-- the blocks of the objects -/
def Ub (H : Hp) (F : Nat → List Nat) (b : Nat) : Prop := ∃ i o, look H i = some o ∧ b ∈ F i

structure Evo (S : Nat → Prop) (U : Nat → Prop) (w : World) (S' : Nat → Prop) (U' : Nat → Prop) (w' : World) : Prop where
  os : w'.os = w.os
  tape : w'.tape = w.tape
  output : w'.output = w.output
  size : w.heap.size ≤ w'.heap.size
  keep : ∀ b, b < w.heap.size → ¬ U b → w'.heap[b]? = w.heap[b]?
  sub : ∀ b, S b → S' b
  newS : ∀ b, S' b → S b ∨ U b ∨ w.heap.size ≤ b
  newU : ∀ b, U' b → U b ∨ w.heap.size ≤ b

theorem Evo.refl (S U : Nat → Prop) (w : World) : Evo S U w S U w :=
  ⟨rfl, rfl, rfl, Nat.le_refl _, fun _ _ _ => rfl, fun _ h => h, fun _ h => .inl h, fun _ h => .inl h⟩

theorem Evo.trans {S U S1 U1 S2 U2 : Nat → Prop} {w w1 w2 : World} (h : Evo S U w S1 U1 w1) (k : Evo S1 U1 w1 S2 U2 w2) : Evo S U w S2 U2 w2 := by
  refine ⟨k.os.trans h.os, k.tape.trans h.tape, k.output.trans h.output, Nat.le_trans h.size k.size, fun b hb hu => ?_, fun b hb => k.sub b (h.sub b hb), fun b hb => ?_, fun b hb => ?_⟩
  · refine (k.keep b (Nat.lt_of_lt_of_le hb h.size) fun h1 => ?_).trans (h.keep b hb hu)
    rcases h.newU b h1 with h2 | h2
    · exact hu h2
    · omega
  · rcases k.newS b hb with h1 | h1 | h1
    · exact h.newS b h1
    · rcases h.newU b h1 with h2 | h2
      · exact .inr (.inl h2)
      · exact .inr (.inr h2)
    · exact .inr (.inr (Nat.le_trans h.size h1))
  · rcases k.newU b hb with h1 | h1
    · exact h.newU b h1
    · exact .inr (Nat.le_trans h.size h1)

theorem HRel.keeps {ρ : Nat → Option Value} {S S' : Nat → Prop} {F : Nat → List Nat} {H : Hp} {w w' : World} {U' : Nat → Prop} (h : HRel ρ S F H w) (e : Evo S (Ub H F) w S' U' w') : Keeps S w S' w' :=
  fun b hb => ⟨e.sub b hb, e.keep b (h.slt b hb) fun ⟨i, o, h1, h2⟩ => h.sep i o b h1 h2 hb⟩

/-- what the program's own tables hold -/
def GRel (G : Nat → Option (List V)) (S : Nat → Prop) (w : World) : Prop := ∀ g cs, G g = some cs → RV (fun _ => none) S w (.pointer (some ⟨g, 0, none⟩)) (.el cs)

theorem GRel.mono {G : Nat → Option (List V)} {S S' : Nat → Prop} {w w' : World} (h : GRel G S w) (hS : Keeps S w S' w') : GRel G S' w' :=
  fun g cs hg => (h g cs hg).mono (fun _ _ hi _ => by cases hi) hS

end Go.Av
