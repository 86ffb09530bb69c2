/-
  Core7: the operations that only compute or read, by one function; storing, new variables.
-/
import Derived.Test.YtkfpmbinifaakaaDoorCore6
namespace Go.Av

section
variable {P : Program} {G : Nat → Option (List V)}

def live (H : Hp) (i : Nat) : Bool := (look H i).isSome

/-- the cells of a value -/
def cellsV (H : Hp) : V → Option (List V)
  | .agg cs => some cs
  | .c v => if v.oneCell' then some [.c v] else none
  | .sl nn x rows => some [.sl nn x rows]
  | .own i => bif live H i then some [.own i] else none
  | .loc i o => bif live H i then some [.loc i o] else none
  | .vp i a b c => bif live H i then some [.vp i a b c] else none
  | .el cs => some [.el cs]
  | .fn f cs => some [.fn f cs]
  | _ => none

/-- a value of a type so large, out of cells -/
def takeV (D : Tab) (t : TypeId) (cs : List V) : Option V :=
  match D.at t with
  | some i => bif i.d.agg then (bif Nat.ble i.size cs.length then some (.agg (cs.take i.size)) else none) else cs[0]?
  | none => none

def ptrAdd (H : Hp) (n : Nat) : V → Option V
  | .loc i o => bif live H i then some (.loc i (o + n)) else none
  | .vp i k a b => bif live H i then some (.vp i k a (b + n)) else none
  | .el cs => some (.el (cs.drop n))
  | _ => none

def lenV (H : Hp) : V → Option Nat
  | .sl _ _ rows => some rows.length
  | .c (.slice none n _) => some n
  | .own i => match look H i with
    | some (.vec _ _ _ rows) => some rows.length
    | _ => none
  | _ => none

def cells1 : Ob → List V
  | .cells _ cs => cs
  | _ => []

def loadV (D : Tab) (H : Hp) (t : TypeId) : V → Option V
  | .el cs => takeV D t cs
  | .loc i o => match look H i with
    | some (.cells _ cs) => takeV D t (cs.drop o)
    | _ => none
  | _ => none

/-- the parts of a struct or an array laid over its zero cells -/
def fillV (H : Hp) (place : Nat → Option (Nat × Nat)) (cells : List V) : List (Nat × V) → Option (List V)
  | [] => some cells
  | (i, v) :: rest =>
    match place i, cellsV H v with
    | some (off, size), some cs => if cs.length ≠ size ∨ off + size > cells.length then none else fillV H place (cells.take off ++ cs ++ cells.drop (off + size)) rest
    | _, _ => none

def sizeV (D : Tab) (t : TypeId) : Option Nat := (D.at t).map (·.size)

/-- where the fields of a struct lie, and how large they are -/
def placesV (D : Tab) : List (Nat × TypeId) → Option (List (Nat × Nat))
  | [] => some []
  | (o, t) :: fs => (sizeV D t).bind fun s => (placesV D fs).map fun r => (o, s) :: r

def buildV (D : Tab) (H : Hp) (t : TypeId) (parts : List (Nat × V)) : Option V :=
  match D.at t with
  | some i => match i.d with
    | .struct fs => (placesV D fs).bind fun places => (fillV H (fun j => places[j]?) (i.zero.map .c) parts).map .agg
    | .arr _ e => match sizeV D e with
      | some s => (fillV H (fun j => some (j * s, s)) (i.zero.map .c) parts).map .agg
      | none => none
    | _ => none
  | none => none

def stepV (D : Tab) (H : Hp) (e : Operand → V) : Op → Option V
  | .move x => some (e x)
  | .assign x => some (e x)
  | .pick c a b => match e c with
    | .c (.bool t) => match e a, e b with
      | .c (.bool x), .c (.bool y) => some (.c (.bool (cond t x y)))
      | x, y => some (cond t x y)
    | _ => none
  | .nilCheck x => match e x with
    | .loc i o => bif live H i then some (.loc i o) else none
    | .vp i k a b => bif live H i then some (.vp i k a b) else none
    | .el cs => some (.el cs)
    | .fn f cs => some (.fn f cs)
    | _ => none
  | .binOp op t x y _ => binV D op t (e x) (e y)
  | .unOp .not _ x => match e x with
    | .c (.bool b) => some (.c (.bool (!b)))
    | _ => none
  | .unOp .neg _ x => match e x with
    | .c (.int k n) => some (.c (.int k (k.wrap (0 - n))))
    | _ => none
  | .convert s d x => match D.at s, D.at d, e x with
    | some _, some j, .c (.int _ n) => match j.d with
      | .int k => some (.c (.int k (k.wrap n)))
      | _ => none
    | _, _, _ => none
  | .fieldAddr s x f => match D.at s with
    | some i => match i.d with
      | .struct fs => match fs[f]? with
        | some (o, ft) => match sizeV D ft with
          | some (_ + 1) => ptrAdd H o (e x)
          | _ => none
        | none => none
      | _ => none
    | none => none
  | .field s x f => match D.at s, e x with
    | some i, .agg cs => match i.d with
      | .struct fs => match fs[f]? with
        | some (o, ft) => takeV D ft (cs.drop o)
        | none => none
      | _ => none
    | _, _ => none
  | .load t a => loadV D H t (e a)
  | .extract x i => match e x with
    | .tup vs => vs[i]?
    | _ => none
  | .makeFunc (.func f) first caps => if first.size = 0 then some (.fn f (caps.toList.map e)) else none
  | .build t parts => buildV D H t (parts.toList.map fun p => (p.1, e p.2))
  | .call c => match c.callee, c.args.toList, c.argTypes.toList with
    | .builtin .len, [x], [t] => match D.at t with
      | some i => match i.d with
        | .slice _ => (lenV H (e x)).map fun (n : Nat) => .c (.int .i64 (n : Int))
        | .str => match e x with
          | .c (.string s) => some (.c (.int .i64 s.size))
          | _ => none
        | _ => none
      | none => none
    | .builtin .max, [x, y], _ => match e x, e y with
      | .c (.int k a), .c (.int _ b) => some (.c (.int k (if b > a then b else a)))
      | _, _ => none
    | .builtin .min, [x, y], _ => match e x, e y with
      | .c (.int k a), .c (.int _ b) => some (.c (.int k (if b < a then b else a)))
      | _, _ => none
    | _, _, _ => none
  | _ => none

theorem RV.loc_inv {ρ : Nat → Option Value} {S : Nat → Prop} {w : World} {v : Value} {i off : Nat} (h : RV ρ S w v (.loc i off)) : ∀ r, ρ i = some r → ∃ g, r = .pointer (some ⟨g, 0, none⟩) ∧ v = .pointer (some ⟨g, off, none⟩) := by cases h; assumption
theorem RV.vp_inv {ρ : Nat → Option Value} {S : Nat → Prop} {w : World} {v : Value} {i k a b : Nat} (h : RV ρ S w v (.vp i k a b)) : ∀ r, ρ i = some r → ∃ g n cap, r = .slice (some ⟨g, 0, none⟩) n cap ∧ v = .pointer (some ⟨g, a * k + b, none⟩) := by cases h; assumption
theorem RV.own_inv {ρ : Nat → Option Value} {S : Nat → Prop} {w : World} {v : Value} {i : Nat} (h : RV ρ S w v (.own i)) : ∀ r, ρ i = some r → v = r := by cases h; assumption
theorem RV.sl_inv {ρ : Nat → Option Value} {S : Nat → Prop} {w : World} {v : Value} {nn x : Bool} {rows : List (List V)} (h : RV ρ S w v (.sl nn x rows)) : RD S w v (.sl nn x rows) [] := by cases h; assumption
theorem RV.el_inv {ρ : Nat → Option Value} {S : Nat → Prop} {w : World} {v : Value} {cells : List V} (h : RV ρ S w v (.el cells)) :
    ∃ (a : Addr) (cs : Nat → Value), v = .pointer (some a) ∧ (∀ (j : Nat) (x : V), cells[j]? = some x → S a.block ∧ w.cell? (a.add j) = some (cs j)) ∧ (∀ (j : Nat) (x : V), cells[j]? = some x → RD S w (cs j) x []) := by
  cases h with | el a _ cs h1 h2 => exact ⟨a, cs, rfl, h1, h2⟩
theorem RV.fn_inv {ρ : Nat → Option Value} {S : Nat → Prop} {w : World} {v : Value} {f : FuncId} {caps : List V} (h : RV ρ S w v (.fn f caps)) :
    ∃ arr : Array Value, v = .func (.func f) #[] arr ∧ arr.size = caps.length ∧ ∀ (j : Nat) (x : V) (c : Value), caps[j]? = some x → arr[j]? = some c → RV ρ S w c x := by
  cases h with | fn _ arr _ h1 h2 => exact ⟨arr, rfl, h1, h2⟩

theorem HRel.root {ρ : Nat → Option Value} {S : Nat → Prop} {F : Nat → List Nat} {H : Hp} {w : World} (h : HRel ρ S F H w) {i : Nat} (hl : live H i = true) : ∃ r, ρ i = some r ∧ r.oneCell' = true := by
  obtain ⟨o, ho⟩ := Option.isSome_iff_exists.1 hl
  obtain ⟨r, hr, hob⟩ := h.obj i o ho
  exact ⟨r, hr, by generalize F i = Fi at hob; cases hob <;> rfl⟩

theorem RV.cells {ρ : Nat → Option Value} {S : Nat → Prop} {F : Nat → List Nat} {H : Hp} {w : World} (hH : HRel ρ S F H w) {x : Value} {v : V} (h : RV ρ S w x v) {cs : List V} (hc : cellsV H v = some cs) :
    x.cells.size = cs.length ∧ (∀ (j : Nat) (c : Value), x.cells[j]? = some c → c.oneCell' = true) ∧ ∀ (j : Nat) (y : V), cs[j]? = some y → ∃ c, x.cells[j]? = some c ∧ RV ρ S w c y := by
  have one : ∀ (u : Value) (y : V), u.oneCell' = true → RV ρ S w u y → u.cells.size = [y].length ∧ (∀ (j : Nat) (c : Value), u.cells[j]? = some c → c.oneCell' = true) ∧ ∀ (j : Nat) (z : V), [y][j]? = some z → ∃ c, u.cells[j]? = some c ∧ RV ρ S w c z := by
    intro u y hu hr
    have he : u.cells = #[u] := by cases u <;> first | rfl | cases hu
    rw [he]
    refine ⟨rfl, fun j c hj => ?_, fun j z hj => ?_⟩
    · cases j with
      | zero => simp at hj; subst hj; exact hu
      | succ j => simp at hj
    · cases j with
      | zero => simp at hj; subst hj; exact ⟨u, by simp, hr⟩
      | succ j => simp at hj
  have bif_inv : ∀ {b : Bool} {y : V}, (bif b then some [y] else none) = some cs → b = true ∧ cs = [y] := by
    intro b y hb
    cases b with
    | true => simp at hb; exact ⟨rfl, hb.symm⟩
    | false => simp at hb
  cases v with
  | junk => cases hc
  | tup => cases hc
  | agg l =>
    simp only [cellsV, Option.some.injEq] at hc
    subst hc
    obtain ⟨arr, rfl, h1, h2, h3⟩ := h.agg_inv
    exact ⟨h1, h2, h3⟩
  | c u =>
    simp only [cellsV] at hc
    split at hc
    · cases hc
      cases h.c_inv
      exact one _ _ ‹_› h
    · cases hc
  | sl nn b rows =>
    cases hc
    cases h with
    | sl _ _ _ _ hd => exact one _ _ hd.one (.sl _ _ _ _ hd)
  | own i =>
    obtain ⟨hl, rfl⟩ := bif_inv hc
    obtain ⟨r, hr, h1⟩ := hH.root hl
    cases h with
    | own _ _ hx => rw [hx r hr]; exact one _ _ h1 (.own _ i fun r' hr' => by rw [hr] at hr'; cases hr'; rfl)
  | loc i o =>
    obtain ⟨hl, rfl⟩ := bif_inv hc
    obtain ⟨r, hr, h1⟩ := hH.root hl
    cases h with
    | loc _ _ _ hx =>
      obtain ⟨g, e1, e2⟩ := hx r hr
      exact one _ _ (by rw [e2]; rfl) (.loc _ _ _ hx)
  | vp i a b c =>
    obtain ⟨hl, rfl⟩ := bif_inv hc
    obtain ⟨r, hr, h1⟩ := hH.root hl
    cases h with
    | vp _ _ _ _ _ hx =>
      obtain ⟨g, n, cap, e1, e2⟩ := hx r hr
      exact one _ _ (by rw [e2]; rfl) (.vp _ _ _ _ _ hx)
  | el l => cases hc; cases h with | el a _ cs h1 h2 => exact one _ _ rfl (.el a l cs h1 h2)
  | fn f l => cases hc; cases h with | fn _ arr _ h1 h2 => exact one _ _ rfl (.fn f arr l h1 h2)

theorem Addr.add_add (a : Addr) (m n : Nat) : (a.add m).add n = a.add (m + n) := by
  unfold Addr.add
  by_cases hm : m = 0 <;> by_cases hn : n = 0 <;> simp [hm, hn, Nat.add_assoc]

theorem ptrAdd_sound {H : Hp} {n : Nat} {x v : V} (h : ptrAdd H n x = some v) {ρ : Nat → Option Value} {S : Nat → Prop} {F : Nat → List Nat} {w : World} (hH : HRel ρ S F H w) {u : Value} (hu : RV ρ S w u x) :
    ∃ a, u = .pointer (some a) ∧ RV ρ S w (.pointer (some (a.add n))) v := by
  cases x with
  | loc i o =>
    simp only [ptrAdd] at h
    cases hl : live H i with
    | false => rw [hl] at h; cases h
    | true =>
      rw [hl] at h; cases h
      obtain ⟨r, hr, _⟩ := hH.root hl
      cases hu with
      | loc _ _ _ hx =>
        obtain ⟨g, e1, rfl⟩ := hx r hr
        exact ⟨_, rfl, .loc _ i (o + n) fun r' hr' => ⟨g, by rw [hr] at hr'; cases hr'; exact e1, by rw [Addr.add_lit]⟩⟩
  | vp i k a b =>
    simp only [ptrAdd] at h
    cases hl : live H i with
    | false => rw [hl] at h; cases h
    | true =>
      rw [hl] at h; cases h
      obtain ⟨r, hr, _⟩ := hH.root hl
      cases hu with
      | vp _ _ _ _ _ hx =>
        obtain ⟨g, m, cap, e1, rfl⟩ := hx r hr
        exact ⟨_, rfl, .vp _ i k a (b + n) fun r' hr' => ⟨g, m, cap, by rw [hr] at hr'; cases hr'; exact e1, by rw [Addr.add_lit, Nat.add_assoc]⟩⟩
  | el cs =>
    cases h
    cases hu with
    | el a _ cc h1 h2 =>
      refine ⟨a, rfl, .el (a.add n) _ (fun j => cc (n + j)) (fun j x hj => ?_) (fun j x hj => ?_)⟩
      · rw [List.getElem?_drop] at hj
        obtain ⟨hs, hc⟩ := h1 _ _ hj
        refine ⟨?_, by rw [Addr.add_add]; exact hc⟩
        have : (a.add n).block = a.block := by unfold Addr.add; split <;> rfl
        rw [this]; exact hs
      · rw [List.getElem?_drop] at hj
        exact h2 _ _ hj
  | _ => cases h

theorem run_loadCellsFrom {a : Addr} {w : World} {cs : Nat → Value} : ∀ (n i : Nat) (acc : Array Value), (∀ j, i ≤ j → j < i + n → w.cell? (a.add j) = some (cs j)) →
    (loadCellsFrom a i n acc).run P w = .ok (acc ++ ((List.range' i n).map cs).toArray) w
  | 0, i, acc, h => by simp [loadCellsFrom]
  | n + 1, i, acc, h => by
    have h0 := h i (Nat.le_refl _) (by omega)
    simp only [loadCellsFrom, Sem.run_bind, run_load, h0, Result.andThen_ok]
    rw [run_loadCellsFrom n (i + 1) _ (fun j h1 h2 => h j (by omega) (by omega))]
    simp [List.range'_succ]

theorem run_loadCells {a : Addr} {w : World} {cs : Nat → Value} {n : Nat} (h : ∀ j, j < n → w.cell? (a.add j) = some (cs j)) :
    (loadCells a n).run P w = .ok ((List.range n).map cs).toArray w := by
  unfold loadCells
  rw [run_loadCellsFrom n 0 #[] (fun j _ hj => h j (by omega))]
  simp [List.range_eq_range']

theorem range_map_get {n : Nat} {cc : Nat → Value} {j : Nat} {c : Value} (h : (((List.range n).map cc).toArray)[j]? = some c) : j < n ∧ c = cc j := by
  simp only [List.getElem?_toArray, List.getElem?_map, Option.map_eq_some_iff] at h
  obtain ⟨j', hj', rfl⟩ := h
  obtain ⟨h1, h2⟩ := List.getElem?_eq_some_iff.1 hj'
  simp at h1 h2
  subst h2
  exact ⟨h1, rfl⟩

/-- a variable of a type is loaded whose cells read as cs -/
theorem takeV_sound {D : Tab} (hD : TabOk P D) {t : TypeId} {cs : List V} {v : V} (h : takeV D t cs = some v) {ρ : Nat → Option Value} {S : Nat → Prop} {w : World} {a : Addr} {cc : Nat → Value}
    (hc : ∀ (j : Nat) (x : V), cs[j]? = some x → w.cell? (a.add j) = some (cc j) ∧ (cc j).oneCell' = true ∧ RV ρ S w (cc j) x) : ∃ u, (loadVar t a).run P w = .ok u w ∧ RV ρ S w u v := by
  unfold takeV at h
  split at h
  · rename_i i hty
    have ty := hD _ _ hty
    simp only [loadVar, Sem.run_bind, ty.isAgg w, Result.andThen_ok]
    cases ha : i.d.agg with
    | true =>
      rw [ha] at h
      simp only [cond_true] at h
      cases hle : Nat.ble i.size cs.length with
      | false => rw [hle] at h; cases h
      | true =>
        rw [hle] at h; cases h
        have hle' : i.size ≤ cs.length := Nat.le_of_ble_eq_true hle
        have hcell : ∀ j, j < i.size → w.cell? (a.add j) = some (cc j) := fun j hj => (hc j cs[j] (List.getElem?_eq_getElem (by omega))).1
        simp only [if_true, Sem.run_bind, ty.sizeOf w, Result.andThen_ok, run_loadCells hcell, Sem.run_pure]
        refine ⟨_, rfl, .agg _ _ (by simp [hle']) (fun j c hj => ?_) (fun j x c hx hj => ?_)⟩
        · obtain ⟨hlt, rfl⟩ := range_map_get hj
          exact (hc j cs[j] (List.getElem?_eq_getElem (by omega))).2.1
        · obtain ⟨hlt, rfl⟩ := range_map_get hj
          rw [List.getElem?_take, if_pos hlt] at hx
          exact (hc j x hx).2.2
    | false =>
      rw [ha] at h
      simp only [cond_false] at h
      obtain ⟨h1, _, h3⟩ := hc 0 v h
      refine ⟨cc 0, ?_, h3⟩
      have : a.add 0 = a := by simp [Addr.add]
      rw [this] at h1
      simp [h1]
  · cases h

theorem loadV_sound {D : Tab} (hD : TabOk P D) {H : Hp} {t : TypeId} {x v : V} (h : loadV D H t x = some v) {ρ : Nat → Option Value} {S : Nat → Prop} {F : Nat → List Nat} {w : World} (hH : HRel ρ S F H w)
    {u : Value} (hu : RV ρ S w u x) : ∃ r, (Instr.loadAt t u).run P w = .ok r w ∧ RV ρ S w r v := by
  cases x with
  | el cs =>
    cases hu with
    | el a _ cc h1 h2 =>
      obtain ⟨r, hr, hv⟩ := takeV_sound hD h (ρ := ρ) (S := S) (w := w) (a := a) (cc := cc) fun j x hx => ⟨(h1 j x hx).2, (h2 j x hx).one, (h2 j x hx).toRV⟩
      exact ⟨r, by simp [Instr.loadAt, Instr.sureAddr, hr], hv⟩
  | loc i o =>
    simp only [loadV] at h
    split at h
    · rename_i ety cs hl
      obtain ⟨r, hr, hob⟩ := hH.obj i _ hl
      cases hu with
      | loc _ _ _ hx =>
        obtain ⟨g, e1, rfl⟩ := hx r hr
        generalize F i = Fi at hob
        cases hob with
        | cells g' arr _ _ hh hsz hcs =>
          cases e1
          obtain ⟨r', hr', hv⟩ := takeV_sound hD h (ρ := ρ) (S := S) (w := w) (a := ⟨g, o, none⟩) (cc := fun j => arr.getD (o + j) undef) fun j x hx => by
            rw [List.getElem?_drop] at hx
            obtain ⟨c, h1, h2, h3⟩ := hcs _ _ hx
            have hg : arr.getD (o + j) undef = c := by simp [Array.getD_eq_getD_getElem?, h1]
            rw [Addr.add_lit, cell_of_row w g (o + j) arr ety (0, 0) hh, hg]
            exact ⟨h1, h2, h3⟩
          exact ⟨r', by simp [Instr.loadAt, Instr.sureAddr, hr'], hv⟩
    · cases h
  | _ => cases h

end
end Go.Av
