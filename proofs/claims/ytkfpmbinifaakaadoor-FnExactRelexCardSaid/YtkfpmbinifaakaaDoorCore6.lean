/-
  Core6: the types' table; operations that only compute.
-/
import Derived.Test.YtkfpmbinifaakaaDoorCore5
import Derived.Laws.StructEq
namespace Go.Av

inductive TD where
  | int (k : IntKind)
  | bool
  | str
  | slice (e : TypeId)
  | arr (n : Nat) (e : TypeId)
  | struct (fs : List (Nat × TypeId))
  | other
  deriving Inhabited

structure Ty where
  d : TD
  size : Nat
  bytes : Nat
  zero : List Value
  /-- a struct whose values may be compared field by field -/
  cmp : Bool := false
  deriving Inhabited

def TD.is : TD → TypeDesc → Prop
  | .int k, .int k' => k = k'
  | .bool, .bool => True
  | .str, .string => True
  | .slice e, .slice e' => e = e'
  | .arr n e, .array n' e' => n = n' ∧ e = e'
  | .struct fs, .struct fields => fields.toList.map (fun f => (f.offset, f.type)) = fs
  | .other, .struct _ => False
  | .other, .array _ _ => False
  | .other, _ => True
  | _, _ => False

def TD.agg : TD → Bool
  | .arr .. => true
  | .struct .. => true
  | _ => false

def TyAt (P : Program) (t : TypeId) (i : Ty) : Prop :=
  (∃ inf z, P.info? t = some inf ∧ inf.size = i.size ∧ inf.bytes = i.bytes ∧ inf.zero = some z ∧ z.cells.toList = i.zero ∧ i.zero.all (·.oneCell') = true ∧ i.zero.length = i.size) ∧ (∃ d, P.underlying t = some d ∧ i.d.is d) ∧
  (i.cmp = true → P.stoodInHeld t = false ∧ P.eqGuardType P.depth t = false ∧ ∀ f, f ∈ (P.fieldsOf t).toList → f.name ≠ "_")

abbrev Tab := List (Option Ty)
def Tab.at (D : Tab) (t : TypeId) : Option Ty := D.getD t none
def TabOk (P : Program) (D : Tab) : Prop := ∀ t i, D.at t = some i → TyAt P t i

def TyAll (P : Program) : Nat → Tab → Prop
  | _, [] => True
  | n, none :: l => TyAll P (n + 1) l
  | n, some i :: l => TyAt P n i ∧ TyAll P (n + 1) l

theorem TyAll.get {P : Program} : ∀ {n : Nat} {l : Tab}, TyAll P n l → ∀ {j : Nat} {i : Ty}, l.getD j none = some i → TyAt P (n + j) i
  | n, [], _, j, i, h => by simp at h
  | n, none :: l, h, j, i, hj => by
    cases j with
    | zero => simp at hj
    | succ j => have := TyAll.get (n := n + 1) h (j := j) (i := i) (by simpa using hj); rwa [Nat.add_right_comm] at this
  | n, some y :: l, h, j, i, hj => by
    cases j with
    | zero => simp at hj; subst hj; exact h.1
    | succ j => have := TyAll.get (n := n + 1) h.2 (j := j) (i := i) (by simpa using hj); rwa [Nat.add_right_comm] at this

theorem TyAll.ok {P : Program} {D : Tab} (h : TyAll P 0 D) : TabOk P D := fun t i hi => by simpa using h.get (j := t) hi

section
variable {P : Program} {G : Nat → Option (List V)}

theorem run_underlying' {t : TypeId} {d : TypeDesc} (h : P.underlying t = some d) (w : World) : (underlying t).run P w = .ok d w := run_underlying h w

theorem TyAt.sizeOf {t : TypeId} {i : Ty} (h : TyAt P t i) (w : World) : (sizeOf t).run P w = .ok i.size w := by
  obtain ⟨⟨inf, z, h1, h2, _⟩, _, _⟩ := h
  simp [Go.sizeOf, typeInfo, h1, h2]

theorem TyAt.isAgg {t : TypeId} {i : Ty} (h : TyAt P t i) (w : World) : (isAgg t).run P w = .ok i.d.agg w := by
  obtain ⟨_, ⟨d, h1, h2⟩, _⟩ := h
  simp only [Go.isAgg, Sem.run_bind, run_underlying h1, Result.andThen_ok]
  cases hd : i.d <;> cases d <;> simp_all [TD.is, TD.agg]

theorem TyAt.zeroValue {t : TypeId} {i : Ty} (h : TyAt P t i) (w : World) : ∃ z, (zeroValue t).run P w = .ok z w ∧ z.cells.toList = i.zero ∧ i.zero.all (·.oneCell') = true := by
  obtain ⟨⟨inf, z, h1, _, _, h4, h5, h6, _⟩, _, _⟩ := h
  exact ⟨z, by simp [Go.zeroValue, typeInfo, h1, h4], h5, h6⟩

/-- an operation that leaves memory alone -/
theorem OpOk.pure {o : Oper} {e : Operand → V} {H : Hp} {v : V}
    (h : ∀ ρ S F (η : Operand → Value) w, (∀ x, x ∈ o.op.operands → RV ρ S w (η x) (e x)) → HRel ρ S F H w → ∃ x, (execOp η o).run P w = .ok (.value x) w ∧ RV ρ S w x v) : OpOk P G o e H v H [] := by
  intro ρ S F η w hη hH hG
  obtain ⟨x, hx, hv⟩ := h ρ S F η w hη hH
  unfold ExecTo
  rw [hx]
  exact ⟨ρ, S, F, hv, hH, Evo.refl _ _ _, fun i r h _ => h⟩

def V.int (n : Int) : V := .c (.int .i64 n)
def V.bool (b : Bool) : V := .c (.bool b)
def V.str (l : List UInt8) : V := .c (.string ⟨⟨l⟩⟩)

theorem toList_loop (bs : ByteArray) (i : Nat) (r : List UInt8) : ByteArray.toList.loop bs i r = r.reverse ++ bs.data.toList.drop i := by
  fun_induction ByteArray.toList.loop bs i r with
  | case1 i r h ih =>
    rw [ih]
    have : bs.data.toList.drop i = bs.get! i :: bs.data.toList.drop (i+1) := by
      rw [List.drop_eq_getElem_cons (by simpa using h)]
      congr 1
      simp [ByteArray.get!, Array.getElem!_eq_getD, Array.getD]
      omega
    simp [this]
  | case2 i r h => simp; omega

theorem toList_eq (s : ByteArray) : s.toList = s.data.toList := by simp [ByteArray.toList, toList_loop]


def eqOne : TD → V → V → Option Bool
  | .int _, .c (.int k a), .c (.int k' b) => if k = k' then some (a == b) else none
  | .str, .c (.string a), .c (.string b) => some (a.data.toList == b.data.toList)
  | .bool, .c (.bool a), .c (.bool b) => some (a == b)
  | _, _, _ => none

def eqAt (D : Tab) (t : TypeId) (x y : Option V) : Option Bool :=
  match D.at t, x, y with
  | some i, some x, some y => eqOne i.d x y
  | _, _, _ => none

/-- are the fields of two structs equal, one by one -/
def eqFs (D : Tab) : List (Nat × TypeId) → List V → List V → Option Bool
  | [], _, _ => some true
  | (o, t) :: fs, xs, ys => (eqAt D t xs[o]? ys[o]?).bind fun q => (eqFs D fs xs ys).map fun r => q && r

def intV (op : BinOp) (k : IntKind) (a b : Int) : Option V :=
  match op with
  | .add => some (.c (.int k (k.wrap (a + b))))
  | .sub => some (.c (.int k (k.wrap (a - b))))
  | .mul => some (.c (.int k (k.wrap (a * b))))
  | .quo => if b = 0 then none else some (.c (.int k (k.wrap (a.tdiv b))))
  | .rem => if b = 0 then none else some (.c (.int k (a.tmod b)))
  | .and => some (.c (.int k (bits .and k a b)))
  | .or => some (.c (.int k (bits .or k a b)))
  | .xor => some (.c (.int k (bits .xor k a b)))
  | .eql => some (.c (.bool (a == b)))
  | .neq => some (.c (.bool (a != b)))
  | .lss => some (.c (.bool (decide (a < b))))
  | .leq => some (.c (.bool (decide (a ≤ b))))
  | .gtr => some (.c (.bool (decide (a > b))))
  | .geq => some (.c (.bool (decide (a ≥ b))))
  | _ => none

def shiftV (op : BinOp) (k : IntKind) (a b : Int) : Option V :=
  if b < 0 then none else
  match op with
  | .shl => some (.c (.int k (k.wrap (a * 2 ^ (min b.toNat k.bits)))))
  | .shr => some (.c (.int k (a.fdiv (2 ^ (min b.toNat k.bits)))))
  | _ => none

def strV (op : BinOp) (a b : ByteArray) : Option V :=
  match op with
  | .eql => some (.c (.bool (a.data.toList == b.data.toList)))
  | .neq => some (.c (.bool (!(a.data.toList == b.data.toList))))
  | .lss => some (.c (.bool (Op.bytesLess a.data.toList b.data.toList)))
  | .gtr => some (.c (.bool (!(Op.bytesLess a.data.toList b.data.toList || a.data.toList == b.data.toList))))
  | _ => none

def boolV (D : Tab) (op : BinOp) (t : TypeId) (a b : Bool) : Option V :=
  match D.at t with
  | some i => match i.d, op with
    | .bool, .eql => some (.c (.bool (a == b)))
    | .bool, .neq => some (.c (.bool (!(a == b))))
    | _, _ => none
  | none => none

def aggV (D : Tab) (op : BinOp) (t : TypeId) (xs ys : List V) : Option V :=
  match D.at t with
  | some i => match i.d, op, i.cmp with
    | .struct fs, .eql, true => (eqFs D fs xs ys).map fun b => .c (.bool b)
    | .struct fs, .neq, true => (eqFs D fs xs ys).map fun b => .c (.bool (!b))
    | _, _, _ => none
  | none => none

/-- operations of two plain values -/
def binV (D : Tab) (op : BinOp) (t : TypeId) : V → V → Option V
  | .c (.int k a), .c (.int k' b) =>
    match op with
    | .shl => shiftV .shl k a b
    | .shr => shiftV .shr k a b
    | op => if k = k' then intV op k a b else none
  | .c (.string a), .c (.string b) => strV op a b
  | .c (.bool a), .c (.bool b) => boolV D op t a b
  | .agg xs, .agg ys => aggV D op t xs ys
  | _, _ => none

theorem RV.agg_inv {ρ : Nat → Option Value} {S : Nat → Prop} {w : World} {v : Value} {cells : List V} (h : RV ρ S w v (.agg cells)) :
    ∃ arr, v = .agg arr ∧ arr.size = cells.length ∧ (∀ (j : Nat) (c : Value), arr[j]? = some c → c.oneCell' = true) ∧ ∀ (j : Nat) (x : V), cells[j]? = some x → ∃ c, arr[j]? = some c ∧ RV ρ S w c x := by
  cases h with
  | agg arr _ hsz h1 hr =>
    refine ⟨arr, rfl, hsz, h1, fun j x hx => ?_⟩
    have hj : j < arr.size := by rw [hsz]; exact (List.getElem?_eq_some_iff.1 hx).1
    exact ⟨arr[j], Array.getElem?_eq_getElem hj, hr j x _ hx (Array.getElem?_eq_getElem hj)⟩

theorem run_part_one {t : TypeId} {i : Ty} (h : TyAt P t i) (ha : i.d.agg = false) {cs : Array Value} {o : Nat} {v : Value} (hv : cs[o]? = some v) (w : World) : (part t cs o).run P w = .ok v w := by
  simp [part, h.isAgg w, ha, hv]

theorem eqOne_sound {t : TypeId} {i : Ty} (ht : TyAt P t i) {x y : V} {q : Bool} (h : eqOne i.d x y = some q) {ρ : Nat → Option Value} {S : Nat → Prop} {w : World} {c1 c2 : Value} {d : Nat}
    (hx : RV ρ S w c1 x) (hy : RV ρ S w c2 y) : (Op.equalIn (d + 1) t c1 c2).run P w = .ok q w ∧ i.d.agg = false := by
  obtain ⟨_, ⟨dd, u1, u2⟩, _⟩ := ht
  generalize i.d = td at *
  unfold eqOne at h
  split at h
  · split at h
    · cases h; cases hx; cases hy; subst_vars
      refine ⟨?_, rfl⟩
      cases dd <;> simp only [TD.is] at u2
      exact run_equalIn_int w d t _ _ _ _ u1
    · cases h
  · cases h; cases hx; cases hy
    refine ⟨?_, rfl⟩
    cases dd <;> simp only [TD.is] at u2
    rw [run_equalIn_string w d t _ _ u1, toList_eq, toList_eq]
  · cases h; cases hx; cases hy
    refine ⟨?_, rfl⟩
    cases dd <;> simp only [TD.is] at u2
    rw [run_equalIn_bool w d t _ _ u1]
  · cases h

theorem eqFs_sound {D : Tab} (hD : TabOk P D) {ρ : Nat → Option Value} {S : Nat → Prop} {w : World} {xs ys : List V} {ax ay : Array Value} {d : Nat}
    (hx : ∀ (j : Nat) (x : V), xs[j]? = some x → ∃ c, ax[j]? = some c ∧ RV ρ S w c x) (hy : ∀ (j : Nat) (x : V), ys[j]? = some x → ∃ c, ay[j]? = some c ∧ RV ρ S w c x)
    (fields : List Field) : ∀ {b : Bool}, (∀ f, f ∈ fields → f.name ≠ "_") → eqFs D (fields.map fun f => (f.offset, f.type)) xs ys = some b → (Op.eqFields (d + 1) ax ay fields).run P w = .ok b w := by
  induction fields with
  | nil => intro b _ h; simp [eqFs] at h; subst h; simp [Op.eqFields]
  | cons f fields ih =>
    intro b hn h
    have hname : f.name ≠ "_" := hn f (by simp)
    simp only [List.map_cons, eqFs, Option.bind_eq_some_iff, Option.map_eq_some_iff] at h
    obtain ⟨q, hq, r, hr, rfl⟩ := h
    have ih' := ih (fun g hg => hn g (List.mem_cons_of_mem _ hg)) hr
    unfold eqAt at hq
    split at hq
    · rename_i i x y hty h1 h2
      obtain ⟨c1, e1, r1⟩ := hx _ _ h1
      obtain ⟨c2, e2, r2⟩ := hy _ _ h2
      obtain ⟨he, ha⟩ := eqOne_sound (hD _ _ hty) hq r1 r2 (d := d)
      simp only [Op.eqFields, if_pos hname, Sem.run_bind, run_part_one (hD _ _ hty) ha e1 w, Result.andThen_ok, run_part_one (hD _ _ hty) ha e2 w, he, Sem.run_ite, ih']
      cases q <;> simp
    · cases hq

theorem intV_sound {op : BinOp} {k : IntKind} {a b : Int} {v : V} {t : TypeId} {x y : Operand} {w : World} (h : intV op k a b = some v) :
    ∃ r, (do eqGuard op t x y (.int k a) (.int k b); binOp op t (.int k a) (.int k b) : Sem Value).run P w = .ok r w ∧ v = .c r := by
  cases op <;> simp only [intV] at h <;> first
    | (cases h; done)
    | (split at h
       · cases h
       · cases h
         refine ⟨_, ?_, rfl⟩
         simp_all [go_sem, Op.intDiv])
    | (cases h
       refine ⟨_, ?_, rfl⟩
       simp [go_sem, Op.intArith])

theorem shiftV_sound {op : BinOp} {k k' : IntKind} {a b : Int} {v : V} {t : TypeId} {x y : Operand} {w : World} (h : shiftV op k a b = some v) :
    ∃ r, (do eqGuard op t x y (.int k a) (.int k' b); binOp op t (.int k a) (.int k' b) : Sem Value).run P w = .ok r w ∧ v = .c r := by
  unfold shiftV at h
  split at h
  · cases h
  · rename_i hb
    cases op <;> simp only at h <;> first
      | (cases h; done)
      | (cases h
         refine ⟨_, ?_, rfl⟩
         simp only [Sem.run_bind, eqGuard_shl, eqGuard_shr, Sem.run_pure, Result.andThen_ok, binOp_shl, binOp_shr, Op.shift, if_neg hb])

theorem strV_sound {op : BinOp} {a b : ByteArray} {v : V} {t : TypeId} {x y : Operand} {w : World} (h : strV op a b = some v) :
    ∃ r, (do eqGuard op t x y (.string a) (.string b); binOp op t (.string a) (.string b) : Sem Value).run P w = .ok r w ∧ v = .c r := by
  cases op <;> simp only [strV] at h <;> first
    | (cases h; done)
    | (cases h
       refine ⟨_, ?_, rfl⟩
       simp [go_sem, binOp, Op.stringOp, toList_eq])

theorem boolV_sound {D : Tab} (hD : TabOk P D) {op : BinOp} {a b : Bool} {v : V} {t : TypeId} {x y : Operand} {w : World} (h : boolV D op t a b = some v) :
    ∃ r, (do eqGuard op t x y (.bool a) (.bool b); binOp op t (.bool a) (.bool b) : Sem Value).run P w = .ok r w ∧ v = .c r := by
  unfold boolV at h
  split at h
  · rename_i i hty
    obtain ⟨_, ⟨d, h1, h2⟩, _⟩ := hD _ _ hty
    split at h
    all_goals first
      | (cases h; done)
      | (rename_i hd
         rw [hd] at h2
         have : d = .bool := by cases d <;> simp_all [TD.is]
         subst this
         cases h
         refine ⟨_, ?_, rfl⟩
         simp [go_sem, run_eql_bool w t _ _ h1, run_neq_bool w t _ _ h1])
  · cases h

theorem aggV_sound {D : Tab} (hD : TabOk P D) {op : BinOp} {t : TypeId} {x y : Operand} {a b : List V} {v : V} (h : aggV D op t a b = some v) {u u' : Value} {ρ : Nat → Option Value} {S : Nat → Prop} {w : World}
    (ha : RV ρ S w u (.agg a)) (hb : RV ρ S w u' (.agg b)) : ∃ r, (do eqGuard op t x y u u'; binOp op t u u' : Sem Value).run P w = .ok r w ∧ v = .c r := by
  unfold aggV at h
  split at h
  · rename_i i hty
    have ty := hD _ _ hty
    obtain ⟨ax, rfl, _, _, hx⟩ := ha.agg_inv
    obtain ⟨ay, rfl, _, _, hy⟩ := hb.agg_inv
    obtain ⟨_, ⟨d, h1, h2⟩, h3⟩ := ty
    split at h
    all_goals first
      | (cases h; done)
      | (rename_i fs hd hc
         obtain ⟨s1, s2, s3⟩ := h3 hc
         rw [hd] at h2
         obtain ⟨fields, rfl⟩ : ∃ fields, d = .struct fields := by cases d <;> simp_all [TD.is]
         have h1' : P.underlying t = some (.struct (P.fieldsOf t)) := by simp [Program.fieldsOf, h1]
         have hf : P.fieldsOf t = fields := by simp [Program.fieldsOf, h1]
         rw [hf] at s3
         simp only [TD.is] at h2
         rw [Option.map_eq_some_iff] at h
         obtain ⟨q, hq, rfl⟩ := h
         rw [← h2] at hq
         have he := run_equalIn_struct w 9999 t ax ay h1' s1
         rw [hf, eqFs_sound hD hx hy (d := 9998) _ s3 hq] at he
         refine ⟨_, ?_, rfl⟩
         simp only [Sem.run_bind, run_eqGuard_agg w _ t x y ax ay s2, Result.andThen_ok, run_eql_struct, run_neq_struct, he])
  · cases h

theorem binV_sound {D : Tab} (hD : TabOk P D) {op : BinOp} {t : TypeId} {x y : Operand} {a b v : V} (h : binV D op t a b = some v) {u u' : Value} {ρ : Nat → Option Value} {S : Nat → Prop} {w : World}
    (ha : RV ρ S w u a) (hb : RV ρ S w u' b) : ∃ r, (do eqGuard op t x y u u'; binOp op t u u' : Sem Value).run P w = .ok r w ∧ v = .c r := by
  unfold binV at h
  split at h
  · cases ha; cases hb
    split at h
    · exact shiftV_sound h
    · exact shiftV_sound h
    · split at h
      · subst_vars; exact intV_sound h
      · cases h
  · cases ha; cases hb; exact strV_sound h
  · cases ha; cases hb; exact boolV_sound hD h
  · exact aggV_sound hD h ha hb
  · cases h

end
end Go.Av
