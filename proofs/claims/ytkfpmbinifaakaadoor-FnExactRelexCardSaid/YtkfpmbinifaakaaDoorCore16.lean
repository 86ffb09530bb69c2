/-
  Core16: regions whose order is drawn: one order proved, and what the operations touch compared, serves every order.
-/
import Derived.Test.YtkfpmbinifaakaaDoorCore15
namespace Go.Av

/-- what an operation does: its value, the objects it looks at, gives up, lays anew, the new names -/
structure Eff where
  v : V := .junk
  R : List Nat := []
  C : List Nat := []
  new : Hp := []
  N : List Nat := []
  deriving Inhabited

/-- nothing done -/
abbrev Eff.und : Eff := { v := V.und }

def Eff.touch (E : Eff) (x : Nat) : Bool := E.C.contains x || (look E.new x).isSome

section
variable {P : Program} {G : Nat → Option (List V)}

/-- an operation, whatever the other objects -/
def OpOkL (P : Program) (G : Nat → Option (List V)) (o : Oper) (ei : Operand → V) (E : Eff) (Hi : Hp) : Prop :=
  ∀ e H, (∀ x, x ∈ o.op.operands → e x = ei x) → (∀ x, x ∈ E.R ∨ E.touch x = true → look H x = look Hi x) → (E.N.all fun i => !hasH i H) = true → OpOk P G o e H E.v (E.new ++ hrem E.C H) E.N

/-- the operations from place i on, in the text's order -/
inductive Chain (P : Program) (G : Nat → Option (List V)) (ops : Array Oper) : Nat → List V → Hp → List (Bool × Eff) → List V → Hp → Prop
  | nil (i : Nat) (T : List V) (H : Hp) (h : ops.size ≤ i) : Chain P G ops i T H [] T H
  | op {i : Nat} {T : List V} {H : Hp} {o : Oper} {E : Eff} {Es : List (Bool × Eff)} {T' : List V} {H' : Hp} (ho : ops[i]? = some o) (hw : wantV ops T o.guard = some true)
      (hop : OpOkL P G o (ev G T) E H) (rest : Chain P G ops (i + 1) (setO T o.dst E.v) (E.new ++ hrem E.C H) Es T' H') : Chain P G ops i T H ((true, E) :: Es) T' H'
  | skip {i : Nat} {T : List V} {H : Hp} {o : Oper} {Es : List (Bool × Eff)} {T' : List V} {H' : Hp} (ho : ops[i]? = some o) (hw : wantV ops T o.guard = some false)
      (rest : Chain P G ops (i + 1) (setO T o.dst V.und) H Es T' H') : Chain P G ops i T H ((false, Eff.und) :: Es) T' H'

theorem look_app (A B : Hp) (x : Nat) : look (A ++ B) x = match look A x with | some o => some o | none => look B x := by
  induction A with
  | nil => rfl
  | cons p A ih =>
    obtain ⟨j, o⟩ := p
    simp only [List.cons_append, look]
    split
    · rfl
    · exact ih

theorem look_eff (E : Eff) (H : Hp) (x : Nat) : look (E.new ++ hrem E.C H) x = if E.touch x = true then look E.new x else look H x := by
  rw [look_app, look_hrem]
  unfold Eff.touch
  cases h : look E.new x with
  | some o => simp
  | none => by_cases hc : x ∈ E.C <;> simp [hc]

theorem hasH_app (x : Nat) (A B : Hp) : hasH x (A ++ B) = (hasH x A || hasH x B) := by
  induction A with
  | nil => rfl
  | cons p A ih => obtain ⟨j, o⟩ := p; simp [hasH, ih, Bool.or_assoc]

theorem hasH_hrem {x : Nat} {C : List Nat} {H : Hp} (h : hasH x (hrem C H) = true) : hasH x H = true := by
  induction H with
  | nil => exact h
  | cons p H ih =>
    obtain ⟨j, o⟩ := p
    unfold hrem at h ih
    rw [List.filter_cons] at h
    simp only [hasH, Bool.or_eq_true]
    split at h
    · simp only [hasH, Bool.or_eq_true] at h
      exact h.imp id ih
    · exact .inr (ih h)

theorem hasL_set {x d : Nat} {v : V} {T : List V} (h : V.hasL x (T.set d v) = true) : V.hasL x T = true ∨ v.has x = true := by
  induction T generalizing d with
  | nil => exact .inl h
  | cons y T ih =>
    cases d with
    | zero =>
      simp only [List.set_cons_zero, V.hasL, Bool.or_eq_true] at h ⊢
      rcases h with h | h
      · exact .inr h
      · exact .inl (.inr h)
    | succ d =>
      simp only [List.set_cons_succ, V.hasL, Bool.or_eq_true] at h ⊢
      rcases h with h | h
      · exact .inl (.inl h)
      · exact (ih h).imp .inr id

/-! ### who comes before whom -/
/-- the operations ahead of each, as bits -/
def cloStep (acc : List Nat) (o : Oper) : Nat := o.after.toList.foldl (fun m e => if Region.binds .any e then (m ||| (1 <<< e.on)) ||| acc.getD e.on 0 else m) 0
def cloL : List Oper → List Nat → List Nat
  | [], acc => acc
  | o :: l, acc => cloL l (acc ++ [cloStep acc o])

/-- closed under what comes before -/
def Down (ops : Array Oper) (L : Nat → Prop) : Prop := ∀ i o e, L i → ops[i]? = some o → e ∈ o.after → Region.binds .any e = true → L e.on

theorem cloStep_spec {acc : List Nat} {o : Oper} {j : Nat} (h : (cloStep acc o).testBit j = true) : ∃ e, e ∈ o.after ∧ Region.binds .any e = true ∧ (j = e.on ∨ (acc.getD e.on 0).testBit j = true) := by
  unfold cloStep at h
  have key : ∀ (l : List Edge) (m : Nat), (l.foldl (fun m e => if Region.binds .any e then (m ||| (1 <<< e.on)) ||| acc.getD e.on 0 else m) m).testBit j = true →
      m.testBit j = true ∨ ∃ e, e ∈ l ∧ Region.binds .any e = true ∧ (j = e.on ∨ (acc.getD e.on 0).testBit j = true) := by
    intro l
    induction l with
    | nil => intro m h; exact .inl h
    | cons e l ih =>
      intro m h
      rw [List.foldl_cons] at h
      rcases ih _ h with h | ⟨e', h1, h2⟩
      · split at h
        · rename_i hb
          rw [Nat.testBit_or, Nat.testBit_or, Nat.one_shiftLeft, Nat.testBit_two_pow] at h
          simp only [Bool.or_eq_true, decide_eq_true_eq] at h
          rcases h with (h | h) | h
          · exact .inl h
          · exact .inr ⟨e, by simp, hb, .inl h.symm⟩
          · exact .inr ⟨e, by simp, hb, .inr h⟩
        · exact .inl h
      · exact .inr ⟨e', by simp [h1], h2⟩
  rcases key o.after.toList 0 h with h | ⟨e, h1, h2⟩
  · simp at h
  · exact ⟨e, by simpa using h1, h2⟩

theorem cloL_spec {ops : Array Oper} {L : Nat → Prop} (hL : Down ops L) : ∀ (l : List Oper) (acc : List Nat), ops.toList = ops.toList.take acc.length ++ l → acc.length ≤ ops.size →
    (∀ i j o, i < acc.length → ops[i]? = some o → (∀ e, e ∈ o.after → Region.binds .any e = true → L e.on) → (acc.getD i 0).testBit j = true → L j) →
    ∀ i j o, ops[i]? = some o → (∀ e, e ∈ o.after → Region.binds .any e = true → L e.on) → ((cloL l acc).getD i 0).testBit j = true → L j
  | [], acc, hl, hle, h, i, j, o, ho, hd, hb => by
    have : i < acc.length := by
      rcases Nat.lt_or_ge i acc.length with h' | h'
      · exact h'
      · simp only [cloL, List.getD_eq_getElem?_getD, List.getElem?_eq_none h'] at hb; simp at hb
    exact h i j o this ho hd hb
  | o' :: l, acc, hl, hle, h, i, j, o, ho, hd, hb => by
    have hsz : acc.length < ops.size := by
      have := congrArg List.length hl
      simp only [Array.length_toList, List.length_append, List.length_take, List.length_cons] at this
      omega
    have ho' : ops[acc.length]? = some o' := by
      have h1 : ops.toList[acc.length]? = some o' := by
        rw [hl, List.getElem?_append_right (by simp; omega)]
        simp
        rw [show acc.length - min acc.length ops.size = 0 by omega]
        rfl
      simpa using h1
    refine cloL_spec hL l (acc ++ [cloStep acc o']) ?_ (by simp; omega) ?_ i j o ho hd hb
    · rw [List.length_append, List.length_singleton]
      have h2 : ops.toList.take (acc.length + 1) = ops.toList.take acc.length ++ [o'] := by
        rw [List.take_add_one]
        have : ops.toList[acc.length]? = some o' := by simpa using ho'
        rw [this]; rfl
      rw [h2, List.append_assoc]
      exact hl
    · intro i j o hi ho hd hb
      rw [List.length_append, List.length_singleton] at hi
      rw [List.getD_eq_getElem?_getD] at hb
      by_cases he : i = acc.length
      · subst he
        rw [List.getElem?_append_right (Nat.le_refl _)] at hb
        simp only [Nat.sub_self, List.getElem?_cons_zero, Option.getD_some] at hb
        rw [ho'] at ho
        cases ho
        obtain ⟨e, h1, h2, h3⟩ := cloStep_spec hb
        rcases h3 with rfl | h3
        · exact hd e h1 h2
        · have hlt : e.on < acc.length := by
            rcases Nat.lt_or_ge e.on acc.length with h' | h'
            · exact h'
            · simp only [List.getD_eq_getElem?_getD, List.getElem?_eq_none h'] at h3; simp at h3
          obtain ⟨oe, hoe⟩ : ∃ oe, ops[e.on]? = some oe := ⟨_, Array.getElem?_eq_getElem (by omega)⟩
          exact h e.on j oe hlt hoe (fun e' he' hb' => hL _ oe e' (hd e h1 h2) hoe he' hb') h3
      · rw [List.getElem?_append_left (by omega)] at hb
        exact h i j o (by omega) ho hd (by rw [List.getD_eq_getElem?_getD]; exact hb)

/-- do the two have nothing to do with one another -/
def apartE (ops : Array Oper) (x y : Oper) (E F : Eff) : Bool :=
  (match x.dst with | some d => !(y.looksAt ops).contains d | none => true) && (match y.dst with | some d => !(x.looksAt ops).contains d | none => true) &&
  F.R.all (fun i => !E.touch i) && E.R.all (fun i => !F.touch i) && E.C.all (fun i => !F.touch i) && F.C.all (fun i => !E.touch i) && E.new.all (fun p => !F.touch p.1) && F.new.all (fun p => !E.touch p.1) &&
  E.N.all (fun i => !F.v.has i && !hasH i F.new)

def pairOk (ops : Array Oper) (clo : List Nat) (Es : List (Bool × Eff)) (i j : Nat) : Bool :=
  match ops[i]?, ops[j]?, Es[i]?, Es[j]? with
  | some x, some y, some (_, E), some (_, F) =>
    (match x.dst, y.dst with | some d, some d' => d != d' | _, _ => true) && F.N.all (fun k => !E.v.has k && !hasH k E.new) && ((clo.getD j 0).testBit i || apartE ops x y E F)
  | _, _, _, _ => false

def okAny (ops : Array Oper) (T0 : List V) (H0 : Hp) (Es : List (Bool × Eff)) : Bool :=
  let clo := cloL ops.toList []
  (List.range ops.size).all fun j =>
    (match ops[j]? with | some o => o.after.all fun e => !Region.binds .any e || Nat.blt e.on j | none => false) &&
    (match Es[j]? with | some (_, E) => E.N.all fun i => Nat.ble 100 i && !V.hasL i T0 && !hasH i H0 | none => false) &&
    (List.range j).all fun i => pairOk ops clo Es i j

end
end Go.Av
