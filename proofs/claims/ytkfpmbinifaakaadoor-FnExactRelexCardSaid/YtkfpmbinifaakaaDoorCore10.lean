/-
  Core10: the walk's own form: operations from a place on, many at once; the rules of code.
-/
import Derived.Test.YtkfpmbinifaakaaDoorCore9
namespace Go.Av

section
variable {P : Program} {G : Nat → Option (List V)} {L : Option Nat} {B : Nat}

/-- is the operation wanted: what its guard says -/
def wantV (ops : Array Oper) (T : List V) : Option (Nat × Bool) → Option Bool
  | none => some true
  | some (j, b) => (gval ops T j).map fun b' => b' == some b

def setO (T : List V) (d : Option Tmp) (v : V) : List V := match d with | some t => T.set t v | none => T

/-- n operations from place i on, all of them such as stepV runs -/
def runI (D : Tab) (G : Nat → Option (List V)) (ops : Array Oper) (H : Hp) : Nat → Nat → List V → Option (List V)
  | 0, _, T => some T
  | n + 1, i, T =>
    match ops[i]? with
    | none => none
    | some o => match wantV ops T o.guard with
      | some true => match stepV D H (ev G T) o.op with
        | some v => runI D G ops H n (i + 1) (setO T o.dst v)
        | none => none
      | some false => runI D G ops H n (i + 1) (setO T o.dst V.und)
      | none => none

/-- the operations of a region from place i on -/
def At (P : Program) (G : Nat → Option (List V)) (ops : Array Oper) (i : Nat) (T : List V) (H : Hp) (Q : St → Prop) : Prop := OpsOk P G ops (ops.toList.drop i) ⟨T, H⟩ Q

theorem OpsOk.step {ops : Array Oper} {o : Oper} {l : List Oper} {st : St} {Q : St → Prop} {v : V} {H' : Hp} {N : List Nat} (hw : wantV ops st.T o.guard = some true) (hop : OpOk P G o (ev G st.T) st.H v H' N) (hN : fresh N st = true)
    (h : OpsOk P G ops l (st.put o.dst v H') Q) : OpsOk P G ops (o :: l) st Q := by
  unfold OpsOk
  unfold wantV at hw
  cases hg : o.guard with
  | none => exact ⟨v, H', N, hN, hop, h⟩
  | some jb =>
    obtain ⟨j, b⟩ := jb
    rw [hg] at hw
    simp only [Option.map_eq_some_iff] at hw
    obtain ⟨b', h1, h2⟩ := hw
    exact ⟨b', h1, .inl ⟨by simpa using h2, v, H', N, hN, hop, h⟩⟩

theorem OpsOk.pass {ops : Array Oper} {o : Oper} {l : List Oper} {st : St} {Q : St → Prop} (hw : wantV ops st.T o.guard = some false) (h : OpsOk P G ops l (st.put o.dst V.und st.H) Q) : OpsOk P G ops (o :: l) st Q := by
  unfold OpsOk
  unfold wantV at hw
  cases hg : o.guard with
  | none => rw [hg] at hw; cases hw
  | some jb =>
    obtain ⟨j, b⟩ := jb
    rw [hg] at hw
    simp only [Option.map_eq_some_iff] at hw
    obtain ⟨b', h1, h2⟩ := hw
    exact ⟨b', h1, .inr ⟨by simpa using h2, h⟩⟩

theorem drop_at {ops : Array Oper} {i : Nat} {o : Oper} (h : ops[i]? = some o) : ops.toList.drop i = o :: ops.toList.drop (i + 1) := by
  have h' : ops.toList[i]? = some o := by simpa using h
  obtain ⟨h1, h2⟩ := List.getElem?_eq_some_iff.1 h'
  rw [List.drop_eq_getElem_cons h1, h2]

theorem At.runSome {D : Tab} (hD : TabOk P D) {ops : Array Oper} {H : Hp} {Q : St → Prop} : ∀ (n : Nat) {i : Nat} {T T' : List V}, runI D G ops H n i T = some T' → At P G ops (i + n) T' H Q → At P G ops i T H Q
  | 0, i, T, T', h, k => by simp only [runI, Option.some.injEq] at h; subst h; exact k
  | n + 1, i, T, T', h, k => by
    simp only [runI] at h
    split at h
    · cases h
    · rename_i o ho
      unfold At
      rw [drop_at ho]
      split at h
      · rename_i hw
        split at h
        · rename_i v hv
          refine OpsOk.step (st := ⟨T, H⟩) hw (stepV_sound hD hv) rfl ?_
          exact At.runSome hD n h (by rw [show i + 1 + n = i + (n + 1) by omega]; exact k)
        · cases h
      · rename_i hw
        refine OpsOk.pass (st := ⟨T, H⟩) hw ?_
        exact At.runSome hD n h (by rw [show i + 1 + n = i + (n + 1) by omega]; exact k)
      · cases h

/-- what the slots hold behind a run -/
def aft (D : Tab) (G : Nat → Option (List V)) (ops : Array Oper) (H : Hp) (n i : Nat) (T : List V) : List V := (runI D G ops H n i T).getD []

theorem At.run {D : Tab} (hD : TabOk P D) {ops : Array Oper} {H : Hp} {Q : St → Prop} (n : Nat) {i : Nat} {T : List V} (h : (runI D G ops H n i T).isSome = true) (k : At P G ops (i + n) (aft D G ops H n i T) H Q) : At P G ops i T H Q := by
  obtain ⟨T', hT⟩ := Option.isSome_iff_exists.1 h
  refine At.runSome hD n hT ?_
  unfold aft at k
  rw [hT] at k
  exact k

theorem At.fin {ops : Array Oper} {H : Hp} {Q : St → Prop} {i : Nat} {T : List V} (h : ops.size ≤ i) (k : Q ⟨T, H⟩) : At P G ops i T H Q := by
  unfold At
  rw [List.drop_of_length_le (by simpa using h)]
  exact k

def opAt (ops : Array Oper) (i : Nat) (T : List V) : Option (Op × Option Tmp) :=
  match ops[i]? with
  | some o => match wantV ops T o.guard with
    | some true => some (o.op, o.dst)
    | _ => none
  | none => none

theorem At.op {ops : Array Oper} {H H' : Hp} {Q : St → Prop} {i : Nat} {T : List V} {op : Op} {d : Option Tmp} {v : V} {N : List Nat} (h : opAt ops i T = some (op, d))
    (hop : ∀ o : Oper, o.op = op → OpOk P G o (ev G T) H v H' N) (hN : fresh N ⟨T, H⟩ = true) (k : At P G ops (i + 1) (setO T d v) H' Q) : At P G ops i T H Q := by
  unfold opAt at h
  split at h
  · rename_i o ho
    split at h
    · rename_i hw
      cases h
      unfold At
      rw [drop_at ho]
      exact OpsOk.step (st := ⟨T, H⟩) hw (hop o rfl) hN k
    · cases h
  · cases h

theorem set_self {α : Type} : ∀ {l : List α} {i : Nat} {a : α}, l[i]? = some a → l.set i a = l
  | [], _, _, _ => rfl
  | x :: l, 0, a, h => by simp at h; subst h; rfl
  | x :: l, i + 1, a, h => by simp at h; simp [set_self h]

/-- a test is decided -/
theorem At.bool {ops : Array Oper} {i : Nat} {T : List V} {H : Hp} {Q : St → Prop} (d : Nat) (b : Bool) (hd : T[d]? = some (.c (.bool b)))
    (ht : b = true → At P G ops i (T.set d (.c (.bool true))) H Q) (hf : b = false → At P G ops i (T.set d (.c (.bool false))) H Q) : At P G ops i T H Q := by
  cases b with
  | true => have := ht rfl; rwa [set_self hd] at this
  | false => have := hf rfl; rwa [set_self hd] at this

/-- a slot's value, told otherwise -/
theorem At.val {ops : Array Oper} {i : Nat} {T : List V} {H : Hp} {Q : St → Prop} (d : Nat) (v v' : V) (hd : T[d]? = some v) (hv : v = v') (k : At P G ops i (T.set d v') H Q) : At P G ops i T H Q := by
  subst hv
  rwa [set_self hd] at k

theorem CodeOk.val {c : Code} {T : List V} {H : Hp} {Q : Exit → St → Prop} (d : Nat) (v v' : V) (hd : T[d]? = some v) (hv : v = v') (k : CodeOk L P G c ⟨T.set d v', H⟩ Q) : CodeOk L P G c ⟨T, H⟩ Q := by
  subst hv
  rwa [set_self hd] at k

theorem CodeOk.reg {id : Nat} {l : List Oper} {T : List V} {H : Hp} {Q : Exit → St → Prop} (h : At P G l.toArray 0 T H (Q .normal)) : CodeOk L P G (.region id l.toArray false) ⟨T, H⟩ Q :=
  CodeOk.region (by simpa [At] using h)

/-- a region, then the rest -/
theorem CodeOk.sreg {id : Nat} {l : List Oper} {c : Code} {T : List V} {H : Hp} {Q : Exit → St → Prop} (h : At P G l.toArray 0 T H fun st => CodeOk L P G c st Q) : CodeOk L P G (.seq (.region id l.toArray false) c) ⟨T, H⟩ Q :=
  CodeOk.seq (CodeOk.reg h)

/-- a test, then the rest, once for each way -/
theorem CodeOk.ifc {x : Operand} {c1 c2 : Code} {T : List V} {H : Hp} {Q : Exit → St → Prop} (b : Bool) (hb : ev G T x = .c (.bool b))
    (ht : b = true → CodeOk L P G c1 ⟨T, H⟩ Q) (hf : b = false → CodeOk L P G c2 ⟨T, H⟩ Q) : CodeOk L P G (.cond x c1 c2) ⟨T, H⟩ Q := CodeOk.cond hb ht hf

/-! ### a call of a function that leaves the objects alone -/
def callI (G : Nat → Option (List V)) (ops : Array Oper) (i : Nat) (T : List V) : Option (FuncId × List V × Option Tmp) :=
  match opAt ops i T with
  | some (.call { callee := .value f, args := as, argTypes := _ }, d) => match ev G T f with
    | .fn fid caps => some (fid, as.toList.map (ev G T) ++ caps, d)
    | _ => none
  | _ => none

theorem SubT.refl_of_rn {m : Ren} : ∀ {vs : List V}, V.rnL m vs = vs → SubT m vs vs
  | [], _ => trivial
  | x :: vs, h => by
    simp only [V.rnL, List.cons.injEq] at h
    exact ⟨.inr h.1, SubT.refl_of_rn h.2⟩

theorem At.call {ops : Array Oper} {H : Hp} {Q : St → Prop} {i : Nat} {T : List V} {fid : FuncId} {vs : List V} {d : Option Tmp} {r : V} (h : AC P G fid vs [] r []) (hc : callI G ops i T = some (fid, vs, d))
    (hcf : callOk P fid) (hvs : V.rnL [] vs = vs) (hr : r.rn [] = r) (k : At P G ops (i + 1) (setO T d r) H Q) : At P G ops i T H Q := by
  unfold callI at hc
  split at hc
  · rename_i f as _ d' ho
    split at hc
    · rename_i fid' caps hf
      cases hc
      exact At.op ho (fun o e => OpOk.call e hf hcf h (CallFits.pure hr (SubT.refl_of_rn hvs)) rfl) rfl k
    · cases hc
  · cases hc

/-! ### the end of a function -/
theorem Ends.tmp {fn : Func} {t : Tmp} {r : V} {T : List V} {H : Hp} {e : Exit} (he : e = .normal ∨ e = .ret) (h : fn.results = #[.tmp t]) (ht : T[t]? = some r) (hr : r.rn [] = r) : Ends P fn r [] e ⟨T, H⟩ :=
  ⟨he, r, RetV.tmp h ht, Weak.rn [] rfl rfl ⟨.inr hr, trivial⟩ trivial⟩

end
end Go.Av
