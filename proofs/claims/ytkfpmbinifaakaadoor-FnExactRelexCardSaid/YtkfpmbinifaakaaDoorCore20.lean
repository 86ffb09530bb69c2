/-
  Core20: the walk's form for all regions, in the text's order or drawn.
-/
import Derived.Test.YtkfpmbinifaakaaDoorCore19
namespace Go.Av

section
variable {P : Program} {G : Nat → Option (List V)} {L : Option Nat} {B : Nat}

/-- new names are new, all along -/
def okText (ops : Array Oper) : Nat → List V → Hp → List (Bool × Eff) → Bool
  | _, _, _, [] => true
  | i, T, H, (b, E) :: Es => match ops[i]? with
    | some o => bif b then fresh E.N ⟨T, H⟩ && okText ops (i + 1) (setO T o.dst E.v) (E.new ++ hrem E.C H) Es else okText ops (i + 1) (setO T o.dst V.und) H Es
    | none => false

def okR (draw : Bool) (ops : Array Oper) (T0 : List V) (H0 : Hp) (Es : List (Bool × Eff)) : Bool := bif draw then okAny ops T0 H0 Es else okText ops 0 T0 H0 Es

theorem Chain.opsOk {ops : Array Oper} {i : Nat} {T : List V} {H : Hp} {tail : List (Bool × Eff)} {T' : List V} {H' : Hp} {Q : St → Prop} (h : Chain P G ops i T H tail T' H') : okText ops i T H tail = true → Q ⟨T', H'⟩ → OpsOk P G ops (ops.toList.drop i) ⟨T, H⟩ Q := by
  induction h with
  | nil i T H h =>
    intro _ hq
    rw [List.drop_of_length_le (by simpa using h)]
    exact hq
  | @op i T H o E tl T' H' ho hw hop rest ih =>
    intro hk hq
    simp only [okText, ho, cond_true, Bool.and_eq_true] at hk
    rw [drop_at ho]
    refine OpsOk.step (st := ⟨T, H⟩) hw (hop (ev G T) H (fun _ _ => rfl) (fun _ _ => rfl) (List.all_eq_true.2 fun k hkk => by rw [(fresh_spec hk.1 hkk).2.2]; rfl)) hk.1 ?_
    have := ih hk.2 hq
    have e : (St.put ⟨T, H⟩ o.dst E.v (E.new ++ hrem E.C H)) = ⟨setO T o.dst E.v, E.new ++ hrem E.C H⟩ := by cases o.dst <;> rfl
    rw [e]; exact this
  | @skip i T H o tl T' H' ho hw rest ih =>
    intro hk hq
    simp only [okText, ho, cond_false] at hk
    rw [drop_at ho]
    refine OpsOk.pass (st := ⟨T, H⟩) hw ?_
    have := ih hk hq
    have e : (St.put ⟨T, H⟩ o.dst V.und H) = ⟨setO T o.dst V.und, H⟩ := by cases o.dst <;> rfl
    rw [e]; exact this

/-- the operations of a region from place i on; Es: what was done before -/
def W (P : Program) (G : Nat → Option (List V)) (ops : Array Oper) (draw : Bool) (T0 : List V) (H0 : Hp) (i : Nat) (T : List V) (H : Hp) (Es : List (Bool × Eff)) (Q : St → Prop) : Prop :=
  ∃ tail T' H', Chain P G ops i T H tail T' H' ∧ okR draw ops T0 H0 (Es ++ tail) = true ∧ Q ⟨T', H'⟩

theorem W.fin {ops : Array Oper} {draw : Bool} {T0 : List V} {H0 : Hp} {i : Nat} {T : List V} {H : Hp} {Es : List (Bool × Eff)} {Q : St → Prop} (h : ops.size ≤ i) (hk : okR draw ops T0 H0 Es = true) (k : Q ⟨T, H⟩) : W P G ops draw T0 H0 i T H Es Q :=
  ⟨[], T, H, .nil i T H h, by rw [List.append_nil]; exact hk, k⟩

theorem CodeOk.w {id : Nat} {l : List Oper} {draw : Bool} {T : List V} {H : Hp} {Q : Exit → St → Prop} (hm : P.follows .mixedOrders = true) (h : W P G l.toArray draw T H 0 T H [] (Q .normal)) : CodeOk L P G (.region id l.toArray draw) ⟨T, H⟩ Q := by
  obtain ⟨tail, T', H', hc, hk, hq⟩ := h
  cases draw with
  | true => exact CodeOk.any hm hc hk hq
  | false => exact CodeOk.region (by simpa using hc.opsOk hk hq)

theorem CodeOk.sw {id : Nat} {l : List Oper} {draw : Bool} {c : Code} {T : List V} {H : Hp} {Q : Exit → St → Prop} (hm : P.follows .mixedOrders = true) (h : W P G l.toArray draw T H 0 T H [] fun st => CodeOk L P G c st Q) : CodeOk L P G (.seq (.region id l.toArray draw) c) ⟨T, H⟩ Q :=
  CodeOk.seq (CodeOk.w hm h)

/-- one operation, told by hand -/
theorem W.one {ops : Array Oper} {draw : Bool} {T0 : List V} {H0 : Hp} {i : Nat} {T : List V} {H : Hp} {Es : List (Bool × Eff)} {Q : St → Prop} {o : Oper} (E : Eff) (ho : ops[i]? = some o) (hw : wantV ops T o.guard = some true) (hop : OpOkL P G o (ev G T) E H)
    (k : W P G ops draw T0 H0 (i + 1) (setO T o.dst E.v) (E.new ++ hrem E.C H) (Es ++ [(true, E)]) Q) : W P G ops draw T0 H0 i T H Es Q := by
  obtain ⟨tail, T', H', hc, hk, hq⟩ := k
  exact ⟨(true, E) :: tail, T', H', .op ho hw hop hc, by rw [List.append_assoc] at hk; exact hk, hq⟩

theorem W.skip {ops : Array Oper} {draw : Bool} {T0 : List V} {H0 : Hp} {i : Nat} {T : List V} {H : Hp} {Es : List (Bool × Eff)} {Q : St → Prop} {o : Oper} (ho : ops[i]? = some o) (hw : wantV ops T o.guard = some false)
    (k : W P G ops draw T0 H0 (i + 1) (setO T o.dst V.und) H (Es ++ [(false, Eff.und)]) Q) : W P G ops draw T0 H0 i T H Es Q := by
  obtain ⟨tail, T', H', hc, hk, hq⟩ := k
  exact ⟨(false, Eff.und) :: tail, T', H', .skip ho hw hc, by rw [List.append_assoc] at hk; exact hk, hq⟩

structure Run where
  T : List V
  H : Hp
  Es : List (Bool × Eff)
  deriving Inhabited

/-- n operations from place i on, all computed; new names from q on -/
def runE (D : Tab) (G : Nat → Option (List V)) (ops : Array Oper) : Nat → Nat → Nat → List V → Hp → Option Run
  | 0, _, _, T, H => some ⟨T, H, []⟩
  | n + 1, q, i, T, H => match ops[i]? with
    | none => none
    | some o => match wantV ops T o.guard with
      | some true => match effV D q H (ev G T) o.op with
        | some E => match runE D G ops n (q + E.N.length) (i + 1) (setO T o.dst E.v) (E.new ++ hrem E.C H) with
          | some r => some ⟨r.T, r.H, (true, E) :: r.Es⟩
          | none => none
        | none => none
      | some false => match runE D G ops n q (i + 1) (setO T o.dst V.und) H with
        | some r => some ⟨r.T, r.H, (false, Eff.und) :: r.Es⟩
        | none => none
      | none => none

theorem W.runSome {D : Tab} (hD : TabOk P D) {ops : Array Oper} {draw : Bool} {T0 : List V} {H0 : Hp} {Q : St → Prop} : ∀ (n : Nat) {q i : Nat} {T : List V} {H : Hp} {Es : List (Bool × Eff)} {r : Run}, runE D G ops n q i T H = some r → W P G ops draw T0 H0 (i + n) r.T r.H (Es ++ r.Es) Q → W P G ops draw T0 H0 i T H Es Q
  | 0, q, i, T, H, Es, r, h, k => by simp only [runE, Option.some.injEq] at h; subst h; simpa using k
  | n + 1, q, i, T, H, Es, r, h, k => by
    simp only [runE] at h
    split at h
    · cases h
    · rename_i o ho
      split at h
      · rename_i hw
        split at h
        · rename_i E hE
          split at h
          · rename_i r' hr
            cases h
            refine W.one E ho hw (effV_sound hD hE) ?_
            refine W.runSome hD n hr ?_
            rw [List.append_assoc, show i + 1 + n = i + (n + 1) by omega]
            exact k
          · cases h
        · cases h
      · rename_i hw
        split at h
        · rename_i r' hr
          cases h
          refine W.skip ho hw ?_
          refine W.runSome hD n hr ?_
          rw [List.append_assoc, show i + 1 + n = i + (n + 1) by omega]
          exact k
        · cases h
      · cases h

def aftE (D : Tab) (G : Nat → Option (List V)) (ops : Array Oper) (n q i : Nat) (T : List V) (H : Hp) : Run := (runE D G ops n q i T H).getD default

theorem W.run {D : Tab} (hD : TabOk P D) {ops : Array Oper} {draw : Bool} {T0 : List V} {H0 : Hp} {Q : St → Prop} (n q : Nat) {i : Nat} {T : List V} {H : Hp} {Es : List (Bool × Eff)} (h : (runE D G ops n q i T H).isSome = true)
    (k : W P G ops draw T0 H0 (i + n) (aftE D G ops n q i T H).T (aftE D G ops n q i T H).H (Es ++ (aftE D G ops n q i T H).Es) Q) : W P G ops draw T0 H0 i T H Es Q := by
  obtain ⟨r, hr⟩ := Option.isSome_iff_exists.1 h
  refine W.runSome hD n hr ?_
  unfold aftE at k
  rw [hr] at k
  exact k

/-- a test is decided -/
theorem W.bool {ops : Array Oper} {draw : Bool} {T0 : List V} {H0 : Hp} {i : Nat} {T : List V} {H : Hp} {Es : List (Bool × Eff)} {Q : St → Prop} (d : Nat) (b : Bool) (hd : T[d]? = some (.c (.bool b)))
    (ht : b = true → W P G ops draw T0 H0 i (T.set d (.c (.bool true))) H Es Q) (hf : b = false → W P G ops draw T0 H0 i (T.set d (.c (.bool false))) H Es Q) : W P G ops draw T0 H0 i T H Es Q := by
  cases b with
  | true => have := ht rfl; rwa [set_self hd] at this
  | false => have := hf rfl; rwa [set_self hd] at this

theorem W.val {ops : Array Oper} {draw : Bool} {T0 : List V} {H0 : Hp} {i : Nat} {T : List V} {H : Hp} {Es : List (Bool × Eff)} {Q : St → Prop} (d : Nat) (v v' : V) (hd : T[d]? = some v) (hv : v = v') (k : W P G ops draw T0 H0 i (T.set d v') H Es Q) : W P G ops draw T0 H0 i T H Es Q := by
  subst hv
  rwa [set_self hd] at k

/-! ### the state, told anew -/
/-- the slots that are wanted still, under new names; the rest is forgotten -/
def keepT (m : Ren) : List Nat → Nat → List V → List V
  | _, _, [] => []
  | ks, i, x :: T => (if ks.contains i then x.rn m else .junk) :: keepT m ks (i + 1) T

def Ob.rn (m : Ren) : Ob → Ob
  | .cells e cs => .cells e (V.rnL m cs)
  | o => o

/-- the objects that have new names, under them -/
def keepH (m : Ren) : Hp → Hp
  | [] => []
  | (i, o) :: H => match mget m i with
    | some j => (j, o.rn m) :: keepH m H
    | none => keepH m H

theorem keepT_sub (m : Ren) (ks : List Nat) : ∀ (i : Nat) (T : List V), SubT m T (keepT m ks i T)
  | _, [] => trivial
  | i, x :: T => ⟨by split <;> simp, keepT_sub m ks (i + 1) T⟩

theorem SubT.rnL (m : Ren) : ∀ (cs : List V), SubT m cs (V.rnL m cs)
  | [] => trivial
  | _ :: cs => ⟨.inr rfl, SubT.rnL m cs⟩

theorem Ob.rn_sub (m : Ren) (o : Ob) : SubO m o (o.rn m) := by
  cases o with
  | cells e cs => exact ⟨rfl, SubT.rnL m cs⟩
  | vec nn e k rows => exact ⟨.inl rfl, rfl, rfl, rfl⟩

def nodupH (H : Hp) : Bool := decide (H.map (·.1)).Nodup

theorem look_of_mem {H : Hp} (hn : (H.map (·.1)).Nodup) {i : Nat} {o : Ob} (h : (i, o) ∈ H) : look H i = some o := by
  induction H with
  | nil => cases h
  | cons p H ih =>
    obtain ⟨j, p⟩ := p
    simp only [List.map_cons, List.nodup_cons] at hn
    simp only [look]
    rcases List.mem_cons.1 h with h | h
    · cases h; simp
    · split
      · subst_vars; exact absurd (List.mem_map_of_mem (f := (·.1)) h) hn.1
      · exact ih hn.2 h

theorem keepH_sub {m : Ren} {H : Hp} (hn : (H.map (·.1)).Nodup) : ∀ (H' : Hp), (∀ p, p ∈ H' → p ∈ H) → SubH m H (keepH m H')
  | [], _ => trivial
  | (i, o) :: H', h => by
    simp only [keepH]
    split
    · rename_i j hj
      exact ⟨⟨i, o, hj, look_of_mem hn (h (i, o) (by simp)), Ob.rn_sub m o⟩, keepH_sub hn H' fun p hp => h p (by simp [hp])⟩
    · exact keepH_sub hn H' fun p hp => h p (by simp [hp])

/-- vectors' marks forgotten -/
theorem Weak.to (m : Ren) (ks : List Nat) {T : List V} {H : Hp} {T' : List V} {H' : Hp} (hm : (m.ok && m.keep && nodupH H) = true) (hT : keepT m ks 0 T = T') (hH : keepH m H = H') : Weak ⟨T, H⟩ ⟨T', H'⟩ := by
  subst hT hH
  simp only [Bool.and_eq_true] at hm
  exact Weak.rn m hm.1.1 hm.1.2 (keepT_sub m ks 0 T) (keepH_sub (of_decide_eq_true hm.2) H fun p hp => hp)

theorem CodeOk.to (m : Ren) (ks : List Nat) {c : Code} {T : List V} {H : Hp} {Q : Exit → St → Prop} (T' : List V) (H' : Hp) (hm : (m.ok && m.keep && nodupH H) = true) (hT : keepT m ks 0 T = T') (hH : keepH m H = H') (k : CodeOk L P G c ⟨T', H'⟩ Q) : CodeOk L P G c ⟨T, H⟩ Q :=
  CodeOk.weak (Weak.to m ks hm hT hH) k

/-- slots, told by the wanted ones -/
def tl (n : Nat) (l : List (Nat × V)) : List V := l.foldl (fun T p => T.set p.1 p.2) (List.replicate n .junk)

end
end Go.Av
