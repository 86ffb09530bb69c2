/-
  Core2: abstract states; what one operation, a list of operations, a piece of code, a function makes of them.
-/
import Derived.Test.YtkfpmbinifaakaaDoorCore1
import Derived.Deep.LoopGhost
import Derived.RangeFuncRecord
import Derived.OrdersIn
import Derived.LoopNIn
import Derived.TacticsIn
namespace Go.Av

structure St where
  T : List V
  H : Hp

def ev (G : Nat → Option (List V)) (T : List V) : Operand → V
  | .tmp t => T.getD t .junk
  | .const v => .c v
  | .global g => match G g with | some cs => .el cs | none => .junk
  | .func f => .fn f []

def hasH (i : Nat) : Hp → Bool
  | [] => false
  | (j, o) :: H => i == j || o.has i || hasH i H

/-- ids that nothing in the state speaks of -/
def fresh (N : List Nat) (st : St) : Bool := N.all fun i => Nat.ble 100 i && !V.hasL i st.T && !hasH i st.H

/-- roots of elder ids stand -/
def AgF (ρ ρ' : Nat → Option Value) : Prop := ∀ i r, i < 100 → ρ' i = some r → ρ i = some r
def AgN (ρ ρ' : Nat → Option Value) (N : List Nat) : Prop := ∀ i r, ρ' i = some r → i ∉ N → ρ i = some r

theorem AgF.refl (ρ : Nat → Option Value) : AgF ρ ρ := fun _ _ _ h => h
theorem AgF.trans {a b c : Nat → Option Value} (h : AgF a b) (k : AgF b c) : AgF a c := fun i r hi hr => h i r hi (k i r hi hr)

theorem hasL_false {i : Nat} {l : List V} (h : V.hasL i l = false) {x : V} (hx : x ∈ l) : x.has i = false := by
  cases hh : x.has i with
  | false => rfl
  | true => rw [V.has_of_mem hx hh] at h; cases h

theorem hasH_false {i : Nat} {H : Hp} (h : hasH i H = false) : look H i = none ∧ ∀ j o, look H j = some o → o.has i = false := by
  induction H with
  | nil => exact ⟨rfl, fun j o h => by simp [look] at h⟩
  | cons x H ih =>
    obtain ⟨k, p⟩ := x
    simp only [hasH, Bool.or_eq_false_iff, beq_eq_false_iff_ne] at h
    obtain ⟨h1, h2⟩ := ih h.2
    refine ⟨by simp only [look]; rw [if_neg h.1.1]; exact h1, fun j o hj => ?_⟩
    simp only [look] at hj
    split at hj
    · cases hj; exact h.1.2
    · exact h2 j o hj

theorem fresh_spec {N : List Nat} {st : St} (h : fresh N st = true) {i : Nat} (hi : i ∈ N) : 100 ≤ i ∧ V.hasL i st.T = false ∧ hasH i st.H = false := by
  have := List.all_eq_true.1 h i hi
  simp only [Bool.and_eq_true, Bool.not_eq_true', Nat.ble_eq] at this
  exact ⟨this.1.1, this.1.2, this.2⟩

/-! ### marks: what a range over a function leaves among the deferred calls -/
def mark (D : Nat) : Deferred := { target := .collected D, args := #[] }

/-- the deferred calls are marks of one's own, which have collected nothing -/
def Marks (B : Nat) (S : Nat → Prop) (ds : List Deferred) (w : World) : Prop :=
  B ≤ w.heap.size ∧ ∃ Ds : List Nat, Ds.Nodup ∧ ds = Ds.map mark ∧ ∀ D, D ∈ Ds → B ≤ D ∧ ¬ S D ∧ w.heap[D]? = some (.deferred (some []))

theorem Marks.nil {B : Nat} (S : Nat → Prop) {w : World} (h : B ≤ w.heap.size) : Marks B S [] w := ⟨h, [], List.nodup_nil, rfl, fun _ h => by cases h⟩

theorem RD.cells {S : Nat → Prop} {w : World} {v : Value} {x : V} {F : List Nat} (h : RD S w v x F) {b : Nat} (hb : b ∈ F) : ∃ arr e m, w.heap[b]? = some (.cells arr e m) := by
  induction h with
  | c => cases hb
  | nils => cases hb
  | shr => cases hb
  | exc g cap arr ety nn rows k cs Fs hh hcap hmax hsz hk hc hr ih =>
    rcases List.mem_cons.1 hb with rfl | hb
    · exact ⟨_, _, _, hh⟩
    · obtain ⟨i, j, hi, hj, hb⟩ := mem_flat.1 hb
      have hr1 := List.getElem?_eq_getElem hi
      have hj' : j < (rows[i]).length := by rw [hk i _ hr1]; exact hj
      exact ih i j _ _ hr1 (List.getElem?_eq_getElem hj') hb

theorem ObR.blocks {ρ : Nat → Option Value} {S : Nat → Prop} {w : World} {r : Value} {o : Ob} {F : List Nat} (h : ObR ρ S w r o F) {b : Nat} (hb : b ∈ F) : ∃ arr e m, w.heap[b]? = some (.cells arr e m) := by
  cases h with
  | cells g arr ety cs hh hsz hr =>
    rcases List.mem_cons.1 hb with rfl | hb
    · exact ⟨_, _, _, hh⟩
    · cases hb
  | vnil => cases hb
  | vec g cap arr nn ety k rows cs Fs hh hcap hmax hsz hk hc hr =>
    rcases List.mem_cons.1 hb with rfl | hb
    · exact ⟨_, _, _, hh⟩
    · obtain ⟨i, j, hi, hj, hb⟩ := mem_flat.1 hb
      have hr1 := List.getElem?_eq_getElem hi
      have hj' : j < (rows[i]).length := by rw [hk i _ hr1]; exact hj
      exact (hr i j _ _ hr1 (List.getElem?_eq_getElem hj')).cells hb

theorem HRel.blocks {ρ : Nat → Option Value} {S : Nat → Prop} {F : Nat → List Nat} {H : Hp} {w : World} (h : HRel ρ S F H w) {b : Nat} (hb : Ub H F b) : ∃ arr e m, w.heap[b]? = some (.cells arr e m) := by
  obtain ⟨i, o, hl, hb⟩ := hb
  obtain ⟨r, _, hob⟩ := h.obj i o hl
  exact hob.blocks hb

theorem Marks.evo {ρ : Nat → Option Value} {S S' U' : Nat → Prop} {F : Nat → List Nat} {H : Hp} {w w' : World} {B : Nat} {ds : List Deferred} (h : Marks B S ds w) (hH : HRel ρ S F H w) (e : Evo S (Ub H F) w S' U' w') : Marks B S' ds w' := by
  obtain ⟨hB, Ds, hn, hd, hD⟩ := h
  refine ⟨Nat.le_trans hB e.size, Ds, hn, hd, fun D hm => ?_⟩
  obtain ⟨h1, h2, h3⟩ := hD D hm
  have hlt : D < w.heap.size := (Array.getElem?_eq_some_iff.1 h3).1
  have hU : ¬ Ub H F D := fun hU => by
    obtain ⟨arr, t, m, hc⟩ := hH.blocks hU
    rw [h3] at hc; cases hc
  refine ⟨h1, fun hs => ?_, (e.keep D hlt hU).trans h3⟩
  rcases e.newS D hs with h | h | h
  · exact h2 h
  · exact hU h
  · omega

theorem Marks.more {S S' : Nat → Prop} {w : World} {B : Nat} {ds : List Deferred} (h : Marks B S ds w) (hS : ∀ b, S' b → S b ∨ ∃ arr e m, w.heap[b]? = some (.cells arr e m)) : Marks B S' ds w := by
  obtain ⟨hB, Ds, hn, hd, hD⟩ := h
  refine ⟨hB, Ds, hn, hd, fun D hm => ?_⟩
  obtain ⟨h1, h2, h3⟩ := hD D hm
  refine ⟨h1, fun hs => ?_, h3⟩
  rcases hS D hs with h | ⟨arr, t, m, hc⟩
  · exact h2 h
  · rw [h3] at hc; cases hc

structure StRel (B : Nat) (G : Nat → Option (List V)) (ρ : Nat → Option Value) (S : Nat → Prop) (F : Nat → List Nat) (st : St) (a : Act) (w : World) : Prop where
  defers : Marks B S a.defers w
  size : a.tmps.size = st.T.length
  tmps : ∀ i x, st.T[i]? = some x → RV ρ S w (a.tmps.getD i undef) x
  heap : HRel ρ S F st.H w
  glob : GRel G S w

/-- the fence of an activation, or of a round of a range over a function -/
def fen (L : Option Nat) : Fence := { Fence.wide with round := L }

section
variable {P : Program} {G : Nat → Option (List V)} {L : Option Nat} {B : Nat}

theorem StRel.ev {ρ : Nat → Option Value} {S : Nat → Prop} {F : Nat → List Nat} {st : St} {a : Act} {w : World} (h : StRel B G ρ S F st a w) (x : Operand) : RV ρ S w (a.eval x) (ev G st.T x) := by
  cases x with
  | tmp t =>
    simp only [Act.eval, Av.ev, List.getD_eq_getElem?_getD]
    cases ht : st.T[t]? with
    | none => exact .junk _
    | some y => exact h.tmps t y ht
  | const v => exact .c v
  | global g =>
    simp only [Act.eval, Av.ev]
    cases hg : G g with
    | none => exact .junk _
    | some cs => exact (h.glob g cs hg).mono (fun _ _ _ hh => by simp [V.has] at hh) (fun b hb => ⟨hb, rfl⟩)
  | func f => exact .fn f #[] [] rfl fun j x c hx _ => by simp at hx

theorem RV.c_inv {ρ : Nat → Option Value} {S : Nat → Prop} {w : World} {v u : Value} (h : RV ρ S w v (.c u)) : v = u := by cases h; rfl

/-! ### one operation -/
def ExecTo (P : Program) (o : Oper) (η : Operand → Value) (w : World) (K : Value → World → Prop) : Prop :=
  match (execOp η o).run P w with
  | .ok (.value x) w' => K x w'
  | .ok .skip w' => K undef w'
  | .ok (.enter f args) w' => Calls P f args w' fun e w'' => ∃ x, e = .returned x ∧ K x w''
  | _ => False

theorem ExecTo.mono {o : Oper} {η : Operand → Value} {w : World} {K K' : Value → World → Prop} (h : ExecTo P o η w K) (hk : ∀ x w', K x w' → K' x w') : ExecTo P o η w K' := by
  unfold ExecTo at *
  split at h
  · exact hk _ _ h
  · exact hk _ _ h
  · exact h.mono fun e w'' ⟨x, he, hx⟩ => ⟨x, he, hk _ _ hx⟩
  · exact h.elim

theorem ExecTo.no_defer {o : Oper} {η : Operand → Value} {w : World} {K : Value → World → Prop} (h : ExecTo P o η w K) : ∀ c, o.op ≠ .defer c := by
  intro c hc
  unfold ExecTo at h
  have : ∃ m : Sem Deferred, execOp η o = (do pure (.defer (← m))) := ⟨resolve η c o.type, by unfold execOp; rw [hc]⟩
  obtain ⟨m, hm⟩ := this
  rw [hm] at h
  simp only [Sem.run_bind] at h
  cases hr : m.run P w with
  | ok d w' => rw [hr] at h; simp at h
  | halt x w' => rw [hr] at h; simp at h

theorem ExecTo.wp {o : Oper} {a : Act} {w : World} {K : Value → World → Prop} {next : Act → World → Prop} {Q : Exit → Act → World → Prop}
    (h : ExecTo P o a.eval w K) (hk : ∀ x w', K x w' → next (a.put o.dst x) w') : o.wpIn (fen L) 0 P a w next Q := by
  refine ⟨fun _ _ => trivial, ?_⟩
  rw [Oper.semAt_eq _ _ _ h.no_defer]
  unfold ExecTo at h
  generalize (execOp a.eval o).run P w = r at *
  cases r with
  | ok n w' =>
    cases n <;> first
      | exact h.elim
      | exact hk _ _ h
      | (refine ⟨fun h => (by cases h), ?_⟩
         refine CallsIn.mono (callsIn_wide.2 h : CallsIn Fence.wide 0 P _ _ _ _) fun e w'' ⟨x, he, hx⟩ => ?_
         subst he
         exact hk _ _ hx)
  | halt x w' => exact h.elim

/-- what an operation leaves: its value, the objects, memory -/
def Post (ρ : Nat → Option Value) (S : Nat → Prop) (F : Nat → List Nat) (H : Hp) (w : World) (v : V) (H' : Hp) (N : List Nat) (x : Value) (w' : World) : Prop :=
  ∃ ρ' S' F', RV ρ' S' w' x v ∧ HRel ρ' S' F' H' w' ∧ Evo S (Ub H F) w S' (Ub H' F') w' ∧ AgN ρ ρ' N

def OpOk (P : Program) (G : Nat → Option (List V)) (o : Oper) (e : Operand → V) (H : Hp) (v : V) (H' : Hp) (N : List Nat) : Prop :=
  ∀ ρ S F (η : Operand → Value) w, (∀ x, x ∈ o.op.operands → RV ρ S w (η x) (e x)) → HRel ρ S F H w → GRel G S w → ExecTo P o η w (Post ρ S F H w v H' N)

def St.put (st : St) (d : Option Tmp) (v : V) (H : Hp) : St := ⟨match d with | some t => st.T.set t v | none => st.T, H⟩

def Step (P : Program) (G : Nat → Option (List V)) (o : Oper) (st : St) (K : St → Prop) : Prop :=
  ∃ v H' N, fresh N st = true ∧ OpOk P G o (ev G st.T) st.H v H' N ∧ K (st.put o.dst v H')

/-- the slot of an operation that was passed over -/
abbrev V.und : V := .c undef

/-- what a test has yielded; none inside: nothing, it was passed over -/
def gval (ops : Array Oper) (T : List V) (j : Nat) : Option (Option Bool) :=
  match (ops[j]?).bind (·.dst) with
  | some d => match T[d]? with
    | some (.c (.bool b)) => some (some b)
    | some (.c (.tuple ⟨[]⟩)) => some none
    | _ => none
  | none => none

def OpsOk (P : Program) (G : Nat → Option (List V)) (ops : Array Oper) : List Oper → St → (St → Prop) → Prop
  | [], st, Q => Q st
  | o :: l, st, Q => match o.guard with
    | none => Step P G o st fun st' => OpsOk P G ops l st' Q
    | some (j, b) => ∃ b', gval ops st.T j = some b' ∧ ((b' = some b ∧ Step P G o st fun st' => OpsOk P G ops l st' Q) ∨ (b' ≠ some b ∧ OpsOk P G ops l (st.put o.dst V.und st.H) Q))

theorem getD_setIfInBounds {l : Array Value} {i j : Nat} {x : Value} (hi : i < l.size) : (l.setIfInBounds j x).getD i undef = if i = j then x else l.getD i undef := by
  simp only [Array.getD_eq_getD_getElem?, Array.getElem?_setIfInBounds]
  by_cases h : j = i
  · subst h; simp [hi]
  · simp [h, Ne.symm h]

theorem StRel.put {ρ ρ' : Nat → Option Value} {S S' : Nat → Prop} {F F' : Nat → List Nat} {st : St} {a : Act} {w w' : World} {d : Option Tmp} {v : V} {x : Value} {H' : Hp} {N : List Nat}
    (h : StRel B G ρ S F st a w) (hN : fresh N st = true) (hv : RV ρ' S' w' x v) (hH : HRel ρ' S' F' H' w') (hE : Evo S (Ub st.H F) w S' (Ub H' F') w') (hA : AgN ρ ρ' N) :
    StRel B G ρ' S' F' (st.put d v H') (a.put d x) w' := by
  have hk := h.heap.keeps hE
  have hold : ∀ i y, st.T[i]? = some y → RV ρ' S' w' (a.tmps.getD i undef) y := fun i y hy =>
    (h.tmps i y hy).mono (fun j r hr hh => hA j r hr fun hj => by
      have := hasL_false (fresh_spec hN hj).2.1 (List.mem_of_getElem? hy)
      rw [this] at hh; cases hh) hk
  cases d with
  | none => exact ⟨h.defers.evo h.heap hE, h.size, hold, hH, h.glob.mono hk⟩
  | some t =>
    refine ⟨h.defers.evo h.heap hE, by simp [Act.put, St.put, h.size], fun i y hy => ?_, hH, h.glob.mono hk⟩
    simp only [St.put] at hy
    have hlt : i < a.tmps.size := by
      have := (List.getElem?_eq_some_iff.1 hy).1
      rw [h.size]; simpa using this
    simp only [Act.put]
    rw [getD_setIfInBounds hlt]
    rw [List.getElem?_set] at hy
    by_cases he : t = i
    · subst he
      rw [if_pos rfl] at hy
      rw [if_pos rfl]
      split at hy
      · cases hy; exact hv
      · cases hy
    · rw [if_neg he] at hy
      rw [if_neg (Ne.symm he)]
      exact hold i y hy

theorem AgN.toF {ρ ρ' : Nat → Option Value} {N : List Nat} {st : St} (h : AgN ρ ρ' N) (hN : fresh N st = true) : AgF ρ ρ' :=
  fun i r hi hr => h i r hr fun hm => by have := (fresh_spec hN hm).1; omega

theorem yielded_gval {ρ : Nat → Option Value} {S : Nat → Prop} {F : Nat → List Nat} {st : St} {a : Act} {w : World} (h : StRel B G ρ S F st a w) {ops : Array Oper} {j : Nat} {b : Option Bool}
    (hg : gval ops st.T j = some b) : yielded ops a.tmps j = b := by
  unfold gval at hg
  unfold yielded
  cases hd : (ops[j]?).bind (·.dst) with
  | none => rw [hd] at hg; cases hg
  | some d =>
    rw [hd] at hg
    simp only at hg
    cases ht : st.T[d]? with
    | none => rw [ht] at hg; cases hg
    | some y =>
      have hr := h.tmps d _ ht
      have hlt : d < a.tmps.size := by rw [h.size]; exact (List.getElem?_eq_some_iff.1 ht).1
      rw [ht] at hg
      have key : ∀ u, y = .c u → a.tmps[d]? = some u := fun u hu => by
        subst hu
        have hx : a.tmps.getD d undef = u := hr.c_inv
        rw [Array.getElem?_eq_getElem hlt]
        rw [Array.getD_eq_getD_getElem?, Array.getElem?_eq_getElem hlt] at hx
        simpa using hx
      split at hg
      · rename_i b' he
        cases hg
        simp [key _ (Option.some.inj he)]
      · rename_i he
        cases hg
        simp [key _ (Option.some.inj he)]
      · cases hg

/-- what is handed on: the state, memory's course since -/
def Onto (B : Nat) (G : Nat → Option (List V)) (ρ : Nat → Option Value) (S : Nat → Prop) (F : Nat → List Nat) (H : Hp) (w : World) (st' : St) (R : Act → World → Prop) : Prop :=
  ∀ ρ' S' F' a' w', StRel B G ρ' S' F' st' a' w' → Evo S (Ub H F) w S' (Ub st'.H F') w' → AgF ρ ρ' → R a' w'

theorem Step.wp {o : Oper} {st : St} {K : St → Prop} (h : Step P G o st K) {ρ : Nat → Option Value} {S : Nat → Prop} {F : Nat → List Nat} {a : Act} {w : World} (hst : StRel B G ρ S F st a w)
    {next : Act → World → Prop} {Q : Exit → Act → World → Prop} (hn : ∀ st', K st' → Onto B G ρ S F st.H w st' next) : o.wpIn (fen L) 0 P a w next Q := by
  obtain ⟨v, H', N, hN, hop, hK⟩ := h
  refine (hop ρ S F a.eval w (fun x _ => hst.ev x) hst.heap hst.glob).wp fun x w' hp => ?_
  obtain ⟨ρ', S', F', hv, hH, hE, hA⟩ := hp
  exact hn _ hK ρ' S' F' _ w' (hst.put hN hv hH hE hA) hE (hA.toF hN)

theorem Onto.of_undef {ρ : Nat → Option Value} {S : Nat → Prop} {F : Nat → List Nat} {st : St} {a : Act} {w : World} (hst : StRel B G ρ S F st a w) (d : Option Tmp) : StRel B G ρ S F (st.put d V.und st.H) (a.put d undef) w :=
  hst.put (N := []) rfl (.c _) hst.heap (Evo.refl _ _ _) (fun _ _ h _ => h)

theorem OpsOk.wp {ops : Array Oper} {Q : Exit → Act → World → Prop} (l : List Oper) : ∀ {st : St} {K : St → Prop}, OpsOk P G ops l st K →
    ∀ {ρ : Nat → Option Value} {S : Nat → Prop} {F : Nat → List Nat} {a : Act} {w : World}, StRel B G ρ S F st a w →
    (∀ st', K st' → Onto B G ρ S F st.H w st' (Q .normal)) → wpListIn (fen L) 0 P ops Q l a w := by
  induction l with
  | nil =>
    intro st K h ρ S F a w hst hn
    exact hn st h ρ S F a w hst (Evo.refl _ _ _) (AgF.refl _)
  | cons o l ih =>
    intro st K h ρ S F a w hst hn
    have go : Step P G o st (fun st' => OpsOk P G ops l st' K) → Region.wanted o (yielded ops a.tmps) = true → wpListIn (fen L) 0 P ops Q (o :: l) a w := by
      intro hs hw
      unfold wpListIn
      rw [if_pos hw]
      refine (hs.wp hst fun st' h' ρ' S' F' a' w' hst' hE hA => ?_)
      exact ih h' hst' fun st2 h2 ρ2 S2 F2 a2 w2 hst2 hE2 hA2 => hn st2 h2 ρ2 S2 F2 a2 w2 hst2 (hE.trans hE2) (hA.trans hA2)
    unfold OpsOk at h
    cases hg : o.guard with
    | none =>
      rw [hg] at h
      exact go h (by simp [Region.wanted, hg])
    | some jb =>
      obtain ⟨j, b⟩ := jb
      rw [hg] at h
      obtain ⟨b', hgv, h⟩ := h
      have hy := yielded_gval hst hgv
      rcases h with ⟨rfl, h⟩ | ⟨hne, h⟩
      · exact go h (by simp [Region.wanted, hg, hy])
      · unfold wpListIn
        rw [if_neg (by simp [Region.wanted, hg, hy, hne])]
        refine ⟨fun _ _ => trivial, ?_⟩
        refine ih h (Onto.of_undef hst o.dst) fun st2 h2 ρ2 S2 F2 a2 w2 hst2 hE2 hA2 => ?_
        exact hn st2 h2 ρ2 S2 F2 a2 w2 hst2 (by simpa [St.put] using hE2) hA2

/-! ### code -/
def CodeOk (L : Option Nat) (P : Program) (G : Nat → Option (List V)) (c : Code) (st : St) (Q : Exit → St → Prop) : Prop :=
  ∀ B ρ S F a w (R : Exit → Act → World → Prop), StRel B G ρ S F st a w → (∀ e st', Q e st' → Onto B G ρ S F st.H w st' (R e)) → c.wpIn (fen L) 0 P R a w

theorem CodeOk.region {id : Nat} {l : List Oper} {st : St} {Q : Exit → St → Prop} (h : OpsOk P G l.toArray l st (Q .normal)) : CodeOk L P G (.region id l.toArray false) st Q := by
  intro B ρ S F a w R hst hn
  exact wpIn_region_lit (OpsOk.wp l h hst fun st' h' => hn .normal st' h')

theorem CodeOk.seq {x y : Code} {st : St} {Q : Exit → St → Prop} (h : CodeOk L P G x st fun e st' => match e with | .normal => CodeOk L P G y st' Q | e => Q e st') : CodeOk L P G (.seq x y) st Q := by
  intro B ρ S F a w R hst hn
  refine wpIn_seq (h B ρ S F a w _ hst fun e st' hq => ?_)
  intro ρ1 S1 F1 a1 w1 hst1 hE hA
  cases e <;> first
    | exact hn _ st' hq ρ1 S1 F1 a1 w1 hst1 hE hA
    | exact hq B ρ1 S1 F1 a1 w1 R hst1 fun e2 st2 h2 ρ2 S2 F2 a2 w2 hst2 hE2 hA2 => hn e2 st2 h2 ρ2 S2 F2 a2 w2 hst2 (hE.trans hE2) (hA.trans hA2)

theorem CodeOk.skip {st : St} {Q : Exit → St → Prop} (h : Q .normal st) : CodeOk L P G .skip st Q := fun _ ρ S F a w _ hst hn => wpIn_skip (hn .normal st h ρ S F a w hst (Evo.refl _ _ _) (AgF.refl _))
theorem CodeOk.exit {id : Nat} {st : St} {Q : Exit → St → Prop} (h : Q (.exit id) st) : CodeOk L P G (.exit id) st Q := fun _ ρ S F a w _ hst hn => wpIn_exit (hn (.exit id) st h ρ S F a w hst (Evo.refl _ _ _) (AgF.refl _))
theorem CodeOk.ret {st : St} {Q : Exit → St → Prop} (h : Q .ret st) : CodeOk L P G .ret st Q := fun _ ρ S F a w _ hst hn => wpIn_ret (hn .ret st h ρ S F a w hst (Evo.refl _ _ _) (AgF.refl _))

theorem CodeOk.cond {c : Operand} {x y : Code} {st : St} {Q : Exit → St → Prop} {b : Bool} (hc : ev G st.T c = .c (.bool b))
    (ht : b = true → CodeOk L P G x st Q) (hf : b = false → CodeOk L P G y st Q) : CodeOk L P G (.cond c x y) st Q := by
  intro B ρ S F a w R hst hn
  have hb : a.eval c = .bool b := by
    have := hst.ev c
    rw [hc] at this
    exact this.c_inv
  cases b with
  | true => exact wpIn_cond_true hb (ht rfl B ρ S F a w R hst hn)
  | false => exact wpIn_cond_false hb (hf rfl B ρ S F a w R hst hn)

theorem CodeOk.block {id : Nat} {c : Code} {st : St} {Q : Exit → St → Prop} (h : CodeOk L P G c st fun e st' => match e with | .exit i => if i = id then Q .normal st' else Q (.exit i) st' | e => Q e st') : CodeOk L P G (.block id c) st Q := by
  intro B ρ S F a w R hst hn
  refine wpIn_block (h B ρ S F a w _ hst fun e st' hq => ?_)
  intro ρ1 S1 F1 a1 w1 hst1 hE hA
  cases e with
  | exit i =>
    simp only [Exit.inBlock]
    simp only at hq
    split
    · rw [if_pos ‹_›] at hq; exact hn _ st' hq ρ1 S1 F1 a1 w1 hst1 hE hA
    · rw [if_neg ‹_›] at hq; exact hn _ st' hq ρ1 S1 F1 a1 w1 hst1 hE hA
  | _ => exact hn _ st' hq ρ1 S1 F1 a1 w1 hst1 hE hA

theorem CodeOk.mono {c : Code} {st : St} {Q Q' : Exit → St → Prop} (h : CodeOk L P G c st Q) (hq : ∀ e st', Q e st' → Q' e st') : CodeOk L P G c st Q' :=
  fun B ρ S F a w R hst hn => h B ρ S F a w R hst fun e st' h' => hn e st' (hq e st' h')

/-- a state may be told more weakly: names anew, objects given up, slices laid down for good -/
def Weak (st st' : St) : Prop := ∀ B G ρ S F a w, StRel B G ρ S F st a w → ∃ ρ' S' F', StRel B G ρ' S' F' st' a w ∧ Evo S (Ub st.H F) w S' (Ub st'.H F') w ∧ AgF ρ ρ'

theorem Weak.refl (st : St) : Weak st st := fun _ _ ρ S F _ w h => ⟨ρ, S, F, h, Evo.refl _ _ w, AgF.refl _⟩
theorem Weak.trans {a b c : St} (h : Weak a b) (k : Weak b c) : Weak a c := by
  intro B G ρ S F x w hst
  obtain ⟨ρ1, S1, F1, h1, e1, a1⟩ := h _ G ρ S F x w hst
  obtain ⟨ρ2, S2, F2, h2, e2, a2⟩ := k _ G ρ1 S1 F1 x w h1
  exact ⟨ρ2, S2, F2, h2, e1.trans e2, a1.trans a2⟩

theorem CodeOk.weak {c : Code} {st st' : St} {Q : Exit → St → Prop} (hw : Weak st st') (h : CodeOk L P G c st' Q) : CodeOk L P G c st Q := by
  intro B ρ S F a w R hst hn
  obtain ⟨ρ1, S1, F1, h1, e1, a1⟩ := hw _ G ρ S F a w hst
  exact h B ρ1 S1 F1 a w R h1 fun e st2 h2 ρ2 S2 F2 a2 w2 hst2 hE2 hA2 => hn e st2 h2 ρ2 S2 F2 a2 w2 hst2 (e1.trans hE2) (a1.trans hA2)

end
end Go.Av
