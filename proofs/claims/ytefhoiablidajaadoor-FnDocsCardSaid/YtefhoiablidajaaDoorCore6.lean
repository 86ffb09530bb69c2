/-
  Abstract values, states, walks, part 6.
-/
import Derived.Test.YtefhoiablidajaaDoorCore5
import Derived.Below
import Derived.Sort.OwnSortedInts
import Derived.Lib.LaidTab
import Derived.Lib.ItoaNum
import Derived.Deep.Draws
import Derived.Sort.OwnSorted
set_option linter.unusedSimpArgs false
set_option linter.unusedVariables false

namespace Go.Av

/-- the function that slices.Backward hands back, called with yield: the slice, of one cell each, lies in a variable of its own -/
def BackOk (P : Program) (gf : FuncId) : Prop :=
  ∀ (l g n : Nat) (Inv : Nat → World → Prop) (Stop : World → Prop) (w : World), n ≤ maxLen →
    (∀ W, Inv n W → ∃ a cap, W.cell? ⟨g, 0, none⟩ = some (.slice a n cap)) → (∀ k W d, Inv k W → Inv k { W with drawn := d }) →
    (∀ k W, Inv (k + 1) W → k < n ∧ ∃ a cap v, W.cell? ⟨g, 0, none⟩ = some (.slice (some a) n cap) ∧ n ≤ cap ∧ W.cell? (a.add k) = some v ∧ v.oneCell' = true ∧
      ∃ f tmps asg body, (Instr.yield l #[.int .i64 k, v]).run P W = .ok (.round l f tmps asg body) W ∧
        RoundIn Fence.wide 0 P l f tmps asg body W fun e W' => (e = .returned (.bool true) ∧ Inv k W') ∨ (e = .returned (.bool false) ∧ Stop W')) →
    Inv n w → Calls P gf #[.func (.yield l) #[] #[], .pointer (some ⟨g, 0, none⟩)] w fun e W' => (∃ v, e = .returned v) ∧ (Inv 0 W' ∨ Stop W')

mutual
/-- no names but under 100 -/
def V.sm : V → Bool
  | .own j => Nat.blt j 100
  | .loc j _ => Nat.blt j 100
  | .vp j _ _ _ => Nat.blt j 100
  | .vw j _ _ _ => Nat.blt j 100
  | .fn _ cs => V.smL cs
  | .agg cs => V.smL cs
  | .tup cs => V.smL cs
  | _ => true
def V.smL : List V → Bool
  | [] => true
  | x :: r => V.sm x && V.smL r
end

mutual
theorem V.sm_has : ∀ {x : V} {i : Nat}, x.sm = true → x.has i = true → i < 100
  | .own j, i, h, hh => by simp [V.sm, V.has] at h hh; omega
  | .loc j _, i, h, hh => by simp [V.sm, V.has] at h hh; omega
  | .vp j _ _ _, i, h, hh => by simp [V.sm, V.has] at h hh; omega
  | .vw j _ _ _, i, h, hh => by simp [V.sm, V.has] at h hh; omega
  | .fn _ cs, i, h, hh => V.smL_has (by simpa [V.sm] using h) (by simpa [V.has] using hh)
  | .agg cs, i, h, hh => V.smL_has (by simpa [V.sm] using h) (by simpa [V.has] using hh)
  | .tup cs, i, h, hh => V.smL_has (by simpa [V.sm] using h) (by simpa [V.has] using hh)
  | .junk, i, h, hh => by simp [V.has] at hh
  | .c _, i, h, hh => by simp [V.has] at hh
  | .sl _ _ _, i, h, hh => by simp [V.has] at hh
  | .el _, i, h, hh => by simp [V.has] at hh
theorem V.smL_has : ∀ {l : List V} {i : Nat}, V.smL l = true → V.hasL i l = true → i < 100
  | [], i, h, hh => by simp [V.hasL] at hh
  | x :: r, i, h, hh => by
    simp only [V.smL, Bool.and_eq_true] at h
    simp only [V.hasL, Bool.or_eq_true] at hh
    rcases hh with hh | hh
    · exact V.sm_has h.1 hh
    · exact V.smL_has h.2 hh
end

theorem V.smL_mem {l : List V} (h : V.smL l = true) {x : V} (hx : x ∈ l) : x.sm = true := by
  induction l with
  | nil => cases hx
  | cons y l ih =>
    simp only [V.smL, Bool.and_eq_true] at h
    rcases List.mem_cons.1 hx with rfl | hx
    · exact h.1
    · exact ih h.2 hx

/-- the names behind are the names ahead -/
def backM (m m' : Ren) : Bool := m'.all fun p => Nat.ble 100 p.2 || (Nat.blt p.1 100 && mget m p.2 == some p.1)

theorem backM_spec {m m' : Ren} (h : backM m m' = true) {i j : Nat} (hm : mget m' i = some j) (hj : j < 100) : i < 100 ∧ mget m j = some i := by
  have := List.all_eq_true.1 h _ (mget_mem hm)
  simp only [Bool.or_eq_true, Nat.ble_eq, Bool.and_eq_true, Nat.blt_eq, beq_iff_eq] at this
  rcases this with h | h
  · omega
  · exact h

def jumpOf : Exit → Option Code
  | .ret => some .ret
  | .exit id => some (.exit id)
  | _ => none

/-- behind the statement: the names of before, the activation's own slots -/
def Fin (m : Ren) (Tc : List V) (Q : Exit → St → Prop) (e : Exit) (H1 : Hp) : Prop :=
  ∃ m' T2 H2, m'.ok = true ∧ backM m m' = true ∧ SubT m' Tc T2 ∧ SubH m' H1 H2 ∧ Q e ⟨T2, H2⟩

def roundQ (m : Ren) (Tc : List V) (Q : Exit → St → Prop) (N : Hp → Prop) : Exit → St → Prop
  | .normal, st => ∃ T1 H1, Weak st ⟨T1, H1⟩ ∧ N H1
  | .ret, st => Fin m Tc Q .ret st.H
  | .exit id, st => Fin m Tc Q (.exit id) st.H
  | _, _ => False

section
variable {P : Program} {G : Nat → Option (List V)} {L : Option Nat} {B : Nat}

theorem Keeps.putObj {S : Nat → Prop} {W : World} {l : Nat} {o : Obj} (hl : ¬ S l) : Keeps S W S (W.putObj l o) :=
  fun b hb => ⟨hb, World.putObj_heap_other fun e => hl (e ▸ hb)⟩

theorem HRel.putObj {ρ : Nat → Option Value} {S : Nat → Prop} {F : Nat → List Nat} {H : Hp} {W : World} {l : Nat} {o o' : Obj} (h : HRel ρ S F H W) (hl : ¬ S l) (ho : W.heap[l]? = some o) (hc : ∀ arr e m, o ≠ .cells arr e m) : HRel ρ S F H (W.putObj l o') := by
  have hU : ∀ b, Ub H F b → (W.putObj l o').heap[b]? = W.heap[b]? := fun b hb => World.putObj_heap_other fun e => by
    obtain ⟨arr, t, m, hh⟩ := h.blocks hb
    rw [e, ho] at hh; cases hh; exact hc _ _ _ rfl
  refine ⟨h.dom, fun i p hp => ?_, h.nodup, h.disj, h.sep, fun i p b hp hb => by rw [World.putObj_size]; exact h.lt i p b hp hb, fun b hb => by rw [World.putObj_size]; exact h.slt b hb⟩
  obtain ⟨r, hr, hob⟩ := h.obj i p hp
  exact ⟨r, hr, hob.mono (fun _ _ h _ => h) (Keeps.putObj hl) fun b hb => hU b ⟨i, p, hp, hb⟩⟩

theorem Evo.putObj {S U S' U' : Nat → Prop} {w W : World} {l : Nat} {o : Obj} (h : Evo S U w S' U' W) (hl : w.heap.size ≤ l) : Evo S U w S' U' (W.putObj l o) :=
  ⟨h.os, h.tape, h.output, by rw [World.putObj_size]; exact h.size, fun b hb hu => (World.putObj_heap_other (by omega)).trans (h.keep b hb hu), h.sub, h.newS, h.newU⟩

theorem Evo.alloc {S U S' U' : Nat → Prop} {w W : World} {o : Obj} (h : Evo S U w S' U' W) : Evo S U w S' U' (W.alloc o) :=
  ⟨h.os, h.tape, h.output, Nat.le_trans h.size (by simp), fun b hb hu => (Go.RowKit.Below.heap_alloc _ _ _ (Nat.lt_of_lt_of_le hb h.size)).trans (h.keep b hb hu), h.sub, h.newS, h.newU⟩

theorem HRel.alloc {ρ : Nat → Option Value} {S : Nat → Prop} {F : Nat → List Nat} {H : Hp} {W : World} {o : Obj} (h : HRel ρ S F H W) : HRel ρ S F H (W.alloc o) := by
  have hk : Keeps S W S (W.alloc o) := fun b hb => ⟨hb, Go.RowKit.Below.heap_alloc _ _ _ (h.slt b hb)⟩
  refine ⟨h.dom, fun i p hp => ?_, h.nodup, h.disj, h.sep, fun i p b hp hb => by have := h.lt i p b hp hb; simp; omega, fun b hb => by have := h.slt b hb; simp; omega⟩
  obtain ⟨r, hr, hob⟩ := h.obj i p hp
  exact ⟨r, hr, hob.mono (fun _ _ h _ => h) hk fun b hb => Go.RowKit.Below.heap_alloc _ _ _ (h.lt i p b hp hb)⟩

/-- what lies beside the objects: the loop's record, the block for its deferred calls -/
structure Aside (S : Nat → Prop) (l D : Nat) (rec : Loop) (W : World) : Prop where
  sl : ¬ S l
  sD : ¬ S D
  hl : W.heap[l]? = some (.loop rec)
  hD : W.heap[D]? = some (.deferred (some []))

theorem Aside.evo {ρ : Nat → Option Value} {S S' U' : Nat → Prop} {F : Nat → List Nat} {H : Hp} {w w' : World} {l D : Nat} {rec : Loop} (h : Aside S l D rec w) (hH : HRel ρ S F H w) (e : Evo S (Ub H F) w S' U' w') : Aside S' l D rec w' := by
  have hUl : ¬ Ub H F l := fun hU => by obtain ⟨arr, t, m, hc⟩ := hH.blocks hU; rw [h.hl] at hc; cases hc
  have hUD : ¬ Ub H F D := fun hU => by obtain ⟨arr, t, m, hc⟩ := hH.blocks hU; rw [h.hD] at hc; cases hc
  have hll : l < w.heap.size := (Array.getElem?_eq_some_iff.1 h.hl).1
  have hlD : D < w.heap.size := (Array.getElem?_eq_some_iff.1 h.hD).1
  refine ⟨fun hs => ?_, fun hs => ?_, (e.keep l hll hUl).trans h.hl, (e.keep D hlD hUD).trans h.hD⟩
  · rcases e.newS l hs with h1 | h1 | h1
    · exact h.sl h1
    · exact hUl h1
    · omega
  · rcases e.newS D hs with h1 | h1 | h1
    · exact h.sD h1
    · exact hUD h1
    · omega

theorem Aside.put {S : Nat → Prop} {l D : Nat} {rec rec' : Loop} {W : World} (h : Aside S l D rec W) (hne : D ≠ l) : Aside S l D rec' (W.putObj l (.loop rec')) :=
  ⟨h.sl, h.sD, World.putObj_heap_same (Array.getElem?_eq_some_iff.1 h.hl).1, (World.putObj_heap_other hne).trans h.hD⟩

theorem Marks.putObj {S : Nat → Prop} {ds : List Deferred} {W : World} {l : Nat} {o o' : Obj} (h : Marks B S ds W) (ho : W.heap[l]? = some o) (hc : ∀ x, o ≠ .deferred x) : Marks B S ds (W.putObj l o') := by
  obtain ⟨hB, Ds, hn, hd, hD⟩ := h
  refine ⟨by rw [World.putObj_size]; exact hB, Ds, hn, hd, fun D hm => ?_⟩
  obtain ⟨h1, h2, h3⟩ := hD D hm
  refine ⟨h1, h2, (World.putObj_heap_other fun e => ?_).trans h3⟩
  rw [e, ho] at h3
  exact hc _ (Option.some.inj h3)

theorem StRel.putObj {ρ : Nat → Option Value} {S : Nat → Prop} {F : Nat → List Nat} {st : St} {a : Act} {W : World} {l : Nat} {rc : Loop} {o' : Obj} (h : StRel B G ρ S F st a W) (hl : ¬ S l) (ho : W.heap[l]? = some (.loop rc)) : StRel B G ρ S F st a (W.putObj l o') :=
  ⟨h.defers.putObj ho (fun _ h => by cases h), h.size, fun i x hx => (h.tmps i x hx).mono (fun _ _ h _ => h) (Keeps.putObj hl), h.heap.putObj hl ho (fun _ _ _ h => by cases h), h.glob.mono (Keeps.putObj hl)⟩

theorem HRel.drawn {ρ : Nat → Option Value} {S : Nat → Prop} {F : Nat → List Nat} {H : Hp} {W : World} (h : HRel ρ S F H W) (d : Nat) : HRel ρ S F H { W with drawn := d } := by
  refine ⟨h.dom, fun i p hp => ?_, h.nodup, h.disj, h.sep, h.lt, h.slt⟩
  obtain ⟨r, hr, hob⟩ := h.obj i p hp
  exact ⟨r, hr, hob.mono (fun _ _ h _ => h) (fun b hb => ⟨hb, rfl⟩) fun _ _ => rfl⟩

theorem box_read {ρ1 : Nat → Option Value} {S1 : Nat → Prop} {F1 : Nat → List Nat} {H1 : Hp} {W : World} {j gb : Nat} {ety : TypeId} {nn : Bool} {α : Type} {enc : α → V} {la : List α} (hH1 : HRel ρ1 S1 F1 H1 W)
    (hl : look H1 j = some (.cells ety [.sl nn false (la.map fun x => [enc x])])) (hr : ∀ r, ρ1 j = some r → r = .pointer (some ⟨gb, 0, none⟩)) :
    ∃ a0 cap, W.cell? ⟨gb, 0, none⟩ = some (.slice a0 la.length cap) ∧ la.length ≤ maxLen ∧ ∀ k x, la[k]? = some x → ∃ b v, a0 = some b ∧ la.length ≤ cap ∧ W.cell? (b.add k) = some v ∧ v.oneCell' = true ∧ RD S1 W v (enc x) [] := by
  obtain ⟨r, hr', hob⟩ := hH1.obj j _ hl
  have e := hr r hr'
  subst e
  generalize F1 j = Fj at hob
  cases hob with
  | cells g arr _ _ hh hsz hcs =>
    obtain ⟨c, h1, h2, h3⟩ := hcs 0 _ rfl
    have hcell : W.cell? ⟨gb, 0, none⟩ = some c := (cell_of_row W gb 0 arr _ (0, 0) hh).trans h1
    have hd := h3.sl_inv
    have key : ∀ rows, (la.map fun x => [enc x]) = rows → RD S1 W c (.sl nn false rows) [] → ∃ a0 cap, c = .slice a0 la.length cap ∧ la.length ≤ maxLen ∧ ∀ k x, la[k]? = some x → ∃ b v, a0 = some b ∧ la.length ≤ cap ∧ W.cell? (b.add k) = some v ∧ v.oneCell' = true ∧ RD S1 W v (enc x) [] := by
      intro rows hrows hd
      cases hd with
      | nils =>
        have : la = [] := by simpa using hrows
        subst this
        exact ⟨none, 0, rfl, Nat.zero_le _, fun k x hx => by simp at hx⟩
      | shr a cap _ _ k cs hlen hcap hk hc hr =>
        have hl : rows.length = la.length := by rw [← hrows]; simp
        refine ⟨some a, cap, by rw [hl], by omega, fun k' x hx => ?_⟩
        have hrow : rows[k']? = some [enc x] := by rw [← hrows, List.getElem?_map, hx]; rfl
        have hk1 : 1 = k := hk k' _ hrow
        obtain ⟨_, hcl⟩ := hc k' 0 _ (enc x) hrow rfl
        have hrd := hr k' 0 _ (enc x) hrow rfl
        subst hk1
        exact ⟨a, cs k' 0, rfl, by omega, by simpa using hcl, hrd.one, hrd⟩
    obtain ⟨a0, cap, rfl, h5, h6⟩ := key _ rfl hd
    exact ⟨a0, cap, hcell, h5, h6⟩

theorem CodeOk.rangeBack {g : Operand} {asg body : Code} {T0 : List V} {H0 : Hp} {Q : Exit → St → Prop} {gf : FuncId} (hit : BackOk P gf) (hcf : callOk P gf) {α ι : Type} (enc : α → V) (la : List α)
    (m : Ren) (Tc : List V) (i0 : ι) (J : ι → Hp) (R : List α → ι → Prop) (j : Nat) (ety : TypeId) (nn : Bool) (p0 p1 : Tmp)
    (hm : m.ok = true) (hT : SubT m T0 Tc) (hH : SubH m H0 (J i0)) (hsm : V.smL Tc = true) (hg : ev G Tc g = .fn gf [.loc j 0]) (hj : j < 100) (hp : p0 ≠ p1)
    (hbox : ∀ i, look (J i) j = some (.cells ety [.sl nn false (la.map fun x => [enc x])])) (hR : R la.reverse i0)
    (round : ∀ x xs i, R (x :: xs) i → ∀ L, ∃ T1 H1, CodeOk (some L) P G asg ⟨(Tc.set p0 .junk).set p1 (enc x), J i⟩ (fun e st => e = .normal ∧ Weak st ⟨T1, H1⟩) ∧
      CodeOk (some L) P G body ⟨T1, H1⟩ (roundQ m Tc Q fun H => ∃ i', R xs i' ∧ H = J i'))
    (done : ∀ i, R [] i → Fin m Tc Q .normal (J i)) : CodeOk none P G (.rangeFunc g #[p0, p1] asg body) ⟨T0, H0⟩ Q := by
  intro B ρ S F a w RR hst hn
  obtain ⟨ρc, Fc, hHc, k2, k3, k4⟩ := hst.heap.rn hm hH
  -- the activation's slots under the loop's names
  have hTc : ∀ i y, Tc[i]? = some y → RV ρc S w (a.tmps.getD i undef) y := fun i y hy => by
    rcases hT.get hy with rfl | ⟨x, hx, rfl⟩
    · exact .junk _
    · exact (hst.tmps i x hx).rn k2
  have hsz : a.tmps.size = Tc.length := hst.size.trans hT.length
  have hE0 : Evo S (Ub H0 F) w S (Ub (J i0) Fc) w := ⟨rfl, rfl, rfl, Nat.le_refl _, fun _ _ _ => rfl, fun _ h => h, fun _ h => .inl h, fun b ⟨i, o, ho, hb⟩ => by
    obtain ⟨i', o', _, hl, e, _⟩ := k4 i o ho
    exact .inl ⟨i', o', hl, e ▸ hb⟩⟩
  -- the value of the function
  have hgv : ∃ gb, a.eval g = .func (.func gf) #[] #[.pointer (some ⟨gb, 0, none⟩)] ∧ ρc j = some (.pointer (some ⟨gb, 0, none⟩)) := by
    have h1 : RV ρc S w (a.eval g) (.fn gf [.loc j 0]) := by
      rw [← hg]
      cases g with
      | tmp t =>
        simp only [Act.eval, ev, List.getD_eq_getElem?_getD]
        cases ht : Tc[t]? with
        | none => exact .junk _
        | some y => exact hTc t y ht
      | const v => exact .c v
      | global q =>
        simp only [ev] at hg
        split at hg <;> cases hg
      | func f => simp [ev] at hg
    obtain ⟨arr, e1, e2, e3⟩ := h1.fn_inv
    obtain ⟨r, hr, _⟩ := hHc.obj j _ (hbox i0)
    obtain ⟨arr⟩ := arr
    match arr, e2 with
    | [v0], _ =>
      obtain ⟨gb, r1, r2⟩ := (e3 0 (.loc j 0) v0 rfl rfl).loc_inv r hr
      exact ⟨gb, by rw [e1, r2], by rw [hr, r1]⟩
  obtain ⟨gb, hgv, hgr⟩ := hgv
  refine wpIn_rangeFunc ?_
  intro fn _
  obtain ⟨rec, hrec⟩ : ∃ rec : LoopState → Option Code → Loop, rec = fun st pe => { state := st, pending := pe, fn, tmps := a.tmps, params := #[p0, p1], assign := asg, body, defers := w.heap.size } := ⟨_, rfl⟩
  obtain ⟨W1, hW1⟩ : ∃ W1, (w.alloc (.deferred (some []))).alloc (.loop (rec .ready none)) = W1 := ⟨_, rfl⟩
  have hL1 : W1.heap[w.heap.size + 1]? = some (.loop (rec .ready none)) := by
    rw [← hW1]; have := World.alloc_heap_new (w.alloc (.deferred (some []))) (.loop (rec .ready none)); rwa [World.size_alloc] at this
  have hK1 : W1.heap[w.heap.size]? = some (.deferred (some [])) := by
    rw [← hW1]; exact (Go.RowKit.Below.heap_alloc _ _ _ (by simp)).trans (World.alloc_heap_new w _)
  have hnS : ∀ b, w.heap.size ≤ b → ¬ S b := fun b hb hs => by have := hst.heap.slt b hs; omega
  -- what stands between two rounds
  let In : (Hp → Prop) → Loop → World → Prop := fun N rc W => ∃ H1 ρ1 S1 F1, N H1 ∧ HRel ρ1 S1 F1 H1 W ∧ Evo S (Ub H0 F) w S1 (Ub H1 F1) W ∧ AgF ρc ρ1 ∧ Aside S1 (w.heap.size + 1) w.heap.size rc W
  let Inv : Nat → World → Prop := fun k W => k ≤ la.length ∧ In (fun H => ∃ i, R (la.take k).reverse i ∧ H = J i) (rec .ready none) W
  let Stop : World → Prop := fun W => ∃ e : Exit, (e = .ret ∨ ∃ id, e = .exit id) ∧ In (Fin m Tc Q e) (rec .done (jumpOf e)) W
  have hIn1 : Inv la.length W1 := by
    refine ⟨Nat.le_refl _, J i0, ρc, S, Fc, ⟨i0, by simpa using hR, rfl⟩, ?_, ?_, AgF.refl _, hnS _ (by omega), hnS _ (by omega), hL1, hK1⟩
    · rw [← hW1]; exact hHc.alloc.alloc
    · rw [← hW1]; exact hE0.alloc.alloc
  -- the slots in any such world
  have hslot : ∀ {ρ1 : Nat → Option Value} {S1 U1 : Nat → Prop} {W : World}, Evo S (Ub H0 F) w S1 U1 W → AgF ρc ρ1 → ∀ i y, Tc[i]? = some y → RV ρ1 S1 W (a.tmps.getD i undef) y := fun hE hA i y hy =>
    (hTc i y hy).mono (fun q r hq hh => hA q r (V.sm_has (V.smL_mem hsm (List.mem_of_getElem? hy)) hh) hq) (hst.heap.keeps hE)
  have hgr1 : ∀ {ρ1 : Nat → Option Value}, AgF ρc ρ1 → ∀ r, ρ1 j = some r → r = .pointer (some ⟨gb, 0, none⟩) := fun hA r hr => by
    have := hA j r hj hr
    rw [hgr] at this
    exact (Option.some.inj this).symm
  have hmax : la.length ≤ maxLen := by
    obtain ⟨_, _, _, h, _⟩ := box_read hHc (hbox i0) (fun r hr => by rw [hgr] at hr; exact (Option.some.inj hr).symm)
    exact h
  -- behind the statement
  have hfin : ∀ (e : Exit) (H1 : Hp) (ρ1 : Nat → Option Value) (S1 : Nat → Prop) (F1 : Nat → List Nat) (W : World) (rc : Loop) (o : Obj), Fin m Tc Q e H1 → HRel ρ1 S1 F1 H1 W → Evo S (Ub H0 F) w S1 (Ub H1 F1) W → AgF ρc ρ1 →
      Aside S1 (w.heap.size + 1) w.heap.size rc W → RR e { a with defers := mark w.heap.size :: a.defers } (W.putObj (w.heap.size + 1) o) := by
    rintro e H1 ρ1 S1 F1 W rc o ⟨m', T2, H2, hm', hb, hT2, hH2, hQ⟩ hH1 hE hA has
    obtain ⟨ρ2, F2, hH3, q2, q3, q4⟩ := hH1.rn hm' hH2
    have hkp : Keeps S1 W S1 (W.putObj (w.heap.size + 1) o) := Keeps.putObj has.sl
    refine hn e _ hQ ρ2 S1 F2 _ _ ⟨?_, hsz.trans hT2.length, fun i y hy => ?_, hH3.putObj has.sl has.hl (fun _ _ _ h => by cases h), (hst.glob.mono (hst.heap.keeps hE)).mono hkp⟩ ⟨hE.os, hE.tape, hE.output, ?_, ?_, hE.sub, hE.newS, ?_⟩ ?_
    · obtain ⟨hB, Ds, hnd, hds, hD⟩ := hst.defers
      obtain ⟨hB1, _⟩ := hst.defers.evo hst.heap hE
      refine ⟨by rw [World.putObj_size]; exact hB1, w.heap.size :: Ds, List.nodup_cons.2 ⟨fun hm => ?_, hnd⟩, by rw [List.map_cons, hds], fun D hm => ?_⟩
      · have := (Array.getElem?_eq_some_iff.1 (hD _ hm).2.2).1
        omega
      · rcases List.mem_cons.1 hm with rfl | hm
        · exact ⟨hB, has.sD, (World.putObj_heap_other (by omega)).trans has.hD⟩
        · obtain ⟨d1, d2, d3⟩ := hD D hm
          have dlt := (Array.getElem?_eq_some_iff.1 d3).1
          have dU : ¬ Ub H0 F D := fun hU => by
            obtain ⟨arr, t, q, hc⟩ := hst.heap.blocks hU
            rw [d3] at hc; cases hc
          refine ⟨d1, fun hs => ?_, (World.putObj_heap_other (by omega)).trans ((hE.keep D dlt dU).trans d3)⟩
          rcases hE.newS D hs with h | h | h
          · exact d2 h
          · exact dU h
          · omega
    · rcases hT2.get hy with rfl | ⟨x, hx, rfl⟩
      · exact .junk _
      · exact ((hslot hE hA i x hx).rn q2).mono (fun _ _ h _ => h) hkp
    · rw [World.putObj_size]; exact hE.size
    · exact fun b hb hu => (World.putObj_heap_other (by omega)).trans (hE.keep b hb hu)
    · rintro b ⟨i, o', ho, hb'⟩
      obtain ⟨i', o2, _, hl, e2, _⟩ := q4 i o' ho
      exact hE.newU b ⟨i', o2, hl, e2 ▸ hb'⟩
    · intro i r hi hr
      obtain ⟨i', hi', hr'⟩ := q3 i r hr
      obtain ⟨h1, h2⟩ := backM_spec hb hi' hi
      exact k2 i i' r h2 (hA i' r h1 hr')
  refine ⟨w.heap.size + 1, [mark w.heap.size], W1, { target := .fn (.func gf) #[.pointer (some ⟨gb, 0, none⟩)], args := #[.func (.yield (w.heap.size + 1)) #[] #[]] }, W1, gf,
    #[.func (.yield (w.heap.size + 1)) #[] #[], .pointer (some ⟨gb, 0, none⟩)], W1, ?_, ?_, fun _ _ => trivial, ?_, fun h => (by cases h), ?_⟩
  · rw [← hW1, hrec]; exact run_enterLoop_outer _ _ _ _ _
  · simp only [resolve, hgv]
    simp [go_sem]
  · simp only [invoke]
    simp [go_sem]
    exact hcf _ _
  · refine CallsIn.mono (callsIn_wide.2 (hit (w.heap.size + 1) gb la.length Inv Stop W1 hmax ?_ ?_ ?_ hIn1) : CallsIn Fence.wide (0 - 1) P gf _ _ _) ?_
    · rintro W ⟨_, H1, ρ1, S1, F1, ⟨i, _, rfl⟩, hH1, hE, hA, has⟩
      obtain ⟨a0, cap, h1, _, _⟩ := box_read hH1 (hbox i) (hgr1 hA)
      exact ⟨a0, cap, h1⟩
    · rintro k W d ⟨hk, H1, ρ1, S1, F1, hN, hH1, hE, hA, has⟩
      exact ⟨hk, H1, ρ1, S1, F1, hN, hH1.drawn d, ⟨hE.os, hE.tape, hE.output, hE.size, hE.keep, hE.sub, hE.newS, hE.newU⟩, hA, ⟨has.sl, has.sD, has.hl, has.hD⟩⟩
    · rintro k W ⟨hk, H1, ρ1, S1, F1, ⟨i, hRi, rfl⟩, hH1, hE, hA, has⟩
      obtain ⟨x, hx⟩ : ∃ x, la[k]? = some x := ⟨_, List.getElem?_eq_getElem (by omega)⟩
      have hxs : (la.take (k + 1)).reverse = x :: (la.take k).reverse := by rw [List.take_add_one, hx]; simp
      rw [hxs] at hRi
      obtain ⟨a0, cap, h1, _, h3⟩ := box_read hH1 (hbox i) (hgr1 hA)
      obtain ⟨b, v, rfl, h4, h5, h6, h7⟩ := h3 k x hx
      refine ⟨by omega, b, cap, v, h1, h4, h5, h6, fn, _, asg, body, by rw [run_yield has.hl (by rw [hrec]; rfl), hrec], roundIn_of_wpIn trivial ?_⟩
      obtain ⟨T1, H2, hasg, hbody⟩ := round x _ i hRi (w.heap.size + 1)
      refine hasg 0 ρ1 S1 F1 _ W _ ⟨Marks.nil _ (Nat.zero_le _), ?_, fun q y hy => ?_, hH1, hst.glob.mono (hst.heap.keeps hE)⟩ ?_
      · simp [hsz]
      · have hq : q < Tc.length := by have := (List.getElem?_eq_some_iff.1 hy).1; simpa using this
        simp only [List.zip_toArray, List.zip_cons_cons, List.zip_nil_right, List.foldl_toArray, List.foldl_cons, List.foldl_nil]
        rw [getD_setIfInBounds (by simp [hsz, hq])]
        rcases set_get hy with ⟨rfl, rfl⟩ | ⟨hne, hy⟩
        · rw [if_pos rfl]; exact h7.toRV
        · rw [if_neg hne, getD_setIfInBounds (by rw [hsz]; exact hq)]
          rcases set_get hy with ⟨rfl, rfl⟩ | ⟨hne, hy⟩
          · rw [if_pos rfl]; exact .junk _
          · rw [if_neg hne]; exact hslot hE hA q y hy
      · rintro e st' ⟨rfl, hw⟩
        intro ρ2 S2 F2 a2 w2 hst2 hE2 hA2
        obtain ⟨ρ3, S3, F3, hst3, hE3, hA3⟩ := hw _ G ρ2 S2 F2 a2 w2 hst2
        have hE23 := hE2.trans hE3
        have has3 := has.evo hH1 hE23
        refine ⟨_, run_beginRound has3.hl (by rw [hrec]), ?_⟩
        have hrb : ({ rec .ready none with state := .busy } : Loop) = rec .busy none := by rw [hrec]
        rw [hrb]
        have has4 := has3.put (rec' := rec .busy none) (by omega)
        have hE4 : Evo S (Ub H0 F) w S3 (Ub H2 F3) (w2.putObj (w.heap.size + 1) (.loop (rec .busy none))) := (hE.trans hE23).putObj (by omega)
        have hst4 := hst3.putObj (o' := .loop (rec .busy none)) has3.sl has3.hl
        refine hbody 0 ρ3 S3 F3 a2 _ _ hst4 ?_
        intro e st4 hq
        intro ρ5 S5 F5 a5 w5 hst5 hE5 hA5
        have hA05 := ((hA.trans hA2).trans hA3).trans hA5
        have has5 := has4.evo hst4.heap hE5
        have hE05 := hE4.trans hE5
        cases e with
        | normal =>
          obtain ⟨T6, H6, hw6, i', hR', rfl⟩ := hq
          obtain ⟨ρ6, S6, F6, hst6, hE6, hA6⟩ := hw6 _ G ρ5 S5 F5 a5 w5 hst5
          have has6 := has5.evo hst5.heap hE6
          refine ⟨_, _, run_endRound none has6.hl, .inl ⟨rfl, by omega, _, ρ6, S6, F6, ⟨i', hR', rfl⟩, hst6.heap.putObj has6.sl has6.hl (fun _ _ _ h => by cases h), (hE05.trans hE6).putObj (by omega), hA05.trans hA6, ?_⟩⟩
          have : ({ rec .busy none with state := if (none : Option Code).isNone then .ready else .done, pending := none } : Loop) = rec .ready none := by rw [hrec]; rfl
          rw [this]
          exact has6.put (by omega)
        | ret =>
          refine ⟨_, _, run_endRound (some .ret) has5.hl, .inr ⟨rfl, .ret, .inl rfl, _, ρ5, S5, F5, hq, hst5.heap.putObj has5.sl has5.hl (fun _ _ _ h => by cases h), hE05.putObj (by omega), hA05, ?_⟩⟩
          have : ({ rec .busy none with state := if (some Code.ret).isNone then .ready else .done, pending := some .ret } : Loop) = rec .done (jumpOf .ret) := by rw [hrec]; rfl
          rw [this]
          exact has5.put (by omega)
        | exit id =>
          refine ⟨_, _, run_endRound (some (.exit id)) has5.hl, .inr ⟨rfl, .exit id, .inr ⟨id, rfl⟩, _, ρ5, S5, F5, hq, hst5.heap.putObj has5.sl has5.hl (fun _ _ _ h => by cases h), hE05.putObj (by omega), hA05, ?_⟩⟩
          have : ({ rec .busy none with state := if (some (Code.exit id)).isNone then .ready else .done, pending := some (.exit id) } : Loop) = rec .done (jumpOf (.exit id)) := by rw [hrec]; rfl
          rw [this]
          exact has5.put (by omega)
        | goto t => exact hq.elim
        | panic ch => exact hq.elim
        | outgrown => exact hq.elim
    · rintro e W2 ⟨⟨v, rfl⟩, ⟨_, H1, ρ1, S1, F1, ⟨i, hRi, rfl⟩, hH1, hE, hA, has⟩ | ⟨e, he, H1, ρ1, S1, F1, hf, hH1, hE, hA, has⟩⟩
      · refine ⟨none, _, by have := run_endLoop (P := P) has.hl (by rw [hrec]; simp); rw [hrec] at this; exact this, ?_⟩
        exact hfin .normal _ ρ1 S1 F1 W2 _ _ (done i (by simpa using hRi)) hH1 hE hA has
      · rcases he with rfl | ⟨id, rfl⟩
        · refine ⟨some .ret, _, by have := run_endLoop (P := P) has.hl (by rw [hrec]; simp); rw [hrec] at this; exact this, ?_⟩
          exact wpIn_ret (hfin .ret _ ρ1 S1 F1 W2 _ _ hf hH1 hE hA has)
        · refine ⟨some (.exit id), _, by have := run_endLoop (P := P) has.hl (by rw [hrec]; simp); rw [hrec] at this; exact this, ?_⟩
          exact wpIn_exit (hfin (.exit id) _ ρ1 S1 F1 W2 _ _ hf hH1 hE hA has)

/-- by what the walk prints: the names, the slots told -/
theorem Fin.mk' (m' : Ren) (ks : List Nat) (T2 : List V) (H2 : Hp) {m : Ren} {Tc : List V} {Q : Exit → St → Prop} {e : Exit} {H1 : Hp} (h1 : (m'.ok && backM m m' && selfOk m') = true) (hT : keepT m' ks 0 Tc = T2) (hH : handV m' H1 m' = some H2) (hQ : Q e ⟨T2, H2⟩) : Fin m Tc Q e H1 := by
  simp only [Bool.and_eq_true] at h1
  subst hT
  exact ⟨m', _, H2, h1.1.1, h1.1.2, keepT_sub m' ks 0 Tc, handV_sub hH (selfOk_spec h1.2) fun p _ => rfl, hQ⟩

theorem CodeOk.rangeB {g : Operand} {asg body : Code} {T0 : List V} {H0 : Hp} {Q : Exit → St → Prop} {gf : FuncId} (hit : BackOk P gf) (hcf : callOk P gf) {α ι : Type} (enc : α → V) (la : List α)
    (m : Ren) (ks : List Nat) (Tc : List V) (i0 : ι) (J : ι → Hp) (R : List α → ι → Prop) (j : Nat) (ety : TypeId) (nn : Bool) (p0 p1 : Tmp)
    (h1 : (m.ok && selfOk m && V.smL Tc && Nat.blt j 100 && p0 != p1) = true) (hT : keepT m ks 0 T0 = Tc) (hH : handV m H0 m = some (J i0)) (hg : ev G Tc g = .fn gf [.loc j 0])
    (hbox : ∀ i, look (J i) j = some (.cells ety [.sl nn false (la.map fun x => [enc x])])) (hR : R la.reverse i0)
    (round : ∀ x xs i, R (x :: xs) i → ∀ L, ∃ T1 H1, CodeOk (some L) P G asg ⟨(Tc.set p0 .junk).set p1 (enc x), J i⟩ (fun e st => e = .normal ∧ Weak st ⟨T1, H1⟩) ∧
      CodeOk (some L) P G body ⟨T1, H1⟩ (roundQ m Tc Q fun H => ∃ i', R xs i' ∧ H = J i'))
    (done : ∀ i, R [] i → Fin m Tc Q .normal (J i)) : CodeOk none P G (.rangeFunc g #[p0, p1] asg body) ⟨T0, H0⟩ Q := by
  simp only [Bool.and_eq_true, Nat.blt_eq, bne_iff_ne] at h1
  subst hT
  exact CodeOk.rangeBack hit hcf enc la m _ i0 J R j ety nn p0 p1 h1.1.1.1.1 (keepT_sub m ks 0 T0) (handV_sub hH (selfOk_spec h1.1.1.1.2) fun p _ => rfl) h1.1.1.2 hg h1.1.2 h1.2 hbox hR round done

/-! ### the iterator, walked by hand -/
theorem listVal {ops : Array Oper} {Q : Exit → Act → World → Prop} {o : Oper} {rest : List Oper} {a : Act} {w w' : World} {v : Value} (hg : o.guard = none) (hd : ∀ c, o.op ≠ .defer c) (hr : (execOp a.eval o).run P w = .ok (.value v) w')
    (k : wpListIn (fen L) 0 P ops Q rest (a.put o.dst v) w') : wpListIn (fen L) 0 P ops Q (o :: rest) a w := by
  unfold wpListIn
  rw [if_pos (by simp [Region.wanted, hg])]
  refine ⟨fun _ _ => trivial, ?_⟩
  rw [Oper.semAt_eq _ _ _ hd, hr, Oper.uponIn_value]
  exact k

theorem listRound {ops : Array Oper} {Q : Exit → Act → World → Prop} {o : Oper} {rest : List Oper} {a : Act} {w : World} {l : Nat} {f : FuncId} {tmps : Array Value} {asg body : Code} {K : Ending → World → Prop} (hg : o.guard = none) (hd : ∀ c, o.op ≠ .defer c)
    (hr : (execOp a.eval o).run P w = .ok (.round l f tmps asg body) w) (hR : RoundIn Fence.wide 0 P l f tmps asg body w K)
    (k : ∀ e w', K e w' → ∃ v, e = .returned v ∧ wpListIn (fen L) 0 P ops Q rest (a.put o.dst v) w') : wpListIn (fen L) 0 P ops Q (o :: rest) a w := by
  unfold wpListIn
  rw [if_pos (by simp [Region.wanted, hg])]
  refine ⟨fun _ _ => trivial, ?_⟩
  rw [Oper.semAt_eq _ _ _ hd, hr, Oper.uponIn_round]
  refine ⟨fun h => (by cases h), ?_⟩
  refine RoundIn.mono (F := fen L) (n := 0 - 1) hR fun e w' h => ?_
  obtain ⟨v, rfl, h2⟩ := k e w' h
  exact h2

theorem rounds_by {F : Fence} {m : Nat} {c : Code} {Q : Exit → Act → World → Prop} (I : Nat → Act → World → Prop) (hz : ∀ a W, I 0 a W → c.wpIn F m P (Exit.then (fun _ _ => False) Q) a W) (hs : ∀ k a W, I (k + 1) a W → c.wpIn F m P (Exit.then (I k) Q) a W) :
    ∀ (n : Nat) (a : Act) (w : World), I n a w → Code.roundsIn F m P c Q (n + 1) a w
  | 0, a, w, h => hz a w h
  | n + 1, a, w, h => wpIn_mono (hs n a w h) fun e a' w' hq => by
    cases e <;> first
      | exact hq
      | exact rounds_by I hz hs n a' w' hq

/-- a slot of an activation -/
def slot (a : Act) (t : Nat) : Value := a.tmps.getD t undef
theorem eval_slot (a : Act) (t : Tmp) : a.eval (.tmp t) = slot a t := rfl
theorem slot_put {a : Act} {d t : Nat} {v : Value} (h : t < a.tmps.size) : slot (a.put (some d) v) t = if t = d then v else slot a t := getD_setIfInBounds h
theorem aput_size {a : Act} {d : Option Tmp} {v : Value} : (a.put d v).tmps.size = a.tmps.size := by cases d <;> simp [Act.put]
theorem aput_def {a : Act} {d : Option Tmp} {v : Value} : (a.put d v).defers = a.defers := by cases d <;> rfl

theorem run_load1 {D : Tab} (hD : TabOk P D) {t : TypeId} {it : Ty} (ht : D.at t = some it) (hag : it.d.agg = false) {b : Addr} {c v : Value} {w : World} (hv : v = .pointer (some b)) (hc : w.cell? b = some c) : (Instr.loadAt t v).run P w = .ok c w := by
  subst hv
  have hpart : (loadVar t b).run P w = .ok c w := by
    simp only [loadVar, Sem.run_bind, (hD _ _ ht).isAgg w, Result.andThen_ok, hag]
    simp [hc]
  simp [Instr.loadAt, Instr.sureAddr, hpart]

end
end Go.Av

namespace Go.Av

/-- a shift to the left; none where it is by less than nothing -/
def shlO (k : IntKind) (a b : Int) : Option Int := bif decide (b < 0) then none else some (k.wrap (a * 2 ^ (min b.toNat k.bits)))

/-- each object under its own name; the slots of which something is said -/
def mOf (H : Hp) : Ren := H.map fun p => (p.1, p.1)
def ksOf : List V → Nat → List Nat
  | [], _ => []
  | .junk :: r, n => ksOf r (n + 1)
  | _ :: r, n => n :: ksOf r (n + 1)

def mOk (H : Hp) : Bool := (mOf H).ok && (mOf H).keep && selfOk (mOf H)

section
variable {P : Program} {G : Nat → Option (List V)} {L : Option Nat}

def shlW (G : Nat → Option (List V)) (ops : Array Oper) (i : Nat) (T : List V) : Option (V × V) :=
  match opW ops i T with
  | some (.binOp .shl _ x y _) => some (ev G T x, ev G T y)
  | _ => none

theorem W.shl {ops : Array Oper} {draw : Bool} {T0 : List V} {H0 : Hp} {i : Nat} {T : List V} {H : Hp} {Es : List (Bool × Eff)} {Q : St → Prop} {k k' : IntKind} {a b r : Int} (hx : shlO k a b = some r) (h : shlW G ops i T = some (.c (.int k a), .c (.int k' b)))
    (kk : W P G ops draw T0 H0 (i + 1) (setO T (dstW ops i) (.c (.int k r))) H (Es ++ [(true, { v := .c (.int k r) })]) Q) : W P G ops draw T0 H0 i T H Es Q := by
  unfold shlO at hx
  cases hb : decide (b < 0) with
  | true => rw [hb] at hx; cases hx
  | false =>
    rw [hb] at hx
    have hx := Option.some.inj hx
    subst hx
    have hb' : ¬ b < 0 := of_decide_eq_false hb
    unfold shlW at h
    split at h
    · rename_i t x y t' hop
      simp only [Option.some.injEq, Prod.mk.injEq] at h
      refine W.gen0 (.c (.int k (k.wrap (a * 2 ^ (min b.toNat k.bits))))) [] hop (fun o ho e' H' he _ => ?_) kk
      refine stepV_sound (D := []) (fun t i h => by simp [Tab.at] at h) ?_
      rw [ho]
      have e1 := (he x (by simp [Op.operands])).trans h.1
      have e2 := (he y (by simp [Op.operands])).trans h.2
      simp [stepV, binV, e1, e2, shiftV, hb']
    · cases h

/-- the end of a region, the state told by hand, each object under its own name -/
theorem W.fi {ops : Array Oper} {draw : Bool} {T0 : List V} {H0 : Hp} {i : Nat} {T : List V} {H : Hp} {Es : List (Bool × Eff)} {T' : List V} {H' : Hp}
    (h : (Nat.ble ops.size i && (okR draw ops T0 H0 Es && mOk H'), keepT (mOf H') (ksOf T' 0) 0 T, handV (mOf H') H (mOf H')) = (true, T', some H')) : W P G ops draw T0 H0 i T H Es fun st => Weak st ⟨T', H'⟩ := by
  simp only [Prod.mk.injEq, Bool.and_eq_true, Nat.ble_eq] at h
  obtain ⟨⟨h1, h2, h3⟩, h4, h5⟩ := h
  exact W.fin h1 h2 (Weak.sel _ _ h3 h4 h5)

theorem W.fs (m : Ren) (ks : List Nat) {ops : Array Oper} {draw : Bool} {T0 : List V} {H0 : Hp} {i : Nat} {T : List V} {H : Hp} {Es : List (Bool × Eff)} {T' : List V} {H' : Hp}
    (h : (Nat.ble ops.size i && (okR draw ops T0 H0 Es && (m.ok && m.keep && selfOk m)), keepT m ks 0 T, handV m H m) = (true, T', some H')) : W P G ops draw T0 H0 i T H Es fun st => Weak st ⟨T', H'⟩ := by
  simp only [Prod.mk.injEq] at h
  obtain ⟨h1, h4, h5⟩ := h
  rw [Bool.and_eq_true, Bool.and_eq_true, Nat.ble_eq] at h1
  exact W.fin h1.1 h1.2.1 (Weak.sel _ _ h1.2.2 h4 h5)

/-- a region that only reckons -/
def cuC (D : Tab) (G : Nat → Option (List V)) (ops : Array Oper) (draw : Bool) (n q : Nat) (T : List V) (H : Hp) (T' : List V) (H' : Hp) : Bool × List V × Option Hp :=
  match runE D G ops n q 0 T H with
  | some r => (Nat.ble ops.size n && (okR draw ops T H r.Es && mOk H'), keepT (mOf H') (ksOf T' 0) 0 r.T, handV (mOf H') r.H (mOf H'))
  | none => (false, [], none)

theorem cuW {D : Tab} (hD : TabOk P D) (n q : Nat) {ops : Array Oper} {draw : Bool} {T : List V} {H : Hp} {T' : List V} {H' : Hp} (h : cuC D G ops draw n q T H T' H' = (true, T', some H')) : W P G ops draw T H 0 T H [] fun st => Weak st ⟨T', H'⟩ := by
  unfold cuC at h
  split at h
  · rename_i r hr
    refine W.runSome hD n hr ?_
    rw [Nat.zero_add, List.nil_append]
    exact W.fi h
  · cases h

theorem cu {D : Tab} (hD : TabOk P D) (hm : P.follows .mixedOrders = true) (n q : Nat) (T' : List V) (H' : Hp) {id : Nat} {l : List Oper} {draw : Bool} {c : Code} {T : List V} {H : Hp} {Q : Exit → St → Prop}
    (h : cuC D G l.toArray draw n q T H T' H' = (true, T', some H')) (k : CodeOk L P G c ⟨T', H'⟩ Q) : CodeOk L P G (.seq (.region id l.toArray draw) c) ⟨T, H⟩ Q :=
  CodeOk.cutR T' H' hm (cuW hD n q h) k

theorem ce {D : Tab} (hD : TabOk P D) (hm : P.follows .mixedOrders = true) (n q : Nat) (T' : List V) (H' : Hp) {id : Nat} {l : List Oper} {draw : Bool} {T : List V} {H : Hp} {Q : Exit → St → Prop}
    (h : cuC D G l.toArray draw n q T H T' H' = (true, T', some H')) (hQ : ∀ st, Weak st ⟨T', H'⟩ → Q .normal st) : CodeOk L P G (.region id l.toArray draw) ⟨T, H⟩ Q :=
  CodeOk.endR T' H' hm (cuW hD n q h) hQ
end
end Go.Av

namespace Go.Av

theorem bind_rev {α β : Type} {x : Option α} {f : α → Option β} {r : β} {P : Prop} (k : ∀ a, x = some a → f a = some r → P) (h : Option.bind x f = some r) : P :=
  match bind_some h with
  | ⟨a, h1, h2⟩ => k a h1 h2

theorem cond_rev {β : Type} {c : Bool} {x y : Option β} {r : β} {P : Prop} (k : c = true → x = some r → P) (k' : c = false → y = some r → P) (h : (bif c then x else y) = some r) : P :=
  match cond_some h with
  | .inl ⟨h1, h2⟩ => k h1 h2
  | .inr ⟨h1, h2⟩ => k' h1 h2

section
variable {P : Program} {G : Nat → Option (List V)}

theorem RV.vw_inv {ρ : Nat → Option Value} {S : Nat → Prop} {w : World} {v : Value} {i k a n : Nat} (h : RV ρ S w v (.vw i k a n)) : ∀ r, ρ i = some r → (v = .slice none 0 0 ∧ n = 0) ∨ ∃ A c, v = .slice (some A) n c ∧ (n ≠ 0 → ∃ g m cap, r = .slice (some ⟨g, 0, none⟩) m cap ∧ A = ⟨g, a * k, none⟩) := by cases h; assumption

theorem OpOk.view {D : Tab} (hD : TabOk P D) {o : Oper} {e : Operand → V} {H : Hp} {t el : TypeId} {x : Operand} {l h : Option Operand} {it ie : Ty} {i : Nat} {nn : Bool} {ety : Tg} {rows : List (List V)} (lo hi : Nat)
    (ho : o.op = .slice t x l h none) (ht : D.at t = some it) (hit : it.d = .slice el) (hel : D.at el = some ie) (hx : e x = .own i) (hl : look H i = some (.vec nn ety ie.size rows)) (hc : cutOk e rows.length lo hi l h) :
    OpOk P G o e H (.vw i ie.size lo (hi - lo)) H [] := by
  refine OpOk.pure fun ρ S F η w hη hH => ?_
  have h1 := hη x (by simp [ho, Op.operands])
  rw [hx] at h1
  obtain ⟨r, hr, hob⟩ := hH.obj i _ hl
  have hxr := h1.own_inv r hr
  have h3 := hc.1
  have h4 := hc.2.1
  unfold execOp
  simp only [ho, hxr, Instr.sliceAt, Sem.run_bind, run_underlying (slice_ty hD ht hit), Result.andThen_ok, Option.map_none]
  generalize F i = Fi at hob
  cases hob with
  | vnil =>
    have hlo : lo = 0 := by simp at h4; omega
    have hhi : hi = 0 := by simp at h4; omega
    subst hlo hhi
    have hb := run_sliceBounds (P := P) (ρ := ρ) (S := S) (w := w) (isSlice := true) (η := η) (e := e) (l := l) (h := h) (cap := 0) (fun y hy => hη y (by simp [ho, Op.operands, hy])) (fun y hy => hη y (by simp [ho, Op.operands, hy])) hc (by simp)
    refine ⟨.slice none 0 0, ?_, .vw _ _ _ _ _ fun _ _ => .inl ⟨rfl, rfl⟩⟩
    simp only [List.length_nil] at hb
    simp [Instr.slice, run_underlying (slice_ty hD ht hit), hb, (hD _ _ hel).sizeOf w]
  | vec g cap arr _ _ _ _ cs Fs hh hcap hmax hsz hk hcc hrd =>
    have hb := run_sliceBounds (P := P) (ρ := ρ) (S := S) (w := w) (isSlice := true) (η := η) (e := e) (l := l) (h := h) (cap := cap) (fun y hy => hη y (by simp [ho, Op.operands, hy])) (fun y hy => hη y (by simp [ho, Op.operands, hy])) hc hcap
    refine ⟨.slice (some (if cap = lo then ⟨g, 0, none⟩ else (⟨g, 0, none⟩ : Addr).add (lo * ie.size))) (hi - lo) (cap - lo), ?_, ?_⟩
    · simp only [Instr.slice, Sem.run_bind, run_underlying (slice_ty hD ht hit), Result.andThen_ok, hb, (hD _ _ hel).sizeOf w, Sem.run_pure]
      split <;> rfl
    · refine .vw _ _ _ _ _ fun r' hr' => .inr ⟨_, _, rfl, fun hn => ⟨g, rows.length, cap, ?_, ?_⟩⟩
      · rw [hr] at hr'; cases hr'; rfl
      · rw [if_neg (by omega), Addr.add_lit, Nat.zero_add]

theorem flat_nil (n k : Nat) : flat n k (fun _ _ => []) = [] := by
  simp [flat]

/-- a part of one's own slice whose cells hold nothing but themselves, as what is appended -/
theorem SrcV.of_view {ρ : Nat → Option Value} {S : Nat → Prop} {w : World} {tx e' : TypeId} (ht : P.underlying tx = some (.slice e')) {r : Value} {nn : Bool} {e : Tg} {k : Nat} {rows : List (List V)} {F : List Nat} (h : ObR ρ S w r (.vec nn e k rows) F)
    {i a n : Nat} (hρ : ρ i = some r) {v : Value} (hv : RV ρ S w v (.vw i k a n)) (han : a + n ≤ rows.length) (hflat : ∀ r, r ∈ rows → ∀ y, y ∈ r → ∃ u, y = .c u) : SrcV P S w k tx v ((rows.drop a).take n) [] := by
  have hl2 : ((rows.drop a).take n).length = n := by simp; omega
  rcases hv.vw_inv r hρ with ⟨rfl, h0⟩ | ⟨A, c, rfl, hA⟩
  · subst h0
    exact ⟨[], fun _ _ => undef, fun _ _ => [], by simpa using Src.ofNil w ht 0, by simp [flat], fun i r h => by simp at h, fun i j r y h => by simp at h⟩
  · by_cases hn : n = 0
    · subst hn
      refine ⟨[], fun _ _ => undef, fun _ _ => [], ?_, by simp [flat], fun i r h => by simp at h, fun i j r y h => by simp at h⟩
      simp only [List.take_zero, List.length_nil]
      exact Src.ofSlice w ht A 0 c [] (by simp) (fun p u hu => by simp at hu) (fun u hu => by cases hu)
    · obtain ⟨g, m, cap, rfl, rfl⟩ := hA hn
      cases h with
      | vec _ _ arr _ _ _ _ cs Fs hh hcap hmax hsz hk hc hr =>
        have hget : ∀ (i : Nat) (r : List V), ((rows.drop a).take n)[i]? = some r → i < n ∧ rows[a + i]? = some r := fun i r hi' => by
          rw [List.getElem?_take] at hi'
          split at hi'
          · rw [List.getElem?_drop] at hi'; exact ⟨‹_›, hi'⟩
          · cases hi'
        have hall : rows.length * k ≤ arr.size := by rw [hsz]; exact Nat.mul_le_mul_right _ hcap
        have hak : a * k + n * k ≤ rows.length * k := by rw [← Nat.add_mul]; exact Nat.mul_le_mul_right _ han
        refine ⟨(arr.toList.drop (a * k)).take (n * k), fun i j => cs (a + i) j, fun _ _ => [], ?_, by rw [flat_nil], fun i r hi => hk _ r (hget i r hi).2, fun i j r y h1 h2 => ⟨?_, ?_⟩⟩
        · rw [hl2]
          refine Src.ofSlice w ht ⟨g, a * k, none⟩ n c _ (by simp; omega) (fun p u hu => ?_) (fun u hu => ?_)
          · rw [Addr.add_lit, cell_of_row w g _ arr _ (0, 0) hh]
            rw [List.getElem?_take] at hu
            split at hu
            · rw [List.getElem?_drop] at hu; simpa using hu
            · cases hu
          · obtain ⟨p, hp⟩ := List.getElem?_of_mem hu
            have hlt : p < n * k := by have := (List.getElem?_eq_some_iff.1 hp).1; simp at this; omega
            rw [List.getElem?_take, if_pos hlt, List.getElem?_drop] at hp
            have hk0 : 0 < k := by
              rcases Nat.eq_zero_or_pos k with h0 | h0
              · rw [h0, Nat.mul_zero] at hlt; omega
              · exact h0
            have hi : p / k < n := Nat.div_lt_of_lt_mul (by rwa [Nat.mul_comm])
            have hj : p % k < k := Nat.mod_lt _ hk0
            have h1 : rows[a + p / k]? = some rows[a + p / k] := List.getElem?_eq_getElem (by omega)
            have hj' : p % k < rows[a + p / k].length := by rw [hk _ _ h1]; exact hj
            have h2 : rows[a + p / k][p % k]? = some rows[a + p / k][p % k] := List.getElem?_eq_getElem hj'
            have h3 := hc _ _ _ _ h1 h2
            rw [show (a + p / k) * k + p % k = a * k + p by rw [Nat.add_mul, Nat.add_assoc, Nat.mul_comm (p / k)]; congr 1; exact Nat.div_add_mod p k] at h3
            have hp' : arr[a * k + p]? = some u := by simpa using hp
            rw [h3] at hp'
            cases hp'
            exact (hr _ _ _ _ h1 h2).one
        · obtain ⟨hin, h1'⟩ := hget i r h1
          have hj : j < k := by have := (List.getElem?_eq_some_iff.1 h2).1; rw [hk _ r h1'] at this; exact this
          rw [List.getElem?_take, if_pos (idx_lt hin hj), List.getElem?_drop]
          have := hc _ j r y h1' h2
          rw [Nat.add_mul, Nat.add_assoc] at this
          simpa using this
        · obtain ⟨hin, h1'⟩ := hget i r h1
          obtain ⟨u, rfl⟩ := hflat r (List.mem_of_getElem? h1') y (List.mem_of_getElem? h2)
          have := hr _ j r _ h1' h2
          show RD S w (cs (a + i) j) (.c u) []
          generalize Fs (a + i) j = Fx at this
          generalize cs (a + i) j = vx at this ⊢
          cases this
          exact .c _ ‹_›

theorem OpOk.appendView {D : Tab} (hD : TabOk P D) {o : Oper} {e : Operand → V} {H : Hp} {s x : Operand} {t el : TypeId} {it ie : Ty} (q : Nat) {i j a n : Nat} {nn nn2 : Bool} {el2 : Tg} {rows rows2 : List (List V)} (nn' : Bool)
    (ho : o.op = .call { callee := .builtin .append, args := #[s, x], argTypes := #[t, t] }) (ht : D.at t = some it) (hit : it.d = .slice el) (hel : D.at el = some ie)
    (hs : e s = .own i) (hx : e x = .vw j ie.size a n) (hi : look H i = some (.vec nn el ie.size rows)) (hj : look H j = some (.vec nn2 el2 ie.size rows2)) (han : a + n ≤ rows2.length) (hflat : ∀ r, r ∈ rows2 → ∀ y, y ∈ r → ∃ u, y = .c u)
    (hlen : rows.length + n ≤ maxLen) (hb : (rows.length + n) * ie.bytes ≤ 140737488355328) (hq : hasH q H = false) (hnn : nn' = true → nn = true ∨ (rows2.drop a).take n ≠ []) :
    OpOk P G o e H (.own q) ((q, .vec nn' el ie.size (rows ++ (rows2.drop a).take n)) :: hrem [i] H) [q] := by
  intro ρ S F η w hη hH hG
  have h1 := hη s (by simp [ho, Op.operands, Call.operands])
  have h2 := hη x (by simp [ho, Op.operands, Call.operands])
  rw [hs] at h1
  rw [hx] at h2
  obtain ⟨r, hr, hob⟩ := hH.obj j _ hj
  obtain ⟨_, ⟨d, u1, u2⟩, _⟩ := hD _ _ ht
  rw [hit] at u2
  have hd : d = .slice el := by cases d <;> simp_all [TD.is]
  subst hd
  have hl2 : ((rows2.drop a).take n).length = n := by simp; omega
  obtain ⟨v, w', hrun, hp⟩ := Post.append hD hH ht hit hel (tag := .ty el) (.ty el) (fun e1 v h h2 => ⟨h fun _ _ h => h.1, h2 fun _ _ h => h.2⟩) trivial hi (SrcV.of_view (P := P) u1 hob hr h2 han hflat) List.nodup_nil [] (fun b hb' => by cases hb') (by rw [hl2]; exact hlen) (by rw [hl2]; exact hb) hq hnn h1 (tx := t) (ty := o.type)
  unfold ExecTo
  rw [resolve_append ho hrun]
  exact hp

theorem flat_encI : ∀ x y, y ∈ encI x → ∃ u, y = .c u := fun x y h => by
  simp only [encI, List.mem_singleton] at h
  exact ⟨_, h⟩

theorem Reader.u8 {t : TypeId} (ht : P.underlying t = some (.int .u8)) : Reader P t byteRow (fun _ => True) := by
  intro H e w fuel cs x h
  obtain ⟨n, hn, hr⟩ := Reader.int ht e w fuel cs x h
  have h1 : 0 ≤ n ∧ n ≤ 255 := by simpa [Lit.wf, IntKind.min, IntKind.max, IntKind.signed, IntKind.bits] using hn
  have h2 : ((UInt8.ofNat n.toNat).toNat : Int) = n := by
    rw [UInt8.toNat_ofNat']
    omega
  refine ⟨UInt8.ofNat n.toNat, trivial, fun S hS => ?_⟩
  have := hr S hS
  unfold byteRow
  rw [h2]
  exact this

/-! ### one's own slice against nil; the first round of a loop by itself -/
def neN {α : Type} : List α → Option Bool
  | [] => none
  | _ :: _ => some false

theorem OpOk.nilO {D : Tab} (hD : TabOk P D) {o : Oper} {e : Operand → V} {H : Hp} {t t' el : TypeId} {it : Ty} {x y : Operand} {j : Nat} {nn : Bool} {ety : Tg} {k : Nat} {rows : List (List V)} (ho : o.op = .binOp .eql t x y t') (ht : D.at t = some it) (hit : it.d = .slice el) (hy : e y = .c (.slice none 0 0))
    (hx : e x = .own j) (hl : look H j = some (.vec nn ety k rows)) (hr : rows ≠ []) : OpOk P G o e H (.c (.bool false)) H [] := by
  refine OpOk.pure fun ρ S F η w hη hH => ?_
  have h1 := hη x (by simp [ho, Op.operands])
  have h2 := hη y (by simp [ho, Op.operands])
  rw [hy] at h2
  rw [hx] at h1
  have hu := slice_ty hD ht hit
  obtain ⟨r, hr', hob⟩ := hH.obj j _ hl
  have hxr := h1.own_inv r hr'
  refine ⟨_, ?_, .c _⟩
  unfold execOp
  generalize F j = Fj at hob
  cases hob with
  | vnil => exact absurd rfl hr
  | vec g cap arr _ _ _ _ cs Fs hh hcap =>
    simp only [ho, hxr, h2.c_inv, Sem.run_bind, eqGuard_at_slice, Result.andThen_ok, eql_nil hu, Sem.run_pure, Option.isNone_some]

def nlO (D : Tab) (G : Nat → Option (List V)) (ops : Array Oper) (i : Nat) (T : List V) (H : Hp) : Option (Nat × List (List V)) :=
  match opW ops i T with
  | some (.binOp .eql t x y _) => match D.at t, ev G T y, ev G T x with
    | some it, .c (.slice none 0 0), .own j => match it.d, look H j with
      | .slice _, some (.vec _ _ _ rows) => some (j, rows)
      | _, _ => none
    | _, _, _ => none
  | _ => none

theorem W.nilO {D : Tab} (hD : TabOk P D) {ops : Array Oper} {draw : Bool} {T0 : List V} {H0 : Hp} {i : Nat} {T : List V} {H : Hp} {Es : List (Bool × Eff)} {Q : St → Prop} {α : Type} (enc : α → List V) {l : List α} {b : Bool} (hx : neN l = some b) (j : Nat) (h : nlO D G ops i T H = some (j, l.map enc))
    (k : W P G ops draw T0 H0 (i + 1) (setO T (dstW ops i) (.c (.bool false))) H (Es ++ [(true, { v := .c (.bool false), R := [j] })]) Q) : W P G ops draw T0 H0 i T H Es Q := by
  have hne : l.map enc ≠ [] := by
    cases l with
    | nil => cases hx
    | cons => simp
  unfold nlO at h
  split at h
  · rename_i t x y t' hop
    split at h
    · rename_i it j' ht hy hxv
      split at h
      · rename_i el nn ety kk rows hit hl
        simp only [Option.some.injEq, Prod.mk.injEq] at h
        obtain ⟨rfl, rfl⟩ := h
        refine W.gen0 (.c (.bool false)) [j'] hop (fun o ho e' H' he hH' => ?_) k
        exact OpOk.nilO hD ho ht hit ((he y (by simp [Op.operands])).trans hy) ((he x (by simp [Op.operands])).trans hxv) (by rw [hH' j' (by simp)]; exact hl) hne
      · cases h
    · cases h
  · cases h

theorem LoopN.J {L : Option Nat} {ι : Type} (J : ι → St) (R : Nat → ι → Prop) {c : Code} {st : St} {Q : Exit → St → Prop} {n0 : Nat} {i0 : ι} (h0 : Weak st (J i0)) (hR : R n0 i0) (hz : ∀ i, ¬ R 0 i)
    (round : ∀ n i, R (n + 1) i → (∀ j, R n j → ∀ st', Weak st' (J j) → loopQ L P G c Q n .normal st') → CodeOk L P G c (J i) (loopQ L P G c Q n)) : LoopN L P G c Q n0 st := by
  have key : ∀ n i, R n i → LoopN L P G c Q n (J i) := by
    intro n
    induction n with
    | zero => intro i hi; exact (hz i hi).elim
    | succ n ih => intro i hi; exact LoopN.step (round n i hi fun j hj _ hw => LoopN.weak hw (ih j hj))
  exact LoopN.weak h0 (key n0 i0 hR)

def viewO (D : Tab) (G : Nat → Option (List V)) (ops : Array Oper) (i : Nat) (T : List V) (H : Hp) (len : Nat) : Option (Nat × List (List V) × Int × Int × Nat) :=
  match opW ops i T with
  | some (.slice t x l h none) => match D.at t, ev G T x, bndV G T 0 l, bndV G T len h with
    | some it, .own j, some lo, some hi => match it.d, look H j with
      | .slice el, some (.vec _ _ k rows) => match D.at el with
        | some ie => if k = ie.size then some (j, rows, lo, hi, ie.size) else none
        | none => none
      | _, _ => none
    | _, _, _, _ => none
  | _ => none

theorem W.viewO {D : Tab} (hD : TabOk P D) {ops : Array Oper} {draw : Bool} {T0 : List V} {H0 : Hp} {i : Nat} {T : List V} {H : Hp} {Es : List (Bool × Eff)} {Q : St → Prop} {α : Type} (enc : α → List V) {s r : List α} {lo hi : Int} (hx : cut s lo hi = some r) (j sz : Nat)
    (h : viewO D G ops i T H s.length = some (j, s.map enc, lo, hi, sz))
    (k : W P G ops draw T0 H0 (i + 1) (setO T (dstW ops i) (.vw j sz lo.toNat (hi.toNat - lo.toNat))) H (Es ++ [(true, { v := .vw j sz lo.toNat (hi.toNat - lo.toNat), R := [j] })]) Q) : W P G ops draw T0 H0 i T H Es Q := by
  unfold cut at hx
  split at hx
  · rename_i hb
    cases hx
    unfold Av.viewO at h
    split at h
    · rename_i t xo l hh hop
      split at h
      · rename_i it j' lo' hi' ht hxv hlo hhi
        split at h
        · rename_i el nn ety k' rows hit hl
          split at h
          · rename_i ie hel
            split at h
            · rename_i hc
              subst hc
              simp only [Option.some.injEq, Prod.mk.injEq] at h
              obtain ⟨rfl, rfl, rfl, rfl, rfl⟩ := h
              refine W.gen0 (.vw j' ie.size lo'.toNat (hi'.toNat - lo'.toNat)) [j'] hop (fun o ho e' H' he hH' => ?_) k
              exact OpOk.view hD lo'.toNat hi'.toNat ho ht hit hel ((he xo (by simp [Op.operands])).trans hxv) (by rw [hH' j' (by simp)]; exact hl)
                (by simpa using cutOk_of hlo hhi hb fun x hx => he x (by rcases hx with rfl | rfl <;> simp [Op.operands]))
            · cases h
          · cases h
        · cases h
      · cases h
    · cases h
  · cases hx

def appV (D : Tab) (G : Nat → Option (List V)) (ops : Array Oper) (i : Nat) (T : List V) (H : Hp) : Option (Nat × Nat × TypeId × Nat × Nat × List (List V) × List (List V) × Nat × Nat) :=
  match opW ops i T with
  | some (.call c) => match c.callee, c.args, c.argTypes with
    | .builtin .append, ⟨[s, x]⟩, ⟨[t, t']⟩ => match D.at t, ev G T s, ev G T x with
      | some it, .own a, .vw b k2 u n => match it.d, look H a, look H b with
        | .slice el, some (.vec _ (.ty el1) k1 rows), some (.vec _ _ k3 rows2) => match D.at el with
          | some ie => if t = t' ∧ el1 = el ∧ k1 = ie.size ∧ k2 = ie.size ∧ k3 = ie.size then some (a, b, el, ie.size, ie.bytes, rows, rows2, u, n) else none
          | none => none
        | _, _, _ => none
      | _, _, _ => none
    | _, _, _ => none
  | _ => none

theorem W.appV {D : Tab} (hD : TabOk P D) {ops : Array Oper} {draw : Bool} {T0 : List V} {H0 : Hp} {i : Nat} {T : List V} {H : Hp} {Es : List (Bool × Eff)} {Q : St → Prop} {α : Type} (enc : α → List V) {l l2 s r : List α} {lo hi : Int} (hc : cut l2 lo hi = some s) (b : Nat) (hx : app b l s = some r) (hb : Nat.ble 1 b = true) (hflat : ∀ x y, y ∈ enc x → ∃ u, y = .c u) (q : Nat) {a c el sz : Nat}
    (h : appV D G ops i T H = some (a, c, el, sz, b, l.map enc, l2.map enc, lo.toNat, hi.toNat - lo.toNat))
    (k : W P G ops draw T0 H0 (i + 1) (setO T (dstW ops i) (.own q)) ((q, .vec false el sz (r.map enc)) :: hrem [a] H) (Es ++ [(true, { v := .own q, R := [c], C := [a], new := [(q, .vec false el sz (r.map enc))], N := [q] })]) Q) : W P G ops draw T0 H0 i T H Es Q := by
  unfold cut at hc
  split at hc
  · rename_i hcb
    cases hc
    obtain ⟨rfl, h1, h2⟩ := app_len (Nat.le_of_ble_eq_true hb) hx
    unfold Av.appV at h
    split at h
    · rename_i cl hop
      obtain ⟨callee, args, ats⟩ := cl
      simp only at h
      split at h
      · rename_i s x t t'
        split at h
        · rename_i it a' c' k2 u n ht hs hxv
          split at h
          · rename_i el' nn1 el1 k1 rows nn2 el2 k3 rows2 hit hl1 hl2
            split at h
            · rename_i ie hel
              split at h
              · rename_i hc
                obtain ⟨rfl, rfl, rfl, rfl, rfl⟩ := hc
                simp only [Option.some.injEq, Prod.mk.injEq] at h
                obtain ⟨rfl, rfl, rfl, rfl, rfl, rfl, rfl, rfl, rfl⟩ := h
                have hl : ((l2.drop lo.toNat).take (hi.toNat - lo.toNat)).length = hi.toNat - lo.toNat := by simp; omega
                rw [hl] at h1 h2
                refine W.gen { v := .own q, R := [c'], C := [a'], new := [(q, .vec false _ ie.size ((l ++ (l2.drop lo.toNat).take (hi.toNat - lo.toNat)).map enc))], N := [q] } hop (fun o ho e' H' he hH' hN => ?_) k
                simp only [List.all_cons, List.all_nil, Bool.and_true, Bool.not_eq_true'] at hN
                have := OpOk.appendView (G := G) hD q false ho ht hit hel ((he s (by simp [ho, Op.operands, Call.operands])).trans hs) ((he x (by simp [ho, Op.operands, Call.operands])).trans hxv)
                  (by rw [hH' a' (.inr (by simp [Eff.touch]))]; exact hl1) (by rw [hH' c' (.inl (by simp))]; exact hl2) (by simp; omega) (fun r hr y hy => by obtain ⟨z, _, rfl⟩ := List.mem_map.1 hr; exact hflat z y hy) (by simpa using h2) (by simpa using h1) hN (by simp)
                rw [List.map_append, List.map_take, List.map_drop]
                exact this
              · cases h
            · cases h
          · cases h
        · cases h
      · cases h
    · cases h
  · cases hc

end
end Go.Av

namespace Go.Av

section
variable {P : Program} {G : Nat → Option (List V)} {L : Option Nat}

theorem sI {α : Type} {a b : α} (h : some a = some b) : a = b := Option.some.inj h
end
end Go.Av

namespace Go.Av

/-- what an insertion leaves behind in memory -/
def Ins (te : TypeId) (K : Nat) (w : World) (own : Option Nat) (n m : Nat) (cells : List Value) (e : Ending) (w' : World) : Prop :=
  ∃ g' cap' arr', e = .returned (.slice (some ⟨g', 0, none⟩) (n + m) cap') ∧ w.grownBy w' own ∧ w'.heap[g']? = some (.cells arr' te (0, 0)) ∧ n + m ≤ cap' ∧ cap' ≤ maxLen ∧
    arr'.size = cap' * K ∧ arr'.toList.take ((n + m) * K) = cells ∧ (own = some g' ∨ w.heap.size ≤ g') ∧ g' < w'.heap.size

/-- a slice that owns its row whole -/
def OwnAt (te : TypeId) (K : Nat) (w : World) (s : Value) (n : Nat) (olds : List Value) : Prop :=
  (s = .slice none 0 0 ∧ n = 0 ∧ olds = []) ∨ ∃ g c cur, s = .slice (some ⟨g, 0, none⟩) n c ∧ w.heap[g]? = some (.cells cur te (0, 0)) ∧ n ≤ c ∧ c ≤ maxLen ∧ cur.size = c * K ∧ olds = cur.toList.take (n * K)

theorem ObR.at {ρ : Nat → Option Value} {S : Nat → Prop} {w : World} {r : Value} {nn : Bool} {te : TypeId} {K : Nat} {rows : List (List V)} {F : List Nat} (h : ObR ρ S w r (.vec nn te K rows) F) (hnd : F.Nodup) :
    ∃ (olds : List Value) (cs : Nat → Nat → Value) (Fs : Nat → Nat → List Nat), OwnAt te K w r rows.length olds ∧ olds.length = rows.length * K ∧ (∀ (i : Nat) (x : List V), rows[i]? = some x → x.length = K) ∧
      (∀ (i j : Nat) (x : List V) (y : V), rows[i]? = some x → x[j]? = some y → olds[i * K + j]? = some (cs i j) ∧ RD S w (cs i j) y (Fs i j)) ∧
      (∀ v, v ∈ olds → v.oneCell' = true) ∧ (flat rows.length K Fs).Nodup ∧ (∀ b, b ∈ flat rows.length K Fs → b ∈ F ∧ r.ownBlock ≠ some b) ∧ (∀ g, r.ownBlock = some g → g ∈ F) := by
  cases h with
  | vnil =>
    exact ⟨[], fun _ _ => undef, fun _ _ => [], .inl ⟨rfl, rfl, rfl⟩, by simp, fun i x h => by simp at h, fun i j x y h => by simp at h, fun v h => (by cases h), by simp [flat], fun b h => (by simp [flat] at h), fun g h => by simp [Value.ownBlock] at h⟩
  | vec g cap arr _ _ _ _ cs Fs hh hcap hmax hsz hk hc hr htg =>
    have htt := htg.2
    cases htg.1
    have hl : (arr.toList.take (rows.length * K)).length = rows.length * K := by
      rw [List.length_take]
      exact Nat.min_eq_left (Nat.le_trans (Nat.mul_le_mul_right K hcap) (Nat.le_of_eq hsz.symm))
    have hget : ∀ (i j : Nat) (x : List V) (y : V), rows[i]? = some x → x[j]? = some y → (arr.toList.take (rows.length * K))[i * K + j]? = some (cs i j) := fun i j x y h1 h2 => by
      have hi : i < rows.length := (List.getElem?_eq_some_iff.1 h1).1
      have hj : j < K := by have := (List.getElem?_eq_some_iff.1 h2).1; rw [hk i x h1] at this; exact this
      rw [List.getElem?_take, if_pos (idx_lt hi hj)]
      simpa using hc i j x y h1 h2
    refine ⟨arr.toList.take (rows.length * K), cs, Fs, .inr ⟨g, cap, arr, rfl, hh, hcap, hmax, hsz, rfl⟩, hl, hk, fun i j x y h1 h2 => ⟨hget i j x y h1 h2, hr i j x y h1 h2⟩, fun v hv => ?_, (List.nodup_cons.1 hnd).2, fun b hb => ⟨List.mem_cons_of_mem _ hb, fun h => ?_⟩, fun g' h => ?_⟩
    · obtain ⟨p, hp⟩ := List.getElem?_of_mem hv
      have hlt : p < rows.length * K := by rw [← hl]; exact (List.getElem?_eq_some_iff.1 hp).1
      have hk0 : 0 < K := by
        rcases Nat.eq_zero_or_pos K with h0 | h0
        · rw [h0, Nat.mul_zero] at hlt; omega
        · exact h0
      have hi : p / K < rows.length := Nat.div_lt_of_lt_mul (by rwa [Nat.mul_comm])
      have hj : p % K < K := Nat.mod_lt _ hk0
      have h1 : rows[p / K]? = some rows[p / K] := List.getElem?_eq_getElem hi
      have hj' : p % K < rows[p / K].length := by rw [hk _ _ h1]; exact hj
      have h2 : rows[p / K][p % K]? = some rows[p / K][p % K] := List.getElem?_eq_getElem hj'
      have h3 := hget _ _ _ _ h1 h2
      rw [show p / K * K + p % K = p by rw [Nat.mul_comm]; exact Nat.div_add_mod p K, hp] at h3
      cases h3
      exact (hr _ _ _ _ h1 h2).one
    · simp only [Value.ownBlock, Option.some.injEq] at h
      subst h
      exact (List.nodup_cons.1 hnd).1 hb
    · simp only [Value.ownBlock, Option.some.injEq] at h
      subst h; simp

/-- rows put between rows -/
def insR {α : Type} (i : Nat) (l m : List α) : List α := l.take i ++ m ++ l.drop i

theorem insR_len {α : Type} {i : Nat} {l m : List α} (h : i ≤ l.length) : (insR i l m).length = l.length + m.length := by
  simp [insR]; omega

theorem insR_get {α : Type} {i : Nat} {l m : List α} (h : i ≤ l.length) {a : Nat} {r : α} (ha : (insR i l m)[a]? = some r) :
    (a < i ∧ l[a]? = some r) ∨ (i ≤ a ∧ a - i < m.length ∧ m[a - i]? = some r) ∨ (i ≤ a ∧ m.length ≤ a - i ∧ l[a - i - m.length + i]? = some r) := by
  have hl : (l.take i).length = i := by simp; omega
  unfold insR at ha
  rw [List.append_assoc] at ha
  by_cases h1 : a < i
  · rw [List.getElem?_append_left (by omega), List.getElem?_take, if_pos h1] at ha
    exact .inl ⟨h1, ha⟩
  · rw [List.getElem?_append_right (by omega), hl] at ha
    by_cases h2 : a - i < m.length
    · rw [List.getElem?_append_left h2] at ha
      exact .inr (.inl ⟨by omega, h2, ha⟩)
    · rw [List.getElem?_append_right (by omega), List.getElem?_drop] at ha
      refine .inr (.inr ⟨by omega, by omega, ?_⟩)
      rw [← ha]; congr 1; omega

section
variable {P : Program} {G : Nat → Option (List V)}

theorem AC.insert {f : FuncId} {te : TypeId} {K : Nat} {bytes : Nat}
    (hmem : ∀ (s : Value) (i n vb m vc : Nat) (olds : List Value) (varr : Array Value) (w : World), 0 < m → i ≤ n → OwnAt te K w s n olds → (∀ v, v ∈ olds → v.oneCell' = true) → w.heap[vb]? = some (.cells varr te (0, 0)) → varr.size = vc * K → m ≤ vc →
      (∀ v, v ∈ varr.toList.take (m * K) → v.oneCell' = true) → s.ownBlock ≠ some vb → (n + m) * bytes ≤ 140737488355328 →
      Calls P f #[s, .int .i64 i, .slice (some ⟨vb, 0, none⟩) m vc] w (Ins te K w s.ownBlock n m (olds.take (i * K) ++ varr.toList.take (m * K) ++ olds.drop (i * K))))
    (i : Nat) (nn nn1 : Bool) (rows rows1 : List (List V)) (hi : i ≤ rows.length) (hm : 0 < rows1.length) (hb : (rows.length + rows1.length) * bytes ≤ 140737488355328) :
    AC P G f [.own 0, .c (.int .i64 i), .own 1] [(0, .vec nn te K rows), (1, .vec nn1 te K rows1)] (.own 100) [(100, .vec false (te) K (insR i rows rows1))] := by
  intro ρ S F xs w hsz hxs hH hG
  have l0 : look [(0, Ob.vec nn te K rows), (1, Ob.vec nn1 te K rows1)] 0 = some (.vec nn te K rows) := rfl
  have l1 : look [(0, Ob.vec nn te K rows), (1, Ob.vec nn1 te K rows1)] 1 = some (.vec nn1 te K rows1) := rfl
  obtain ⟨r0, hr0, ob0⟩ := hH.obj 0 _ l0
  obtain ⟨r1, hr1, ob1⟩ := hH.obj 1 _ l1
  have x0 : xs.getD 0 undef = r0 := by
    have h : RV ρ S w (xs.getD 0 undef) (.own 0) := hxs 0 _ rfl
    exact h.own_inv _ hr0
  have x1 : xs.getD 1 undef = .int .i64 i := (hxs 1 _ rfl).c_inv
  have x2 : xs.getD 2 undef = r1 := by
    have h : RV ρ S w (xs.getD 2 undef) (.own 1) := hxs 2 _ rfl
    exact h.own_inv _ hr1
  have hx : xs = #[r0, .int .i64 i, r1] := by
    have h3 : xs.size = 3 := hsz
    apply Array.ext
    · exact h3
    · intro j h1 h2
      have : j = 0 ∨ j = 1 ∨ j = 2 := by omega
      rcases this with rfl | rfl | rfl
      · simpa [Array.getD, h1] using x0
      · simpa [Array.getD, h1] using x1
      · simpa [Array.getD, h1] using x2
  obtain ⟨olds, cs0, Fs0, at0, ol, hk0, hc0, one0, nd0, fs0, own0⟩ := ob0.at (hH.nodup 0 _ l0)
  obtain ⟨news, cs1, Fs1, at1, nl, hk1, hc1, one1, nd1, fs1, own1⟩ := ob1.at (hH.nodup 1 _ l1)
  rcases at1 with ⟨_, h, _⟩ | ⟨vb, vc, varr, rfl, hv, hmv, _, hvs, rfl⟩
  · omega
  have hvF : vb ∈ F 1 := own1 vb rfl
  have hne : r0.ownBlock ≠ some vb := fun h => hH.disj 0 1 _ _ vb l0 l1 (by decide) (own0 vb h) hvF
  subst hx
  refine Calls.mono (hmem r0 i rows.length vb rows1.length vc olds varr w hm hi at0 one0 hv hvs hmv one1 hne hb) fun e w' hq => ?_
  obtain ⟨g', cap', arr', rfl, hg, hh', hcap', hmax', hsz', htake, hblk, hlt'⟩ := hq
  have hfar : ∀ b, b ∈ F 0 → b ∈ F 1 → False := fun b h1 h2 => hH.disj 0 1 _ _ b l0 l1 (by decide) h1 h2
  let cs : Nat → Nat → Value := fun a b => if a < i then cs0 a b else if a - i < rows1.length then cs1 (a - i) b else cs0 (a - i - rows1.length + i) b
  let Fs : Nat → Nat → List Nat := fun a b => if a < i then Fs0 a b else (fun a b => if a < rows1.length then Fs1 a b else (fun a b => Fs0 (a + i) b) (a - rows1.length) b) (a - i) b
  have hlen : (insR i rows rows1).length = rows.length + rows1.length := insR_len hi
  have hflat : flat (rows.length + rows1.length) K Fs = flat i K Fs0 ++ (flat rows1.length K Fs1 ++ flat (rows.length - i) K fun a b => Fs0 (a + i) b) := by
    rw [show rows.length + rows1.length = i + (rows1.length + (rows.length - i)) by omega]
    show flat _ K (fun a b => if a < i then Fs0 a b else (fun a b => if a < rows1.length then Fs1 a b else (fun a b => Fs0 (a + i) b) (a - rows1.length) b) (a - i) b) = _
    rw [flat_add i _ K Fs0 (fun a b => if a < rows1.length then Fs1 a b else (fun a b => Fs0 (a + i) b) (a - rows1.length) b), flat_add rows1.length _ K Fs1 (fun a b => Fs0 (a + i) b)]
  have hflat0 : flat rows.length K Fs0 = flat i K Fs0 ++ flat (rows.length - i) K fun a b => Fs0 (a + i) b := by
    rw [← flat_add i _ K Fs0 (fun a b => Fs0 (a + i) b), show i + (rows.length - i) = rows.length by omega]
    congr 1
    funext a b
    split
    · rfl
    · show _ = Fs0 (a - i + i) b
      rw [show a - i + i = a by omega]
  have hmemF : ∀ b, b ∈ flat (rows.length + rows1.length) K Fs → b ∈ flat rows.length K Fs0 ∨ b ∈ flat rows1.length K Fs1 := fun b hb => by
    rw [hflat] at hb
    rw [hflat0]
    simp only [List.mem_append] at hb ⊢
    rcases hb with h | h | h
    · exact .inl (.inl h)
    · exact .inr h
    · exact .inl (.inr h)
  have hkeep : ∀ b, b < w.heap.size → (∀ c o, c ∈ [0, 1] → look [(0, Ob.vec nn te K rows), (1, Ob.vec nn1 te K rows1)] c = some o → b ∈ F c → False) → w'.heap[b]? = w.heap[b]? := fun b hb hn =>
    hg.block b hb fun he => hn 0 _ (by simp) l0 (own0 b he.symm)
  have hks : Keeps S w S w' := fun b hb => ⟨hb, hkeep b (hH.slt b hb) fun c o hc ho hbc => hH.sep c o b ho hbc hb⟩
  have hn0 : ∀ b, b ∈ flat rows.length K Fs0 → w'.heap[b]? = w.heap[b]? := fun b hb => hg.block b (hH.lt 0 _ b l0 (fs0 b hb).1) fun he => (fs0 b hb).2 he.symm
  have hn1 : ∀ b, b ∈ flat rows1.length K Fs1 → w'.heap[b]? = w.heap[b]? := fun b hb => hg.block b (hH.lt 1 _ b l1 (fs1 b hb).1) fun he => hfar b (own0 b he.symm) (fs1 b hb).1
  have hg0 : g' ∉ flat rows.length K Fs0 := fun h => by
    rcases hblk with e | e
    · exact (fs0 g' h).2 e
    · have := hH.lt 0 _ g' l0 (fs0 g' h).1; omega
  have hg1 : g' ∉ flat rows1.length K Fs1 := fun h => by
    rcases hblk with e | e
    · exact hfar g' (own0 g' e) (fs1 g' h).1
    · have := hH.lt 1 _ g' l1 (fs1 g' h).1; omega
  have hcell : ∀ p v, (olds.take (i * K) ++ varr.toList.take (rows1.length * K) ++ olds.drop (i * K))[p]? = some v → p < (rows.length + rows1.length) * K → arr'[p]? = some v := fun p v h1 h2 => by
    rw [← htake, List.getElem?_take, if_pos h2] at h1
    simpa using h1
  have hol : (olds.take (i * K)).length = i * K := by
    rw [List.length_take, ol]
    exact Nat.min_eq_left (Nat.mul_le_mul_right K hi)
  have hP : Post ρ S F [(0, Ob.vec nn te K rows), (1, Ob.vec nn1 te K rows1)] w (.own 100) ((100, Ob.vec false (te) K (insR i rows rows1)) :: hrem [0, 1] [(0, Ob.vec nn te K rows), (1, Ob.vec nn1 te K rows1)]) [100] (.slice (some ⟨g', 0, none⟩) (rows.length + rows1.length) cap') w' := by
    refine Post.repl hH [0, 1] (i := 100) (by rfl) (root := .slice (some ⟨g', 0, none⟩) (rows.length + rows1.length) cap') (Fi := g' :: flat (rows.length + rows1.length) K Fs) hg.os hg.tape hg.output hg.size hkeep (fun ρ' => ?_) ?_ (fun b hb => ?_) (.own _ _ fun r hr => ?_)
    · rw [← hlen]
      refine .vec g' cap' arr' false _ K (insR i rows rows1) cs Fs hh' (by rw [hlen]; exact hcap') hmax' hsz' (fun a r ha => ?_) (fun a b r y ha hb' => ?_) (fun a b r y ha hb' => ?_) ⟨rfl, fun h => absurd h (by rw [hlen]; omega)⟩
      · rcases insR_get hi ha with ⟨_, h⟩ | ⟨_, _, h⟩ | ⟨_, _, h⟩
        · exact hk0 a r h
        · exact hk1 _ r h
        · exact hk0 _ r h
      · have hr : r.length = K := by
          rcases insR_get hi ha with ⟨_, h⟩ | ⟨_, _, h⟩ | ⟨_, _, h⟩
          · exact hk0 a r h
          · exact hk1 _ r h
          · exact hk0 _ r h
        have hbK : b < K := by have := (List.getElem?_eq_some_iff.1 hb').1; rw [hr] at this; exact this
        have haN : a < rows.length + rows1.length := by have := (List.getElem?_eq_some_iff.1 ha).1; rw [hlen] at this; exact this
        refine hcell _ _ ?_ (idx_lt haN hbK)
        rw [List.append_assoc]
        rcases insR_get hi ha with ⟨h1, h⟩ | ⟨h1, h2, h⟩ | ⟨h1, h2, h⟩
        · simp only [cs, if_pos h1]
          rw [List.getElem?_append_left (by rw [hol]; exact idx_lt h1 hbK), List.getElem?_take, if_pos (idx_lt h1 hbK)]
          exact (hc0 a b r y h hb').1
        · simp only [cs, if_neg (by omega : ¬ a < i), if_pos h2]
          have hx : a * K + b = i * K + ((a - i) * K + b) := by
            rw [← Nat.add_assoc, ← Nat.add_mul]; congr 2; omega
          rw [List.getElem?_append_right (by rw [hol, hx]; omega), hol, hx, Nat.add_sub_cancel_left, List.getElem?_append_left (by rw [nl]; exact idx_lt h2 hbK)]
          exact (hc1 _ b r y h hb').1
        · simp only [cs, if_neg (by omega : ¬ a < i), if_neg (by omega : ¬ a - i < rows1.length)]
          have hx : a * K + b = i * K + (rows1.length * K + ((a - i - rows1.length) * K + b)) := by
            rw [← Nat.add_assoc, ← Nat.add_assoc, ← Nat.add_mul, ← Nat.add_mul]; congr 2; omega
          rw [List.getElem?_append_right (by rw [hol, hx]; omega), hol, hx, Nat.add_sub_cancel_left, List.getElem?_append_right (by rw [nl]; omega), nl, Nat.add_sub_cancel_left, List.getElem?_drop]
          have := (hc0 _ b r y h hb').1
          rw [← this]; congr 1
          rw [Nat.add_mul]; omega
      · have hr : r.length = K := by
          rcases insR_get hi ha with ⟨_, h⟩ | ⟨_, _, h⟩ | ⟨_, _, h⟩
          · exact hk0 a r h
          · exact hk1 _ r h
          · exact hk0 _ r h
        have hbK : b < K := by have := (List.getElem?_eq_some_iff.1 hb').1; rw [hr] at this; exact this
        rcases insR_get hi ha with ⟨h1, h⟩ | ⟨h1, h2, h⟩ | ⟨h1, h2, h⟩
        · simp only [cs, Fs, if_pos h1]
          exact (hc0 a b r y h hb').2.mono hks fun b' hb'' => hn0 b' (mem_flat.2 ⟨a, b, (List.getElem?_eq_some_iff.1 h).1, hbK, hb''⟩)
        · simp only [cs, Fs, if_neg (by omega : ¬ a < i), if_pos h2]
          exact (hc1 _ b r y h hb').2.mono hks fun b' hb'' => hn1 b' (mem_flat.2 ⟨_, b, h2, hbK, hb''⟩)
        · simp only [cs, Fs, if_neg (by omega : ¬ a < i), if_neg (by omega : ¬ a - i < rows1.length)]
          exact (hc0 _ b r y h hb').2.mono hks fun b' hb'' => hn0 b' (mem_flat.2 ⟨_, b, (List.getElem?_eq_some_iff.1 h).1, hbK, hb''⟩)
    · rw [List.nodup_cons]
      refine ⟨fun h => (hmemF g' h).elim hg0 hg1, ?_⟩
      rw [hflat]
      rw [hflat0] at nd0
      have h01 : ∀ a, a ∈ flat i K Fs0 ++ (flat (rows.length - i) K fun a b => Fs0 (a + i) b) → a ∈ flat rows1.length K Fs1 → False := fun a h1 h2 => by
        rw [← hflat0] at h1
        exact hfar a (fs0 a h1).1 (fs1 a h2).1
      obtain ⟨n1, n2, n3⟩ := List.nodup_append.1 nd0
      refine List.nodup_append.2 ⟨n1, List.nodup_append.2 ⟨nd1, n2, fun a ha b hb e => ?_⟩, fun a ha b hb e => ?_⟩
      · subst e; exact h01 a (List.mem_append_right _ hb) ha
      · subst e
        rcases List.mem_append.1 hb with h | h
        · exact h01 a (List.mem_append_left _ ha) h
        · exact n3 a ha a h rfl
    · rcases List.mem_cons.1 hb with rfl | hb
      · rcases hblk with e | e
        · exact .inl ⟨0, _, by simp, l0, own0 _ e⟩
        · exact .inr ⟨e, hlt'⟩
      · rcases hmemF b hb with h | h
        · exact .inl ⟨0, _, by simp, l0, (fs0 b h).1⟩
        · exact .inl ⟨1, _, by simp, l1, (fs1 b h).1⟩
    · simp at hr; exact hr
  obtain ⟨ρ', S', F', h1, h2, h3, h4⟩ := hP
  exact ⟨_, ρ', S', F', rfl, h1, h2, h3, fun j r hj hr => h4 j r hr (by simp; omega)⟩

def insO {α : Type} (bytes : Nat) (i : Int) (l m : List α) : Option (List α) :=
  if 0 ≤ i ∧ i.toNat ≤ l.length ∧ 0 < m.length ∧ (l.length + m.length) * bytes ≤ 140737488355328 then some (insR i.toNat l m) else none

theorem insR_map {α β : Type} (f : α → β) (i : Nat) (l m : List α) : (insR i l m).map f = insR i (l.map f) (m.map f) := by
  simp [insR, List.map_take, List.map_drop]

theorem AC.insO {α : Type} {f : FuncId} {te : TypeId} {K bytes : Nat} {i : Int} {l m r : List α} (E : α → List V) (h : insO bytes i l m = some r)
    (hq : ∀ (i : Nat) (nn nn1 : Bool) (rows rows1 : List (List V)), i ≤ rows.length → 0 < rows1.length → (rows.length + rows1.length) * bytes ≤ 140737488355328 →
      AC P G f [.own 0, .c (.int .i64 i), .own 1] [(0, .vec nn te K rows), (1, .vec nn1 te K rows1)] (.own 100) [(100, .vec false (te) K (insR i rows rows1))]) :
    AC P G f [.own 0, V.int i, .own 1] [(0, .vec false te K (l.map E)), (1, .vec false te K (m.map E))] (.own 100) [(100, .vec false (te) K (r.map E))] := by
  unfold Go.Av.insO at h
  split at h
  · rename_i hc
    cases h
    obtain ⟨j, rfl⟩ : ∃ j : Nat, i = j := ⟨i.toNat, by omega⟩
    have := hq j false false (l.map E) (m.map E) (by simpa using hc.2.1) (by simpa using hc.2.2.1) (by simpa using hc.2.2.2)
    rw [insR_map]
    simpa [V.int] using this
  · cases h

end
end Go.Av

namespace Go.Av

theorem zero_get (zs : Array Value) (n i j : Nat) (hi : i < n) (hj : j < zs.size) : (Builtin.zeroCells zs n)[i * zs.size + j]? = zs[j]? := by
  have hlt : i * zs.size + j < n * zs.size := idx_lt hi hj
  unfold Builtin.zeroCells
  rw [Array.getElem?_map, Array.getElem?_range, if_pos hlt]
  simp only [Option.map_some]
  have hm : (i * zs.size + j) % zs.size = j := by rw [Nat.mul_comm, Nat.mul_add_mod, Nat.mod_eq_of_lt hj]
  rw [hm, getElem!_pos zs j hj, Array.getElem?_eq_getElem hj]

/-- the last rows made zero -/
def clrR (a : Nat) (z : List V) (rows : List (List V)) : List (List V) := rows.take a ++ List.replicate (rows.length - a) z

section
variable {P : Program} {G : Nat → Option (List V)}

theorem resolve_clear {o : Oper} {η : Operand → Value} {x : Operand} {t : TypeId} (ho : o.op = .call { callee := .builtin .clear, args := #[x], argTypes := #[t] }) {w w' : World} {v : Value}
    (h : (Builtin.clear_ #[t] o.type #[η x]).run P w = .ok v w') : (execOp η o).run P w = .ok (.value v) w' := by
  unfold execOp
  simp only [ho, resolve, invoke, builtin, Sem.run_bind, Sem.run_pure, Result.andThen_ok, List.map_toArray, List.map_cons, List.map_nil, h]

theorem OpOk.clear {D : Tab} (hD : TabOk P D) {o : Oper} {e : Operand → V} {H : Hp} {t el : TypeId} {x : Operand} {it ie : Ty} {i a n : Nat} {nn : Bool} {rows : List (List V)}
    (ho : o.op = .call { callee := .builtin .clear, args := #[x], argTypes := #[t] }) (ht : D.at t = some it) (hit : it.d = .slice el) (hel : D.at el = some ie)
    (hx : e x = .vw i ie.size a n) (hl : look H i = some (.vec nn el ie.size rows)) (han : a + n = rows.length) :
    OpOk P G o e H .junk ((i, .vec nn el ie.size (clrR a (ie.zero.map .c) rows)) :: hrem [i] H) [] := by
  intro ρ S F η w hη hH hG
  have h1 := hη x (by simp [ho, Op.operands, Call.operands])
  rw [hx] at h1
  obtain ⟨r, hr, hob⟩ := hH.obj i _ hl
  have hnd := hH.nodup i _ hl
  have u1 := slice_ty hD ht hit
  obtain ⟨z, hz, hzl, hz1⟩ := (hD _ _ hel).zeroValue w
  obtain ⟨⟨inf, z', e1, e2, e3, e4, e5, e6, e7⟩, _, _⟩ := hD _ _ hel
  have same : n = 0 → (∀ (ty : TypeId), (Builtin.clear_ #[t] ty #[η x]).run P w = .ok (.tuple #[]) w) → ExecTo P o η w (Post ρ S F H w .junk ((i, .vec nn el ie.size (clrR a (ie.zero.map .c) rows)) :: hrem [i] H) []) := fun h0 hrun => by
    unfold ExecTo
    rw [resolve_clear ho (hrun o.type)]
    have hrows : clrR a (ie.zero.map .c) rows = rows := by
      unfold clrR
      rw [List.take_of_length_le (by omega), show rows.length - a = 0 by omega]; simp
    rw [hrows]
    exact Post.upd hH [i] (w' := w) (i := i) (root := r) (Fi := F i) hr rfl rfl rfl (Nat.le_refl _) (fun b _ _ => rfl) (fun ρ' => hob.mono (fun _ _ _ h => by cases h) (fun b hb => ⟨hb, rfl⟩) (fun _ _ => rfl)) hnd
      (fun b hb => .inl ⟨i, _, by simp, hl, hb⟩) (.junk _)
  rcases h1.vw_inv r hr with ⟨hv, h0⟩ | ⟨A, c, hv, hA⟩
  · exact same h0 fun ty => by rw [hv]; simp [Builtin.clear_, run_underlying u1]
  · by_cases h0 : n = 0
    · subst h0
      exact same rfl fun ty => by rw [hv]; simp [Builtin.clear_, run_underlying u1]
    · obtain ⟨g, m, cap, rfl, rfl⟩ := hA h0
      have hobj : ∃ (arr : Array Value) (cc : Nat → Nat → Value) (Fs : Nat → Nat → List Nat), m = rows.length ∧ F i = g :: flat rows.length ie.size Fs ∧ w.heap[g]? = some (.cells arr el (0, 0)) ∧ rows.length ≤ cap ∧ cap ≤ maxLen ∧ arr.size = cap * ie.size ∧
          (∀ (i : Nat) (r : List V), rows[i]? = some r → r.length = ie.size) ∧ (∀ (i j : Nat) (r : List V) (x : V), rows[i]? = some r → r[j]? = some x → arr[i * ie.size + j]? = some (cc i j)) ∧ (∀ (i j : Nat) (r : List V) (x : V), rows[i]? = some r → r[j]? = some x → RD S w (cc i j) x (Fs i j)) ∧ tight ie.size (.slice (some ⟨g, 0, none⟩) rows.length cap) := by
        generalize F i = Fi at hob
        cases hob with
        | vec g' cap' arr _ _ _ _ cc Fs hh hcap hmax hasz hk hc hrd htg =>
          have htt := htg.2
          cases htg.1
          exact ⟨arr, cc, Fs, rfl, rfl, hh, hcap, hmax, hasz, hk, hc, hrd, htt⟩
      obtain ⟨arr, cc, Fs, rfl, hFi, hh, hcap, hmax, hasz, hk, hc, hrd, htt⟩ := hobj
      have hzs : z.cells.size = ie.size := by rw [← Array.length_toList, hzl, e7]
      have hcl : (Builtin.zeroCells z.cells n).toList.length = n * ie.size := by rw [Array.length_toList, size_zeroCells, hzs]
      have hfit : a * ie.size + n * ie.size ≤ cap * ie.size := by rw [← Nat.add_mul, han]; exact Nat.mul_le_mul_right _ hcap
      have hone : ∀ v, v ∈ (Builtin.zeroCells z.cells n).toList → v.oneCell' = true := fun v hv' => by
        obtain ⟨p, hp⟩ := List.getElem?_of_mem hv'
        have hlt : p < n * ie.size := by rw [← hcl]; exact (List.getElem?_eq_some_iff.1 hp).1
        have hk0 : 0 < ie.size := by
          rcases Nat.eq_zero_or_pos ie.size with h | h
          · rw [h, Nat.mul_zero] at hlt; omega
          · exact h
        have h2 := zero_get z.cells n (p / ie.size) (p % ie.size) (Nat.div_lt_of_lt_mul (by rwa [Nat.mul_comm])) (by rw [hzs]; exact Nat.mod_lt _ hk0)
        rw [hzs, show p / ie.size * ie.size + p % ie.size = p by rw [Nat.mul_comm]; exact Nat.div_add_mod p _] at h2
        rw [Array.getElem?_toList, h2, ← Array.getElem?_toList, hzl] at hp
        exact List.all_eq_true.1 hz1 v (List.mem_of_getElem? hp)
      have hst := run_storeCells_at P g (a * ie.size) el (Builtin.zeroCells z.cells n).toList 0 arr w hh (by rw [hcl, hasz]; omega) hone
      simp only [Nat.add_zero] at hst
      let out : Array Value := (arr.toList.take (a * ie.size) ++ (Builtin.zeroCells z.cells n).toList ++ arr.toList.drop (a * ie.size + (Builtin.zeroCells z.cells n).toList.length)).toArray
      have hrun : (Builtin.clear_ #[t] o.type #[η x]).run P w = .ok (.tuple #[]) (w.setRow g out) := by
        rw [hv]
        obtain ⟨n', rfl⟩ : ∃ n', n = n' + 1 := ⟨n - 1, by omega⟩
        simp only [Builtin.clear_, List.getElem?_toArray, List.getElem?_cons_zero, Sem.run_bind, run_underlying u1, Result.andThen_ok, hz, hst, Sem.run_pure]
        rfl
      unfold ExecTo
      rw [resolve_clear ho hrun]
      have hkeep : ∀ b, b ≠ g → (w.setRow g out).heap[b]? = w.heap[b]? := fun b hb => setRow_other w g b _ hb
      have hgS : ¬ S g := hH.sep i _ g hl (by rw [hFi]; simp)
      have hkS : Keeps S w S (w.setRow g out) := fun b hb => ⟨hb, hkeep b fun e => hgS (e ▸ hb)⟩
      have hnd2 := List.nodup_cons.1 (hFi ▸ hnd)
      have hlenR : (clrR a (ie.zero.map .c) rows).length = rows.length := by unfold clrR; simp; omega
      have hget : ∀ (q : Nat) (r' : List V), (clrR a (ie.zero.map .c) rows)[q]? = some r' → (q < a ∧ rows[q]? = some r') ∨ (a ≤ q ∧ q < rows.length ∧ r' = ie.zero.map .c) := fun q r' hq => by
        unfold clrR at hq
        have hta : (rows.take a).length = a := by simp; omega
        by_cases h : q < a
        · rw [List.getElem?_append_left (by omega), List.getElem?_take, if_pos h] at hq
          exact .inl ⟨h, hq⟩
        · rw [List.getElem?_append_right (by omega), List.getElem?_replicate] at hq
          split at hq
          · exact .inr ⟨by omega, by omega, (Option.some.inj hq).symm⟩
          · cases hq
      have hosz : out.size = cap * ie.size := by
        simp only [out, List.size_toArray, List.length_append, List.length_take, List.length_drop, Array.length_toList] at hcl ⊢
        omega
      have hout : ∀ p, out[p]? = if p < a * ie.size then arr[p]? else if p < a * ie.size + n * ie.size then (Builtin.zeroCells z.cells n)[p - a * ie.size]? else arr[p]? := fun p => by
        simp only [out, List.getElem?_toArray]
        rw [splice_get _ _ _ _ (by rw [hcl, Array.length_toList]; omega), hcl]
        simp only [Array.getElem?_toList]
        by_cases h1 : p < a * ie.size
        · rw [if_neg (by omega), if_pos h1]
        · rw [if_neg h1]
          by_cases h2 : p < a * ie.size + n * ie.size
          · rw [if_pos ⟨by omega, h2⟩, if_pos h2]
          · rw [if_neg (by omega), if_neg h2]
      let gg : Nat → Nat → Value := fun q j => if q < a then cc q j else ie.zero.getD j undef
      let Gs : Nat → Nat → List Nat := fun q j => if q < a then Fs q j else []
      have hGm : ∀ b, b ∈ flat rows.length ie.size Gs → b ∈ flat rows.length ie.size Fs := fun b hb => by
        obtain ⟨q, j, hq, hj, hb⟩ := mem_flat.1 hb
        simp only [Gs] at hb
        split at hb
        · exact mem_flat.2 ⟨q, j, hq, hj, hb⟩
        · cases hb
      have hGn : (flat rows.length ie.size Gs).Nodup := by
        obtain ⟨f1, f2⟩ := flat_nodup.1 hnd2.2
        refine flat_nodup.2 ⟨fun q j hq hj => ?_, fun q j q' j' b hq hj hq' hj' hb hb' => ?_⟩
        · simp only [Gs]; split
          · exact f1 q j hq hj
          · exact List.nodup_nil
        · simp only [Gs] at hb hb'
          split at hb
          · split at hb'
            · exact f2 q j q' j' b hq hj hq' hj' hb hb'
            · cases hb'
          · cases hb
      refine Post.upd hH [i] (w' := w.setRow g out) (i := i) (root := .slice (some ⟨g, 0, none⟩) rows.length cap) (Fi := g :: flat rows.length ie.size Gs) hr rfl rfl rfl (by simp) (fun b' hb' hno => hkeep b' fun e => hno i _ (by simp) hl (by rw [hFi, e]; simp)) (fun ρ' => ?_) ?_ (fun b' hb => ?_) (.junk _)
      · rw [← hlenR]
        refine .vec g cap out nn el ie.size _ gg Gs (setRow_heap w g arr _ el _ hh) (by rw [hlenR]; exact hcap) hmax hosz (fun q r' hq => ?_) (fun q j r' y hq hj => ?_) (fun q j r' y hq hj => ?_) ⟨rfl, fun h0 => htt (by rw [hlenR] at h0; exact h0)⟩
        · rcases hget q r' hq with ⟨_, h⟩ | ⟨_, _, rfl⟩
          · exact hk q r' h
          · simp [e7]
        · rcases hget q r' hq with ⟨h1, h⟩ | ⟨h1, h2, rfl⟩
          · have hjk : j < ie.size := by have := (List.getElem?_eq_some_iff.1 hj).1; rw [hk q r' h] at this; exact this
            rw [hout, if_pos (idx_lt h1 hjk)]
            simp only [gg, if_pos h1]
            exact hc q j r' y h hj
          · have hjk : j < ie.size := by have := (List.getElem?_eq_some_iff.1 hj).1; simpa [e7] using this
            have hx2 : q * ie.size + j = a * ie.size + ((q - a) * ie.size + j) := by
              rw [← Nat.add_assoc, ← Nat.add_mul]; congr 2; omega
            have hlt : (q - a) * ie.size + j < n * ie.size := idx_lt (by omega) hjk
            rw [hout, if_neg (by rw [hx2]; omega), if_pos (by rw [hx2]; omega), hx2, Nat.add_sub_cancel_left]
            have := zero_get z.cells n (q - a) j (by omega) (by rw [hzs]; exact hjk)
            rw [hzs] at this
            rw [this, ← Array.getElem?_toList, hzl]
            simp only [gg, if_neg (by omega : ¬ q < a)]
            rw [List.getD_eq_getElem?_getD, List.getElem?_eq_getElem (by omega)]
            rfl
        · rcases hget q r' hq with ⟨h1, h⟩ | ⟨h1, h2, rfl⟩
          · have hjk : j < ie.size := by have := (List.getElem?_eq_some_iff.1 hj).1; rw [hk q r' h] at this; exact this
            simp only [gg, Gs, if_pos h1]
            exact (hrd q j r' y h hj).mono hkS fun b hb => hkeep b fun e => hnd2.1 (e ▸ mem_flat.2 ⟨q, j, (List.getElem?_eq_some_iff.1 h).1, hjk, hb⟩)
          · simp only [gg, Gs, if_neg (by omega : ¬ q < a)]
            rw [List.getElem?_map, Option.map_eq_some_iff] at hj
            obtain ⟨u, hu, rfl⟩ := hj
            have : ie.zero.getD j undef = u := by rw [List.getD_eq_getElem?_getD, hu]; rfl
            rw [this]
            exact .c _ (List.all_eq_true.1 hz1 u (List.mem_of_getElem? hu))
      · rw [List.nodup_cons]
        exact ⟨fun hg => hnd2.1 (hGm g hg), hGn⟩
      · refine .inl ⟨i, _, by simp, hl, ?_⟩
        rw [hFi]
        rcases List.mem_cons.1 hb with rfl | hb
        · simp
        · exact List.mem_cons_of_mem _ (hGm b' hb)

def clrW (D : Tab) (G : Nat → Option (List V)) (ops : Array Oper) (i : Nat) (T : List V) (H : Hp) : Option (Nat × TypeId × Nat × List V × List (List V) × Nat × Nat × Bool) :=
  match opW ops i T with
  | some (.call c) => match c.callee, c.args, c.argTypes with
    | .builtin .clear, ⟨[x]⟩, ⟨[t]⟩ => match D.at t, ev G T x with
      | some it, .vw j k a n => match it.d, look H j with
        | .slice el, some (.vec nn (.ty el1) k1 rows) => match D.at el with
          | some ie => if el1 = el ∧ k1 = ie.size ∧ k = ie.size then some (j, el, ie.size, ie.zero.map .c, rows, a, n, nn) else none
          | none => none
        | _, _ => none
      | _, _ => none
    | _, _, _ => none
  | _ => none

/-- the last elements made zero -/
def clr {α : Type} (z : α) (a : Nat) (l : List α) : List α := l.take a ++ List.replicate (l.length - a) z

theorem W.clr {D : Tab} (hD : TabOk P D) {ops : Array Oper} {draw : Bool} {T0 : List V} {H0 : Hp} {i : Nat} {T : List V} {H : Hp} {Es : List (Bool × Eff)} {Q : St → Prop} {α : Type} (enc : α → List V) (z : α) {l r : List α} {lo hi : Int} (hx : cut l lo hi = some r) (hh : hi = (l.length : Int)) (j el sz : Nat) {nn : Bool}
    (h : clrW D G ops i T H = some (j, el, sz, enc z, l.map enc, lo.toNat, hi.toNat - lo.toNat, nn))
    (k : W P G ops draw T0 H0 (i + 1) (setO T (dstW ops i) .junk) ((j, .vec nn el sz ((Go.Av.clr z lo.toNat l).map enc)) :: hrem [j] H) (Es ++ [(true, { v := .junk, R := [], C := [j], new := [(j, .vec nn el sz ((Go.Av.clr z lo.toNat l).map enc))] })]) Q) : W P G ops draw T0 H0 i T H Es Q := by
  have he : (Go.Av.clr z lo.toNat l).map enc = clrR lo.toNat (enc z) (l.map enc) := by
    unfold Go.Av.clr clrR
    rw [List.map_append, List.map_take, List.map_replicate, List.length_map]
  rw [he] at k
  have hcb : lo.toNat + (hi.toNat - lo.toNat) = l.length := by
    unfold cut at hx
    split at hx
    · omega
    · cases hx
  unfold clrW at h
  split at h
  · rename_i cl hop
    obtain ⟨callee, args, ats⟩ := cl
    simp only at h
    split at h
    · rename_i x t
      split at h
      · rename_i it j' k' a' n ht hxv
        split at h
        · rename_i el' nn' el1 k1 rows hit hl
          split at h
          · rename_i ie hel
            split at h
            · rename_i hc
              obtain ⟨rfl, rfl, rfl⟩ := hc
              simp only [Option.some.injEq, Prod.mk.injEq] at h
              obtain ⟨rfl, rfl, rfl, hz, rfl, h1, h2, rfl⟩ := h
              rw [← hz, ← h1] at k
              refine W.gen { v := .junk, R := [], C := [j'], new := [(j', .vec nn' el1 ie.size (clrR a' (ie.zero.map .c) (l.map enc)))] } hop (fun o ho e' H' he hH' _ => ?_) k
              refine OpOk.clear hD ho ht hit hel ((he x (by rw [ho]; simp [Op.operands, Call.operands])).trans hxv) ?_ (by rw [List.length_map, h1, h2]; exact hcb)
              rw [hH' j' (.inr (by simp [Eff.touch]))]; exact hl
            · cases h
          · cases h
        · cases h
      · cases h
    · cases h
  · cases h

/-- what is left behind a division by a number that is reckoned -/
def remO (a b : Int) : Option Int := bif b == 0 then none else some (a.tmod b)

def remW (G : Nat → Option (List V)) (ops : Array Oper) (i : Nat) (T : List V) : Option (V × V) :=
  match opW ops i T with
  | some (.binOp .rem _ x y _) => some (ev G T x, ev G T y)
  | _ => none

theorem W.rem {ops : Array Oper} {draw : Bool} {T0 : List V} {H0 : Hp} {i : Nat} {T : List V} {H : Hp} {Es : List (Bool × Eff)} {Q : St → Prop} {k : IntKind} {a b r : Int} (hx : remO a b = some r) (h : remW G ops i T = some (.c (.int k a), .c (.int k b)))
    (kk : W P G ops draw T0 H0 (i + 1) (setO T (dstW ops i) (.c (.int k r))) H (Es ++ [(true, { v := .c (.int k r) })]) Q) : W P G ops draw T0 H0 i T H Es Q := by
  unfold remO at hx
  cases hb : b == 0 with
  | true => rw [hb] at hx; cases hx
  | false =>
    rw [hb] at hx
    have hx := Option.some.inj hx
    subst hx
    have hb' : ¬ b = 0 := by simpa using hb
    unfold remW at h
    split at h
    · rename_i t x y t' hop
      simp only [Option.some.injEq, Prod.mk.injEq] at h
      refine W.gen0 (.c (.int k (a.tmod b))) [] hop (fun o ho e' H' he _ => ?_) kk
      refine stepV_sound (D := []) (fun t i h => by simp [Tab.at] at h) ?_
      rw [ho]
      have e1 := (he x (by simp [Op.operands])).trans h.1
      have e2 := (he y (by simp [Op.operands])).trans h.2
      simp [stepV, binV, e1, e2, intV, hb']
    · cases h

/-- a division by a number that is reckoned -/
def quoO (k : IntKind) (a b : Int) : Option Int := bif b == 0 then none else some (k.wrap (a.tdiv b))

def quoW (G : Nat → Option (List V)) (ops : Array Oper) (i : Nat) (T : List V) : Option (V × V) :=
  match opW ops i T with
  | some (.binOp .quo _ x y _) => some (ev G T x, ev G T y)
  | _ => none

theorem W.quo {ops : Array Oper} {draw : Bool} {T0 : List V} {H0 : Hp} {i : Nat} {T : List V} {H : Hp} {Es : List (Bool × Eff)} {Q : St → Prop} {k : IntKind} {a b r : Int} (hx : quoO k a b = some r) (h : quoW G ops i T = some (.c (.int k a), .c (.int k b)))
    (kk : W P G ops draw T0 H0 (i + 1) (setO T (dstW ops i) (.c (.int k r))) H (Es ++ [(true, { v := .c (.int k r) })]) Q) : W P G ops draw T0 H0 i T H Es Q := by
  unfold quoO at hx
  cases hb : b == 0 with
  | true => rw [hb] at hx; cases hx
  | false =>
    rw [hb] at hx
    have hx := Option.some.inj hx
    subst hx
    have hb' : ¬ b = 0 := by simpa using hb
    unfold quoW at h
    split at h
    · rename_i t x y t' hop
      simp only [Option.some.injEq, Prod.mk.injEq] at h
      refine W.gen0 (.c (.int k (k.wrap (a.tdiv b)))) [] hop (fun o ho e' H' he _ => ?_) kk
      refine stepV_sound (D := []) (fun t i h => by simp [Tab.at] at h) ?_
      rw [ho]
      have e1 := (he x (by simp [Op.operands])).trans h.1
      have e2 := (he y (by simp [Op.operands])).trans h.2
      simp [stepV, binV, e1, e2, intV, hb']
    · cases h

/-- a region that ends a body, its state told by hand -/
theorem CodeOk.cutE {L : Option Nat} (T' : List V) (H' : Hp) {id : Nat} {l : List Oper} {draw : Bool} {T : List V} {H : Hp} {Q : Exit → St → Prop} (hm : P.follows .mixedOrders = true)
    (h : W P G l.toArray draw T H 0 T H [] fun st => Weak st ⟨T', H'⟩) (k : Q .normal ⟨T', H'⟩) : CodeOk L P G (.region id l.toArray draw) ⟨T, H⟩ Q := by
  have h1 : CodeOk L P G (.region id l.toArray draw) ⟨T, H⟩ (fun e st => e = .normal ∧ Weak st ⟨T', H'⟩) := CodeOk.endR T' H' hm h fun st hw => ⟨rfl, hw⟩
  intro B ρ S F a w R hst hn
  refine h1 B ρ S F a w R hst fun e st2 he ρ2 S2 F2 a2 w2 hst2 hE2 hA2 => ?_
  obtain ⟨rfl, hw⟩ := he
  obtain ⟨ρ1, S1, F1, h3, e1, a1⟩ := hw _ G ρ2 S2 F2 a2 w2 hst2
  exact hn .normal _ k ρ1 S1 F1 a2 w2 h3 (hE2.trans e1) (hA2.trans a1)

theorem ceE {L : Option Nat} {D : Tab} (hD : TabOk P D) (hm : P.follows .mixedOrders = true) (n q : Nat) (T' : List V) (H' : Hp) {id : Nat} {l : List Oper} {draw : Bool} {T : List V} {H : Hp} {Q : Exit → St → Prop}
    (h : cuC D G l.toArray draw n q T H T' H' = (true, T', some H')) (k : Q .normal ⟨T', H'⟩) : CodeOk L P G (.region id l.toArray draw) ⟨T, H⟩ Q :=
  CodeOk.cutE T' H' hm (cuW hD n q h) k

end
end Go.Av

namespace Go.Av

section
variable {P : Program} {G : Nat → Option (List V)} {L : Option Nat}

/-- a region that only reckons goes through -/
def lzB (D : Tab) (G : Nat → Option (List V)) (ops : Array Oper) (draw : Bool) (q : Nat) (T : List V) (H : Hp) : Bool :=
  match runE D G ops ops.size q 0 T H with
  | some r => okR draw ops T H r.Es
  | none => false

theorem lzW {D : Tab} (hD : TabOk P D) {q : Nat} {ops : Array Oper} {draw : Bool} {T : List V} {H : Hp} {Q : St → Prop} (h : lzB D G ops draw q T H = true) (k : Q ⟨(aftE D G ops ops.size q 0 T H).T, (aftE D G ops ops.size q 0 T H).H⟩) : W P G ops draw T H 0 T H [] Q := by
  unfold lzB at h
  unfold aftE at k
  split at h
  · rename_i r hr
    rw [hr] at k
    exact W.runSome hD _ hr (W.fin (by omega) h k)
  · cases h

theorem cv {D : Tab} (hD : TabOk P D) (hm : P.follows .mixedOrders = true) (q : Nat) {id : Nat} {l : List Oper} {draw : Bool} {c : Code} {T : List V} {H : Hp} {Q : Exit → St → Prop}
    (k : CodeOk L P G c ⟨(aftE D G l.toArray l.toArray.size q 0 T H).T, (aftE D G l.toArray l.toArray.size q 0 T H).H⟩ Q) (h : lzB D G l.toArray draw q T H = true) : CodeOk L P G (.seq (.region id l.toArray draw) c) ⟨T, H⟩ Q :=
  CodeOk.sw hm (lzW hD h k)

/-- what is told of a state at a join -/
def jnC (m : Ren) (ks : List Nat) (b : Bool) (T : List V) (H : Hp) : Bool × List V × Option Hp := (b && (m.ok && m.keep && selfOk m), keepT m ks 0 T, handV m H m)

theorem jnW {m : Ren} {ks : List Nat} {b : Bool} {T : List V} {H : Hp} {s : St} (h : jnC m ks b T H = (true, s.T, some s.H)) : b = true ∧ Weak ⟨T, H⟩ s := by
  unfold jnC at h
  simp only [Prod.mk.injEq] at h
  obtain ⟨h1, h2, h3⟩ := h
  rw [Bool.and_eq_true] at h1
  exact ⟨h1.1, Weak.sel m ks h1.2 h2 h3⟩

theorem ck {D : Tab} (hD : TabOk P D) (hm : P.follows .mixedOrders = true) (q : Nat) {ι : Type} {J : ι → St} {R : ι → Prop} {id : Nat} {l : List Oper} {draw : Bool} {T : List V} {H : Hp} {Q : Exit → St → Prop} (hk : ∀ i, R i → ∀ st, Weak st (J i) → Q .normal st) (i : ι) (hi : R i) (m : Ren) (ks : List Nat)
    (h : jnC m ks (lzB D G l.toArray draw q T H) (aftE D G l.toArray l.toArray.size q 0 T H).T (aftE D G l.toArray l.toArray.size q 0 T H).H = (true, (J i).T, some (J i).H)) : CodeOk L P G (.region id l.toArray draw) ⟨T, H⟩ Q := by
  obtain ⟨h1, h2⟩ := jnW h
  exact CodeOk.w hm (lzW hD h1 (hk i hi _ h2))

/-- a region with one call -/
def ccC (D : Tab) (G : Nat → Option (List V)) (ops : Array Oper) (draw : Bool) (n q : Nat) (rc : V) (T : List V) (H : Hp) : Bool × Option (FuncId × List V × Hp) × V :=
  let r1 := aftE D G ops n q 0 T H
  let T1 := setO r1.T (dstW ops n) rc
  ((runE D G ops n q 0 T H).isSome && match runE D G ops (ops.size - (n + 1)) q (n + 1) T1 r1.H with
    | some r => okR draw ops T H (r1.Es ++ [(true, { v := rc })] ++ r.Es)
    | none => false, callW G ops [] [] n r1.T r1.H, rc.rn [])

def ccR (D : Tab) (G : Nat → Option (List V)) (ops : Array Oper) (n q : Nat) (rc : V) (T : List V) (H : Hp) : Run :=
  aftE D G ops (ops.size - (n + 1)) q (n + 1) (setO (aftE D G ops n q 0 T H).T (dstW ops n) rc) (aftE D G ops n q 0 T H).H

theorem ccW {D : Tab} (hD : TabOk P D) (n q : Nat) {ops : Array Oper} {draw : Bool} {T : List V} {H : Hp} {Q : St → Prop} {fid : FuncId} {vs : List V} {rc : V} (hA : AC P G fid vs [] rc []) (hcf : callOk P fid)
    (h : ccC D G ops draw n q rc T H = (true, some (fid, vs, []), rc)) (k : Q ⟨(ccR D G ops n q rc T H).T, (ccR D G ops n q rc T H).H⟩) : W P G ops draw T H 0 T H [] Q := by
  unfold ccC at h
  simp only [Prod.mk.injEq, Bool.and_eq_true] at h
  obtain ⟨⟨h1, h2⟩, h3, h4⟩ := h
  refine W.run hD n q h1 (W.call0 hA hcf h4 ?_ ?_)
  · rw [Nat.zero_add]; exact h3
  · rw [Nat.zero_add]
    unfold ccR at k
    unfold aftE at k
    unfold aftE at h2 ⊢
    split at h2
    · rename_i r hr
      rw [hr] at k
      exact W.runSome hD _ hr (W.fin (by omega) (by simpa using h2) k)
    · cases h2

theorem cc {D : Tab} (hD : TabOk P D) (hm : P.follows .mixedOrders = true) (n q : Nat) {id : Nat} {l : List Oper} {draw : Bool} {c : Code} {T : List V} {H : Hp} {Q : Exit → St → Prop} {fid : FuncId} {vs : List V} {rc : V} (hA : AC P G fid vs [] rc []) (hcf : callOk P fid)
    (k : CodeOk L P G c ⟨(ccR D G l.toArray n q rc T H).T, (ccR D G l.toArray n q rc T H).H⟩ Q) (h : ccC D G l.toArray draw n q rc T H = (true, some (fid, vs, []), rc)) : CodeOk L P G (.seq (.region id l.toArray draw) c) ⟨T, H⟩ Q :=
  CodeOk.sw hm (ccW hD n q hA hcf h k)

/-- an end: one value, none, no object handed over -/
theorem e1 (t : Tmp) {fn : Func} {T : List V} {H : Hp} {r : V} {Q : Exit → St → Prop} (hQ : Ends P fn r [] .ret ⟨T, H⟩ → Q .ret ⟨T, H⟩) (hf : fn.results = #[.tmp t] := by rfl) (h : (T[t]?, r.rn []) = (some r, r) := by kernel_rfl) : CodeOk L P G .ret ⟨T, H⟩ Q := by
  simp only [Prod.mk.injEq] at h
  exact CodeOk.ret (hQ (Ends.gen [] (.inr rfl) (RetV.one hf (OneR.tmp h.1)) rfl h.2 rfl))
end
end Go.Av

namespace Go.Av

/-- the numbers in their order -/
def sortI (l : List Int) : List Int := l.mergeSort fun x y => decide (x ≤ y)

theorem sortI_len (l : List Int) : (sortI l).length = l.length := List.length_mergeSort l

/-- what the library's sort does in memory -/
def SortMem (P : Program) (f : FuncId) : Prop :=
  (∀ (blk cap : Nat) (zs : List Int) (w : World), Sort.Holds (Value.int .i64) w blk 0 zs.toArray → blk < w.heap.size → zs.length < 4611686018427387904 →
    Calls P f #[.slice (some ⟨blk, 0, none⟩) zs.length cap] w fun e w' => e = .returned (.tuple #[]) ∧ ∃ n os, w' = Sort.grow (Sort.putRow (Value.int .i64) (Sort.ahead w n) blk 0 (sortI zs).toArray) os) ∧
  ∀ w : World, Calls P f #[.slice none 0 0] w fun e w' => e = .returned (.tuple #[]) ∧ w' = w

theorem AC.sort {P : Program} {G : Nat → Option (List V)} {f : FuncId} {te : TypeId} (h : SortMem P f) (nn : Bool) (l : List Int) (hlen : l.length ≤ 1048576) : AC P G f [.own 0] [(0, .vec nn te 1 (l.map encI))] (.tup []) [(0, .vec nn te 1 ((sortI l).map encI))] := by
  intro ρ S F xs w hsz hxs hH hG
  have l0 : look [(0, Ob.vec nn te 1 (l.map encI))] 0 = some (.vec nn te 1 (l.map encI)) := rfl
  obtain ⟨r0, hr0, ob0⟩ := hH.obj 0 _ l0
  have hnd := hH.nodup 0 _ l0
  have x0 : xs.getD 0 undef = r0 := by
    have h : RV ρ S w (xs.getD 0 undef) (.own 0) := hxs 0 _ rfl
    exact h.own_inv _ hr0
  have hx : xs = #[r0] := by
    have h3 : xs.size = 1 := hsz
    apply Array.ext
    · exact h3
    · intro j h1 h2
      have : j = 0 := by omega
      subst this
      simpa [Array.getD, h1] using x0
  subst hx
  have htup : ∀ (ρ' : Nat → Option Value) (S' : Nat → Prop) (w' : World), RV ρ' S' w' (.tuple #[]) (.tup []) := fun ρ' S' w' => .tup #[] [] rfl (fun j x c hx _ => by simp at hx)
  have fin : ∀ w', Post ρ S F [(0, Ob.vec nn te 1 (l.map encI))] w (.tup []) ((0, .vec nn te 1 ((sortI l).map encI)) :: hrem [0] [(0, Ob.vec nn te 1 (l.map encI))]) [] (.tuple #[]) w' →
      ∃ x ρ' S' F', Ending.returned (.tuple #[]) = .returned x ∧ RV ρ' S' w' x (.tup []) ∧ HRel ρ' S' F' [(0, Ob.vec nn te 1 ((sortI l).map encI))] w' ∧ Evo S (Ub [(0, Ob.vec nn te 1 (l.map encI))] F) w S' (Ub [(0, Ob.vec nn te 1 ((sortI l).map encI))] F') w' ∧ AgF ρ ρ' := fun w' hP => by
    obtain ⟨ρ', S', F', h1, h2, h3, h4⟩ := hP
    exact ⟨_, ρ', S', F', rfl, h1, h2, h3, fun j r hj hr => h4 j r hr (by simp)⟩
  have hcase : (r0 = .slice none 0 0 ∧ l = [] ∧ nn = false) ∨ ∃ (g cap : Nat) (arr : Array Value) (cc : Nat → Nat → Value) (Fs : Nat → Nat → List Nat), r0 = .slice (some ⟨g, 0, none⟩) l.length cap ∧ F 0 = g :: flat l.length 1 Fs ∧ w.heap[g]? = some (.cells arr te (0, 0)) ∧ l.length ≤ cap ∧ cap ≤ maxLen ∧ arr.size = cap * 1 ∧
      (∀ (i : Nat) (x : Int), l[i]? = some x → arr[i]? = some (.int .i64 x)) := by
    generalize F 0 = Fi at ob0
    generalize hrows : l.map encI = rows at ob0
    cases ob0 with
    | vnil => exact .inl ⟨rfl, List.map_eq_nil_iff.1 hrows, rfl⟩
    | vec g cap arr _ _ _ _ cc Fs hh hcap hmax hasz hk hc hr htg =>
      have htt := htg.2
      cases htg.1
      have hlen : rows.length = l.length := by rw [← hrows]; simp
      refine .inr ⟨g, cap, arr, cc, Fs, by rw [hlen], by rw [hlen], hh, by omega, hmax, hasz, fun i x hx => ?_⟩
      have h1 : rows[i]? = some (encI x) := by rw [← hrows, List.getElem?_map, hx]; rfl
      have h2 := hc i 0 _ (V.int x) h1 rfl
      have h3 := hr i 0 _ (V.int x) h1 rfl
      rw [Nat.mul_one, Nat.add_zero] at h2
      unfold V.int at h3
      generalize cc i 0 = v at h2 h3
      generalize Fs i 0 = fs at h3
      cases h3
      exact h2
  rcases hcase with ⟨rfl, rfl, rfl⟩ | ⟨g, cap, arr, cc, Fs, rfl, hFi, hh, hcap, hmax, hasz, hval⟩
  · refine Calls.mono (h.2 w) fun e w' hq => ?_
    obtain ⟨rfl, rfl⟩ := hq
    refine fin w' (Post.upd hH [0] (i := 0) hr0 (Fi := F 0) rfl rfl rfl (Nat.le_refl _) (fun b _ _ => rfl) (fun ρ' => ?_) hnd (fun b hb => .inl ⟨0, _, by simp, l0, hb⟩) (htup _ _ _))
    have hs : sortI [] = [] := by simp [sortI]
    rw [hs]
    exact ob0.mono (fun _ _ _ h => by cases h) (fun b hb => ⟨hb, rfl⟩) (fun _ _ => rfl)
  · have hg : g < w.heap.size := (Array.getElem?_eq_some_iff.1 hh).1
    have hat : arr.toList.take l.length = l.map (Value.int .i64) := by
      apply List.ext_getElem?
      intro i
      rw [List.getElem?_take, List.getElem?_map]
      by_cases hi : i < l.length
      · rw [if_pos hi, Array.getElem?_toList, hval i _ (List.getElem?_eq_getElem hi), List.getElem?_eq_getElem hi]; rfl
      · rw [if_neg hi, List.getElem?_eq_none (by omega)]; rfl
    refine Calls.mono (h.1 g cap l w (holds_of_blockI hh hat) hg (by omega)) fun e w' hq => ?_
    obtain ⟨rfl, n, os, rfl⟩ := hq
    have hgb := grownBy_sortedI (w := w) (g := g) (n := n) (os := os) (sortI l).toArray
    have hhe := heap_sortedI (w := w) (n := n) (os := os) (sortI l).toArray hh
    have hle := sortI_len l
    have htk := take_putCellsI arr (sortI l) (by omega)
    obtain ⟨w', hw'⟩ : ∃ w', w' = Sort.grow (Sort.putRow (Value.int .i64) (Sort.ahead w n) g 0 (sortI l).toArray) os := ⟨_, rfl⟩
    rw [← hw'] at hgb hhe ⊢
    have own : g ∈ F 0 := by rw [hFi]; simp
    have hfl : flat (sortI l).length 1 (fun _ _ => ([] : List Nat)) = [] := by
      apply List.eq_nil_iff_forall_not_mem.2
      intro b hb
      obtain ⟨_, _, _, _, h⟩ := mem_flat.1 hb
      cases h
    refine fin w' (Post.upd hH [0] (i := 0) hr0 (Fi := g :: flat (sortI l).length 1 (fun _ _ => [])) hgb.os hgb.tape hgb.output hgb.size (fun b hb hn => hgb.block b hb fun he => hn 0 _ (by simp) l0 (by rw [Option.some.inj he]; exact own)) (fun ρ' => ?_) (by rw [hfl]; simp) (fun b hb => ?_) (htup _ _ _))
    · have hlm : ((sortI l).map encI).length = l.length := by simp [hle]
      have hlf : (sortI l).length = ((sortI l).map encI).length := by simp
      rw [show l.length = ((sortI l).map encI).length from hlm.symm, hlf]
      refine .vec g cap _ nn te 1 _ (fun i _ => .int .i64 ((sortI l).getD i 0)) (fun _ _ => []) hhe (by rw [hlm]; exact hcap) hmax (by simp [Sort.putCells, hasz]) (fun i r hi => ?_) (fun i j r x hi hj => ?_) (fun i j r x hi hj => ?_)
      · rw [List.getElem?_map] at hi
        obtain ⟨z, _, rfl⟩ := Option.map_eq_some_iff.1 hi
        rfl
      · rw [List.getElem?_map] at hi
        obtain ⟨z, hz, rfl⟩ := Option.map_eq_some_iff.1 hi
        have hj0 : j = 0 := by
          have := (List.getElem?_eq_some_iff.1 hj).1
          simp [encI] at this; exact this
        subst hj0
        have hil : i < (sortI l).length := (List.getElem?_eq_some_iff.1 hz).1
        have h1 : (((Sort.putCells (Value.int .i64) 0 (sortI l).toArray arr).toList.take (sortI l).length))[i]? = some (.int .i64 z) := by
          rw [htk, List.getElem?_map, hz]; rfl
        rw [List.getElem?_take, if_pos hil, Array.getElem?_toList] at h1
        rw [Nat.mul_one, Nat.add_zero, h1]
        simp [List.getD, hz]
      · rw [List.getElem?_map] at hi
        obtain ⟨z, hz, rfl⟩ := Option.map_eq_some_iff.1 hi
        have hj0 : j = 0 := by
          have := (List.getElem?_eq_some_iff.1 hj).1
          simp [encI] at this; exact this
        subst hj0
        have hx : V.int z = x := by simpa [encI] using hj
        subst hx
        simp only [List.getD, hz, Option.getD_some]
        exact .c _ rfl
    · rw [hfl] at hb
      simp only [List.mem_singleton] at hb
      subst hb
      exact .inl ⟨0, _, by simp, l0, own⟩

def sortO (l : List Int) : Option (List Int) := if l.length ≤ 1048576 then some (sortI l) else none
theorem AC.sortO {P : Program} {G : Nat → Option (List V)} {f : FuncId} {te : TypeId} (hm : SortMem P f) {l r : List Int} (h : sortO l = some r) : AC P G f [.own 0] [(0, .vec false te 1 (l.map encI))] (.tup []) [(0, .vec false te 1 (r.map encI))] := by
  unfold Go.Av.sortO at h
  split at h
  · rename_i hl
    cases h
    exact AC.sort hm false l hl
  · cases h
end Go.Av

namespace Go.Av

def ItoaMem (P : Program) (f : FuncId) : Prop := ∀ (n : Int), -9223372036854775808 ≤ n → n ≤ 9223372036854775807 → ∀ w : World, Lib.TabIs P w "internal/strconv.uint64pow10" .u64 Lib.pow10Tab →
  Calls P f #[.int .i64 n] w fun e w' => e = .returned (.string ⟨(Lib.itoa n).toArray⟩) ∧ ∃ k os, w' = Sort.grow (w.drewN k) os

theorem AC.itoa {P : Program} {G : Nat → Option (List V)} {f : FuncId} {g : Nat} (h : ItoaMem P f) (hg : P.globalNamed "internal/strconv.uint64pow10" = some g) (hG : G g = some (Lib.pow10Tab.map (numV .u64))) {n : Int} (h0 : -9223372036854775808 ≤ n) (h1 : n ≤ 9223372036854775807) :
    AC P G f [V.int n] [] (V.str (Lib.itoa n)) [] := by
  intro ρ S F xs w hsz hxs hH hGr
  have x0 : xs.getD 0 undef = .int .i64 n := (hxs 0 _ rfl).c_inv
  have hx : xs = #[.int .i64 n] := by
    have h3 : xs.size = 1 := hsz
    apply Array.ext
    · exact h3
    · intro j h1 h2
      have : j = 0 := by omega
      subst this
      simpa [Array.getD, h1] using x0
  subst hx
  obtain ⟨r1, arr, ety, fr, r2, r3, r4⟩ := hGr g _ hG
  have hcell : ∀ (j : Nat) (z : Int), Lib.pow10Tab[j]? = some z → arr[j]? = some (.int .u64 z) := fun j z hz => by
    cases r1 with
    | el a cells cs hc hr =>
      have hj : (Lib.pow10Tab.map (numV .u64))[j]? = some (numV .u64 z) := by rw [List.getElem?_map, hz]; rfl
      obtain ⟨_, hw⟩ := hc j _ hj
      have hv := hr j _ hj
      unfold numV at hv
      generalize cs j = v at hw hv
      cases hv
      have e : Addr.add ⟨g, 0, none⟩ j = ⟨g, j, none⟩ := by
        unfold Addr.add
        split <;> simp_all
      rw [e] at hw
      unfold World.cell? at hw
      simp only [r2] at hw
      simpa using hw
  have harr : arr = (Lib.pow10Tab.map fun z => Value.int .u64 z).toArray := by
    apply Array.ext_getElem?
    intro j
    by_cases hj : j < Lib.pow10Tab.length
    · rw [hcell j _ (List.getElem?_eq_getElem hj), List.getElem?_toArray, List.getElem?_map, List.getElem?_eq_getElem hj]; rfl
    · rw [Array.getElem?_eq_none (by rw [r3]; simpa using hj), List.getElem?_toArray, List.getElem?_eq_none (by simpa using hj)]
  have htab : Lib.TabIs P w "internal/strconv.uint64pow10" .u64 Lib.pow10Tab := by
    unfold Lib.TabIs World.var?
    rw [hg, Option.bind_some]
    simp only [r2, harr]
  refine Calls.mono (h n h0 h1 w htab) fun e w' hq => ?_
  obtain ⟨rfl, k, os, rfl⟩ := hq
  have hold : ∀ b, b < w.heap.size → (Sort.grow (w.drewN k) os).heap[b]? = w.heap[b]? := fun b hb => Sort.heap_grow_old (w.drewN k) os hb
  have hks : Keeps S w S (Sort.grow (w.drewN k) os) := fun b hb => ⟨hb, hold b (hH.slt b hb)⟩
  have hsize : w.heap.size ≤ (Sort.grow (w.drewN k) os).heap.size := by
    show w.heap.size ≤ (w.heap ++ os).size
    simp
  refine ⟨_, ρ, S, F, rfl, .c _, ⟨hH.dom, fun i o ho => (by cases ho), fun i o ho => (by cases ho), fun i j o p b ho => (by cases ho), fun i o b ho => (by cases ho), fun i o b ho => (by cases ho), fun b hb => Nat.lt_of_lt_of_le (hH.slt b hb) hsize⟩, ⟨rfl, rfl, rfl, hsize, fun b hb _ => hold b hb, fun b hb => hb, fun b hb => .inl hb, fun b hb => .inl hb⟩, AgF.refl _⟩

def itoaO (n : Int) : Option (List UInt8) := if -9223372036854775808 ≤ n ∧ n ≤ 9223372036854775807 then some (Lib.itoa n) else none
theorem AC.itoaO {P : Program} {G : Nat → Option (List V)} {f : FuncId} {g : Nat} (hm : ItoaMem P f) (hg : P.globalNamed "internal/strconv.uint64pow10" = some g) (hG : G g = some (Lib.pow10Tab.map (numV .u64))) {n : Int} {r : List UInt8} (h : itoaO n = some r) :
    AC P G f [V.int n] [] (V.str r) [] := by
  unfold Go.Av.itoaO at h
  split at h
  · rename_i hn
    cases h
    exact AC.itoa hm hg hG hn.1 hn.2
  · cases h
end Go.Av

namespace Go.Av

/-- the strings in their order -/
def sortS (l : List (List UInt8)) : List (List UInt8) := l.mergeSort fun x y => decide (x ≤ y)

theorem sortS_len (l : List (List UInt8)) : (sortS l).length = l.length := List.length_mergeSort l

/-- what the library's sort does in memory -/
def SortMemS (P : Program) (f : FuncId) : Prop :=
  (∀ (blk cap : Nat) (zs : List (List UInt8)) (w : World), Sort.Holds Go.Proofs.encStr w blk 0 zs.toArray → blk < w.heap.size → zs.length < 4611686018427387904 →
    Calls P f #[.slice (some ⟨blk, 0, none⟩) zs.length cap] w fun e w' => e = .returned (.tuple #[]) ∧ ∃ n os, w' = Sort.grow (Sort.putRow Go.Proofs.encStr (Sort.ahead w n) blk 0 (sortS zs).toArray) os) ∧
  ∀ w : World, Calls P f #[.slice none 0 0] w fun e w' => e = .returned (.tuple #[]) ∧ w' = w

theorem AC.strSort {P : Program} {G : Nat → Option (List V)} {f : FuncId} {te : TypeId} (h : SortMemS P f) (nn : Bool) (l : List (List UInt8)) (hlen : l.length ≤ 1048576) : AC P G f [.own 0] [(0, .vec nn te 1 (l.map encS))] (.tup []) [(0, .vec nn te 1 ((sortS l).map encS))] := by
  intro ρ S F xs w hsz hxs hH hG
  have l0 : look [(0, Ob.vec nn te 1 (l.map encS))] 0 = some (.vec nn te 1 (l.map encS)) := rfl
  obtain ⟨r0, hr0, ob0⟩ := hH.obj 0 _ l0
  have hnd := hH.nodup 0 _ l0
  have x0 : xs.getD 0 undef = r0 := by
    have h : RV ρ S w (xs.getD 0 undef) (.own 0) := hxs 0 _ rfl
    exact h.own_inv _ hr0
  have hx : xs = #[r0] := by
    have h3 : xs.size = 1 := hsz
    apply Array.ext
    · exact h3
    · intro j h1 h2
      have : j = 0 := by omega
      subst this
      simpa [Array.getD, h1] using x0
  subst hx
  have htup : ∀ (ρ' : Nat → Option Value) (S' : Nat → Prop) (w' : World), RV ρ' S' w' (.tuple #[]) (.tup []) := fun ρ' S' w' => .tup #[] [] rfl (fun j x c hx _ => by simp at hx)
  have fin : ∀ w', Post ρ S F [(0, Ob.vec nn te 1 (l.map encS))] w (.tup []) ((0, .vec nn te 1 ((sortS l).map encS)) :: hrem [0] [(0, Ob.vec nn te 1 (l.map encS))]) [] (.tuple #[]) w' →
      ∃ x ρ' S' F', Ending.returned (.tuple #[]) = .returned x ∧ RV ρ' S' w' x (.tup []) ∧ HRel ρ' S' F' [(0, Ob.vec nn te 1 ((sortS l).map encS))] w' ∧ Evo S (Ub [(0, Ob.vec nn te 1 (l.map encS))] F) w S' (Ub [(0, Ob.vec nn te 1 ((sortS l).map encS))] F') w' ∧ AgF ρ ρ' := fun w' hP => by
    obtain ⟨ρ', S', F', h1, h2, h3, h4⟩ := hP
    exact ⟨_, ρ', S', F', rfl, h1, h2, h3, fun j r hj hr => h4 j r hr (by simp)⟩
  have hcase : (r0 = .slice none 0 0 ∧ l = [] ∧ nn = false) ∨ ∃ (g cap : Nat) (arr : Array Value) (cc : Nat → Nat → Value) (Fs : Nat → Nat → List Nat), r0 = .slice (some ⟨g, 0, none⟩) l.length cap ∧ F 0 = g :: flat l.length 1 Fs ∧ w.heap[g]? = some (.cells arr te (0, 0)) ∧ l.length ≤ cap ∧ cap ≤ maxLen ∧ arr.size = cap * 1 ∧
      (∀ (i : Nat) (x : List UInt8), l[i]? = some x → arr[i]? = some (Go.Proofs.encStr x)) := by
    generalize F 0 = Fi at ob0
    generalize hrows : l.map encS = rows at ob0
    cases ob0 with
    | vnil => exact .inl ⟨rfl, List.map_eq_nil_iff.1 hrows, rfl⟩
    | vec g cap arr _ _ _ _ cc Fs hh hcap hmax hasz hk hc hr htg =>
      have htt := htg.2
      cases htg.1
      have hlen : rows.length = l.length := by rw [← hrows]; simp
      refine .inr ⟨g, cap, arr, cc, Fs, by rw [hlen], by rw [hlen], hh, by omega, hmax, hasz, fun i x hx => ?_⟩
      have h1 : rows[i]? = some (encS x) := by rw [← hrows, List.getElem?_map, hx]; rfl
      have h2 := hc i 0 _ (V.str x) h1 rfl
      have h3 := hr i 0 _ (V.str x) h1 rfl
      rw [Nat.mul_one, Nat.add_zero] at h2
      unfold V.str at h3
      generalize cc i 0 = v at h2 h3
      generalize Fs i 0 = fs at h3
      cases h3
      exact h2
  rcases hcase with ⟨rfl, rfl, rfl⟩ | ⟨g, cap, arr, cc, Fs, rfl, hFi, hh, hcap, hmax, hasz, hval⟩
  · refine Calls.mono (h.2 w) fun e w' hq => ?_
    obtain ⟨rfl, rfl⟩ := hq
    refine fin w' (Post.upd hH [0] (i := 0) hr0 (Fi := F 0) rfl rfl rfl (Nat.le_refl _) (fun b _ _ => rfl) (fun ρ' => ?_) hnd (fun b hb => .inl ⟨0, _, by simp, l0, hb⟩) (htup _ _ _))
    have hs : sortS [] = [] := by simp [sortS]
    rw [hs]
    exact ob0.mono (fun _ _ _ h => by cases h) (fun b hb => ⟨hb, rfl⟩) (fun _ _ => rfl)
  · have hg : g < w.heap.size := (Array.getElem?_eq_some_iff.1 hh).1
    have hat : arr.toList.take l.length = l.map Go.Proofs.encStr := by
      apply List.ext_getElem?
      intro i
      rw [List.getElem?_take, List.getElem?_map]
      by_cases hi : i < l.length
      · rw [if_pos hi, Array.getElem?_toList, hval i _ (List.getElem?_eq_getElem hi), List.getElem?_eq_getElem hi]; rfl
      · rw [if_neg hi, List.getElem?_eq_none (by omega)]; rfl
    refine Calls.mono (h.1 g cap l w (holds_of_block hh hat) hg (by omega)) fun e w' hq => ?_
    obtain ⟨rfl, n, os, rfl⟩ := hq
    have hgb := grownBy_sorted (w := w) (g := g) (n := n) (os := os) (sortS l).toArray
    have hhe := heap_sorted (w := w) (n := n) (os := os) (sortS l).toArray hh
    have hle := sortS_len l
    have htk := take_putCells arr (sortS l) (by omega)
    obtain ⟨w', hw'⟩ : ∃ w', w' = Sort.grow (Sort.putRow Go.Proofs.encStr (Sort.ahead w n) g 0 (sortS l).toArray) os := ⟨_, rfl⟩
    rw [← hw'] at hgb hhe ⊢
    have own : g ∈ F 0 := by rw [hFi]; simp
    have hfl : flat (sortS l).length 1 (fun _ _ => ([] : List Nat)) = [] := by
      apply List.eq_nil_iff_forall_not_mem.2
      intro b hb
      obtain ⟨_, _, _, _, h⟩ := mem_flat.1 hb
      cases h
    refine fin w' (Post.upd hH [0] (i := 0) hr0 (Fi := g :: flat (sortS l).length 1 (fun _ _ => [])) hgb.os hgb.tape hgb.output hgb.size (fun b hb hn => hgb.block b hb fun he => hn 0 _ (by simp) l0 (by rw [Option.some.inj he]; exact own)) (fun ρ' => ?_) (by rw [hfl]; simp) (fun b hb => ?_) (htup _ _ _))
    · have hlm : ((sortS l).map encS).length = l.length := by simp [hle]
      have hlf : (sortS l).length = ((sortS l).map encS).length := by simp
      rw [show l.length = ((sortS l).map encS).length from hlm.symm, hlf]
      refine .vec g cap _ nn te 1 _ (fun i _ => Go.Proofs.encStr ((sortS l).getD i [])) (fun _ _ => []) hhe (by rw [hlm]; exact hcap) hmax (by simp [Sort.putCells, hasz]) (fun i r hi => ?_) (fun i j r x hi hj => ?_) (fun i j r x hi hj => ?_)
      · rw [List.getElem?_map] at hi
        obtain ⟨z, _, rfl⟩ := Option.map_eq_some_iff.1 hi
        rfl
      · rw [List.getElem?_map] at hi
        obtain ⟨z, hz, rfl⟩ := Option.map_eq_some_iff.1 hi
        have hj0 : j = 0 := by
          have := (List.getElem?_eq_some_iff.1 hj).1
          simp [encS] at this; exact this
        subst hj0
        have hil : i < (sortS l).length := (List.getElem?_eq_some_iff.1 hz).1
        have h1 : (((Sort.putCells Go.Proofs.encStr 0 (sortS l).toArray arr).toList.take (sortS l).length))[i]? = some (Go.Proofs.encStr z) := by
          rw [htk, List.getElem?_map, hz]; rfl
        rw [List.getElem?_take, if_pos hil, Array.getElem?_toList] at h1
        rw [Nat.mul_one, Nat.add_zero, h1]
        simp [List.getD, hz]
      · rw [List.getElem?_map] at hi
        obtain ⟨z, hz, rfl⟩ := Option.map_eq_some_iff.1 hi
        have hj0 : j = 0 := by
          have := (List.getElem?_eq_some_iff.1 hj).1
          simp [encS] at this; exact this
        subst hj0
        have hx : V.str z = x := by simpa [encS] using hj
        subst hx
        simp only [List.getD, hz, Option.getD_some]
        exact .c _ rfl
    · rw [hfl] at hb
      simp only [List.mem_singleton] at hb
      subst hb
      exact .inl ⟨0, _, by simp, l0, own⟩

def sortSO (l : List (List UInt8)) : Option (List (List UInt8)) := if l.length ≤ 1048576 then some (sortS l) else none
theorem AC.sortSO {P : Program} {G : Nat → Option (List V)} {f : FuncId} {te : TypeId} (hm : SortMemS P f) {l r : List (List UInt8)} (h : sortSO l = some r) : AC P G f [.own 0] [(0, .vec false te 1 (l.map encS))] (.tup []) [(0, .vec false te 1 (r.map encS))] := by
  unfold Go.Av.sortSO at h
  split at h
  · rename_i hl
    cases h
    exact AC.strSort hm false l hl
  · cases h
end Go.Av

