/-
  Core41: a range over a function that goes through a slice from its end (slices.Backward): what is asked of the iterator, the law of the statement.
-/
import Derived.Test.YtkfpmbinifaakaaDoorCore40
import Derived.Below
namespace Go.Av

/-- the function that slices.Backward hands back, called with yield: the slice, of one cell each, lies in a variable of its own -/
def BackOk (P : Program) (gf : FuncId) : Prop :=
  ∀ (l g n : Nat) (Inv : Nat → World → Prop) (Stop : World → Prop) (w : World), n ≤ maxLen →
    (∀ W, Inv n W → ∃ a cap, W.cell? ⟨g, 0, none⟩ = some (.slice a n cap)) → (∀ k W d, Inv k W → Inv k { W with drawn := d }) →
    (∀ k W, Inv (k + 1) W → k < n ∧ ∃ a cap v, W.cell? ⟨g, 0, none⟩ = some (.slice (some a) n cap) ∧ n ≤ cap ∧ W.cell? (a.add k) = some v ∧ v.oneCell' = true ∧
      ∃ f tmps asg body, (Instr.yield l #[.int .i64 k, v]).run P W = .ok (.round l f tmps asg body) W ∧
        RoundIn Fence.wide 0 P l f tmps asg body W fun e W' => (e = .returned (.bool true) ∧ Inv k W') ∨ (e = .returned (.bool false) ∧ Stop W')) →
    Inv n w → Calls P gf #[.func (.yield l) #[] #[], .pointer (some ⟨g, 0, none⟩)] w fun e W' => (∃ v, e = .returned v) ∧ (Inv 0 W' ∨ Stop W')

mutual
/-- no names but under 100 -/
def V.sm : V → Bool
  | .own j => Nat.blt j 100
  | .loc j _ => Nat.blt j 100
  | .vp j _ _ _ => Nat.blt j 100
  | .fn _ cs => V.smL cs
  | .agg cs => V.smL cs
  | .tup cs => V.smL cs
  | _ => true
def V.smL : List V → Bool
  | [] => true
  | x :: r => V.sm x && V.smL r
end

mutual
theorem V.sm_has : ∀ {x : V} {i : Nat}, x.sm = true → x.has i = true → i < 100
  | .own j, i, h, hh => by simp [V.sm, V.has] at h hh; omega
  | .loc j _, i, h, hh => by simp [V.sm, V.has] at h hh; omega
  | .vp j _ _ _, i, h, hh => by simp [V.sm, V.has] at h hh; omega
  | .fn _ cs, i, h, hh => V.smL_has (by simpa [V.sm] using h) (by simpa [V.has] using hh)
  | .agg cs, i, h, hh => V.smL_has (by simpa [V.sm] using h) (by simpa [V.has] using hh)
  | .tup cs, i, h, hh => V.smL_has (by simpa [V.sm] using h) (by simpa [V.has] using hh)
  | .junk, i, h, hh => by simp [V.has] at hh
  | .c _, i, h, hh => by simp [V.has] at hh
  | .sl _ _ _, i, h, hh => by simp [V.has] at hh
  | .el _, i, h, hh => by simp [V.has] at hh
theorem V.smL_has : ∀ {l : List V} {i : Nat}, V.smL l = true → V.hasL i l = true → i < 100
  | [], i, h, hh => by simp [V.hasL] at hh
  | x :: r, i, h, hh => by
    simp only [V.smL, Bool.and_eq_true] at h
    simp only [V.hasL, Bool.or_eq_true] at hh
    rcases hh with hh | hh
    · exact V.sm_has h.1 hh
    · exact V.smL_has h.2 hh
end

theorem V.smL_mem {l : List V} (h : V.smL l = true) {x : V} (hx : x ∈ l) : x.sm = true := by
  induction l with
  | nil => cases hx
  | cons y l ih =>
    simp only [V.smL, Bool.and_eq_true] at h
    rcases List.mem_cons.1 hx with rfl | hx
    · exact h.1
    · exact ih h.2 hx

/-- the names behind are the names ahead -/
def backM (m m' : Ren) : Bool := m'.all fun p => Nat.ble 100 p.2 || (Nat.blt p.1 100 && mget m p.2 == some p.1)

theorem backM_spec {m m' : Ren} (h : backM m m' = true) {i j : Nat} (hm : mget m' i = some j) (hj : j < 100) : i < 100 ∧ mget m j = some i := by
  have := List.all_eq_true.1 h _ (mget_mem hm)
  simp only [Bool.or_eq_true, Nat.ble_eq, Bool.and_eq_true, Nat.blt_eq, beq_iff_eq] at this
  rcases this with h | h
  · omega
  · exact h

def jumpOf : Exit → Option Code
  | .ret => some .ret
  | .exit id => some (.exit id)
  | _ => none

/-- behind the statement: the names of before, the activation's own slots -/
def Fin (m : Ren) (Tc : List V) (Q : Exit → St → Prop) (e : Exit) (H1 : Hp) : Prop :=
  ∃ m' T2 H2, m'.ok = true ∧ backM m m' = true ∧ SubT m' Tc T2 ∧ SubH m' H1 H2 ∧ Q e ⟨T2, H2⟩

def roundQ (m : Ren) (Tc : List V) (Q : Exit → St → Prop) (N : Hp → Prop) : Exit → St → Prop
  | .normal, st => ∃ T1 H1, Weak st ⟨T1, H1⟩ ∧ N H1
  | .ret, st => Fin m Tc Q .ret st.H
  | .exit id, st => Fin m Tc Q (.exit id) st.H
  | _, _ => False

section
variable {P : Program} {G : Nat → Option (List V)} {L : Option Nat} {B : Nat}

theorem Keeps.putObj {S : Nat → Prop} {W : World} {l : Nat} {o : Obj} (hl : ¬ S l) : Keeps S W S (W.putObj l o) :=
  fun b hb => ⟨hb, World.putObj_heap_other fun e => hl (e ▸ hb)⟩

theorem HRel.putObj {ρ : Nat → Option Value} {S : Nat → Prop} {F : Nat → List Nat} {H : Hp} {W : World} {l : Nat} {o o' : Obj} (h : HRel ρ S F H W) (hl : ¬ S l) (ho : W.heap[l]? = some o) (hc : ∀ arr e m, o ≠ .cells arr e m) : HRel ρ S F H (W.putObj l o') := by
  have hU : ∀ b, Ub H F b → (W.putObj l o').heap[b]? = W.heap[b]? := fun b hb => World.putObj_heap_other fun e => by
    obtain ⟨arr, t, m, hh⟩ := h.blocks hb
    rw [e, ho] at hh; cases hh; exact hc _ _ _ rfl
  refine ⟨h.dom, fun i p hp => ?_, h.nodup, h.disj, h.sep, fun i p b hp hb => by rw [World.putObj_size]; exact h.lt i p b hp hb, fun b hb => by rw [World.putObj_size]; exact h.slt b hb⟩
  obtain ⟨r, hr, hob⟩ := h.obj i p hp
  exact ⟨r, hr, hob.mono (fun _ _ h _ => h) (Keeps.putObj hl) fun b hb => hU b ⟨i, p, hp, hb⟩⟩

theorem Evo.putObj {S U S' U' : Nat → Prop} {w W : World} {l : Nat} {o : Obj} (h : Evo S U w S' U' W) (hl : w.heap.size ≤ l) : Evo S U w S' U' (W.putObj l o) :=
  ⟨h.os, h.tape, h.output, by rw [World.putObj_size]; exact h.size, fun b hb hu => (World.putObj_heap_other (by omega)).trans (h.keep b hb hu), h.sub, h.newS, h.newU⟩

theorem Evo.alloc {S U S' U' : Nat → Prop} {w W : World} {o : Obj} (h : Evo S U w S' U' W) : Evo S U w S' U' (W.alloc o) :=
  ⟨h.os, h.tape, h.output, Nat.le_trans h.size (by simp), fun b hb hu => (Go.RowKit.Below.heap_alloc _ _ _ (Nat.lt_of_lt_of_le hb h.size)).trans (h.keep b hb hu), h.sub, h.newS, h.newU⟩

theorem HRel.alloc {ρ : Nat → Option Value} {S : Nat → Prop} {F : Nat → List Nat} {H : Hp} {W : World} {o : Obj} (h : HRel ρ S F H W) : HRel ρ S F H (W.alloc o) := by
  have hk : Keeps S W S (W.alloc o) := fun b hb => ⟨hb, Go.RowKit.Below.heap_alloc _ _ _ (h.slt b hb)⟩
  refine ⟨h.dom, fun i p hp => ?_, h.nodup, h.disj, h.sep, fun i p b hp hb => by have := h.lt i p b hp hb; simp; omega, fun b hb => by have := h.slt b hb; simp; omega⟩
  obtain ⟨r, hr, hob⟩ := h.obj i p hp
  exact ⟨r, hr, hob.mono (fun _ _ h _ => h) hk fun b hb => Go.RowKit.Below.heap_alloc _ _ _ (h.lt i p b hp hb)⟩

/-- what lies beside the objects: the loop's record, the block for its deferred calls -/
structure Aside (S : Nat → Prop) (l D : Nat) (rec : Loop) (W : World) : Prop where
  sl : ¬ S l
  sD : ¬ S D
  hl : W.heap[l]? = some (.loop rec)
  hD : W.heap[D]? = some (.deferred (some []))

theorem Aside.evo {ρ : Nat → Option Value} {S S' U' : Nat → Prop} {F : Nat → List Nat} {H : Hp} {w w' : World} {l D : Nat} {rec : Loop} (h : Aside S l D rec w) (hH : HRel ρ S F H w) (e : Evo S (Ub H F) w S' U' w') : Aside S' l D rec w' := by
  have hUl : ¬ Ub H F l := fun hU => by obtain ⟨arr, t, m, hc⟩ := hH.blocks hU; rw [h.hl] at hc; cases hc
  have hUD : ¬ Ub H F D := fun hU => by obtain ⟨arr, t, m, hc⟩ := hH.blocks hU; rw [h.hD] at hc; cases hc
  have hll : l < w.heap.size := (Array.getElem?_eq_some_iff.1 h.hl).1
  have hlD : D < w.heap.size := (Array.getElem?_eq_some_iff.1 h.hD).1
  refine ⟨fun hs => ?_, fun hs => ?_, (e.keep l hll hUl).trans h.hl, (e.keep D hlD hUD).trans h.hD⟩
  · rcases e.newS l hs with h1 | h1 | h1
    · exact h.sl h1
    · exact hUl h1
    · omega
  · rcases e.newS D hs with h1 | h1 | h1
    · exact h.sD h1
    · exact hUD h1
    · omega

theorem Aside.put {S : Nat → Prop} {l D : Nat} {rec rec' : Loop} {W : World} (h : Aside S l D rec W) (hne : D ≠ l) : Aside S l D rec' (W.putObj l (.loop rec')) :=
  ⟨h.sl, h.sD, World.putObj_heap_same (Array.getElem?_eq_some_iff.1 h.hl).1, (World.putObj_heap_other hne).trans h.hD⟩

theorem Marks.putObj {S : Nat → Prop} {ds : List Deferred} {W : World} {l : Nat} {o o' : Obj} (h : Marks B S ds W) (ho : W.heap[l]? = some o) (hc : ∀ x, o ≠ .deferred x) : Marks B S ds (W.putObj l o') := by
  obtain ⟨hB, Ds, hn, hd, hD⟩ := h
  refine ⟨by rw [World.putObj_size]; exact hB, Ds, hn, hd, fun D hm => ?_⟩
  obtain ⟨h1, h2, h3⟩ := hD D hm
  refine ⟨h1, h2, (World.putObj_heap_other fun e => ?_).trans h3⟩
  rw [e, ho] at h3
  exact hc _ (Option.some.inj h3)

theorem StRel.putObj {ρ : Nat → Option Value} {S : Nat → Prop} {F : Nat → List Nat} {st : St} {a : Act} {W : World} {l : Nat} {rc : Loop} {o' : Obj} (h : StRel B G ρ S F st a W) (hl : ¬ S l) (ho : W.heap[l]? = some (.loop rc)) : StRel B G ρ S F st a (W.putObj l o') :=
  ⟨h.defers.putObj ho (fun _ h => by cases h), h.size, fun i x hx => (h.tmps i x hx).mono (fun _ _ h _ => h) (Keeps.putObj hl), h.heap.putObj hl ho (fun _ _ _ h => by cases h), h.glob.mono (Keeps.putObj hl)⟩

theorem HRel.drawn {ρ : Nat → Option Value} {S : Nat → Prop} {F : Nat → List Nat} {H : Hp} {W : World} (h : HRel ρ S F H W) (d : Nat) : HRel ρ S F H { W with drawn := d } := by
  refine ⟨h.dom, fun i p hp => ?_, h.nodup, h.disj, h.sep, h.lt, h.slt⟩
  obtain ⟨r, hr, hob⟩ := h.obj i p hp
  exact ⟨r, hr, hob.mono (fun _ _ h _ => h) (fun b hb => ⟨hb, rfl⟩) fun _ _ => rfl⟩

theorem box_read {ρ1 : Nat → Option Value} {S1 : Nat → Prop} {F1 : Nat → List Nat} {H1 : Hp} {W : World} {j gb : Nat} {ety : TypeId} {nn : Bool} {α : Type} {enc : α → V} {la : List α} (hH1 : HRel ρ1 S1 F1 H1 W)
    (hl : look H1 j = some (.cells ety [.sl nn false (la.map fun x => [enc x])])) (hr : ∀ r, ρ1 j = some r → r = .pointer (some ⟨gb, 0, none⟩)) :
    ∃ a0 cap, W.cell? ⟨gb, 0, none⟩ = some (.slice a0 la.length cap) ∧ la.length ≤ maxLen ∧ ∀ k x, la[k]? = some x → ∃ b v, a0 = some b ∧ la.length ≤ cap ∧ W.cell? (b.add k) = some v ∧ v.oneCell' = true ∧ RD S1 W v (enc x) [] := by
  obtain ⟨r, hr', hob⟩ := hH1.obj j _ hl
  have e := hr r hr'
  subst e
  generalize F1 j = Fj at hob
  cases hob with
  | cells g arr _ _ hh hsz hcs =>
    obtain ⟨c, h1, h2, h3⟩ := hcs 0 _ rfl
    have hcell : W.cell? ⟨gb, 0, none⟩ = some c := (cell_of_row W gb 0 arr ety (0, 0) hh).trans h1
    have hd := h3.sl_inv
    have key : ∀ rows, (la.map fun x => [enc x]) = rows → RD S1 W c (.sl nn false rows) [] → ∃ a0 cap, c = .slice a0 la.length cap ∧ la.length ≤ maxLen ∧ ∀ k x, la[k]? = some x → ∃ b v, a0 = some b ∧ la.length ≤ cap ∧ W.cell? (b.add k) = some v ∧ v.oneCell' = true ∧ RD S1 W v (enc x) [] := by
      intro rows hrows hd
      cases hd with
      | nils =>
        have : la = [] := by simpa using hrows
        subst this
        exact ⟨none, 0, rfl, Nat.zero_le _, fun k x hx => by simp at hx⟩
      | shr a cap _ _ k cs hlen hcap hk hc hr =>
        have hl : rows.length = la.length := by rw [← hrows]; simp
        refine ⟨some a, cap, by rw [hl], by omega, fun k' x hx => ?_⟩
        have hrow : rows[k']? = some [enc x] := by rw [← hrows, List.getElem?_map, hx]; rfl
        have hk1 : 1 = k := hk k' _ hrow
        obtain ⟨_, hcl⟩ := hc k' 0 _ (enc x) hrow rfl
        have hrd := hr k' 0 _ (enc x) hrow rfl
        subst hk1
        exact ⟨a, cs k' 0, rfl, by omega, by simpa using hcl, hrd.one, hrd⟩
    obtain ⟨a0, cap, rfl, h5, h6⟩ := key _ rfl hd
    exact ⟨a0, cap, hcell, h5, h6⟩

theorem CodeOk.rangeBack {g : Operand} {asg body : Code} {T0 : List V} {H0 : Hp} {Q : Exit → St → Prop} {gf : FuncId} (hit : BackOk P gf) (hcf : callOk P gf) {α ι : Type} (enc : α → V) (la : List α)
    (m : Ren) (Tc : List V) (i0 : ι) (J : ι → Hp) (R : List α → ι → Prop) (j : Nat) (ety : TypeId) (nn : Bool) (p0 p1 : Tmp)
    (hm : m.ok = true) (hT : SubT m T0 Tc) (hH : SubH m H0 (J i0)) (hsm : V.smL Tc = true) (hg : ev G Tc g = .fn gf [.loc j 0]) (hj : j < 100) (hp : p0 ≠ p1)
    (hbox : ∀ i, look (J i) j = some (.cells ety [.sl nn false (la.map fun x => [enc x])])) (hR : R la.reverse i0)
    (round : ∀ x xs i, R (x :: xs) i → ∀ L, ∃ T1 H1, CodeOk (some L) P G asg ⟨(Tc.set p0 .junk).set p1 (enc x), J i⟩ (fun e st => e = .normal ∧ Weak st ⟨T1, H1⟩) ∧
      CodeOk (some L) P G body ⟨T1, H1⟩ (roundQ m Tc Q fun H => ∃ i', R xs i' ∧ H = J i'))
    (done : ∀ i, R [] i → Fin m Tc Q .normal (J i)) : CodeOk none P G (.rangeFunc g #[p0, p1] asg body) ⟨T0, H0⟩ Q := by
  intro B ρ S F a w RR hst hn
  obtain ⟨ρc, Fc, hHc, k2, k3, k4⟩ := hst.heap.rn hm hH
  -- the activation's slots under the loop's names
  have hTc : ∀ i y, Tc[i]? = some y → RV ρc S w (a.tmps.getD i undef) y := fun i y hy => by
    rcases hT.get hy with rfl | ⟨x, hx, rfl⟩
    · exact .junk _
    · exact (hst.tmps i x hx).rn k2
  have hsz : a.tmps.size = Tc.length := hst.size.trans hT.length
  have hE0 : Evo S (Ub H0 F) w S (Ub (J i0) Fc) w := ⟨rfl, rfl, rfl, Nat.le_refl _, fun _ _ _ => rfl, fun _ h => h, fun _ h => .inl h, fun b ⟨i, o, ho, hb⟩ => by
    obtain ⟨i', o', _, hl, e, _⟩ := k4 i o ho
    exact .inl ⟨i', o', hl, e ▸ hb⟩⟩
  -- the value of the function
  have hgv : ∃ gb, a.eval g = .func (.func gf) #[] #[.pointer (some ⟨gb, 0, none⟩)] ∧ ρc j = some (.pointer (some ⟨gb, 0, none⟩)) := by
    have h1 : RV ρc S w (a.eval g) (.fn gf [.loc j 0]) := by
      rw [← hg]
      cases g with
      | tmp t =>
        simp only [Act.eval, ev, List.getD_eq_getElem?_getD]
        cases ht : Tc[t]? with
        | none => exact .junk _
        | some y => exact hTc t y ht
      | const v => exact .c v
      | global q =>
        simp only [ev] at hg
        split at hg <;> cases hg
      | func f => simp [ev] at hg
    obtain ⟨arr, e1, e2, e3⟩ := h1.fn_inv
    obtain ⟨r, hr, _⟩ := hHc.obj j _ (hbox i0)
    obtain ⟨arr⟩ := arr
    match arr, e2 with
    | [v0], _ =>
      obtain ⟨gb, r1, r2⟩ := (e3 0 (.loc j 0) v0 rfl rfl).loc_inv r hr
      exact ⟨gb, by rw [e1, r2], by rw [hr, r1]⟩
  obtain ⟨gb, hgv, hgr⟩ := hgv
  refine wpIn_rangeFunc ?_
  intro fn _
  obtain ⟨rec, hrec⟩ : ∃ rec : LoopState → Option Code → Loop, rec = fun st pe => { state := st, pending := pe, fn, tmps := a.tmps, params := #[p0, p1], assign := asg, body, defers := w.heap.size } := ⟨_, rfl⟩
  obtain ⟨W1, hW1⟩ : ∃ W1, (w.alloc (.deferred (some []))).alloc (.loop (rec .ready none)) = W1 := ⟨_, rfl⟩
  have hL1 : W1.heap[w.heap.size + 1]? = some (.loop (rec .ready none)) := by
    rw [← hW1]; have := World.alloc_heap_new (w.alloc (.deferred (some []))) (.loop (rec .ready none)); rwa [World.size_alloc] at this
  have hK1 : W1.heap[w.heap.size]? = some (.deferred (some [])) := by
    rw [← hW1]; exact (Go.RowKit.Below.heap_alloc _ _ _ (by simp)).trans (World.alloc_heap_new w _)
  have hnS : ∀ b, w.heap.size ≤ b → ¬ S b := fun b hb hs => by have := hst.heap.slt b hs; omega
  -- what stands between two rounds
  let In : (Hp → Prop) → Loop → World → Prop := fun N rc W => ∃ H1 ρ1 S1 F1, N H1 ∧ HRel ρ1 S1 F1 H1 W ∧ Evo S (Ub H0 F) w S1 (Ub H1 F1) W ∧ AgF ρc ρ1 ∧ Aside S1 (w.heap.size + 1) w.heap.size rc W
  let Inv : Nat → World → Prop := fun k W => k ≤ la.length ∧ In (fun H => ∃ i, R (la.take k).reverse i ∧ H = J i) (rec .ready none) W
  let Stop : World → Prop := fun W => ∃ e : Exit, (e = .ret ∨ ∃ id, e = .exit id) ∧ In (Fin m Tc Q e) (rec .done (jumpOf e)) W
  have hIn1 : Inv la.length W1 := by
    refine ⟨Nat.le_refl _, J i0, ρc, S, Fc, ⟨i0, by simpa using hR, rfl⟩, ?_, ?_, AgF.refl _, hnS _ (by omega), hnS _ (by omega), hL1, hK1⟩
    · rw [← hW1]; exact hHc.alloc.alloc
    · rw [← hW1]; exact hE0.alloc.alloc
  -- the slots in any such world
  have hslot : ∀ {ρ1 : Nat → Option Value} {S1 U1 : Nat → Prop} {W : World}, Evo S (Ub H0 F) w S1 U1 W → AgF ρc ρ1 → ∀ i y, Tc[i]? = some y → RV ρ1 S1 W (a.tmps.getD i undef) y := fun hE hA i y hy =>
    (hTc i y hy).mono (fun q r hq hh => hA q r (V.sm_has (V.smL_mem hsm (List.mem_of_getElem? hy)) hh) hq) (hst.heap.keeps hE)
  have hgr1 : ∀ {ρ1 : Nat → Option Value}, AgF ρc ρ1 → ∀ r, ρ1 j = some r → r = .pointer (some ⟨gb, 0, none⟩) := fun hA r hr => by
    have := hA j r hj hr
    rw [hgr] at this
    exact (Option.some.inj this).symm
  have hmax : la.length ≤ maxLen := by
    obtain ⟨_, _, _, h, _⟩ := box_read hHc (hbox i0) (fun r hr => by rw [hgr] at hr; exact (Option.some.inj hr).symm)
    exact h
  -- behind the statement
  have hfin : ∀ (e : Exit) (H1 : Hp) (ρ1 : Nat → Option Value) (S1 : Nat → Prop) (F1 : Nat → List Nat) (W : World) (rc : Loop) (o : Obj), Fin m Tc Q e H1 → HRel ρ1 S1 F1 H1 W → Evo S (Ub H0 F) w S1 (Ub H1 F1) W → AgF ρc ρ1 →
      Aside S1 (w.heap.size + 1) w.heap.size rc W → RR e { a with defers := mark w.heap.size :: a.defers } (W.putObj (w.heap.size + 1) o) := by
    rintro e H1 ρ1 S1 F1 W rc o ⟨m', T2, H2, hm', hb, hT2, hH2, hQ⟩ hH1 hE hA has
    obtain ⟨ρ2, F2, hH3, q2, q3, q4⟩ := hH1.rn hm' hH2
    have hkp : Keeps S1 W S1 (W.putObj (w.heap.size + 1) o) := Keeps.putObj has.sl
    refine hn e _ hQ ρ2 S1 F2 _ _ ⟨?_, hsz.trans hT2.length, fun i y hy => ?_, hH3.putObj has.sl has.hl (fun _ _ _ h => by cases h), (hst.glob.mono (hst.heap.keeps hE)).mono hkp⟩ ⟨hE.os, hE.tape, hE.output, ?_, ?_, hE.sub, hE.newS, ?_⟩ ?_
    · obtain ⟨hB, Ds, hnd, hds, hD⟩ := hst.defers
      obtain ⟨hB1, _⟩ := hst.defers.evo hst.heap hE
      refine ⟨by rw [World.putObj_size]; exact hB1, w.heap.size :: Ds, List.nodup_cons.2 ⟨fun hm => ?_, hnd⟩, by rw [List.map_cons, hds], fun D hm => ?_⟩
      · have := (Array.getElem?_eq_some_iff.1 (hD _ hm).2.2).1
        omega
      · rcases List.mem_cons.1 hm with rfl | hm
        · exact ⟨hB, has.sD, (World.putObj_heap_other (by omega)).trans has.hD⟩
        · obtain ⟨d1, d2, d3⟩ := hD D hm
          have dlt := (Array.getElem?_eq_some_iff.1 d3).1
          have dU : ¬ Ub H0 F D := fun hU => by
            obtain ⟨arr, t, q, hc⟩ := hst.heap.blocks hU
            rw [d3] at hc; cases hc
          refine ⟨d1, fun hs => ?_, (World.putObj_heap_other (by omega)).trans ((hE.keep D dlt dU).trans d3)⟩
          rcases hE.newS D hs with h | h | h
          · exact d2 h
          · exact dU h
          · omega
    · rcases hT2.get hy with rfl | ⟨x, hx, rfl⟩
      · exact .junk _
      · exact ((hslot hE hA i x hx).rn q2).mono (fun _ _ h _ => h) hkp
    · rw [World.putObj_size]; exact hE.size
    · exact fun b hb hu => (World.putObj_heap_other (by omega)).trans (hE.keep b hb hu)
    · rintro b ⟨i, o', ho, hb'⟩
      obtain ⟨i', o2, _, hl, e2, _⟩ := q4 i o' ho
      exact hE.newU b ⟨i', o2, hl, e2 ▸ hb'⟩
    · intro i r hi hr
      obtain ⟨i', hi', hr'⟩ := q3 i r hr
      obtain ⟨h1, h2⟩ := backM_spec hb hi' hi
      exact k2 i i' r h2 (hA i' r h1 hr')
  refine ⟨w.heap.size + 1, [mark w.heap.size], W1, { target := .fn (.func gf) #[.pointer (some ⟨gb, 0, none⟩)], args := #[.func (.yield (w.heap.size + 1)) #[] #[]] }, W1, gf,
    #[.func (.yield (w.heap.size + 1)) #[] #[], .pointer (some ⟨gb, 0, none⟩)], W1, ?_, ?_, fun _ _ => trivial, ?_, fun h => (by cases h), ?_⟩
  · rw [← hW1, hrec]; exact run_enterLoop_outer _ _ _ _ _
  · simp only [resolve, hgv]
    simp [go_sem]
  · simp only [invoke]
    simp [go_sem]
    exact hcf _ _
  · refine CallsIn.mono (callsIn_wide.2 (hit (w.heap.size + 1) gb la.length Inv Stop W1 hmax ?_ ?_ ?_ hIn1) : CallsIn Fence.wide (0 - 1) P gf _ _ _) ?_
    · rintro W ⟨_, H1, ρ1, S1, F1, ⟨i, _, rfl⟩, hH1, hE, hA, has⟩
      obtain ⟨a0, cap, h1, _, _⟩ := box_read hH1 (hbox i) (hgr1 hA)
      exact ⟨a0, cap, h1⟩
    · rintro k W d ⟨hk, H1, ρ1, S1, F1, hN, hH1, hE, hA, has⟩
      exact ⟨hk, H1, ρ1, S1, F1, hN, hH1.drawn d, ⟨hE.os, hE.tape, hE.output, hE.size, hE.keep, hE.sub, hE.newS, hE.newU⟩, hA, ⟨has.sl, has.sD, has.hl, has.hD⟩⟩
    · rintro k W ⟨hk, H1, ρ1, S1, F1, ⟨i, hRi, rfl⟩, hH1, hE, hA, has⟩
      obtain ⟨x, hx⟩ : ∃ x, la[k]? = some x := ⟨_, List.getElem?_eq_getElem (by omega)⟩
      have hxs : (la.take (k + 1)).reverse = x :: (la.take k).reverse := by rw [List.take_add_one, hx]; simp
      rw [hxs] at hRi
      obtain ⟨a0, cap, h1, _, h3⟩ := box_read hH1 (hbox i) (hgr1 hA)
      obtain ⟨b, v, rfl, h4, h5, h6, h7⟩ := h3 k x hx
      refine ⟨by omega, b, cap, v, h1, h4, h5, h6, fn, _, asg, body, by rw [run_yield has.hl (by rw [hrec]; rfl), hrec], roundIn_of_wpIn trivial ?_⟩
      obtain ⟨T1, H2, hasg, hbody⟩ := round x _ i hRi (w.heap.size + 1)
      refine hasg 0 ρ1 S1 F1 _ W _ ⟨Marks.nil _ (Nat.zero_le _), ?_, fun q y hy => ?_, hH1, hst.glob.mono (hst.heap.keeps hE)⟩ ?_
      · simp [hsz]
      · have hq : q < Tc.length := by have := (List.getElem?_eq_some_iff.1 hy).1; simpa using this
        simp only [List.zip_toArray, List.zip_cons_cons, List.zip_nil_right, List.foldl_toArray, List.foldl_cons, List.foldl_nil]
        rw [getD_setIfInBounds (by simp [hsz, hq])]
        rcases set_get hy with ⟨rfl, rfl⟩ | ⟨hne, hy⟩
        · rw [if_pos rfl]; exact h7.toRV
        · rw [if_neg hne, getD_setIfInBounds (by rw [hsz]; exact hq)]
          rcases set_get hy with ⟨rfl, rfl⟩ | ⟨hne, hy⟩
          · rw [if_pos rfl]; exact .junk _
          · rw [if_neg hne]; exact hslot hE hA q y hy
      · rintro e st' ⟨rfl, hw⟩
        intro ρ2 S2 F2 a2 w2 hst2 hE2 hA2
        obtain ⟨ρ3, S3, F3, hst3, hE3, hA3⟩ := hw _ G ρ2 S2 F2 a2 w2 hst2
        have hE23 := hE2.trans hE3
        have has3 := has.evo hH1 hE23
        refine ⟨_, run_beginRound has3.hl (by rw [hrec]), ?_⟩
        have hrb : ({ rec .ready none with state := .busy } : Loop) = rec .busy none := by rw [hrec]
        rw [hrb]
        have has4 := has3.put (rec' := rec .busy none) (by omega)
        have hE4 : Evo S (Ub H0 F) w S3 (Ub H2 F3) (w2.putObj (w.heap.size + 1) (.loop (rec .busy none))) := (hE.trans hE23).putObj (by omega)
        have hst4 := hst3.putObj (o' := .loop (rec .busy none)) has3.sl has3.hl
        refine hbody 0 ρ3 S3 F3 a2 _ _ hst4 ?_
        intro e st4 hq
        intro ρ5 S5 F5 a5 w5 hst5 hE5 hA5
        have hA05 := ((hA.trans hA2).trans hA3).trans hA5
        have has5 := has4.evo hst4.heap hE5
        have hE05 := hE4.trans hE5
        cases e with
        | normal =>
          obtain ⟨T6, H6, hw6, i', hR', rfl⟩ := hq
          obtain ⟨ρ6, S6, F6, hst6, hE6, hA6⟩ := hw6 _ G ρ5 S5 F5 a5 w5 hst5
          have has6 := has5.evo hst5.heap hE6
          refine ⟨_, _, run_endRound none has6.hl, .inl ⟨rfl, by omega, _, ρ6, S6, F6, ⟨i', hR', rfl⟩, hst6.heap.putObj has6.sl has6.hl (fun _ _ _ h => by cases h), (hE05.trans hE6).putObj (by omega), hA05.trans hA6, ?_⟩⟩
          have : ({ rec .busy none with state := if (none : Option Code).isNone then .ready else .done, pending := none } : Loop) = rec .ready none := by rw [hrec]; rfl
          rw [this]
          exact has6.put (by omega)
        | ret =>
          refine ⟨_, _, run_endRound (some .ret) has5.hl, .inr ⟨rfl, .ret, .inl rfl, _, ρ5, S5, F5, hq, hst5.heap.putObj has5.sl has5.hl (fun _ _ _ h => by cases h), hE05.putObj (by omega), hA05, ?_⟩⟩
          have : ({ rec .busy none with state := if (some Code.ret).isNone then .ready else .done, pending := some .ret } : Loop) = rec .done (jumpOf .ret) := by rw [hrec]; rfl
          rw [this]
          exact has5.put (by omega)
        | exit id =>
          refine ⟨_, _, run_endRound (some (.exit id)) has5.hl, .inr ⟨rfl, .exit id, .inr ⟨id, rfl⟩, _, ρ5, S5, F5, hq, hst5.heap.putObj has5.sl has5.hl (fun _ _ _ h => by cases h), hE05.putObj (by omega), hA05, ?_⟩⟩
          have : ({ rec .busy none with state := if (some (Code.exit id)).isNone then .ready else .done, pending := some (.exit id) } : Loop) = rec .done (jumpOf (.exit id)) := by rw [hrec]; rfl
          rw [this]
          exact has5.put (by omega)
        | goto t => exact hq.elim
        | panic ch => exact hq.elim
        | outgrown => exact hq.elim
    · rintro e W2 ⟨⟨v, rfl⟩, ⟨_, H1, ρ1, S1, F1, ⟨i, hRi, rfl⟩, hH1, hE, hA, has⟩ | ⟨e, he, H1, ρ1, S1, F1, hf, hH1, hE, hA, has⟩⟩
      · refine ⟨none, _, by have := run_endLoop (P := P) has.hl (by rw [hrec]; simp); rw [hrec] at this; exact this, ?_⟩
        exact hfin .normal _ ρ1 S1 F1 W2 _ _ (done i (by simpa using hRi)) hH1 hE hA has
      · rcases he with rfl | ⟨id, rfl⟩
        · refine ⟨some .ret, _, by have := run_endLoop (P := P) has.hl (by rw [hrec]; simp); rw [hrec] at this; exact this, ?_⟩
          exact wpIn_ret (hfin .ret _ ρ1 S1 F1 W2 _ _ hf hH1 hE hA has)
        · refine ⟨some (.exit id), _, by have := run_endLoop (P := P) has.hl (by rw [hrec]; simp); rw [hrec] at this; exact this, ?_⟩
          exact wpIn_exit (hfin (.exit id) _ ρ1 S1 F1 W2 _ _ hf hH1 hE hA has)

end
end Go.Av
