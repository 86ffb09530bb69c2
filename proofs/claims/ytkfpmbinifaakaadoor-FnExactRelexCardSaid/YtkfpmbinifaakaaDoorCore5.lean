/-
  Core5: contracts of functions; how a body proves one; how a call uses one.
-/
import Derived.Test.YtkfpmbinifaakaaDoorCore4
namespace Go.Av

section
variable {P : Program} {G : Nat → Option (List V)} {B : Nat}

/-- called with arguments that read as vs, objects H: it returns what reads as r, objects H'. Objects under 100 are the caller's. -/
def AC (P : Program) (G : Nat → Option (List V)) (f : FuncId) (vs : List V) (H : Hp) (r : V) (H' : Hp) : Prop :=
  ∀ ρ S F (xs : Array Value) w, xs.size = vs.length → (∀ i x, vs[i]? = some x → RV ρ S w (xs.getD i undef) x) → HRel ρ S F H w → GRel G S w →
    Calls P f xs w fun e w' => ∃ x ρ' S' F', e = .returned x ∧ RV ρ' S' w' x r ∧ HRel ρ' S' F' H' w' ∧ Evo S (Ub H F) w S' (Ub H' F') w' ∧ AgF ρ ρ'

def RetV (P : Program) (fn : Func) (st : St) (r : V) : Prop := ∀ B G ρ S F a w, StRel B G ρ S F st a w → ∃ x, (results fn a.tmps).run P w = .ok x w ∧ RV ρ S w x r

def Ends (P : Program) (fn : Func) (r : V) (H' : Hp) (e : Exit) (st : St) : Prop := (e = .normal ∨ e = .ret) ∧ ∃ r0, RetV P fn st r0 ∧ Weak ⟨[r0], st.H⟩ ⟨[r], H'⟩

/-- the blocks of the marks, shut -/
def shut : List Nat → World → World
  | [], w => w
  | D :: Ds, w => shut Ds (w.putObj D (.deferred none))

theorem shut_os : ∀ (Ds : List Nat) (w : World), (shut Ds w).os = w.os ∧ (shut Ds w).tape = w.tape ∧ (shut Ds w).output = w.output ∧ (shut Ds w).heap.size = w.heap.size
  | [], _ => ⟨rfl, rfl, rfl, rfl⟩
  | D :: Ds, w => by
    have h := shut_os Ds (w.putObj D (.deferred none))
    exact ⟨h.1, h.2.1, h.2.2.1, h.2.2.2.trans World.putObj_size⟩

theorem shut_heap : ∀ (Ds : List Nat) (w : World) (b : Nat), b ∉ Ds → (shut Ds w).heap[b]? = w.heap[b]?
  | [], _, _, _ => rfl
  | D :: Ds, w, b, h => by
    rw [List.mem_cons, not_or] at h
    exact (shut_heap Ds _ b h.2).trans (World.putObj_heap_other h.1)

theorem leaves_marks {fn : Func} {tmps : Array Value} {R : Ending → World → Prop} : ∀ (Ds : List Nat) (w : World), Ds.Nodup → (∀ D, D ∈ Ds → w.heap[D]? = some (.deferred (some []))) →
    LeavesIn Fence.wide 0 P fn tmps R [] .returning (shut Ds w) → LeavesInM Fence.wide 0 P fn tmps R (Ds.map mark) .returning w
  | [], w, _, _, h => h
  | D :: Ds, w, hn, hD, h => by
    refine ⟨by simp, .inl ⟨D, w.putObj D (.deferred none), rfl, run_takeDeferred (hD D (by simp)), ?_⟩⟩
    rw [List.nodup_cons] at hn
    refine leaves_marks Ds _ hn.2 (fun E hE => ?_) h
    exact (World.putObj_heap_other (fun e : E = D => hn.1 (e ▸ hE))).trans (hD E (by simp [hE]))

theorem AC.enter {f : FuncId} {fn : Func} {c : Code} {vs : List V} {H H' : Hp} {r : V} (hf : P.funcs[f]? = some fn) (hb : fn.body = some c)
    (h : CodeOk none P G c ⟨vs ++ List.replicate (fn.ntmps - vs.length) .junk, H⟩ (Ends P fn r H')) : AC P G f vs H r H' := by
  intro ρ S F xs w hsz hxs hH hG
  refine callsIn_wide.1 (callsIn_of_wp_marks (F := Fence.wide) (n := 0) hf hb trivial ?_)
  refine h w.heap.size ρ S F _ w _ ⟨Marks.nil _ (Nat.le_refl _), ?_, ?_, hH, hG⟩ fun e st' hq => ?_
  · simp [hsz]
  · intro i x hx
    simp only at hx
    by_cases hi : i < vs.length
    · rw [List.getElem?_append_left hi] at hx
      have := hxs i x hx
      simp only [Array.getD_eq_getD_getElem?] at this ⊢
      rw [Array.getElem?_append_left (by omega)]
      exact this
    · rw [List.getElem?_append_right (by omega), List.getElem?_replicate] at hx
      split at hx
      · cases hx; exact .junk _
      · cases hx
  · intro ρ' S' F' a' w' hst hE hA
    obtain ⟨he, r0, hr, hw⟩ := hq
    obtain ⟨hB, Ds, hnd, hds, hD⟩ := hst.defers
    have hos := shut_os Ds w'
    have hout : ∀ b, b ∉ Ds → (shut Ds w').heap[b]? = w'.heap[b]? := shut_heap Ds w'
    have hkS : Keeps S' w' S' (shut Ds w') := fun b hb => ⟨hb, hout b fun hm => (hD b hm).2.1 hb⟩
    have hkU : ∀ b, Ub st'.H F' b → (shut Ds w').heap[b]? = w'.heap[b]? := fun b hb => hout b fun hm => by
      obtain ⟨arr, t, m, hc⟩ := hst.heap.blocks hb
      rw [(hD b hm).2.2] at hc; cases hc
    have hst2 : StRel w.heap.size G ρ' S' F' st' ⟨a'.tmps, []⟩ (shut Ds w') := ⟨Marks.nil _ (by rw [hos.2.2.2]; exact hB), hst.size, fun i x hx => (hst.tmps i x hx).mono (fun _ _ h _ => h) hkS,
      ⟨hst.heap.dom, fun i o ho => by
        obtain ⟨q, hq, hob⟩ := hst.heap.obj i o ho
        exact ⟨q, hq, hob.mono (fun _ _ h _ => h) hkS fun b hb => hkU b ⟨i, o, ho, hb⟩⟩, hst.heap.nodup, hst.heap.disj, hst.heap.sep,
        fun i o b ho hb => by rw [hos.2.2.2]; exact hst.heap.lt i o b ho hb, fun b hb => by rw [hos.2.2.2]; exact hst.heap.slt b hb⟩, hst.glob.mono hkS⟩
    have hE2 : Evo S (Ub H F) w S' (Ub st'.H F') (shut Ds w') := ⟨hos.1.trans hE.os, hos.2.1.trans hE.tape, hos.2.2.1.trans hE.output, by rw [hos.2.2.2]; exact hE.size,
      fun b hb hu => (hout b fun hm => by have := (hD b hm).1; omega).trans (hE.keep b hb hu), hE.sub, hE.newS, hE.newU⟩
    obtain ⟨x, hx, hrv⟩ := hr _ G ρ' S' F' _ _ hst2
    obtain ⟨ρ2, S2, F2, h2, hE3, hA2⟩ := hw w.heap.size G ρ' S' F' ⟨#[x], []⟩ (shut Ds w') ⟨Marks.nil _ (by rw [hos.2.2.2]; exact hB), rfl, fun i y hy => by
      cases i with
      | zero => simp at hy; subst hy; simpa using hrv
      | succ i => simp at hy, hst2.heap, hst2.glob⟩
    have hfin : LeavesInM Fence.wide 0 P fn a'.tmps (fun e w' => ∃ x ρ' S' F', e = .returned x ∧ RV ρ' S' w' x r ∧ HRel ρ' S' F' H' w' ∧ Evo S (Ub H F) w S' (Ub H' F') w' ∧ AgF ρ ρ') a'.defers .returning w' := by
      rw [hds]
      refine leaves_marks Ds w' hnd (fun D hm => (hD D hm).2.2) ?_
      exact ⟨x, hx, x, ρ2, S2, F2, rfl, by simpa using h2.tmps 0 r rfl, h2.heap, hE2.trans hE3, hA.trans hA2⟩
    rcases he with rfl | rfl <;> exact hfin

theorem RetV.tmp {fn : Func} {st : St} {t : Tmp} {r : V} (h : fn.results = #[.tmp t]) (ht : st.T[t]? = some r) : RetV P fn st r := by
  intro B G ρ S F a w hst
  exact ⟨_, by rw [results_tmp h], hst.tmps t r ht⟩

theorem RetV.none {fn : Func} {st : St} (h : fn.results = #[]) : RetV P fn st (.tup []) := by
  intro B G ρ S F a w hst
  exact ⟨_, by rw [results_none h], .tup #[] [] rfl (fun j x c hx _ => by simp at hx)⟩

/-- one result of a function: out of a slot, or out of a variable's cells -/
def one (tmps : Array Value) : ResultVar → Sem Value
  | .tmp t => pure (tmps.getD t undef)
  | .cell a t => do loadVar t (← asAddr (tmps.getD a undef))

theorem results_eq (fn : Func) (tmps : Array Value) : results fn tmps = (do let vs ← fn.results.mapM (one tmps); pure (if h : vs.size = 1 then vs[0] else .tuple vs)) := rfl

def OneR (P : Program) (st : St) (rv : ResultVar) (r : V) : Prop :=
  ∀ B G ρ S F a w, StRel B G ρ S F st a w → ∃ x, (one a.tmps rv).run P w = .ok x w ∧ RV ρ S w x r

theorem OneR.tmp {st : St} {t : Tmp} {r : V} (ht : st.T[t]? = some r) : OneR P st (.tmp t) r := fun _ _ _ _ _ _ _ hst => ⟨_, rfl, hst.tmps t r ht⟩

theorem RetV.two {fn : Func} {st : St} {a b : ResultVar} {r s : V} (h : fn.results = #[a, b]) (h1 : OneR P st a r) (h2 : OneR P st b s) : RetV P fn st (.tup [r, s]) := by
  intro B G ρ S F act w hst
  obtain ⟨x, hx, rx⟩ := h1 _ G ρ S F act w hst
  obtain ⟨y, hy, ry⟩ := h2 _ G ρ S F act w hst
  refine ⟨.tuple #[x, y], ?_, .tup #[x, y] [r, s] rfl fun j z c hz hc => ?_⟩
  · simp [results_eq, h, hx, hy]
  · match j with
    | 0 => simp at hz hc; subst hz hc; exact rx
    | 1 => simp at hz hc; subst hz hc; exact ry
    | j + 2 => simp at hz

theorem RetV.three {fn : Func} {st : St} {a b c : ResultVar} {r s t : V} (h : fn.results = #[a, b, c]) (h1 : OneR P st a r) (h2 : OneR P st b s) (h3 : OneR P st c t) : RetV P fn st (.tup [r, s, t]) := by
  intro B G ρ S F act w hst
  obtain ⟨x, hx, rx⟩ := h1 _ G ρ S F act w hst
  obtain ⟨y, hy, ry⟩ := h2 _ G ρ S F act w hst
  obtain ⟨z, hz, rz⟩ := h3 _ G ρ S F act w hst
  refine ⟨.tuple #[x, y, z], ?_, .tup #[x, y, z] [r, s, t] rfl fun j q d hq hd => ?_⟩
  · simp [results_eq, h, hx, hy, hz]
  · match j with
    | 0 => simp at hq hd; subst hq hd; exact rx
    | 1 => simp at hq hd; subst hq hd; exact ry
    | 2 => simp at hq hd; subst hq hd; exact rz
    | j + 3 => simp at hq

theorem RetV.one {fn : Func} {st : St} {a : ResultVar} {r : V} (h : fn.results = #[a]) (h1 : OneR P st a r) : RetV P fn st r := by
  intro B G ρ S F act w hst
  obtain ⟨x, hx, rx⟩ := h1 _ G ρ S F act w hst
  refine ⟨x, ?_, rx⟩
  simp [results_eq, h, hx]

/-! ### a call by contract
  q: the caller's names of objects to the contract's; m: the contract's names (old ones, and the new ones that its result bears) to the caller's; N: the caller's names for the new ones. -/
structure CallFits (q m : Ren) (args : List V) (H : Hp) (vs : List V) (Hc : Hp) (rc : V) (Hc' : Hp) (v : V) (H' : Hp) (N : List Nat) : Prop where
  qok : q.ok = true
  mok : m.ok = true
  args : SubT q args vs
  heap : SubH q H Hc
  val : rc.rn m = v
  /-- an object of the caller behind the call: one that the callee never saw, or one of the callee's -/
  back : ∀ j o', look H' j = some o' → (mget q j = none ∧ look H j = some o' ∧ ∀ i, mget m i ≠ some j) ∨ (∃ i o, mget m i = some j ∧ look Hc' i = some o ∧ SubO m o o')
  /-- elder objects go back to where they came from; new ones are named in N -/
  old : ∀ i j, mget m i = some j → i < 100 → mget q j = some i
  new : ∀ i j, mget m i = some j → 100 ≤ i → j ∈ N
  /-- names in N are new -/
  free : ∀ j, j ∈ N → look H j = none

theorem AC.call {f : FuncId} {vs : List V} {Hc Hc' : Hp} {rc : V} (h : AC P G f vs Hc rc Hc') {q m : Ren} {args : List V} {H H' : Hp} {v : V} {N : List Nat}
    (c : CallFits q m args H vs Hc rc Hc' v H' N)
    {ρ : Nat → Option Value} {S : Nat → Prop} {F : Nat → List Nat} {xs : Array Value} {w : World} (hsz : xs.size = args.length) (hxs : ∀ i x, args[i]? = some x → RV ρ S w (xs.getD i undef) x)
    (hH : HRel ρ S F H w) (hG : GRel G S w) (hfr : ∀ j o, look H j = some o → ∀ i, i ∈ N → o.has i = false) :
    Calls P f xs w fun e w' => ∃ x, e = .returned x ∧ Post ρ S F H w v H' N x w' := by
  classical
  obtain ⟨ρc, Fc, hHc, k2, k3, k4⟩ := hH.rn c.qok c.heap
  refine (h ρc S Fc xs w (hsz.trans c.args.length) (fun i y hy => ?_) hHc hG).mono ?_
  · rcases c.args.get hy with rfl | ⟨x, hx, rfl⟩
    · exact .junk _
    · exact (hxs i x hx).rn k2
  · rintro e w' ⟨x, ρ1, S1, F1, rfl, hx, hH1, hE, hA⟩
    have hUc : ∀ b, Ub Hc Fc b → Ub H F b := by
      rintro b ⟨j, o', ho, hb⟩
      obtain ⟨i, o, _, hl, e, _⟩ := k4 j o' ho
      exact ⟨i, o, hl, e ▸ hb⟩
    let own : Nat → Prop := fun j => ∃ i, mget m i = some j
    let ρ' : Nat → Option Value := fun j => if (look H' j).isSome then (if own j then rnρ m ρ1 j else ρ j) else none
    let F' : Nat → List Nat := fun j => if h : own j then F1 (Classical.choose h) else F j
    have hown : ∀ {i j : Nat}, mget m i = some j → own j := fun {i j} h => ⟨i, h⟩
    have hF' : ∀ {i j : Nat}, mget m i = some j → F' j = F1 i := fun {i j} h => by
      have hx : own j := ⟨i, h⟩
      simp only [F', dif_pos hx]
      rw [Ren.inj c.mok (Classical.choose_spec hx) h]
    have hρ1 : ∀ i j r, mget m i = some j → ρ' j = some r → ρ1 i = some r := fun i j r hi hr => by
      simp only [ρ'] at hr
      split at hr
      · rw [if_pos (hown hi), rnρ_eq c.mok hi] at hr; exact hr
      · cases hr
    -- the caller's elder roots
    have hAN : AgN ρ ρ' N := by
      intro j r hr hN
      simp only [ρ'] at hr
      split at hr
      · split at hr
        · obtain ⟨i, hi, hr1⟩ := rnρ_some hr
          rcases Nat.lt_or_ge i 100 with hlt | hge
          · exact k2 j i r (c.old i j hi hlt) (hA i r hlt hr1)
          · exact absurd (c.new i j hi hge) hN
        · exact hr
      · cases hr
    have hk : Keeps S w S1 w' := hHc.keeps hE
    have cases' : ∀ j o', look H' j = some o' → (¬ own j ∧ mget q j = none ∧ look H j = some o' ∧ F' j = F j ∧ ρ' j = ρ j) ∨ (∃ i o, mget m i = some j ∧ look Hc' i = some o ∧ SubO m o o' ∧ F' j = F1 i ∧ ρ' j = ρ1 i) := by
      intro j o' ho
      rcases c.back j o' ho with ⟨h1, h2, h3⟩ | ⟨i, o, hi, hl, hs⟩
      · refine .inl ⟨fun ⟨i, hi⟩ => h3 i hi, h1, h2, ?_, ?_⟩
        · have : ¬ own j := fun ⟨i, hi⟩ => h3 i hi
          simp only [F', dif_neg this]
        · have : ¬ own j := fun ⟨i, hi⟩ => h3 i hi
          simp only [ρ', ho, if_neg this]; rfl
      · refine .inr ⟨i, o, hi, hl, hs, hF' hi, ?_⟩
        simp only [ρ', ho, if_pos (hown hi), rnρ_eq c.mok hi]; rfl
    -- a frame object's blocks are none of the callee's
    have hframe : ∀ j o b, mget q j = none → look H j = some o → b ∈ F j → ¬ Ub Hc Fc b := by
      rintro j o b hq hl hb ⟨i', o', ho', hb'⟩
      obtain ⟨i, p, hi, hp, e, _⟩ := k4 i' o' ho'
      rw [e] at hb'
      refine hH.disj j i o p b hl hp (fun hji => ?_) hb hb'
      subst hji; rw [hi] at hq; cases hq
    have hkeepF : ∀ j o b, mget q j = none → look H j = some o → b ∈ F j → w'.heap[b]? = w.heap[b]? := fun j o b hq hl hb => hE.keep b (hH.lt j o b hl hb) (hframe j o b hq hl hb)
    -- the callee's blocks: of what it was given, or new
    have hUnew : ∀ i o b, look Hc' i = some o → b ∈ F1 i → Ub Hc Fc b ∨ w.heap.size ≤ b := fun i o b hl hb => hE.newU b ⟨i, o, hl, hb⟩
    have hSnew : ∀ b, S1 b → S b ∨ Ub Hc Fc b ∨ w.heap.size ≤ b := hE.newS
    refine ⟨x, rfl, ρ', S1, F', c.val ▸ hx.rn hρ1, ⟨fun j hj => by simp [ρ', hj], fun j o' ho => ?_, fun j o' ho => ?_, fun j j' o o' b hj hj' hne hb hb' => ?_, fun j o' b ho hb => ?_, fun j o' b ho hb => ?_, hH1.slt⟩,
      ⟨hE.os, hE.tape, hE.output, hE.size, fun b hb hu => hE.keep b hb (fun h => hu (hUc b h)), hE.sub, fun b hb => (hSnew b hb).imp id (Or.imp (hUc b) id), ?_⟩, hAN⟩
    · rcases cases' j o' ho with ⟨h1, h2, h3, h4, h5⟩ | ⟨i, o, hi, hl, hs, h4, h5⟩
      · obtain ⟨r, hr, hob⟩ := hH.obj j o' h3
        refine ⟨r, h5.trans hr, ?_⟩
        rw [h4]
        refine hob.mono (fun i r hi hh => hAN i r hi fun hN => ?_) hk (fun b hb => hkeepF j o' b h2 h3 hb)
        rw [hfr j o' h3 i hN] at hh; cases hh
      · obtain ⟨r, hr, hob⟩ := hH1.obj i o hl
        refine ⟨r, h5.trans hr, ?_⟩
        rw [h4]
        exact hob.rn hρ1 hs
    · rcases cases' j o' ho with ⟨h1, h2, h3, h4, h5⟩ | ⟨i, o, hi, hl, hs, h4, h5⟩
      · rw [h4]; exact hH.nodup j o' h3
      · rw [h4]; exact hH1.nodup i o hl
    · rcases cases' j o hj with ⟨h1, h2, h3, h4, h5⟩ | ⟨i, p, hi, hl, hs, h4, h5⟩
      · rcases cases' j' o' hj' with ⟨h1', h2', h3', h4', h5'⟩ | ⟨i', p', hi', hl', hs', h4', h5'⟩
        · rw [h4] at hb; rw [h4'] at hb'; exact hH.disj j j' o o' b h3 h3' hne hb hb'
        · rw [h4] at hb; rw [h4'] at hb'
          rcases hUnew i' p' b hl' hb' with h | h
          · exact hframe j o b h2 h3 hb h
          · have := hH.lt j o b h3 hb; omega
      · rcases cases' j' o' hj' with ⟨h1', h2', h3', h4', h5'⟩ | ⟨i', p', hi', hl', hs', h4', h5'⟩
        · rw [h4] at hb; rw [h4'] at hb'
          rcases hUnew i p b hl hb with h | h
          · exact hframe j' o' b h2' h3' hb' h
          · have := hH.lt j' o' b h3' hb'; omega
        · rw [h4] at hb; rw [h4'] at hb'
          refine hH1.disj i i' p p' b hl hl' (fun e => hne ?_) hb hb'
          subst e; rw [hi] at hi'; exact Option.some.inj hi'
    · rcases cases' j o' ho with ⟨h1, h2, h3, h4, h5⟩ | ⟨i, o, hi, hl, hs, h4, h5⟩
      · rw [h4] at hb
        intro hs
        rcases hSnew b hs with h | h | h
        · exact hH.sep j o' b h3 hb h
        · exact hframe j o' b h2 h3 hb h
        · have := hH.lt j o' b h3 hb; omega
      · rw [h4] at hb; exact hH1.sep i o b hl hb
    · rcases cases' j o' ho with ⟨h1, h2, h3, h4, h5⟩ | ⟨i, o, hi, hl, hs, h4, h5⟩
      · rw [h4] at hb; exact Nat.lt_of_lt_of_le (hH.lt j o' b h3 hb) hE.size
      · rw [h4] at hb; exact hH1.lt i o b hl hb
    · rintro b ⟨j, o', ho, hb⟩
      rcases cases' j o' ho with ⟨h1, h2, h3, h4, h5⟩ | ⟨i, o, hi, hl, hs, h4, h5⟩
      · rw [h4] at hb; exact .inl ⟨j, o', h3, hb⟩
      · rw [h4] at hb
        exact (hUnew i o b hl hb).imp (hUc b) id

end
end Go.Av
