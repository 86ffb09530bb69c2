/-
  Core18: the law of the drawn regions, put together.
-/
import Derived.Test.YtkfpmbinifaakaaDoorCore17
namespace Go.Av

section
variable {P : Program} {G : Nat → Option (List V)} {L : Option Nat} {B : Nat}

theorem HRel.congr {ρ : Nat → Option Value} {S : Nat → Prop} {F : Nat → List Nat} {H H' : Hp} {w : World} (h : HRel ρ S F H w) (e : ∀ x, look H' x = look H x) : HRel ρ S F H' w :=
  ⟨fun i hi => h.dom i (e i ▸ hi), fun i o hi => h.obj i o (e i ▸ hi), fun i o hi => h.nodup i o (e i ▸ hi), fun i j o p b hi hj => h.disj i j o p b (e i ▸ hi) (e j ▸ hj), fun i o b hi => h.sep i o b (e i ▸ hi), fun i o b hi => h.lt i o b (e i ▸ hi), h.slt⟩

theorem Ub.congr {F : Nat → List Nat} {H H' : Hp} (e : ∀ x, look H' x = look H x) {b : Nat} (h : Ub H' F b) : Ub H F b := by
  obtain ⟨i, o, hi, hb⟩ := h
  exact ⟨i, o, e i ▸ hi, hb⟩

theorem Post.congr {ρ : Nat → Option Value} {S : Nat → Prop} {F : Nat → List Nat} {H : Hp} {w : World} {v : V} {H1 H2 : Hp} {N : List Nat} {x : Value} {w' : World} (h : Post ρ S F H w v H1 N x w') (e : ∀ x, look H2 x = look H1 x) : Post ρ S F H w v H2 N x w' := by
  obtain ⟨ρ', S', F', hv, hH, hE, hA⟩ := h
  exact ⟨ρ', S', F', hv, hH.congr e, ⟨hE.os, hE.tape, hE.output, hE.size, hE.keep, hE.sub, hE.newS, fun b hb => hE.newU b (Ub.congr e hb)⟩, hA⟩

theorem OpOk.congr {o : Oper} {e : Operand → V} {H : Hp} {v : V} {H1 H2 : Hp} {N : List Nat} (h : OpOk P G o e H v H1 N) (he : ∀ x, look H2 x = look H1 x) : OpOk P G o e H v H2 N :=
  fun ρ S F η w hη hH hG => (h ρ S F η w hη hH hG).mono fun _ _ hp => hp.congr he

structure Fact (P : Program) (G : Nat → Option (List V)) (ops : Array Oper) (Es : List (Bool × Eff)) (T0 : List V) (H0 : Hp) (k : Nat) (o : Oper) (E : Bool × Eff) (Tk : List V) (Hk : Hp) : Prop where
  op : ops[k]? = some o
  eff : Es[k]? = some E
  inv : Inv ops Es T0 H0 (· < k) Tk Hk
  want : wantV ops Tk o.guard = some E.1
  ok : E.1 = true → OpOkL P G o (ev G Tk) E.2 Hk
  no : E.1 = false → E.2 = Eff.und

theorem Chain.length {ops : Array Oper} {i : Nat} {T : List V} {H : Hp} {tail : List (Bool × Eff)} {T' : List V} {H' : Hp} (h : Chain P G ops i T H tail T' H') (hi : i ≤ ops.size) : tail.length = ops.size - i := by
  induction h with
  | nil i T H h => simp; omega
  | op ho _ _ _ ih =>
    have := (Array.getElem?_eq_some_iff.1 ho).1
    have := ih (by omega)
    simp only [List.length_cons]; omega
  | skip ho _ _ ih =>
    have := (Array.getElem?_eq_some_iff.1 ho).1
    have := ih (by omega)
    simp only [List.length_cons]; omega

theorem Chain.facts {ops : Array Oper} {Es : List (Bool × Eff)} {T0 : List V} {H0 : Hp} (hF : Fair ops Es T0 H0) {i : Nat} {T : List V} {H : Hp} {tail : List (Bool × Eff)} {T' : List V} {H' : Hp} (h : Chain P G ops i T H tail T' H') :
    Es.drop i = tail → i ≤ ops.size → Inv ops Es T0 H0 (· < i) T H → (∀ k, i ≤ k → k < ops.size → ∃ o E Tk Hk, Fact P G ops Es T0 H0 k o E Tk Hk) ∧ Inv ops Es T0 H0 (· < ops.size) T' H' := by
  induction h with
  | nil i T H h =>
    intro _ hi hinv
    have : i = ops.size := by omega
    subst this
    exact ⟨fun k h1 h2 => by omega, hinv⟩
  | @op i T H o E tl T' H' ho hw hop rest ih =>
    intro hd hi hinv
    have hlt := (Array.getElem?_eq_some_iff.1 ho).1
    have hE : Es[i]? = some (true, E) := by
      have : (Es.drop i)[0]? = some (true, E) := by rw [hd]; rfl
      simpa using this
    have hinv' := Inv.step hF hinv ho hE (Nat.lt_irrefl i) (fun x j F _ hj _ _ => Nat.le_of_lt hj) (H' := E.new ++ hrem E.C H) (fun _ => rfl) (fun x hx => by
      rw [hasH_app, Bool.or_eq_true] at hx
      exact hx.imp id hasH_hrem) (L' := (· < i + 1)) (fun j => by omega)
    have htl : Es.drop (i + 1) = tl := by rw [← List.drop_drop, hd]; rfl
    obtain ⟨h1, h2⟩ := ih htl hlt hinv'
    refine ⟨fun k hk1 hk2 => ?_, h2⟩
    by_cases he : k = i
    · subst he
      exact ⟨o, _, T, H, ⟨ho, hE, hinv, hw, fun _ => hop, fun h => (by cases h)⟩⟩
    · exact h1 k (by omega) hk2
  | @skip i T H o tl T' H' ho hw rest ih =>
    intro hd hi hinv
    have hlt := (Array.getElem?_eq_some_iff.1 ho).1
    have hE : Es[i]? = some (false, Eff.und) := by
      have : (Es.drop i)[0]? = some (false, Eff.und) := by rw [hd]; rfl
      simpa using this
    have hinv' := Inv.step hF hinv ho hE (Nat.lt_irrefl i) (fun x j F _ hj _ _ => Nat.le_of_lt hj) (H' := H) (fun x => by rw [look_eff]; simp [Eff.touch, look]) (fun x hx => .inr hx) (L' := (· < i + 1)) (fun j => by omega)
    have htl : Es.drop (i + 1) = tl := by rw [← List.drop_drop, hd]; rfl
    obtain ⟨h1, h2⟩ := ih htl hlt hinv'
    refine ⟨fun k hk1 hk2 => ?_, h2⟩
    by_cases he : k = i
    · subst he
      exact ⟨o, _, T, H, ⟨ho, hE, hinv, hw, fun h => (by cases h), fun _ => rfl⟩⟩
    · exact h1 k (by omega) hk2

theorem gval_congr {ops : Array Oper} {T T' : List V} {j : Nat} (h : ∀ d, ((ops[j]?).bind (·.dst)) = some d → T[d]? = T'[d]?) : gval ops T j = gval ops T' j := by
  unfold gval
  cases hd : (ops[j]?).bind (·.dst) with
  | none => rfl
  | some d => simp only [h d hd]

theorem wantV_congr {ops : Array Oper} {o : Oper} {T T' : List V} (h : ∀ d, d ∈ o.looksAt ops → T[d]? = T'[d]?) : wantV ops T o.guard = wantV ops T' o.guard := by
  cases hg : o.guard with
  | none => rfl
  | some jb =>
    obtain ⟨j, b⟩ := jb
    simp only [wantV]
    rw [gval_congr fun d hd => h d (by unfold Oper.looksAt; rw [hg]; simp [hd])]

theorem ev_congr {ops : Array Oper} {o : Oper} {T T' : List V} (h : ∀ d, d ∈ o.looksAt ops → T[d]? = T'[d]?) : ∀ x, x ∈ o.op.operands → ev G T x = ev G T' x := by
  intro x hx
  cases x with
  | tmp t =>
    have := h t (by
      unfold Oper.looksAt
      refine List.mem_append.2 (.inl (List.mem_filterMap.2 ⟨.tmp t, by simpa using hx, rfl⟩)))
    simp only [ev, List.getD_eq_getElem?_getD, this]
  | _ => rfl

theorem wanted_of_wantV {ops : Array Oper} {o : Oper} {ρ : Nat → Option Value} {S : Nat → Prop} {F : Nat → List Nat} {st : St} {a : Act} {w : World} (hst : StRel B G ρ S F st a w) {b : Bool} (h : wantV ops st.T o.guard = some b) : Region.wanted o (yielded ops a.tmps) = b := by
  unfold wantV at h
  unfold Region.wanted
  cases hg : o.guard with
  | none => rw [hg] at h; cases h; rfl
  | some jb =>
    obtain ⟨j, b'⟩ := jb
    rw [hg] at h
    simp only [Option.map_eq_some_iff] at h
    obtain ⟨c, hc, hcb⟩ := h
    simp only [yielded_gval hst hc]
    subst hcb
    cases c <;> cases b' <;> rfl

theorem Inv.full {ops : Array Oper} {Es : List (Bool × Eff)} {T0 : List V} {H0 : Hp} (hl : Es.length = ops.size) {L M : Nat → Prop} {T T' : List V} {H H' : Hp} (h : Inv ops Es T0 H0 L T H) (k : Inv ops Es T0 H0 M T' H') (he : ∀ j, L j ↔ M j) (hs : ∀ j, L j → j < ops.size) : T = T' ∧ ∀ x, look H x = look H' x := by
  refine ⟨?_, fun x => ?_⟩
  · apply List.ext_getElem?
    intro s
    by_cases hw : ∃ j y, L j ∧ ops[j]? = some y ∧ y.dst = some s
    · obtain ⟨j, y, hj, hy, hyd⟩ := hw
      obtain ⟨F, hFj⟩ : ∃ F, Es[j]? = some F := ⟨_, List.getElem?_eq_getElem (by rw [hl]; exact hs j hj)⟩
      rw [h.set s j y F hj hy hyd hFj, k.set s j y F ((he j).1 hj) hy hyd hFj]
    · rw [h.old s fun j y hj hy hyd => hw ⟨j, y, hj, hy, hyd⟩, k.old s fun j y hj hy hyd => hw ⟨j, y, (he j).2 hj, hy, hyd⟩]
  · by_cases hw : ∃ j F, L j ∧ Es[j]? = some F ∧ F.2.touch x = true
    · have top : ∃ j F, L j ∧ Es[j]? = some F ∧ F.2.touch x = true ∧ ∀ j' F', L j' → Es[j']? = some F' → F'.2.touch x = true → j' ≤ j := by
        obtain ⟨j, F, hj⟩ := hw
        have : ∀ n j F, ops.size - j ≤ n → L j ∧ Es[j]? = some F ∧ F.2.touch x = true → ∃ j F, L j ∧ Es[j]? = some F ∧ F.2.touch x = true ∧ ∀ j' F', L j' → Es[j']? = some F' → F'.2.touch x = true → j' ≤ j := by
          intro n
          induction n with
          | zero => intro j F hn hj; have := hs j hj.1; omega
          | succ n ih =>
            intro j F hn hj
            by_cases hm : ∃ j' F', L j' ∧ Es[j']? = some F' ∧ F'.2.touch x = true ∧ j < j'
            · obtain ⟨j', F', h1, h2, h3, h4⟩ := hm
              exact ih j' F' (by have := hs j' h1; omega) ⟨h1, h2, h3⟩
            · refine ⟨j, F, hj.1, hj.2.1, hj.2.2, fun j' F' h1 h2 h3 => ?_⟩
              rcases Nat.lt_or_ge j j' with h4 | h4
              · exact absurd ⟨j', F', h1, h2, h3, h4⟩ hm
              · exact h4
        exact this _ j F (Nat.le_refl _) hj
      obtain ⟨j, F, hj, hFj, ht, hmax⟩ := top
      rw [h.top x j F hj hFj ht hmax, k.top x j F ((he j).1 hj) hFj ht fun j' F' hj' => hmax j' F' ((he j').2 hj')]
    · have no : ∀ j F, L j → Es[j]? = some F → F.2.touch x = false := fun j F hj hFj => by
        cases ht : F.2.touch x with
        | false => rfl
        | true => exact absurd ⟨j, F, hj, hFj, ht⟩ hw
      rw [h.bot x no, k.bot x fun j F hj => no j F ((he j).2 hj)]

theorem any_go {ops : Array Oper} {Es : List (Bool × Eff)} {T0 : List V} {H0 : Hp} (hF : Fair ops Es T0 H0) {Tn : List V} {Hn : Hp} (hfin : Inv ops Es T0 H0 (· < ops.size) Tn Hn) (facts : ∀ k, k < ops.size → ∃ o E Tk Hk, Fact P G ops Es T0 H0 k o E Tk Hk)
    {Q : Exit → Act → World → Prop} {K : St → Prop} {ρ0 : Nat → Option Value} {S0 : Nat → Prop} {F0 : Nat → List Nat} {w0 : World} (hK : K ⟨Tn, Hn⟩) (hn : ∀ st', K st' → Onto B G ρ0 S0 F0 H0 w0 st' (Q .normal)) :
    ∀ (fuel : Nat) (listed : Array Bool) (T : List V) (H : Hp) (ρ : Nat → Option Value) (S : Nat → Prop) (F : Nat → List Nat) (a : Act) (w : World), listed.size = ops.size → listed.countP (fun b => !b) ≤ fuel → Down ops (fun j => listed.getD j false = true) →
      Inv ops Es T0 H0 (fun j => listed.getD j false = true) T H → StRel B G ρ S F ⟨T, H⟩ a w → Evo S0 (Ub H0 F0) w0 S (Ub H F) w → AgF ρ0 ρ → wpAnyIn (fen L) 0 P .any ops Q fuel listed a w := by
  intro fuel
  have hlt : ∀ (listed : Array Bool), listed.size = ops.size → ∀ j, listed.getD j false = true → j < ops.size := fun listed hsz j h => by
    rcases Nat.lt_or_ge j listed.size with h' | h'
    · rw [← hsz]; exact h'
    · rw [Array.getD_eq_getD_getElem?, Array.getElem?_eq_none h'] at h; cases h
  have done : ∀ (listed : Array Bool) (T : List V) (H : Hp) (ρ : Nat → Option Value) (S : Nat → Prop) (F : Nat → List Nat) (a : Act) (w : World), listed.size = ops.size → (∀ j, j < ops.size → listed.getD j false = true) →
      Inv ops Es T0 H0 (fun j => listed.getD j false = true) T H → StRel B G ρ S F ⟨T, H⟩ a w → Evo S0 (Ub H0 F0) w0 S (Ub H F) w → AgF ρ0 ρ → Q .normal a w := by
    intro listed T H ρ S F a w hsz hall hinv hst hE hA
    obtain ⟨rfl, hH⟩ := Inv.full hF.len hinv hfin (fun j => ⟨hlt listed hsz j, hall j⟩) (hlt listed hsz)
    have e : ∀ x, look Hn x = look H x := fun x => (hH x).symm
    exact hn _ hK ρ S F a w ⟨hst.defers, hst.size, hst.tmps, hst.heap.congr e, hst.glob⟩ ⟨hE.os, hE.tape, hE.output, hE.size, hE.keep, hE.sub, hE.newS, fun b hb => hE.newU b (Ub.congr e hb)⟩ hA
  induction fuel with
  | zero =>
    intro listed T H ρ S F a w hsz hc hdown hinv hst hE hA
    have hall : ∀ j, j < ops.size → listed.getD j false = true := fun j hj => by
      have h0 : listed.countP (fun b => !b) = 0 := by omega
      rw [Array.countP_eq_zero] at h0
      have := h0 listed[j] (Array.getElem_mem (by omega))
      rw [Array.getD_eq_getD_getElem?, Array.getElem?_eq_getElem (by omega)]
      simpa using this
    refine ⟨?_, done listed T H ρ S F a w hsz hall hinv hst hE hA⟩
    cases hr : Region.ready .any ops listed with
    | nil => rfl
    | cons i l =>
      have hi : i ∈ Region.ready .any ops listed := by rw [hr]; simp
      obtain ⟨h1, o, h2, _⟩ := mem_ready.1 hi
      have hj := (Array.getElem?_eq_some_iff.1 h2).1
      have := hall i hj
      rw [Array.getD_eq_getD_getElem?, Array.getElem?_eq_getElem (by omega)] at h1 this
      simp at h1 this
      rw [h1] at this; cases this
  | succ fuel ih =>
    intro listed T H ρ S F a w hsz hc hdown hinv hst hE hA
    refine ⟨fun hr => done listed T H ρ S F a w hsz (fun j hj => ?_) hinv hst hE hA, fun i hi => ?_⟩
    · have : ∀ n j, j ≤ n → j < ops.size → listed.getD j false = true := by
        intro n
        induction n with
        | zero =>
          intro j hj0 hj
          cases hlj : listed.getD j false with
          | true => rfl
          | false =>
            have : j ∈ Region.ready .any ops listed := mem_ready.2 ⟨by
              rw [Array.getD_eq_getD_getElem?, Array.getElem?_eq_getElem (by omega)] at hlj ⊢; simpa using hlj, _, Array.getElem?_eq_getElem hj, fun e he hb => by
              have := hF.back j _ e (Array.getElem?_eq_getElem hj) he hb; omega⟩
            rw [hr] at this; cases this
        | succ n ihn =>
          intro j hjn hj
          cases hlj : listed.getD j false with
          | true => rfl
          | false =>
            have : j ∈ Region.ready .any ops listed := mem_ready.2 ⟨by
              rw [Array.getD_eq_getD_getElem?, Array.getElem?_eq_getElem (by omega)] at hlj ⊢; simpa using hlj, _, Array.getElem?_eq_getElem hj, fun e he hb => by
              have := hF.back j _ e (Array.getElem?_eq_getElem hj) he hb
              exact ihn e.on (by omega) (by omega)⟩
            rw [hr] at this; cases this
      exact this j j (Nat.le_refl _) hj
    · obtain ⟨h1, o, ho, hpre⟩ := mem_ready.1 hi
      have hlt := (Array.getElem?_eq_some_iff.1 ho).1
      have hli : listed[i]? = some false := by
        rw [Array.getD_eq_getD_getElem?, Array.getElem?_eq_getElem (by omega)] at h1
        rw [Array.getElem?_eq_getElem (by omega)]; simpa using h1
      obtain ⟨o', E, Tk, Hk, hfact⟩ := facts i hlt
      have ho' := hfact.op
      rw [ho] at ho'; cases ho'
      have hnL : ¬ (listed.getD i false = true) := by rw [Array.getD_eq_getD_getElem?, hli]; simp
      have hdownk : Down ops (· < i) := fun q oq e hq hoq he hb => by have := hF.back q oq e hoq he hb; omega
      have hLs : ∀ j, listed.getD j false = true → j < ops.size := fun j h => by
        rcases Nat.lt_or_ge j listed.size with h' | h'
        · rw [← hsz]; exact h'
        · rw [Array.getD_eq_getD_getElem?, Array.getElem?_eq_none h'] at h; cases h
      obtain ⟨hT, hHs, hle, _⟩ := Inv.same hF hinv hfact.inv hdown hdownk ho hfact.eff hnL (Nat.lt_irrefl i) hpre (fun e he hb => hF.back i o e ho he hb) hLs (fun j hj => by omega)
      have hwant : Region.wanted o (yielded ops a.tmps) = E.1 := wanted_of_wantV hst ((wantV_congr hT).trans hfact.want)
      have hL' : ∀ j, ((listed.setIfInBounds i true).getD j false = true) ↔ j = i ∨ listed.getD j false = true := fun j => by
        rw [Array.getD_eq_getD_getElem?, Array.getElem?_setIfInBounds, Array.getD_eq_getD_getElem?]
        by_cases he : i = j
        · subst he; simp [show i < listed.size by omega]
        · simp [he, Ne.symm he]
      have hdown' : Down ops (fun j => (listed.setIfInBounds i true).getD j false = true) := fun q oq e hq hoq he hb => (hL' _).2 (by
        rcases (hL' q).1 hq with rfl | hq
        · rw [ho] at hoq; cases hoq; exact .inr (hpre e he hb)
        · exact .inr (hdown q oq e hq hoq he hb))
      have hcount : (listed.setIfInBounds i true).countP (fun b => !b) ≤ fuel := by
        have hi' : i < listed.size := by omega
        rw [Array.setIfInBounds, dif_pos hi', Array.countP_set]
        rw [Array.getElem?_eq_getElem hi'] at hli
        simp only [Option.some.injEq] at hli
        simp only [hli]
        simp
        omega
      -- what is new is new here too
      have hfr : ∀ k, k ∈ E.2.N → 100 ≤ k ∧ V.hasL k T = false ∧ hasH k H = false := fun k hk => by
        obtain ⟨f1, f2, f3⟩ := hF.fresh i E k hfact.eff hk
        have sep : ∀ j F, listed.getD j false = true → Es[j]? = some F → F.2.v.has k = false ∧ hasH k F.2.new = false := by
          intro j F hj hFj
          have hjs := hLs j hj
          have hne : j ≠ i := fun e => hnL (e ▸ hj)
          rcases Nat.lt_or_gt_of_ne hne with h' | h'
          · exact (hF.two h' (Array.getElem?_eq_getElem hjs) ho hFj hfact.eff).2.1 k hk
          · rcases (hF.two h' ho (Array.getElem?_eq_getElem hjs) hfact.eff hFj).2.2 with hb | hb
            · exact absurd (before_mem hdown (Array.getElem?_eq_getElem hjs) (fun e he hb' => hdown j _ e hj (Array.getElem?_eq_getElem hjs) he hb') hb) hnL
            · exact hb.2.2.2.2 k hk
        refine ⟨f1, ?_, ?_⟩
        · cases hh : V.hasL k T with
          | false => rfl
          | true =>
            rcases hinv.hasT k hh with h' | ⟨j, F, h1, h2, h3⟩
            · rw [f2] at h'; cases h'
            · rw [(sep j F h1 h2).1] at h3; cases h3
        · cases hh : hasH k H with
          | false => rfl
          | true =>
            rcases hinv.has k hh with h' | ⟨j, F, h1, h2, h3⟩
            · rw [f3] at h'; cases h'
            · rw [(sep j F h1 h2).2] at h3; cases h3
      unfold wpOpIn
      simp only [ho]
      cases hw : E.1 with
      | true =>
        rw [if_pos (by rw [hwant, hw])]
        have hNall : (E.2.N.all fun i => !hasH i H) = true := List.all_eq_true.2 fun k hk => by rw [(hfr k hk).2.2]; rfl
        have hop := hfact.ok hw (ev G T) H (ev_congr hT) hHs hNall
        refine (hop ρ S F a.eval w (fun x _ => hst.ev x) hst.heap hst.glob).wp fun x w' hp => ?_
        obtain ⟨ρ', S', F', hv, hH, hE', hA'⟩ := hp
        have hN : fresh E.2.N ⟨T, H⟩ = true := List.all_eq_true.2 fun k hk => by
          obtain ⟨f1, f2, f3⟩ := hfr k hk
          simp [f2, f3, Nat.ble_eq, f1]
        have hst' := hst.put (d := o.dst) hN hv hH hE' hA'
        refine ih _ (setO T o.dst E.2.v) (E.2.new ++ hrem E.2.C H) ρ' S' F' _ w' (by simp [hsz]) hcount hdown' ?_ ?_ (hE.trans hE') (hA.trans (hA'.toF hN))
        · exact Inv.step hF hinv ho hfact.eff hnL hle (fun _ => rfl) (fun x hx => by
            rw [hasH_app, Bool.or_eq_true] at hx
            exact hx.imp id hasH_hrem) hL'
        · have : (St.put ⟨T, H⟩ o.dst E.2.v (E.2.new ++ hrem E.2.C H)) = ⟨setO T o.dst E.2.v, E.2.new ++ hrem E.2.C H⟩ := by cases o.dst <;> rfl
          rw [← this]; exact hst'
      | false =>
        rw [if_neg (by rw [hwant, hw]; simp)]
        have hno := hfact.no hw
        refine ⟨fun _ _ => trivial, ?_⟩
        refine ih _ (setO T o.dst V.und) H ρ S F _ w (by simp [hsz]) hcount hdown' ?_ ?_ hE hA
        · have := Inv.step hF hinv ho hfact.eff hnL hle (H' := H) (fun x => by rw [look_eff, hno]; simp [Eff.touch, look]) (fun x hx => .inr hx) hL'
          rwa [hno] at this
        · have : (St.put ⟨T, H⟩ o.dst V.und H) = ⟨setO T o.dst V.und, H⟩ := by cases o.dst <;> rfl
          rw [← this]; exact Onto.of_undef hst o.dst

/-- a drawn region: proved in the text's order -/
theorem CodeOk.any {id : Nat} {l : List Oper} {T : List V} {H : Hp} {Q : Exit → St → Prop} (hm : P.follows .mixedOrders = true) {Es : List (Bool × Eff)} {T' : List V} {H' : Hp}
    (hc : Chain P G l.toArray 0 T H Es T' H') (hk : okAny l.toArray T H Es = true) (hQ : Q .normal ⟨T', H'⟩) : CodeOk L P G (.region id l.toArray true) ⟨T, H⟩ Q := by
  intro B ρ S F a w R hst hn
  refine wpIn_region_any hm ?_
  have hF := okAny_fair (by simpa using hc.length (Nat.zero_le _)) hk
  obtain ⟨facts, hfin⟩ := hc.facts hF rfl (Nat.zero_le _) (Inv.start _ _ _ _ (fun j => Nat.not_lt_zero j))
  have hL0 : ∀ j, ¬ ((Array.replicate l.toArray.size false).getD j false = true) := fun j => by
    rw [Array.getD_eq_getD_getElem?, Array.getElem?_replicate]
    split <;> simp
  let w1 : World := { w with drawn := w.drawn + 1 }
  have hk1 : Keeps S w S w1 := fun b hb => ⟨hb, rfl⟩
  have hst1 : StRel B G ρ S F ⟨T, H⟩ a w1 := ⟨hst.defers, hst.size, fun i x hx => (hst.tmps i x hx).mono (fun _ _ h _ => h) hk1,
    ⟨hst.heap.dom, fun i o h => by
      obtain ⟨r, hr, hob⟩ := hst.heap.obj i o h
      exact ⟨r, hr, hob.mono (fun _ _ h _ => h) hk1 (fun _ _ => rfl)⟩, hst.heap.nodup, hst.heap.disj, hst.heap.sep, hst.heap.lt, hst.heap.slt⟩, hst.glob.mono hk1⟩
  refine any_go hF hfin (fun k hk => facts k (Nat.zero_le _) hk) (K := fun st' => Q .normal st') hQ (fun st' h' => hn .normal st' h') l.toArray.size _ T H ρ S F a w1 (by simp) ?_ (fun i o e h => (hL0 i h).elim) (Inv.start _ _ _ _ hL0) hst1
    ⟨rfl, rfl, rfl, Nat.le_refl _, fun _ _ _ => rfl, fun _ h => h, fun _ h => .inl h, fun _ h => .inl h⟩ (AgF.refl _)
  exact Nat.le_trans Array.countP_le_size (by simp)

end
end Go.Av
