/-
  Core24: the walk's rules for operations with conditions, over lists of Lean's own types.
-/
import Derived.Test.YtkfpmbinifaakaaDoorCore23
namespace Go.Av

/-! ### what a model says with: none where Go would panic or grow past all bounds -/
def ix {α : Type} (l : List α) (i : Int) : Option α := if 0 ≤ i then l[i.toNat]? else none
def upd {α : Type} (l : List α) (i : Int) (x : α) : Option (List α) := if 0 ≤ i ∧ i.toNat < l.length then some (l.set i.toNat x) else none
def cut {α : Type} (l : List α) (lo hi : Int) : Option (List α) := if 0 ≤ lo ∧ lo ≤ hi ∧ hi ≤ l.length then some ((l.drop lo.toNat).take (hi.toNat - lo.toNat)) else none
def cat (a b : List UInt8) : Option (List UInt8) := if a.length + b.length ≤ maxLen then some (a ++ b) else none
def app {α : Type} (n : Nat) (l l2 : List α) : Option (List α) := if (l.length + l2.length) * n ≤ 140737488355328 then some (l ++ l2) else none
def mk {α : Type} (n : Nat) (z : α) (i : Int) : Option (List α) := if 0 ≤ i ∧ n * i.toNat ≤ 281474976710656 ∧ i.toNat ≤ maxLen then some (List.replicate i.toNat z) else none

theorem ix_some {α : Type} {l : List α} {i : Int} {x : α} (h : ix l i = some x) : i = (i.toNat : Int) ∧ l[i.toNat]? = some x := by
  unfold ix at h
  split at h
  · exact ⟨by omega, h⟩
  · cases h

section
variable {P : Program} {G : Nat → Option (List V)}

def opW (ops : Array Oper) (i : Nat) (T : List V) : Option Op :=
  match ops[i]? with
  | some o => match wantV ops T o.guard with
    | some true => some o.op
    | _ => none
  | none => none

def dstW (ops : Array Oper) (i : Nat) : Option Tmp := (ops[i]?).bind (·.dst)

theorem hrem_nil (H : Hp) : hrem [] H = H := by
  unfold hrem
  exact List.filter_eq_self.2 fun _ _ => rfl

theorem W.gen {ops : Array Oper} {draw : Bool} {T0 : List V} {H0 : Hp} {i : Nat} {T : List V} {H : Hp} {Es : List (Bool × Eff)} {Q : St → Prop} (E : Eff) {op : Op} (h : opW ops i T = some op) (hop : ∀ o : Oper, o.op = op → OpOkL P G o (ev G T) E H)
    (k : W P G ops draw T0 H0 (i + 1) (setO T (dstW ops i) E.v) (E.new ++ hrem E.C H) (Es ++ [(true, E)]) Q) : W P G ops draw T0 H0 i T H Es Q := by
  unfold opW at h
  split at h
  · rename_i o ho
    split at h
    · rename_i hw
      cases h
      refine W.one E ho hw (hop o rfl) ?_
      have : dstW ops i = o.dst := by unfold dstW; rw [ho]; rfl
      rw [this] at k
      exact k
    · cases h
  · cases h

theorem W.gen0 {ops : Array Oper} {draw : Bool} {T0 : List V} {H0 : Hp} {i : Nat} {T : List V} {H : Hp} {Es : List (Bool × Eff)} {Q : St → Prop} (v : V) (R : List Nat) {op : Op} (h : opW ops i T = some op)
    (hop : ∀ o : Oper, o.op = op → ∀ e' H', (∀ x, x ∈ op.operands → e' x = ev G T x) → (∀ x, x ∈ R → look H' x = look H x) → OpOk P G o e' H' v H' [])
    (k : W P G ops draw T0 H0 (i + 1) (setO T (dstW ops i) v) H (Es ++ [(true, { v := v, R := R })]) Q) : W P G ops draw T0 H0 i T H Es Q := by
  refine W.gen { v := v, R := R } h (fun o ho e' H' he hH _ => ?_) (by simpa [hrem_nil] using k)
  exact (hop o ho e' H' (by rw [← ho]; exact he) (fun x hx => hH x (.inl hx))).congr fun y => by rw [look_eff]; simp [Eff.touch, look]

/-- element of a slice that is data -/
def ixD (D : Tab) (G : Nat → Option (List V)) (ops : Array Oper) (i : Nat) (T : List V) : Option (List (List V) × Int × Nat) :=
  match opW ops i T with
  | some (.indexAddr t x ix) => match D.at t, ev G T x, ev G T ix with
    | some it, .sl _ _ rows, .c (.int _ n) => match it.d with
      | .slice el => match D.at el with
        | some ie => some (rows, n, ie.size)
        | none => none
      | _ => none
    | _, _, _ => none
  | _ => none

theorem W.ixD {D : Tab} (hD : TabOk P D) {ops : Array Oper} {draw : Bool} {T0 : List V} {H0 : Hp} {i : Nat} {T : List V} {H : Hp} {Es : List (Bool × Eff)} {Q : St → Prop} {α : Type} (enc : α → List V) {l : List α} {n : Int} {x : α} (hx : ix l n = some x)
    (sz : Nat) (h : ixD D G ops i T = some (l.map enc, n, sz)) (hs : (enc x).length = sz)
    (k : W P G ops draw T0 H0 (i + 1) (setO T (dstW ops i) (.el (enc x))) H (Es ++ [(true, { v := .el (enc x) })]) Q) : W P G ops draw T0 H0 i T H Es Q := by
  obtain ⟨h1, h2⟩ := ix_some hx
  unfold Av.ixD at h
  split at h
  · rename_i t xo io hop
    split at h
    · rename_i it nn b rows kk n' ht hxv hiv
      split at h
      · rename_i el hit
        split at h
        · rename_i ie hel
          cases h
          refine W.gen0 (.el (enc x)) [] hop (fun o ho e' H' he _ => ?_) k
          exact OpOk.indexSl hD n.toNat ho ht hit hel ((he xo (by simp [Op.operands])).trans hxv) ((he io (by simp [Op.operands])).trans hiv) h1 (by rw [List.getElem?_map, h2]; rfl) hs
        · cases h
      · cases h
    · cases h
  · cases h

/-- element of one's own slice -/
def ixO (D : Tab) (G : Nat → Option (List V)) (ops : Array Oper) (i : Nat) (T : List V) (H : Hp) : Option (Nat × List (List V) × Int × Nat) :=
  match opW ops i T with
  | some (.indexAddr t x ix) => match D.at t, ev G T x, ev G T ix with
    | some it, .own j, .c (.int _ n) => match it.d, look H j with
      | .slice el, some (.vec _ _ k rows) => match D.at el with
        | some ie => if k = ie.size then some (j, rows, n, ie.size) else none
        | none => none
      | _, _ => none
    | _, _, _ => none
  | _ => none

theorem W.ixO {D : Tab} (hD : TabOk P D) {ops : Array Oper} {draw : Bool} {T0 : List V} {H0 : Hp} {i : Nat} {T : List V} {H : Hp} {Es : List (Bool × Eff)} {Q : St → Prop} {α : Type} (enc : α → List V) {l : List α} {n : Int} {x : α} (hx : ix l n = some x)
    (j sz : Nat) (h : ixO D G ops i T H = some (j, l.map enc, n, sz))
    (k : W P G ops draw T0 H0 (i + 1) (setO T (dstW ops i) (.vp j sz n.toNat 0)) H (Es ++ [(true, { v := .vp j sz n.toNat 0, R := [j] })]) Q) : W P G ops draw T0 H0 i T H Es Q := by
  obtain ⟨h1, h2⟩ := ix_some hx
  unfold Av.ixO at h
  split at h
  · rename_i t xo io hop
    split at h
    · rename_i it j' kk n' ht hxv hiv
      split at h
      · rename_i el nn el' k' rows hit hl
        split at h
        · rename_i ie hel
          split at h
          · rename_i hc
            subst hc
            cases h
            refine W.gen0 (.vp j ie.size n.toNat 0) [j] hop (fun o ho e' H' he hH' => ?_) k
            refine OpOk.indexOwn hD n.toNat ho ht hit hel ((he xo (by simp [Op.operands])).trans hxv) (by rw [hH' j (by simp)]; exact hl) ((he io (by simp [Op.operands])).trans hiv) h1 ?_
            have := (List.getElem?_eq_some_iff.1 h2).1
            simpa using this
          · cases h
        · cases h
      · cases h
    · cases h
  · cases h

/-- an element of one's own slice is read -/
def ldO (G : Nat → Option (List V)) (ops : Array Oper) (i : Nat) (T : List V) (H : Hp) : Option (TypeId × Nat × Nat × Nat × List (List V)) :=
  match opW ops i T with
  | some (.load t a) => match ev G T a with
    | .vp j k m b => match look H j with
      | some (.vec _ _ k' rows) => if k = k' then some (t, j, m, b, rows) else none
      | _ => none
    | _ => none
  | _ => none

theorem W.ldO {D : Tab} (hD : TabOk P D) {ops : Array Oper} {draw : Bool} {T0 : List V} {H0 : Hp} {i : Nat} {T : List V} {H : Hp} {Es : List (Bool × Eff)} {Q : St → Prop} {α : Type} (enc : α → List V) {l : List α} {n : Int} {x : α} (hx : ix l n = some x)
    (t j b : Nat) (v : V) (h : ldO G ops i T H = some (t, j, n.toNat, b, l.map enc)) (hv : takeV D t (((enc x).drop b).map V.clean) = some v)
    (k : W P G ops draw T0 H0 (i + 1) (setO T (dstW ops i) v) H (Es ++ [(true, { v := v, R := [j] })]) Q) : W P G ops draw T0 H0 i T H Es Q := by
  obtain ⟨h1, h2⟩ := ix_some hx
  unfold Av.ldO at h
  split at h
  · rename_i t' a hop
    split at h
    · rename_i j' k' m b' ha
      split at h
      · rename_i nn ety k'' rows hl
        split at h
        · subst_vars
          simp only [Option.some.injEq, Prod.mk.injEq] at h
          obtain ⟨rfl, rfl, rfl, rfl, rfl⟩ := h
          refine W.gen0 v [j'] hop (fun o ho e' H' he hH' => ?_) k
          exact OpOk.loadVp hD ho ((he a (by simp [Op.operands])).trans ha) (by rw [hH' j' (by simp)]; exact hl) (by rw [List.getElem?_map, h2]; rfl) hv
        · cases h
      · cases h
    · cases h
  · cases h

/-- an element of one's own slice is written -/
def stO (D : Tab) (G : Nat → Option (List V)) (ops : Array Oper) (i : Nat) (T : List V) (H : Hp) : Option (Nat × Bool × Nat × Nat × Nat × Nat × List (List V) × List V × List Nat × List Nat) :=
  match opW ops i T with
  | some (.store t a x) => match D.at t, ev G T a, cellsV H (ev G T x) with
    | some it, .vp j k m b, some cs => match look H j, absL H cs with
      | some (.vec nn ety k' rows), some (ys, C) => if k = k' ∧ C.Nodup ∧ j ∉ C ∧ cs.length = it.size ∧ b + cs.length ≤ k then some (j, nn, ety, k, m, b, rows, ys, C, (ev G T x).ids) else none
      | _, _ => none
    | _, _, _ => none
  | _ => none

theorem W.stO {D : Tab} (hD : TabOk P D) {ops : Array Oper} {draw : Bool} {T0 : List V} {H0 : Hp} {i : Nat} {T : List V} {H : Hp} {Es : List (Bool × Eff)} {Q : St → Prop} {α : Type} (enc : α → List V) {l l' : List α} {n : Int} {x x' : α} (hx : ix l n = some x) (hu : upd l n x' = some l')
    {j : Nat} {nn : Bool} {ety sz b : Nat} {ys : List V} {C R : List Nat} (h : stO D G ops i T H = some (j, nn, ety, sz, n.toNat, b, l.map enc, ys, C, R)) (hp : putAt (enc x) ys b = enc x')
    (k : W P G ops draw T0 H0 (i + 1) (setO T (dstW ops i) .junk) ((j, .vec nn ety sz (l'.map enc)) :: hrem (j :: C) H) (Es ++ [(true, { v := .junk, R := R, C := j :: C, new := [(j, .vec nn ety sz (l'.map enc))] })]) Q) : W P G ops draw T0 H0 i T H Es Q := by
  obtain ⟨h1, h2⟩ := ix_some hx
  have hl' : l' = l.set n.toNat x' := by
    unfold upd at hu
    split at hu
    · exact (Option.some.inj hu).symm
    · cases hu
  subst hl'
  unfold Av.stO at h
  split at h
  · rename_i t a xo hop
    split at h
    · rename_i it j' k' m b' cs ht ha hcs
      split at h
      · rename_i nn' ety' k'' rows ys' C' hl hab
        split at h
        · rename_i hc
          obtain ⟨rfl, hC, hj, hsz, hfit⟩ := hc
          simp only [Option.some.injEq, Prod.mk.injEq] at h
          obtain ⟨rfl, rfl, rfl, rfl, rfl, rfl, rfl, rfl, rfl, rfl⟩ := h
          refine W.gen { v := .junk, R := (ev G T xo).ids, C := j' :: C', new := [(j', .vec nn' ety' k' ((l.set n.toNat x').map enc))] } hop (fun o ho e' H' he hH' _ => ?_) k
          have hop' : ∀ y, y ∈ o.op.operands → e' y = ev G T y := he
          have ha' := (hop' a (by simp [ho, Op.operands])).trans ha
          have hcs' : cellsV H' (e' xo) = some cs := by
            rw [hop' xo (by simp [ho, Op.operands]), cellsV_local fun q hq => hH' q (.inl hq)]; exact hcs
          have hlk : look H' j' = some (.vec nn' ety' k' (l.map enc)) := by
            rw [hH' j' (.inr (by simp [Eff.touch]))]; exact hl
          have hab' : absL H' cs = some (ys', C') := by
            have key : ∀ (cs ys : List V) (C2 : List Nat), absL H cs = some (ys, C2) → (∀ c, c ∈ C2 → c ∈ C') → absL H' cs = some (ys, C2) := by
              intro cs
              induction cs with
              | nil => intro ys C2 h _; exact h
              | cons y l ih =>
                intro ys C2 h hsub
                simp only [absL, Option.bind_eq_some_iff, Option.map_eq_some_iff] at h ⊢
                obtain ⟨⟨z, C1⟩, h1, ⟨zs, C3⟩, h2, h3⟩ := h
                cases h3
                refine ⟨(z, C1), ?_, (zs, C3), ih zs C3 h2 fun c hc => hsub c (List.mem_append.2 (.inr hc)), rfl⟩
                cases y with
                | own q =>
                  simp only [absV] at h1 ⊢
                  split at h1
                  · rename_i _ _ _ _ hlq
                    cases h1
                    have hj : look H' q = look H q := hH' q (.inr (by simp [Eff.touch]; exact .inl (.inr (hsub q (by simp)))))
                    rw [hj, hlq]
                  · cases h1
                | c u => rw [absV_c H H']; exact h1
                | _ => exact h1
            exact key cs ys' C' hab fun c hc => hc
          have hrow : (l.map enc)[n.toNat]? = some (enc x) := by rw [List.getElem?_map, h2]; rfl
          have := OpOk.storeVp (G := G) hD ho ht ha' hlk hrow hcs' hab' hC hj hsz hfit
          rw [hp, ← List.map_set] at this
          exact this
        · cases h
      · cases h
    · cases h
  · cases h

/-- a byte of a string -/
def ixS (D : Tab) (G : Nat → Option (List V)) (ops : Array Oper) (i : Nat) (T : List V) : Option (V × Int) :=
  match opW ops i T with
  | some (.index t x ix) => match D.at t, ev G T ix with
    | some it, .c (.int _ n) => match it.d with
      | .str => some (ev G T x, n)
      | _ => none
    | _, _ => none
  | _ => none

theorem W.ixS {D : Tab} (hD : TabOk P D) {ops : Array Oper} {draw : Bool} {T0 : List V} {H0 : Hp} {i : Nat} {T : List V} {H : Hp} {Es : List (Bool × Eff)} {Q : St → Prop} {s : List UInt8} {n : Int} {c : UInt8} (hx : ix s n = some c) (h : ixS D G ops i T = some (V.str s, n))
    (k : W P G ops draw T0 H0 (i + 1) (setO T (dstW ops i) (.c (.int .u8 c.toNat))) H (Es ++ [(true, { v := .c (.int .u8 c.toNat) })]) Q) : W P G ops draw T0 H0 i T H Es Q := by
  obtain ⟨h1, h2⟩ := ix_some hx
  unfold Av.ixS at h
  split at h
  · rename_i t xo io hop
    split at h
    · rename_i it kk n' ht hiv
      split at h
      · rename_i hit
        simp only [Option.some.injEq, Prod.mk.injEq] at h
        obtain ⟨hxv, rfl⟩ := h
        refine W.gen0 (.c (.int .u8 c.toNat)) [] hop (fun o ho e' H' he _ => ?_) k
        exact OpOk.indexStr hD n'.toNat ho ht hit ((he xo (by simp [Op.operands])).trans hxv) ((he io (by simp [Op.operands])).trans hiv) h1 h2
      · cases h
    · cases h
  · cases h

/-- an element of an array value -/
def ixA (D : Tab) (G : Nat → Option (List V)) (ops : Array Oper) (i : Nat) (T : List V) : Option (List V × Int × Nat) :=
  match opW ops i T with
  | some (.index t x ix) => match D.at t, ev G T x, ev G T ix with
    | some it, .agg cs, .c (.int _ n) => match it.d with
      | .arr len el => match D.at el with
        | some ie => if ie.d.agg = false ∧ ie.size = 1 then some (cs, n, len) else none
        | none => none
      | _ => none
    | _, _, _ => none
  | _ => none

theorem W.ixA {D : Tab} (hD : TabOk P D) {ops : Array Oper} {draw : Bool} {T0 : List V} {H0 : Hp} {i : Nat} {T : List V} {H : Hp} {Es : List (Bool × Eff)} {Q : St → Prop} {α : Type} (enc : α → V) {l : List α} {n : Int} {x : α} (hx : ix l n = some x) (h : ixA D G ops i T = some (l.map enc, n, l.length))
    (k : W P G ops draw T0 H0 (i + 1) (setO T (dstW ops i) (enc x)) H (Es ++ [(true, { v := enc x })]) Q) : W P G ops draw T0 H0 i T H Es Q := by
  obtain ⟨h1, h2⟩ := ix_some hx
  unfold Av.ixA at h
  split at h
  · rename_i t xo io hop
    split at h
    · rename_i it cs kk n' ht hxv hiv
      split at h
      · rename_i len el hit
        split at h
        · rename_i ie hel
          split at h
          · rename_i hc
            simp only [Option.some.injEq, Prod.mk.injEq] at h
            obtain ⟨rfl, rfl, rfl⟩ := h
            refine W.gen0 (enc x) [] hop (fun o ho e' H' he _ => ?_) k
            exact OpOk.indexAgg hD n'.toNat ho ht hit hel hc.1 hc.2 ((he xo (by simp [Op.operands])).trans hxv) ((he io (by simp [Op.operands])).trans hiv) h1 (List.getElem?_eq_some_iff.1 h2).1 (by rw [List.getElem?_map, h2]; rfl)
          · cases h
        · cases h
      · cases h
    · cases h
  · cases h

/-- the bounds of a cut -/
def bndV (G : Nat → Option (List V)) (T : List V) (d : Int) : Option Operand → Option Int
  | none => some d
  | some x => match ev G T x with
    | .c (.int _ n) => some n
    | _ => none

theorem cutOk_of {G : Nat → Option (List V)} {T : List V} {e' : Operand → V} {len : Nat} {l h : Option Operand} {lo hi : Int} (hl : bndV G T 0 l = some lo) (hh : bndV G T len h = some hi) (h1 : 0 ≤ lo ∧ lo ≤ hi ∧ hi ≤ len)
    (he : ∀ x, l = some x ∨ h = some x → e' x = ev G T x) : cutOk e' len lo.toNat hi.toNat l h := by
  refine ⟨by omega, by omega, ?_, ?_⟩
  · cases l with
    | none => simp only [bndV, Option.some.injEq] at hl; simp only; omega
    | some x =>
      simp only [bndV] at hl
      split at hl
      · rename_i k n hx
        cases hl
        exact ⟨k, by rw [he x (.inl rfl), hx, show ((lo.toNat : Nat) : Int) = lo by omega]⟩
      · cases hl
  · cases h with
    | none => simp only [bndV, Option.some.injEq] at hh; simp only; omega
    | some x =>
      simp only [bndV] at hh
      split at hh
      · rename_i k n hx
        cases hh
        exact ⟨k, by rw [he x (.inr rfl), hx, show ((hi.toNat : Nat) : Int) = hi by omega]⟩
      · cases hh

def cutS (D : Tab) (G : Nat → Option (List V)) (ops : Array Oper) (i : Nat) (T : List V) (len : Nat) : Option (V × Int × Int) :=
  match opW ops i T with
  | some (.slice t x l h none) => match D.at t, bndV G T 0 l, bndV G T len h with
    | some it, some lo, some hi => match it.d with
      | .str => some (ev G T x, lo, hi)
      | _ => none
    | _, _, _ => none
  | _ => none

theorem W.cutS {D : Tab} (hD : TabOk P D) {ops : Array Oper} {draw : Bool} {T0 : List V} {H0 : Hp} {i : Nat} {T : List V} {H : Hp} {Es : List (Bool × Eff)} {Q : St → Prop} {s r : List UInt8} {lo hi : Int} (hx : cut s lo hi = some r) (h : cutS D G ops i T s.length = some (V.str s, lo, hi))
    (k : W P G ops draw T0 H0 (i + 1) (setO T (dstW ops i) (V.str r)) H (Es ++ [(true, { v := V.str r })]) Q) : W P G ops draw T0 H0 i T H Es Q := by
  unfold cut at hx
  split at hx
  · rename_i hb
    cases hx
    unfold Av.cutS at h
    split at h
    · rename_i t xo l hh hop
      split at h
      · rename_i it lo' hi' ht hlo hhi
        split at h
        · rename_i hit
          simp only [Option.some.injEq, Prod.mk.injEq] at h
          obtain ⟨hxv, rfl, rfl⟩ := h
          refine W.gen0 (V.str _) [] hop (fun o ho e' H' he _ => ?_) k
          exact OpOk.cutStr hD lo'.toNat hi'.toNat ho ht hit ((he xo (by simp [Op.operands])).trans hxv) (cutOk_of hlo hhi hb fun x hx => he x (by rcases hx with rfl | rfl <;> simp [Op.operands]))
        · cases h
      · cases h
    · cases h
  · cases hx

def cutD (D : Tab) (G : Nat → Option (List V)) (ops : Array Oper) (i : Nat) (T : List V) (len : Nat) : Option (V × Int × Int × Nat) :=
  match opW ops i T with
  | some (.slice t x l h none) => match D.at t, bndV G T 0 l, bndV G T len h with
    | some it, some lo, some hi => match it.d with
      | .slice el => match D.at el with
        | some ie => some (ev G T x, lo, hi, ie.size)
        | none => none
      | _ => none
    | _, _, _ => none
  | _ => none

theorem W.cutD {D : Tab} (hD : TabOk P D) {ops : Array Oper} {draw : Bool} {T0 : List V} {H0 : Hp} {i : Nat} {T : List V} {H : Hp} {Es : List (Bool × Eff)} {Q : St → Prop} {α : Type} (enc : α → List V) {s r : List α} {lo hi : Int} (hx : cut s lo hi = some r) (b : Bool) (sz : Nat) (henc : ∀ x, (enc x).length = sz)
    (h : cutD D G ops i T s.length = some (.sl b false (s.map enc), lo, hi, sz))
    (k : W P G ops draw T0 H0 (i + 1) (setO T (dstW ops i) (.sl b false (r.map enc))) H (Es ++ [(true, { v := .sl b false (r.map enc) })]) Q) : W P G ops draw T0 H0 i T H Es Q := by
  unfold cut at hx
  split at hx
  · rename_i hb
    cases hx
    unfold Av.cutD at h
    split at h
    · rename_i t xo l hh hop
      split at h
      · rename_i it lo' hi' ht hlo hhi
        split at h
        · rename_i el hit
          split at h
          · rename_i ie hel
            simp only [Option.some.injEq, Prod.mk.injEq] at h
            obtain ⟨hxv, rfl, rfl, rfl⟩ := h
            refine W.gen0 (.sl b false _) [] hop (fun o ho e' H' he _ => ?_) k
            have := OpOk.cutSl (G := G) (P := P) (H := H') hD lo'.toNat hi'.toNat ho ht hit hel ((he xo (by simp [Op.operands])).trans hxv) (fun r hr => by obtain ⟨x, _, rfl⟩ := List.mem_map.1 hr; exact henc x)
              (cutOk_of hlo (by simpa using hhi) (by simpa using hb) fun x hx => he x (by rcases hx with rfl | rfl <;> simp [Op.operands]))
            rw [List.map_take, List.map_drop]
            exact this
          · cases h
        · cases h
      · cases h
    · cases h
  · cases hx

/-- one's own slice cut short -/
def cutO (D : Tab) (G : Nat → Option (List V)) (ops : Array Oper) (i : Nat) (T : List V) (H : Hp) : Option (Nat × TypeId × Nat × List (List V) × Int) :=
  match opW ops i T with
  | some (.slice t x none (some h) none) => match D.at t, ev G T x, ev G T h with
    | some it, .own j, .c (.int _ n) => match it.d, look H j with
      | .slice el, some (.vec _ el' k rows) => match D.at el with
        | some ie => if el = el' ∧ k = ie.size then some (j, el, ie.size, rows, n) else none
        | none => none
      | _, _ => none
    | _, _, _ => none
  | _ => none

theorem W.cutO {D : Tab} (hD : TabOk P D) {ops : Array Oper} {draw : Bool} {T0 : List V} {H0 : Hp} {i : Nat} {T : List V} {H : Hp} {Es : List (Bool × Eff)} {Q : St → Prop} {α : Type} (enc : α → List V) {s r : List α} {n : Int} (hx : cut s 0 n = some r) (q : Nat) {j el sz : Nat}
    (h : cutO D G ops i T H = some (j, el, sz, s.map enc, n))
    (k : W P G ops draw T0 H0 (i + 1) (setO T (dstW ops i) (.own q)) ((q, .vec false el sz (r.map enc)) :: hrem [j] H) (Es ++ [(true, { v := .own q, C := [j], new := [(q, .vec false el sz (r.map enc))], N := [q] })]) Q) : W P G ops draw T0 H0 i T H Es Q := by
  unfold cut at hx
  split at hx
  · rename_i hb
    cases hx
    unfold Av.cutO at h
    split at h
    · rename_i t xo hh hop
      split at h
      · rename_i it j' kk n' ht hxv hhv
        split at h
        · rename_i el0 nn el' k' rows hit hl
          split at h
          · rename_i ie hel
            split at h
            · rename_i hc
              obtain ⟨rfl, rfl⟩ := hc
              simp only [Option.some.injEq, Prod.mk.injEq] at h
              obtain ⟨rfl, rfl, rfl, rfl, rfl⟩ := h
              refine W.gen { v := .own q, C := [j'], new := [(q, .vec false el0 ie.size _)], N := [q] } hop (fun o ho e' H' he hH' hN => ?_) k
              simp only [List.all_cons, List.all_nil, Bool.and_true, Bool.not_eq_true'] at hN
              have := OpOk.cutOwn (G := G) hD q n'.toNat ho ht hit hel ((he xo (by simp [ho, Op.operands])).trans hxv) (by rw [hH' j' (.inr (by simp [Eff.touch]))]; exact hl) ((he hh (by simp [ho, Op.operands])).trans hhv) (by omega) (by simp; omega) hN
              simpa using this
            · cases h
          · cases h
        · cases h
      · cases h
    · cases h
  · cases hx

/-- strings put together -/
def catW (G : Nat → Option (List V)) (ops : Array Oper) (i : Nat) (T : List V) : Option (V × V) :=
  match opW ops i T with
  | some (.binOp .add _ x y _) => some (ev G T x, ev G T y)
  | _ => none

theorem W.cat {ops : Array Oper} {draw : Bool} {T0 : List V} {H0 : Hp} {i : Nat} {T : List V} {H : Hp} {Es : List (Bool × Eff)} {Q : St → Prop} {a b r : List UInt8} (hx : cat a b = some r) (h : catW G ops i T = some (V.str a, V.str b))
    (k : W P G ops draw T0 H0 (i + 1) (setO T (dstW ops i) (V.str r)) H (Es ++ [(true, { v := V.str r })]) Q) : W P G ops draw T0 H0 i T H Es Q := by
  unfold Av.cat at hx
  split at hx
  · rename_i hb
    cases hx
    unfold catW at h
    split at h
    · rename_i t x y t' hop
      simp only [Option.some.injEq, Prod.mk.injEq] at h
      refine W.gen0 (V.str _) [] hop (fun o ho e' H' he _ => ?_) k
      exact OpOk.concat ho ((he x (by simp [Op.operands])).trans h.1) ((he y (by simp [Op.operands])).trans h.2) hb
    · cases h
  · cases hx

end
end Go.Av
