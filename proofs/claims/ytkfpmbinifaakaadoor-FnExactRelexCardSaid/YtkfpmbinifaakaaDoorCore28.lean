/-
  Core28: joins and loops of a printed walk; lengths; encoders of plain cells.
-/
import Derived.Test.YtkfpmbinifaakaaDoorCore27
namespace Go.Av

def encI (n : Int) : List V := [V.int n]
def encK (k : IntKind) (n : Int) : List V := [.c (.int k n)]
def encO (b : Bool) : List V := [V.bool b]
def encS (s : List UInt8) : List V := [V.str s]
def encL {α : Type} (x : Bool) (enc : α → List V) (l : List α) : List V := [.sl false x (l.map enc)]

section
variable {P : Program} {G : Nat → Option (List V)} {L : Option Nat} {B : Nat}

theorem CodeOk.join {ι : Type} (J : ι → St) (R : ι → Prop) {x y : Code} {st : St} {Q : Exit → St → Prop} (hrest : ∀ i, R i → CodeOk L P G y (J i) Q)
    (h : (∀ i, R i → ∀ st', Weak st' (J i) → seqQ L P G y Q .normal st') → CodeOk L P G x st (seqQ L P G y Q)) : CodeOk L P G (.seq x y) st Q :=
  CodeOk.seq' (h fun i hi _ hw => CodeOk.weak hw (hrest i hi))

theorem CodeOk.loopJ {ι : Type} (J : ι → St) (R : Nat → ι → Prop) {c : Code} {st : St} {Q : Exit → St → Prop} {n0 : Nat} {i0 : ι} (h0 : Weak st (J i0)) (hR : R n0 i0) (hz : ∀ i, ¬ R 0 i)
    (round : ∀ n i, R (n + 1) i → (∀ j, R n j → ∀ st', Weak st' (J j) → loopQ L P G c Q n .normal st') → CodeOk L P G c (J i) (loopQ L P G c Q n)) : CodeOk L P G (.loop c) st Q := by
  have key : ∀ n i, R n i → LoopN L P G c Q n (J i) := by
    intro n
    induction n with
    | zero => intro i hi; exact (hz i hi).elim
    | succ n ih => intro i hi; exact LoopN.step (round n i hi fun j hj _ hw => LoopN.weak hw (ih j hj))
  exact CodeOk.loopN (LoopN.weak h0 (key n0 i0 hR))

/-- the length of a slice -/
def lenW (G : Nat → Option (List V)) (ops : Array Oper) (i : Nat) (T : List V) (H : Hp) : Option (List (List V) × List Nat) :=
  match opW ops i T with
  | some (.call c) => match c.callee, c.args, c.argTypes with
    | .builtin .len, ⟨[x]⟩, ⟨[_]⟩ => match ev G T x with
      | .sl _ _ rows => some (rows, [])
      | .own j => match look H j with
        | some (.vec _ _ _ rows) => some (rows, [j])
        | _ => none
      | _ => none
    | _, _, _ => none
  | _ => none

theorem W.len {D : Tab} (hD : TabOk P D) {ops : Array Oper} {draw : Bool} {T0 : List V} {H0 : Hp} {i : Nat} {T : List V} {H : Hp} {Es : List (Bool × Eff)} {Q : St → Prop} {α : Type} (enc : α → List V) (l : List α) (R : List Nat) (h : lenW G ops i T H = some (l.map enc, R))
    (hs : ((opW ops i T).bind (stepV D H (ev G T))).isSome = true)
    (k : W P G ops draw T0 H0 (i + 1) (setO T (dstW ops i) (V.int l.length)) H (Es ++ [(true, { v := V.int l.length, R := R })]) Q) : W P G ops draw T0 H0 i T H Es Q := by
  unfold lenW at h
  split at h
  · rename_i cl hop
    rw [hop] at hs
    obtain ⟨callee, args, ats⟩ := cl
    simp only at h
    split at h
    · rename_i x t
      obtain ⟨v, hv⟩ := Option.isSome_iff_exists.1 hs
      simp only [Option.bind_some] at hv
      have hloc := fun e' H' he hH => (stepV_local (D := D) (H := H) (H' := H') (e := ev G T) (e' := e') (op := .call { callee := .builtin .len, args := #[x], argTypes := #[t] }) he hH).trans hv
      have hvl : v = V.int l.length := by
        have hlen : lenV H (ev G T x) = some l.length := by
          split at h
          · rename_i nn b rows hx
            cases h
            rw [hx]; simp [lenV]
          · rename_i j hx
            split at h
            · rename_i _ _ _ rows hl
              cases h
              rw [hx]; simp [lenV, hl]
            · cases h
          · cases h
        simp only [stepV] at hv
        split at hv
        · rename_i it ht
          split at hv
          · rw [hlen] at hv; exact (Option.some.inj hv).symm
          · split at hv
            · rename_i s hx
              rw [hx] at h; cases h
            · cases hv
          · cases hv
        · cases hv
      subst hvl
      refine W.gen0 (V.int l.length) R hop (fun o ho e' H' he hH' => ?_) k
      refine stepV_sound hD ?_
      rw [ho]
      refine hloc e' H' he fun y hy i hi => hH' i ?_
      simp only [Op.operands, Call.operands] at hy
      have hyx : y = x := by simpa using hy
      subst hyx
      split at h
      · rename_i hx; rw [hx] at hi; cases hi
      · rename_i j hx
        rw [hx] at hi
        split at h
        · cases h; exact hi
        · cases h
      · cases h
    · cases h
  · cases h

/-! ### the state told anew, its objects in an order of choice, slices without the mark of being there -/
def selfOk (m : Ren) : Bool := m.all fun p => mget m p.1 == some p.2

theorem selfOk_spec {m : Ren} (h : selfOk m = true) : ∀ p, p ∈ m → mget m p.1 = some p.2 := fun p hp => by
  have := List.all_eq_true.1 h p hp
  simpa using this

theorem Weak.sel (m : Ren) (ks : List Nat) {T : List V} {H : Hp} {T' : List V} {H' : Hp} (hm : (m.ok && m.keep && selfOk m) = true) (hT : keepT m ks 0 T = T') (hH : handV m H m = some H') : Weak ⟨T, H⟩ ⟨T', H'⟩ := by
  subst hT
  simp only [Bool.and_eq_true] at hm
  exact Weak.rn m hm.1.1 hm.1.2 (keepT_sub m ks 0 T) (handV_sub hH (selfOk_spec hm.2) fun p _ => rfl)

theorem Ends.one' {fn : Func} {a : Tmp} {r : V} {T : List V} {H : Hp} {e : Exit} (m : Ren) (he : e = .normal ∨ e = .ret) (h : fn.results = #[.tmp a]) (ha : T[a]? = some r) {r' : V} {H' : Hp} (hm : (m.ok && m.keep && selfOk m) = true) (hr : r.rn m = r') (hH : handV m H m = some H') : Ends P fn r' H' e ⟨T, H⟩ := by
  subst hr
  simp only [Bool.and_eq_true] at hm
  exact ⟨he, r, RetV.tmp h ha, Weak.rn m hm.1.1 hm.1.2 (SubT.rnL m [r]) (handV_sub hH (selfOk_spec hm.2) fun p _ => rfl)⟩

theorem Ends.two' {fn : Func} {a b : Tmp} {r s : V} {T : List V} {H : Hp} {e : Exit} (m : Ren) (he : e = .normal ∨ e = .ret) (h : fn.results = #[.tmp a, .tmp b]) (ha : T[a]? = some r) (hb : T[b]? = some s) {r' : V} {H' : Hp} (hm : (m.ok && m.keep && selfOk m) = true) (hr : (V.tup [r, s]).rn m = r') (hH : handV m H m = some H') : Ends P fn r' H' e ⟨T, H⟩ := by
  subst hr
  simp only [Bool.and_eq_true] at hm
  exact ⟨he, .tup [r, s], RetV.two h (OneR.tmp ha) (OneR.tmp hb), Weak.rn m hm.1.1 hm.1.2 (SubT.rnL m [V.tup [r, s]]) (handV_sub hH (selfOk_spec hm.2) fun p _ => rfl)⟩

theorem Ends.cell' {D : Tab} (hD : TabOk P D) {fn : Func} {a : Tmp} {t : TypeId} (r : V) (i : Nat) (ety : TypeId) (cs : List V) {T : List V} {H : Hp} {e : Exit} (m : Ren) (he : e = .normal ∨ e = .ret) (h : fn.results = #[.cell a t]) (ha : T[a]? = some (.loc i 0)) (hi : look H i = some (.cells ety cs)) (hr : takeV D t cs = some r)
    {r' : V} {H' : Hp} (hm : (m.ok && m.keep && selfOk m) = true) (hr' : r.rn m = r') (hH : handV m H m = some H') : Ends P fn r' H' e ⟨T, H⟩ := by
  subst hr'
  simp only [Bool.and_eq_true] at hm
  exact ⟨he, r, RetV.one h (OneR.cell hD ha hi hr), Weak.rn m hm.1.1 hm.1.2 (SubT.rnL m [r]) (handV_sub hH (selfOk_spec hm.2) fun p _ => rfl)⟩

end
end Go.Av
