/-
  Core40: a slice against nil.
-/
import Derived.Test.YtkfpmbinifaakaaDoorCore38
namespace Go.Av
open Go
variable {P : Program} {G : Nat → Option (List V)}

theorem eqGuard_at_slice (P : Program) (w : World) (op : BinOp) (t : TypeId) (x y : Operand) (a b : Option Addr) (n c n' c' : Nat) : (eqGuard op t x y (.slice a n c) (.slice b n' c')).run P w = .ok () w := by
  unfold eqGuard
  cases op <;> rfl

theorem equal_nil {P : Program} {t el : TypeId} (hu : P.underlying t = some (.slice el)) (w : World) (a : Option Addr) (n c : Nat) : (Op.equal t (.slice a n c) (.slice none 0 0)).run P w = .ok a.isNone w := by
  unfold Op.equal
  obtain ⟨k, hk⟩ : ∃ k, Op.maxDepth = k + 1 := ⟨_, rfl⟩
  rw [hk, Op.equalIn]
  simp only [Sem.run_bind, run_underlying hu, Result.andThen_ok]
  cases a <;> rfl

theorem eql_nil {P : Program} {t el : TypeId} (hu : P.underlying t = some (.slice el)) (w : World) (a : Option Addr) (n c : Nat) : (binOp .eql t (.slice a n c) (.slice none 0 0)).run P w = .ok (.bool a.isNone) w := by
  show (Op.equal t (.slice a n c) (.slice none 0 0) >>= fun b => pure (Value.bool b)).run P w = _
  simp only [Sem.run_bind, equal_nil hu, Result.andThen_ok, Sem.run_pure]

theorem OpOk.nilEq {D : Tab} (hD : TabOk P D) {o : Oper} {e : Operand → V} {H : Hp} {t t' el : TypeId} {it : Ty} {x y : Operand} (q : Bool) (ho : o.op = .binOp .eql t x y t') (ht : D.at t = some it) (hit : it.d = .slice el) (hy : e y = .c (.slice none 0 0))
    (hx : (e x = .c (.slice none 0 0) ∧ q = true) ∨ ∃ b rows, e x = .sl true b rows ∧ q = false) : OpOk P G o e H (.c (.bool q)) H [] := by
  refine OpOk.pure fun ρ S F η w hη hH => ?_
  have h1 := hη x (by simp [ho, Op.operands])
  have h2 := hη y (by simp [ho, Op.operands])
  rw [hy] at h2
  have hu := slice_ty hD ht hit
  refine ⟨_, ?_, .c _⟩
  unfold execOp
  rcases hx with ⟨hx, rfl⟩ | ⟨b, rows, hx, rfl⟩
  · rw [hx] at h1
    simp only [ho, h1.c_inv, h2.c_inv, Sem.run_bind, eqGuard_at_slice, Result.andThen_ok, eql_nil hu, Sem.run_pure, Option.isNone_none]
  · rw [hx] at h1
    have hv : ∃ a n c, η x = .slice (some a) n c := by
      generalize η x = v at h1
      cases h1 with
      | sl _ _ _ _ h => cases h with
        | shr a cap nn rows k cs => exact ⟨_, _, _, rfl⟩
    obtain ⟨a, n, c, hv⟩ := hv
    simp only [ho, hv, h2.c_inv, Sem.run_bind, eqGuard_at_slice, Result.andThen_ok, eql_nil hu, Sem.run_pure, Option.isNone_some]

/-- is the slice nil, where it is told -/
def nlW (D : Tab) (G : Nat → Option (List V)) (ops : Array Oper) (i : Nat) (T : List V) : Option Bool :=
  match opW ops i T with
  | some (.binOp .eql t x y _) => match D.at t, ev G T y with
    | some it, .c (.slice none 0 0) => match it.d with
      | .slice _ => match ev G T x with
        | .c (.slice none 0 0) => some true
        | .sl true _ _ => some false
        | _ => none
      | _ => none
    | _, _ => none
  | _ => none

theorem W.nilEq {D : Tab} (hD : TabOk P D) {ops : Array Oper} {draw : Bool} {T0 : List V} {H0 : Hp} {i : Nat} {T : List V} {H : Hp} {Es : List (Bool × Eff)} {Q : St → Prop} (q : Bool) (h : nlW D G ops i T = some q)
    (k : W P G ops draw T0 H0 (i + 1) (setO T (dstW ops i) (.c (.bool q))) H (Es ++ [(true, { v := .c (.bool q) })]) Q) : W P G ops draw T0 H0 i T H Es Q := by
  unfold nlW at h
  split at h
  · rename_i t x y t' hop
    split at h
    · rename_i it ht hy
      split at h
      · rename_i el hit
        refine W.gen0 (.c (.bool q)) [] hop (fun o ho e' H' he _ => ?_) k
        refine OpOk.nilEq hD q ho ht hit ((he y (by simp [Op.operands])).trans hy) ?_
        rw [he x (by simp [Op.operands])]
        split at h
        · rename_i hx
          cases h
          exact .inl ⟨hx, rfl⟩
        · rename_i b rows hx
          cases h
          exact .inr ⟨b, rows, hx, rfl⟩
        · cases h
      · cases h
    · cases h
  · cases h

end Go.Av
