/-
  Core38: the program's own tables: an element, the whole as a slice.
-/
import Derived.Test.YtkfpmbinifaakaaDoorCore37
namespace Go.Av
open Go
variable {P : Program} {G : Nat → Option (List V)}

theorem OpOk.imp {o : Oper} {e : Operand → V} {H : Hp} {v v' : V} (h : OpOk P G o e H v H []) (hv : ∀ ρ S w x, RV ρ S w x v → RV ρ S w x v') : OpOk P G o e H v' H [] := by
  intro ρ S F η w hη hH hG
  refine (h ρ S F η w hη hH hG).mono ?_
  rintro x w' ⟨ρ', S', F', h1, h2, h3, h4⟩
  exact ⟨ρ', S', F', hv _ _ _ _ h1, h2, h3, h4⟩

theorem RV.elOne {ρ : Nat → Option Value} {S : Nat → Prop} {w : World} {v : Value} {cells : List V} {x : V} (h : RV ρ S w v (.el cells)) (hx : cells[0]? = some x) : RV ρ S w v (.el [x]) := by
  obtain ⟨a, cs, rfl, h1, h2⟩ := h.el_inv
  refine .el a [x] cs (fun j y hy => ?_) (fun j y hy => ?_)
  all_goals
    cases j with
    | zero =>
      simp only [List.getElem?_cons_zero, Option.some.injEq] at hy
      subst hy
      first
        | exact h1 0 x hx
        | exact h2 0 x hx
    | succ j => simp at hy

theorem RV.slAny {ρ : Nat → Option Value} {S : Nat → Prop} {w : World} {v : Value} {nn x : Bool} {rows : List (List V)} (h : RV ρ S w v (.sl nn x rows)) : RV ρ S w v (.sl false x rows) := by
  cases h with
  | sl _ _ _ _ h =>
    refine .sl _ _ _ _ ?_
    generalize hF : ([] : List Nat) = F at h
    cases h with
    | nils => exact .nils _
    | shr a cap nn rows k cs h1 h2 h3 h4 h5 => exact .shr a cap _ rows k cs h1 h2 h3 h4 h5
    | exc => cases hF

theorem AC.mono {G G' : Nat → Option (List V)} {f : FuncId} {vs : List V} {H : Hp} {r : V} {H1 : Hp} (h : AC P G f vs H r H1) (hs : ∀ g cs, G g = some cs → G' g = some cs) : AC P G' f vs H r H1 :=
  fun ρ S F xs w a b c d => h ρ S F xs w a b c fun g cs hg => d g cs (hs g cs hg)

/-- an element of a table of the program's, elements of one cell -/
def ixG (D : Tab) (G : Nat → Option (List V)) (ops : Array Oper) (i : Nat) (T : List V) : Option (List V × Int × Nat) :=
  match opW ops i T with
  | some (.indexAddr t x ix) => match D.at t, ev G T x, ev G T ix with
    | some it, .el cs, .c (.int _ n) => match it.d with
      | .arr len el => match D.at el with
        | some ie => if ie.size = 1 then some (cs, n, len) else none
        | none => none
      | _ => none
    | _, _, _ => none
  | _ => none

theorem W.ixG {D : Tab} (hD : TabOk P D) {ops : Array Oper} {draw : Bool} {T0 : List V} {H0 : Hp} {i : Nat} {T : List V} {H : Hp} {Es : List (Bool × Eff)} {Q : St → Prop} {α : Type} (enc : α → V) {l : List α} {n : Int} {x : α} (hx : ix l n = some x)
    (h : ixG D G ops i T = some (l.map enc, n, l.length))
    (k : W P G ops draw T0 H0 (i + 1) (setO T (dstW ops i) (.el [enc x])) H (Es ++ [(true, { v := .el [enc x] })]) Q) : W P G ops draw T0 H0 i T H Es Q := by
  obtain ⟨h1, h2⟩ := ix_some hx
  unfold Av.ixG at h
  split at h
  · rename_i t xo io hop
    split at h
    · rename_i it cs kk n' ht hxv hiv
      split at h
      · rename_i len el hit
        split at h
        · rename_i ie hel
          split at h
          · rename_i hs
            simp only [Option.some.injEq, Prod.mk.injEq] at h
            obtain ⟨rfl, rfl, rfl⟩ := h
            refine W.gen0 (.el [enc x]) [] hop (fun o ho e' H' he _ => ?_) k
            have hev := (he xo (by simp [Op.operands])).trans hxv
            refine OpOk.imp (OpOk.indexArr (v := .el ((l.map enc).drop n'.toNat)) hD n'.toNat ho ht hit hel ?_ ((he io (by simp [Op.operands])).trans hiv) h1 (List.getElem?_eq_some_iff.1 h2).1) fun ρ S w y hy => hy.elOne ?_
            · rw [hev, hs, Nat.mul_one]; rfl
            · rw [List.getElem?_drop, Nat.add_zero, List.getElem?_map, h2]; rfl
          · cases h
        · cases h
      · cases h
    · cases h
  · cases h

/-- a table of the program's as a slice -/
def cutG (D : Tab) (G : Nat → Option (List V)) (ops : Array Oper) (i : Nat) (T : List V) : Option (List V) :=
  match opW ops i T with
  | some (.slice t x none none none) => match D.at t, ev G T x with
    | some it, .el cs => match it.d with
      | .arr len el => match D.at el with
        | some ie => if ie.size = 1 ∧ cs.length = len ∧ len ≤ maxLen then some cs else none
        | none => none
      | _ => none
    | _, _ => none
  | _ => none

theorem W.cutG {D : Tab} (hD : TabOk P D) {ops : Array Oper} {draw : Bool} {T0 : List V} {H0 : Hp} {i : Nat} {T : List V} {H : Hp} {Es : List (Bool × Eff)} {Q : St → Prop} {α : Type} (enc : α → V) (l : List α)
    (h : cutG D G ops i T = some (l.map enc))
    (k : W P G ops draw T0 H0 (i + 1) (setO T (dstW ops i) (.sl false false (l.map fun x => [enc x]))) H (Es ++ [(true, { v := .sl false false (l.map fun x => [enc x]) })]) Q) : W P G ops draw T0 H0 i T H Es Q := by
  unfold Av.cutG at h
  split at h
  · rename_i t xo hop
    split at h
    · rename_i it cs ht hxv
      split at h
      · rename_i len el hit
        split at h
        · rename_i ie hel
          split at h
          · rename_i hs
            simp only [Option.some.injEq] at h
            subst h
            refine W.gen0 (.sl false false _) [] hop (fun o ho e' H' he _ => ?_) k
            have hev := (he xo (by simp [Op.operands])).trans hxv
            have := OpOk.cutArr (G := G) (P := P) (H := H') hD ho ht hit hel hs.1 hev hs.2.1 hs.2.2
            rw [List.map_map] at this
            exact OpOk.imp this fun ρ S w y hy => hy.slAny
          · cases h
        · cases h
      · cases h
    · cases h
  · cases h

/-- a data slice is nil or it is not: a contract out of two -/
theorem AC.slCase {f : FuncId} {x : Bool} {rows : List (List V)} {vs : List V} {H : Hp} {r : V} {H1 : Hp} (h0 : rows = [] → AC P G f (.c (.slice none 0 0) :: vs) H r H1) (h1 : AC P G f (.sl true x rows :: vs) H r H1) : AC P G f (.sl false x rows :: vs) H r H1 := by
  intro ρ S F xs w hsz hxs hH hG
  have hfst := hxs 0 _ rfl
  generalize hv : xs.getD 0 undef = v at hfst
  cases hfst with
  | sl _ _ _ _ h =>
    generalize hF : ([] : List Nat) = F0 at h
    cases h with
    | nils =>
      refine h0 rfl ρ S F xs w (by simpa using hsz) (fun i y hy => ?_) hH hG
      cases i with
      | zero =>
        simp only [List.getElem?_cons_zero, Option.some.injEq] at hy
        subst hy
        rw [hv]
        exact .c _
      | succ i => exact hxs (i + 1) y (by simpa using hy)
    | shr a cap nn rows k cs h3 h4 h5 h6 h7 =>
      refine h1 ρ S F xs w (by simpa using hsz) (fun i y hy => ?_) hH hG
      cases i with
      | zero =>
        simp only [List.getElem?_cons_zero, Option.some.injEq] at hy
        subst hy
        rw [hv]
        exact .sl _ _ _ _ (.shr a cap true rows k cs h3 h4 h5 h6 h7)
      | succ i => exact hxs (i + 1) y (by simpa using hy)
    | exc => cases hF

end Go.Av
