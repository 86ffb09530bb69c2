/-
  Core29: from a contract to a row.
-/
import Derived.Test.YtkfpmbinifaakaaDoorCore28
import Derived.Below
import Derived.ChangeSame
namespace Go.Av
open Go.RowKit Go.WideShapes Go.ChangeShapes

section
variable {P : Program}

/-- a contract over data that lies in S -/
theorem AC.below {f : FuncId} {vs : List V} {r : V} (h : AC P (fun _ => none) f vs [] r []) (S : Nat → Prop) {xs : Array Value} {w : World} (hS : ∀ b, S b → b < w.heap.size) (hsz : xs.size = vs.length)
    (hxs : ∀ i x, vs[i]? = some x → RV (fun _ => none) S w (xs.getD i undef) x) :
    Calls P f xs w fun e w' => ∃ x S', e = .returned x ∧ RV (fun _ => none) S' w' x r ∧ Below w.heap.size w w' := by
  refine (h (fun _ => none) S (fun _ => []) xs w hsz hxs ⟨fun _ _ => rfl, fun _ _ h => (by cases h), fun _ _ h => (by cases h), fun _ _ _ _ _ h => (by cases h), fun _ _ _ h => (by cases h), fun _ _ _ h => (by cases h), hS⟩ (fun _ _ h => by cases h)).mono ?_
  rintro e w' ⟨x, ρ', S', F', rfl, hx, _, hE, _⟩
  refine ⟨x, S', rfl, hx.mono (fun _ _ h _ => (by cases h)) (fun b hb => ⟨hb, rfl⟩), hE.os, hE.tape, hE.output, hE.size, fun k hk => hE.keep k hk ?_⟩
  rintro ⟨i, o, hi, _⟩
  cases hi

section
variable {H : Type} {enc : TypeId × Value → H}
theorem post_of_below {f : Func} {s : ChangeSpec} {apart fresh handsOn again : Bool} {W W' : World} {args : Array Value} {v : Value} {ds gs : List (DataW H)} {before pa pv : List MemPlace}
    (hW : DataW.Whole enc P f.params.toList s.vars apart W args.toList ds gs before)
    (hres : ∀ (b : Nat) (sp : Nat → Bool) (hd : Bool), DataW.TrodAll enc P W' b sp hd f.resultTypes.toList (v.resultList f.resultTypes.size) (s.fn H (ds ++ gs)).results [])
    (hargs : ∀ sp : Nat → Bool, (∀ p ∈ before, sp p.block = true) → DataW.TrodAll enc P W' 0 sp true f.params.toList args.toList (s.fn H (ds ++ gs)).args pa)
    (hvars : ∀ sp : Nat → Bool, (∀ p ∈ before, sp p.block = true) → DataW.TrodVars enc P W' sp s.vars (s.fn H (ds ++ gs)).vars pv)
    (hps : before = pa ++ pv) (hb : Below W.heap.size W W')
    (hok : ∀ (j : Nat) (t : TypeId) (r : Value), f.resultTypes[j]? = some t → (v.resultList f.resultTypes.size)[j]? = some r → Value.okWide P W' .any 0 t r) :
    s.post enc P f apart fresh handsOn again W args v W' := by
  have hlt : ∀ p ∈ before, p.block < W.heap.size := fun p hp => hW.lt p hp
  have hold : ∀ p ∈ before, (fun b => decide (b < W.heap.size)) p.block = true := fun p hp => by simpa using hlt p hp
  refine ⟨ds, gs, before, [], pa, pv, hW, hres _ _ _, hargs _ hold, hvars _ hold, World.keptBut_mono (fun p hp => ⟨hp, ?_⟩) (hb.frame (· ∈ before)), fun _ => ?_⟩
  · rw [hps, List.mem_append] at hp
    exact Or.inr hp
  · obtain ⟨_, _, _, _, _, hz, hn⟩ := hW
    refine ⟨hok, _, _, ([] ++ pa) ++ pv, ⟨[] ++ pa, pv, trodAll_append (hargs _ (fun _ _ => rfl)) (hres _ _ _), hvars _ (fun _ _ => rfl), rfl, ?_, ?_⟩, ?_⟩
    · intro b off hp
      have hin : MemPlace.cell b off ∈ before := by rw [hps]; simpa using hp
      rw [hb.frozen (hlt _ hin)]
      exact hz b off hin
    · intro ha
      have := hn ha
      rw [hps] at this
      simpa using this
    · intro p hp _
      rw [hps]
      simpa using hp
end
end
end Go.Av
