/-
  Core31: arguments in their slots.
-/
import Derived.Test.YtkfpmbinifaakaaDoorCore30
import Derived.WideShapes
namespace Go.Av
open Go.RowKit Go.WideShapes Go.ChangeShapes

theorem argOne {ρ : Nat → Option Value} {S : Nat → Prop} {w : World} {v : Value} {x : V} (hv : v.cells = #[v]) (h : CellsR S w v.cells.toList [x]) : RV ρ S w v x := by
  obtain ⟨c, hc, hd⟩ := h.2 0 x rfl
  rw [hv] at hc
  simp at hc
  subst hc
  exact hd.toRV

theorem argAgg {ρ : Nat → Option Value} {S : Nat → Prop} {w : World} {cs : Array Value} {vs : List V} (h : CellsR S w (Value.agg cs).cells.toList vs) : RV ρ S w (.agg cs) (.agg vs) := by
  have hl : cs.size = vs.length := by simpa [Value.cells] using h.1
  refine .agg cs vs hl (fun j c hj => ?_) (fun j x c hx hj => ?_)
  · have hlt : j < vs.length := by rw [← hl]; exact (Array.getElem?_eq_some_iff.1 hj).1
    obtain ⟨c', hc', hd⟩ := h.2 j vs[j] (List.getElem?_eq_getElem hlt)
    simp only [Value.cells, Array.getElem?_toList] at hc'
    rw [hj] at hc'; cases hc'
    exact hd.one
  · obtain ⟨c', hc', hd⟩ := h.2 j x hx
    simp only [Value.cells, Array.getElem?_toList] at hc'
    rw [hj] at hc'; cases hc'
    exact hd.toRV

/-- the blocks that were read -/
def blocksOf (ps : List MemPlace) : Nat → Prop := fun b => ∃ p, p ∈ ps ∧ p.block = b



end Go.Av
