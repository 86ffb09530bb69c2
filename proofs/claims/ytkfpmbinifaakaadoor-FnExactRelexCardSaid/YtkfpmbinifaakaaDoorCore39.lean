/-
  Core39: from a contract over the program's own tables to a row: what a listed table of strings holds.
-/
import Derived.Test.YtkfpmbinifaakaaDoorCore38
import Derived.Test.YtkfpmbinifaakaaDoorCore31
import Derived.OpenShut
import Derived.OpenVars
import Derived.ChangeArms
namespace Go.Av
open Go.RowKit Go.WideShapes Go.ChangeShapes
variable {P : Program} {G : Nat → Option (List V)}

theorem AC.belowG {f : FuncId} {vs : List V} {r : V} (h : AC P G f vs [] r []) (S : Nat → Prop) {xs : Array Value} {w : World} (hS : ∀ b, S b → b < w.heap.size) (hG : GRel G S w) (hsz : xs.size = vs.length)
    (hxs : ∀ i x, vs[i]? = some x → RV (fun _ => none) S w (xs.getD i undef) x) :
    Calls P f xs w fun e w' => ∃ x S', e = .returned x ∧ RV (fun _ => none) S' w' x r ∧ Below w.heap.size w w' := by
  refine (h (fun _ => none) S (fun _ => []) xs w hsz hxs ⟨fun _ _ => rfl, fun _ _ h => (by cases h), fun _ _ h => (by cases h), fun _ _ _ _ _ h => (by cases h), fun _ _ _ h => (by cases h), fun _ _ _ h => (by cases h), hS⟩ hG).mono ?_
  rintro e w' ⟨x, ρ', S', F', rfl, hx, _, hE, _⟩
  refine ⟨x, S', rfl, hx.mono (fun _ _ h _ => (by cases h)) (fun b hb => ⟨hb, rfl⟩), hE.os, hE.tape, hE.output, hE.size, fun k hk => hE.keep k hk ?_⟩
  rintro ⟨i, o, hi, _⟩
  cases hi

/-- the cells of a table of strings -/
def strCells (l : List (List UInt8)) : Array Value := (l.map fun s => Value.string ⟨⟨s⟩⟩).toArray

theorem strs_of_trod {H : Type} {enc : TypeId × Value → H} {w : World} {base : Nat} {sp : Nat → Bool} {held : Bool} {fuel : Nat} {t el : TypeId} {n : Nat} {cs : Array Value} {l : List (List UInt8)} {p : List MemPlace}
    (h : DataW.trod enc P w base sp held fuel t cs.toList = some (.agg (l.map fun s => .lit (.string s)), p)) (ht : P.underlying t = some (.array n el)) (hel : P.underlying el = some .string) (h1 : P.cellsOf el = 1) (hn : P.cellsOf t = n) : cs = strCells l := by
  obtain ⟨xs, m, _, ex, hlen, hl, he⟩ := DataW.trod_array ht h
  rw [hn] at hlen
  simp only [Prod.mk.injEq, DataW.agg.injEq] at ex
  obtain ⟨e1, _⟩ := ex
  have hll : l.length = n := by
    have := congrArg List.length e1
    simp only [List.length_map] at this
    omega
  unfold strCells
  have hcs : cs.size = n := by simpa using hlen
  apply Array.ext
  · simp [hcs, hll]
  · intro i hi _
    have hin : i < n := by omega
    have hx := he i hin
    rw [h1, Nat.mul_one] at hx
    have hdrop : (cs.toList.drop i).take 1 = [cs[i]] := by
      rw [List.drop_eq_getElem_cons (by simpa using hi)]
      simp
    rw [hdrop] at hx
    have hxs : xs[i]? = some xs[i] := List.getElem?_eq_getElem (by omega)
    rw [hxs] at hx
    obtain ⟨s, hs, hxi, _⟩ := DataW.trod_string hel hx
    simp only [List.cons.injEq, and_true] at hs
    have e2 : (l.map fun s => (DataW.lit (.string s) : DataW H))[i]? = (xs.map (·.1))[i]? := by rw [e1]
    rw [List.getElem?_map, List.getElem?_map, hxs, Option.map_some, hxi, List.getElem?_eq_getElem (by omega), Option.map_some] at e2
    simp only [Option.some.injEq, DataW.lit.injEq, Lit.string.injEq] at e2
    rw [hs]
    simp only [List.getElem_toArray, List.getElem_map, e2]

theorem el_of_var {w : World} {S : Nat → Prop} {name : String} {g : Nat} {l : List (List UInt8)} (hg : P.globalNamed name = some g) (hv : w.var? P name = some (strCells l)) (hS : S g) : RV (fun _ => none) S w (.pointer (some ⟨g, 0, none⟩)) (.el (l.map V.str)) := by
  refine .el ⟨g, 0, none⟩ _ (fun j => (strCells l).getD j undef) (fun j x hx => ⟨hS, ?_⟩) (fun j x hx => ?_)
  all_goals
    rw [List.getElem?_map, Option.map_eq_some_iff] at hx
    obtain ⟨s, hs, rfl⟩ := hx
    have hj : j < l.length := (List.getElem?_eq_some_iff.1 hs).1
    have hc : (strCells l)[j]? = some (Value.string ⟨⟨s⟩⟩) := by
      unfold strCells
      rw [List.getElem?_toArray, List.getElem?_map, hs]
      rfl
    have hd : (strCells l).getD j undef = Value.string ⟨⟨s⟩⟩ := by
      rw [Array.getD_eq_getD_getElem?, hc]
      rfl
    rw [hd]
  · have := World.var?_cell hg hv j
    rw [hc] at this
    have e : Addr.add ⟨g, 0, none⟩ j = ⟨g, j, none⟩ := by
      unfold Addr.add
      split <;> simp_all
    rw [e]
    exact this
  · exact .c _ rfl

theorem var_lt {w : World} {name : String} {g : Nat} {cs : Array Value} (hg : P.globalNamed name = some g) (hv : w.var? P name = some cs) : g < w.heap.size := by
  unfold World.var? at hv
  rw [hg] at hv
  simp only [Option.bind_some] at hv
  cases hh : w.heap[g]? with
  | none => rw [hh] at hv; cases hv
  | some o => exact (Array.getElem?_eq_some_iff.1 hh).1

/-- the named variables read behind the call as ahead of it, whatever is said of spare places, where they lie -/
theorem vars_kept {H : Type} {enc : TypeId × Value → H} (hl : laidOutB P = true) {W W' : World} (hb : Below W.heap.size W W') {sp : Nat → Bool} :
    ∀ {ns : List String} {gs : List (DataW H)} {ps : List MemPlace}, varsRowed P ns = true → DataW.TrodVars enc P W (fun _ => true) ns gs ps → (∀ p, p ∈ ps → sp p.block = true) → DataW.TrodVars enc P W' sp ns gs ps
  | [], [], _, _, h, _ => h
  | [], _ :: _, _, _, h, _ => h.elim
  | _ :: _, [], _, _, h, _ => h.elim
  | n :: ns, d :: ds, ps, hv, h, hs => by
    have hlt := h.lt
    obtain ⟨g, t, cs, fuel, p, q, h1, h2, h3, h4, h5, e⟩ := h
    have hg := var_lt h1 h3
    have ht : P.readableRec t = true ∧ t < P.types.size := by
      simp only [varsRowed, List.all_cons, Bool.and_eq_true] at hv
      obtain ⟨gl, hgl, rfl⟩ := Option.map_eq_some_iff.1 h2
      have := hv.1
      simpa [h1, hgl] using this
    have hp : ∀ x, x ∈ p → x ∈ ps := fun x hx => by rw [e]; simp [hx]
    have h3' : W'.var? P n = some cs := by
      unfold World.var? at h3 ⊢
      rw [h1] at h3 ⊢
      simp only [Option.bind_some] at h3 ⊢
      rw [hb.block g hg]
      exact h3
    refine ⟨g, t, cs, fuel, p, q, h1, h2, h3', DataW.trod_stays (kids_book hl ht.1) (book_sized ht.1) (fun h => by cases h) ⟨ht.2, book_self t⟩ h4 (fun x hx => hb.same (hlt x (hp x hx))) (fun x hx => hs x (hp x hx)), ?_, e⟩
    exact vars_kept hl hb (by simp only [varsRowed, List.all_cons, Bool.and_eq_true] at hv; exact hv.2) h5 fun x hx => hs x (by rw [e]; simp [hx])

theorem vars_len {H : Type} {enc : TypeId × Value → H} {W : World} {sp : Nat → Bool} : ∀ {ns : List String} {gs : List (DataW H)} {ps : List MemPlace}, DataW.TrodVars enc P W sp ns gs ps → gs.length = ns.length
  | [], [], _, _ => rfl
  | [], _ :: _, _, h => h.elim
  | _ :: _, [], _, h => h.elim
  | n :: ns, d :: ds, ps, ⟨_, _, _, _, _, _, _, _, _, _, h, _⟩ => congrArg (· + 1) (vars_len h)

end Go.Av
