/-
 Abstract values, states, walks, part 5.
-/
import Derived.Test.YtjhcdnpbmppkkaaGreatDoorUCore4
import Derived.OpenShut
import Derived.OpenVars
import Derived.ChangeArms
import Derived.Below
import Derived.Sort.OwnSortedInts
import Derived.Lib.LaidTab
import Derived.Lib.ItoaNum
import Derived.Deep.Draws
import Derived.Sort.OwnSorted
import Derived.Lib.RowBridge
import Derived.Lib.SlicesCompact
import Derived.Lib.Join
set_option linter.unusedSimpArgs false
set_option linter.unusedVariables false

namespace Go.Av
open Go.RowKit Go.WideShapes Go.ChangeShapes
variable {P : Program} {G : Nat → Option (List V)}

theorem AC.belowG {f : FuncId} {vs : List V} {r : V} (h : AC P G f vs [] r []) (S : Nat → Prop) {xs : Array Value} {w : World} (hS : ∀ b, S b → b < w.heap.size) (hG : GRel G S w) (hsz : xs.size = vs.length)
  (hxs : ∀ i x, vs[i]? = some x → RV (fun _ => none) S w (xs.getD i undef) x) :
  Calls P f xs w fun e w' => ∃ x S', e = .returned x ∧ RV (fun _ => none) S' w' x r ∧ Below w.heap.size w w' := by
 refine (h (fun _ => none) S (fun _ => []) xs w hsz hxs ⟨fun _ _ => rfl, fun _ _ h => (by cases h), fun _ _ h => (by cases h), fun _ _ _ _ _ h => (by cases h), fun _ _ _ h => (by cases h), fun _ _ _ h => (by cases h), hS⟩ hG).mono ?_
 rintro e w' ⟨x, ρ', S', F', rfl, hx, _, hE, _⟩
 refine ⟨x, S', rfl, hx.mono (fun _ _ h _ => (by cases h)) (fun b hb => ⟨hb, rfl⟩), hE.os, hE.tape, hE.output, hE.size, fun k hk => hE.keep k hk ?_⟩
 rintro ⟨i, o, hi, _⟩
 cases hi

def strCells (l : List (List UInt8)) : Array Value := (l.map fun s => Value.string ⟨⟨s⟩⟩).toArray

theorem strs_of_trod {H : Type} {enc : TypeId × Value → H} {w : World} {base : Nat} {sp : Nat → Bool} {held : Bool} {fuel : Nat} {t el : TypeId} {n : Nat} {cs : Array Value} {l : List (List UInt8)} {p : List MemPlace}
  (h : DataW.trod enc P w base sp held fuel t cs.toList = some (.agg (l.map fun s => .lit (.string s)), p)) (ht : P.underlying t = some (.array n el)) (hel : P.underlying el = some .string) (h1 : P.cellsOf el = 1) (hn : P.cellsOf t = n) : cs = strCells l := by
 obtain ⟨xs, m, _, ex, hlen, hl, he⟩ := DataW.trod_array ht h
 rw [hn] at hlen
 simp only [Prod.mk.injEq, DataW.agg.injEq] at ex
 obtain ⟨e1, _⟩ := ex
 have hll : l.length = n := by
  have := congrArg List.length e1
  simp only [List.length_map] at this
  omega
 unfold strCells
 have hcs : cs.size = n := by simpa using hlen
 apply Array.ext
 ·simp [hcs, hll]
 ·intro i hi _
  have hin : i < n := by omega
  have hx := he i hin
  rw [h1, Nat.mul_one] at hx
  have hdrop : (cs.toList.drop i).take 1 = [cs[i]] := by
   rw [List.drop_eq_getElem_cons (by simpa using hi)]
   simp
  rw [hdrop] at hx
  have hxs : xs[i]? = some xs[i] := List.getElem?_eq_getElem (by omega)
  rw [hxs] at hx
  obtain ⟨s, hs, hxi, _⟩ := DataW.trod_string hel hx
  simp only [List.cons.injEq, and_true] at hs
  have e2 : (l.map fun s => (DataW.lit (.string s) : DataW H))[i]? = (xs.map (·.1))[i]? := by rw [e1]
  rw [List.getElem?_map, List.getElem?_map, hxs, Option.map_some, hxi, List.getElem?_eq_getElem (by omega), Option.map_some] at e2
  simp only [Option.some.injEq, DataW.lit.injEq, Lit.string.injEq] at e2
  rw [hs]
  simp only [List.getElem_toArray, List.getElem_map, e2]

theorem el_of_var {w : World} {S : Nat → Prop} {name : String} {g : Nat} {l : List (List UInt8)} (hg : P.globalNamed name = some g) (hv : w.var? P name = some (strCells l)) (hS : S g) : RV (fun _ => none) S w (.pointer (some ⟨g, 0, none⟩)) (.el (l.map V.s)) := by
 refine .el ⟨g, 0, none⟩ _ (fun j => (strCells l).getD j undef) (fun j x hx => ⟨hS, ?_⟩) (fun j x hx => ?_)
 all_goals
  rw [List.getElem?_map, Option.map_eq_some_iff] at hx
  obtain ⟨s, hs, rfl⟩ := hx
  have hj : j < l.length := (List.getElem?_eq_some_iff.1 hs).1
  have hc : (strCells l)[j]? = some (Value.string ⟨⟨s⟩⟩) := by
   unfold strCells
   rw [List.getElem?_toArray, List.getElem?_map, hs]
   rfl
  have hd : (strCells l).getD j undef = Value.string ⟨⟨s⟩⟩ := by
   rw [Array.getD_eq_getD_getElem?, hc]
   rfl
  rw [hd]
 ·have := World.var?_cell hg hv j
  rw [hc] at this
  have e : Addr.add ⟨g, 0, none⟩ j = ⟨g, j, none⟩ := by
   unfold Addr.add
   split <;> simp_all
  rw [e]
  exact this
 ·exact .c _ rfl

theorem var_lt {w : World} {name : String} {g : Nat} {cs : Array Value} (hg : P.globalNamed name = some g) (hv : w.var? P name = some cs) : g < w.heap.size := by
 unfold World.var? at hv
 rw [hg] at hv
 simp only [Option.bind_some] at hv
 cases hh : w.heap[g]? with
 | none => rw [hh] at hv; cases hv
 | some o => exact (Array.getElem?_eq_some_iff.1 hh).1

theorem vars_kept {H : Type} {enc : TypeId × Value → H} (hl : laidOutB P = true) {W W' : World} (hb : Below W.heap.size W W') {sp : Nat → Bool} :
  ∀ {ns : List String} {gs : List (DataW H)} {ps : List MemPlace}, varsRowed P ns = true → DataW.TrodVars enc P W (fun _ => true) ns gs ps → (∀ p, p ∈ ps → sp p.block = true) → DataW.TrodVars enc P W' sp ns gs ps
 | [], [], _, _, h, _ => h
 | [], _ :: _, _, _, h, _ => h.elim
 | _ :: _, [], _, _, h, _ => h.elim
 | n :: ns, d :: ds, ps, hv, h, hs => by
  have hlt := h.lt
  obtain ⟨g, t, cs, fuel, p, q, h1, h2, h3, h4, h5, e⟩ := h
  have hg := var_lt h1 h3
  have ht : P.readableRec t = true ∧ t < P.types.size := by
   simp only [varsRowed, List.all_cons, Bool.and_eq_true] at hv
   obtain ⟨gl, hgl, rfl⟩ := Option.map_eq_some_iff.1 h2
   have := hv.1
   simpa [h1, hgl] using this
  have hp : ∀ x, x ∈ p → x ∈ ps := fun x hx => by rw [e]; simp [hx]
  have h3' : W'.var? P n = some cs := by
   unfold World.var? at h3 ⊢
   rw [h1] at h3 ⊢
   simp only [Option.bind_some] at h3 ⊢
   rw [hb.block g hg]
   exact h3
  refine ⟨g, t, cs, fuel, p, q, h1, h2, h3', DataW.trod_stays (kids_book hl ht.1) (book_sized ht.1) (fun h => by cases h) ⟨ht.2, book_self t⟩ h4 (fun x hx => hb.same (hlt x (hp x hx))) (fun x hx => hs x (hp x hx)), ?_, e⟩
  exact vars_kept hl hb (by simp only [varsRowed, List.all_cons, Bool.and_eq_true] at hv; exact hv.2) h5 fun x hx => hs x (by rw [e]; simp [hx])

theorem vars_len {H : Type} {enc : TypeId × Value → H} {W : World} {sp : Nat → Bool} : ∀ {ns : List String} {gs : List (DataW H)} {ps : List MemPlace}, DataW.TrodVars enc P W sp ns gs ps → gs.length = ns.length
 | [], [], _, _ => rfl
 | [], _ :: _, _, h => h.elim
 | _ :: _, [], _, h => h.elim
 | n :: ns, d :: ds, ps, ⟨_, _, _, _, _, _, _, _, _, _, h, _⟩ => congrArg (· + 1) (vars_len h)

theorem var_block {w : World} {name : String} {g : Nat} {arr : Array Value} (hg : P.globalNamed name = some g) (hv : w.var? P name = some arr) : ∃ ety fr, w.heap[g]? = some (.cells arr ety fr) := by
 unfold World.var? at hv
 rw [hg, Option.bind_some] at hv
 split at hv
 ·rename_i cs ety fr h
  cases hv
  exact ⟨ety, fr, h⟩
 ·cases hv

theorem grel_strs {w : World} {S : Nat → Prop} {name : String} {g : Nat} {l : List (List UInt8)} (hg : P.globalNamed name = some g) (hv : w.var? P name = some (strCells l)) (hS : S g) :
  RV (fun _ => none) S w (.pointer (some ⟨g, 0, none⟩)) (.el (l.map V.s)) ∧ ∃ arr ety fr, w.heap[g]? = some (.cells arr ety fr) ∧ arr.size = (l.map V.s).length ∧ S g := by
 obtain ⟨ety, fr, h⟩ := var_block hg hv
 exact ⟨el_of_var hg hv hS, _, ety, fr, h, by simp [strCells], hS⟩

def numV (k : IntKind) (z : Int) : V := .c (.int k z)

end Go.Av

namespace Go.Av
open Go
variable {P : Program} {G : Nat → Option (List V)}

theorem eqGuard_at_slice (P : Program) (w : World) (op : BinOp) (t : TypeId) (x y : Operand) (a b : Option Addr) (n c n' c' : Nat) : (eqGuard op t x y (.slice a n c) (.slice b n' c')).run P w = .ok () w := by
 unfold eqGuard
 cases op <;> rfl

theorem equal_nil {P : Program} {t el : TypeId} (hu : P.underlying t = some (.slice el)) (w : World) (a : Option Addr) (n c : Nat) : (Op.equal t (.slice a n c) (.slice none 0 0)).run P w = .ok a.isNone w := by
 unfold Op.equal
 obtain ⟨k, hk⟩ : ∃ k, Op.maxDepth = k + 1 := ⟨_, rfl⟩
 rw [hk, Op.equalIn]
 simp only [Sem.run_bind, run_underlying hu, Result.andThen_ok]
 cases a <;> rfl

theorem eql_nil {P : Program} {t el : TypeId} (hu : P.underlying t = some (.slice el)) (w : World) (a : Option Addr) (n c : Nat) : (binOp .eql t (.slice a n c) (.slice none 0 0)).run P w = .ok (.bool a.isNone) w := by
 show (Op.equal t (.slice a n c) (.slice none 0 0) >>= fun b => pure (Value.bool b)).run P w = _
 simp only [Sem.run_bind, equal_nil hu, Result.andThen_ok, Sem.run_pure]

theorem OpOk.nilEq {D : Tab} (hD : TabOk P D) {o : Oper} {e : Operand → V} {H : Hp} {t t' el : TypeId} {it : Ty} {x y : Operand} (q : Bool) (ho : o.op = .binOp .eql t x y t') (ht : D.at t = some it) (hit : it.d = .slice el) (hy : e y = .c (.slice none 0 0))
  (hx : (e x = .c (.slice none 0 0) ∧ q = true) ∨ ∃ b rows, e x = .sl true b rows ∧ q = false) : OpOk P G o e H (.c (.bool q)) H [] := by
 refine OpOk.pure fun ρ S F η w hη hH => ?_
 have h1 := hη x (by simp [ho, Op.operands])
 have h2 := hη y (by simp [ho, Op.operands])
 rw [hy] at h2
 have hu := slice_ty hD ht hit
 refine ⟨_, ?_, .c _⟩
 unfold execOp
 rcases hx with ⟨hx, rfl⟩ | ⟨b, rows, hx, rfl⟩
 ·rw [hx] at h1
  simp only [ho, h1.c_inv, h2.c_inv, Sem.run_bind, eqGuard_at_slice, Result.andThen_ok, eql_nil hu, Sem.run_pure, Option.isNone_none]
 ·rw [hx] at h1
  have hv : ∃ a n c, η x = .slice (some a) n c := by
   generalize η x = v at h1
   cases h1 with
   | sl _ _ _ _ h => cases h with
    | shr a cap nn rows k cs => exact ⟨_, _, _, rfl⟩
  obtain ⟨a, n, c, hv⟩ := hv
  simp only [ho, hv, h2.c_inv, Sem.run_bind, eqGuard_at_slice, Result.andThen_ok, eql_nil hu, Sem.run_pure, Option.isNone_some]

def nlW (D : Tab) (G : Nat → Option (List V)) (ops : Array Oper) (i : Nat) (T : List V) : Option Bool :=
 match opW ops i T with
 | some (.binOp .eql t x y _) => match D.at t, ev G T y with
  | some it, .c (.slice none 0 0) => match it.d with
   | .slice _ => match ev G T x with
    | .c (.slice none 0 0) => some true
    | .sl true _ _ => some false
    | _ => none
   | _ => none
  | _, _ => none
 | _ => none

theorem W.nilEq {D : Tab} (hD : TabOk P D) {ops : Array Oper} {draw : Bool} {T0 : List V} {H0 : Hp} {i : Nat} {T : List V} {H : Hp} {Es : List (Bool × Eff)} {Q : St → Prop} (q : Bool) (h : nlW D G ops i T = some q)
  (k : W P G ops draw T0 H0 (i + 1) (setO T (dstW ops i) (.c (.bool q))) H (Es ++ [(true, { v := .c (.bool q) })]) Q) : W P G ops draw T0 H0 i T H Es Q := by
 unfold nlW at h
 split at h
 ·rename_i t x y t' hop
  split at h
  ·rename_i it ht hy
   split at h
   ·rename_i el hit
    refine W.gen0 (.c (.bool q)) [] hop (fun o ho e' H' he _ => ?_) k
    refine OpOk.nilEq hD q ho ht hit ((he y (by simp [Op.operands])).trans hy) ?_
    rw [he x (by simp [Op.operands])]
    split at h
    ·rename_i hx
     cases h
     exact .inl ⟨hx, rfl⟩
    ·rename_i b rows hx
     cases h
     exact .inr ⟨b, rows, hx, rfl⟩
    ·cases h
   ·cases h
  ·cases h
 ·cases h

end Go.Av

namespace Go.Av

section
variable {P : Program} {G : Nat → Option (List V)} {L : Option Nat} {B : Nat}

theorem Keeps.putObj {S : Nat → Prop} {W : World} {l : Nat} {o : Obj} (hl : ¬ S l) : Keeps S W S (W.putObj l o) :=
 fun b hb => ⟨hb, World.putObj_heap_other fun e => hl (e ▸ hb)⟩

theorem HRel.putObj {ρ : Nat → Option Value} {S : Nat → Prop} {F : Nat → List Nat} {H : Hp} {W : World} {l : Nat} {o o' : Obj} (h : HRel ρ S F H W) (hl : ¬ S l) (ho : W.heap[l]? = some o) (hc : ∀ arr e m, o ≠ .cells arr e m) : HRel ρ S F H (W.putObj l o') := by
 have hU : ∀ b, Ub H F b → (W.putObj l o').heap[b]? = W.heap[b]? := fun b hb => World.putObj_heap_other fun e => by
  obtain ⟨arr, t, m, hh⟩ := h.blocks hb
  rw [e, ho] at hh; cases hh; exact hc _ _ _ rfl
 refine ⟨h.dom, fun i p hp => ?_, h.nodup, h.disj, h.sep, fun i p b hp hb => by rw [World.putObj_size]; exact h.lt i p b hp hb, fun b hb => by rw [World.putObj_size]; exact h.slt b hb⟩
 obtain ⟨r, hr, hob⟩ := h.obj i p hp
 exact ⟨r, hr, hob.mono (fun _ _ h _ => h) (Keeps.putObj hl) fun b hb => hU b ⟨i, p, hp, hb⟩⟩

theorem Evo.putObj {S U S' U' : Nat → Prop} {w W : World} {l : Nat} {o : Obj} (h : Evo S U w S' U' W) (hl : w.heap.size ≤ l) : Evo S U w S' U' (W.putObj l o) :=
 ⟨h.os, h.tape, h.output, by rw [World.putObj_size]; exact h.size, fun b hb hu => (World.putObj_heap_other (by omega)).trans (h.keep b hb hu), h.sub, h.newS, h.newU⟩

theorem Evo.alloc {S U S' U' : Nat → Prop} {w W : World} {o : Obj} (h : Evo S U w S' U' W) : Evo S U w S' U' (W.alloc o) :=
 ⟨h.os, h.tape, h.output, Nat.le_trans h.size (by simp), fun b hb hu => (Go.RowKit.Below.heap_alloc _ _ _ (Nat.lt_of_lt_of_le hb h.size)).trans (h.keep b hb hu), h.sub, h.newS, h.newU⟩

theorem HRel.alloc {ρ : Nat → Option Value} {S : Nat → Prop} {F : Nat → List Nat} {H : Hp} {W : World} {o : Obj} (h : HRel ρ S F H W) : HRel ρ S F H (W.alloc o) := by
 have hk : Keeps S W S (W.alloc o) := fun b hb => ⟨hb, Go.RowKit.Below.heap_alloc _ _ _ (h.slt b hb)⟩
 refine ⟨h.dom, fun i p hp => ?_, h.nodup, h.disj, h.sep, fun i p b hp hb => by have := h.lt i p b hp hb; simp; omega, fun b hb => by have := h.slt b hb; simp; omega⟩
 obtain ⟨r, hr, hob⟩ := h.obj i p hp
 exact ⟨r, hr, hob.mono (fun _ _ h _ => h) hk fun b hb => Go.RowKit.Below.heap_alloc _ _ _ (h.lt i p b hp hb)⟩

structure Aside (S : Nat → Prop) (l D : Nat) (rec : Loop) (W : World) : Prop where
 sl : ¬ S l
 sD : ¬ S D
 hl : W.heap[l]? = some (.loop rec)
 hD : W.heap[D]? = some (.deferred (some []))

theorem Aside.evo {ρ : Nat → Option Value} {S S' U' : Nat → Prop} {F : Nat → List Nat} {H : Hp} {w w' : World} {l D : Nat} {rec : Loop} (h : Aside S l D rec w) (hH : HRel ρ S F H w) (e : Evo S (Ub H F) w S' U' w') : Aside S' l D rec w' := by
 have hUl : ¬ Ub H F l := fun hU => by obtain ⟨arr, t, m, hc⟩ := hH.blocks hU; rw [h.hl] at hc; cases hc
 have hUD : ¬ Ub H F D := fun hU => by obtain ⟨arr, t, m, hc⟩ := hH.blocks hU; rw [h.hD] at hc; cases hc
 have hll : l < w.heap.size := (Array.getElem?_eq_some_iff.1 h.hl).1
 have hlD : D < w.heap.size := (Array.getElem?_eq_some_iff.1 h.hD).1
 refine ⟨fun hs => ?_, fun hs => ?_, (e.keep l hll hUl).trans h.hl, (e.keep D hlD hUD).trans h.hD⟩
 ·rcases e.newS l hs with h1 | h1 | h1
  ·exact h.sl h1
  ·exact hUl h1
  ·omega
 ·rcases e.newS D hs with h1 | h1 | h1
  ·exact h.sD h1
  ·exact hUD h1
  ·omega

theorem Aside.put {S : Nat → Prop} {l D : Nat} {rec rec' : Loop} {W : World} (h : Aside S l D rec W) (hne : D ≠ l) : Aside S l D rec' (W.putObj l (.loop rec')) :=
 ⟨h.sl, h.sD, World.putObj_heap_same (Array.getElem?_eq_some_iff.1 h.hl).1, (World.putObj_heap_other hne).trans h.hD⟩

theorem Marks.putObj {S : Nat → Prop} {ds : List Deferred} {W : World} {l : Nat} {o o' : Obj} (h : Marks B S ds W) (ho : W.heap[l]? = some o) (hc : ∀ x, o ≠ .deferred x) : Marks B S ds (W.putObj l o') := by
 obtain ⟨hB, Ds, hn, hd, hD⟩ := h
 refine ⟨by rw [World.putObj_size]; exact hB, Ds, hn, hd, fun D hm => ?_⟩
 obtain ⟨h1, h2, h3⟩ := hD D hm
 refine ⟨h1, h2, (World.putObj_heap_other fun e => ?_).trans h3⟩
 rw [e, ho] at h3
 exact hc _ (Option.some.inj h3)

theorem StRel.putObj {ρ : Nat → Option Value} {S : Nat → Prop} {F : Nat → List Nat} {st : St} {a : Act} {W : World} {l : Nat} {rc : Loop} {o' : Obj} (h : StRel B G ρ S F st a W) (hl : ¬ S l) (ho : W.heap[l]? = some (.loop rc)) : StRel B G ρ S F st a (W.putObj l o') :=
 ⟨h.defers.putObj ho (fun _ h => by cases h), h.size, fun i x hx => (h.tmps i x hx).mono (fun _ _ h _ => h) (Keeps.putObj hl), h.heap.putObj hl ho (fun _ _ _ h => by cases h), h.glob.mono (Keeps.putObj hl)⟩

theorem HRel.drawn {ρ : Nat → Option Value} {S : Nat → Prop} {F : Nat → List Nat} {H : Hp} {W : World} (h : HRel ρ S F H W) (d : Nat) : HRel ρ S F H { W with drawn := d } := by
 refine ⟨h.dom, fun i p hp => ?_, h.nodup, h.disj, h.sep, h.lt, h.slt⟩
 obtain ⟨r, hr, hob⟩ := h.obj i p hp
 exact ⟨r, hr, hob.mono (fun _ _ h _ => h) (fun b hb => ⟨hb, rfl⟩) fun _ _ => rfl⟩

def slot (a : Act) (t : Nat) : Value := a.tmps.getD t undef
end
end Go.Av

namespace Go.Av

def mOf (H : Hp) : Ren := H.map fun p => (p.1, p.1)
def ksOf : List V → Nat → List Nat
 | [], _ => []
 | .junk :: r, n => ksOf r (n + 1)
 | _ :: r, n => n :: ksOf r (n + 1)

def mOk (H : Hp) : Bool := (mOf H).ok && (mOf H).keep && selfOk (mOf H)

section
variable {P : Program} {G : Nat → Option (List V)} {L : Option Nat}

theorem W.fi {ops : Array Oper} {draw : Bool} {T0 : List V} {H0 : Hp} {i : Nat} {T : List V} {H : Hp} {Es : List (Bool × Eff)} {T' : List V} {H' : Hp}
  (h : (Nat.ble ops.size i && (okR draw ops T0 H0 Es && mOk H'), keepT (mOf H') (ksOf T' 0) 0 T, handV (mOf H') H (mOf H')) = (true, T', some H')) : W P G ops draw T0 H0 i T H Es fun st => Weak st ⟨T', H'⟩ := by
 simp only [Prod.mk.injEq, Bool.and_eq_true, Nat.ble_eq] at h
 obtain ⟨⟨h1, h2, h3⟩, h4, h5⟩ := h
 exact W.fin h1 h2 (Weak.sel _ _ h3 h4 h5)

theorem W.fs (m : Ren) (ks : List Nat) {ops : Array Oper} {draw : Bool} {T0 : List V} {H0 : Hp} {i : Nat} {T : List V} {H : Hp} {Es : List (Bool × Eff)} {T' : List V} {H' : Hp}
  (h : (Nat.ble ops.size i && (okR draw ops T0 H0 Es && (m.ok && m.keep && selfOk m)), keepT m ks 0 T, handV m H m) = (true, T', some H')) : W P G ops draw T0 H0 i T H Es fun st => Weak st ⟨T', H'⟩ := by
 simp only [Prod.mk.injEq] at h
 obtain ⟨h1, h4, h5⟩ := h
 rw [Bool.and_eq_true, Bool.and_eq_true, Nat.ble_eq] at h1
 exact W.fin h1.1 h1.2.1 (Weak.sel _ _ h1.2.2 h4 h5)

end
end Go.Av

namespace Go.Av

theorem bR {α β : Type} {x : Option α} {f : α → Option β} {r : β} {P : Prop} (k : ∀ a, x = some a → f a = some r → P) (h : Option.bind x f = some r) : P :=
 match bind_some h with
 | ⟨a, h1, h2⟩ => k a h1 h2

theorem cR {β : Type} {c : Bool} {x y : Option β} {r : β} {P : Prop} (k : c = true → x = some r → P) (k' : c = false → y = some r → P) (h : (bif c then x else y) = some r) : P :=
 match cond_some h with
 | .inl ⟨h1, h2⟩ => k h1 h2
 | .inr ⟨h1, h2⟩ => k' h1 h2

section
variable {P : Program} {G : Nat → Option (List V)}

theorem Reader.u8 {t : TypeId} (ht : P.underlying t = some (.int .u8)) : Reader P t byteRow (fun _ => True) := by
 intro H e w fuel cs x h
 obtain ⟨n, hn, hr⟩ := Reader.int ht e w fuel cs x h
 have h1 : 0 ≤ n ∧ n ≤ 255 := by simpa [Lit.wf, IntKind.min, IntKind.max, IntKind.signed, IntKind.bits] using hn
 have h2 : ((UInt8.ofNat n.toNat).toNat : Int) = n := by
  rw [UInt8.toNat_ofNat']
  omega
 refine ⟨UInt8.ofNat n.toNat, trivial, fun S hS => ?_⟩
 have := hr S hS
 unfold byteRow
 rw [h2]
 exact this

end
end Go.Av

namespace Go.Av

section
variable {P : Program} {G : Nat → Option (List V)} {L : Option Nat}

theorem bB {α β : Type} {x : Option α} {f : α → Option β} {r : β} {P : Prop} (h : Option.bind x f = some r) (k : ∀ a, x = some a → f a = some r → P) : P := bR k h
theorem wS (m : Ren) (ks : List Nat) {T : List V} {H : Hp} {T' : List V} {H' : Hp} (hm : (m.ok && m.keep && selfOk m) = true := by kernel_rfl) (hT : keepT m ks 0 T = T' := by kernel_rfl) (hH : handV m H m = some H' := by kernel_rfl) : Weak ⟨T, H⟩ ⟨T', H'⟩ := Weak.sel m ks hm hT hH
theorem oT {st : St} {t : Tmp} {r : V} (ht : st.T[t]? = some r := by kernel_rfl) : OneR P st (.tmp t) r := OneR.t ht
theorem eG {fn : Func} {r0 : V} {T : List V} {H : Hp} {e : Exit} (m : Ren) (he : e = .normal ∨ e = .ret) (h : RetV P fn ⟨T, H⟩ r0) {r' : V} {H' : Hp} (hm : (m.ok && m.keep && selfOk m) = true := by kernel_rfl) (hr : r0.rn m = r' := by kernel_rfl) (hH : handV m H m = some H' := by kernel_rfl) : Ends P fn r' H' e ⟨T, H⟩ := Ends.gen m he h hm hr hH
theorem fI {ops : Array Oper} {draw : Bool} {T0 : List V} {H0 : Hp} {i : Nat} {T : List V} {H : Hp} {Es : List (Bool × Eff)} {T' : List V} {H' : Hp}
  (h : (Nat.ble ops.size i && (okR draw ops T0 H0 Es && mOk H'), keepT (mOf H') (ksOf T' 0) 0 T, handV (mOf H') H (mOf H')) = (true, T', some H') := by kernel_rfl) : W P G ops draw T0 H0 i T H Es fun st => Weak st ⟨T', H'⟩ := W.fi h
theorem fS (m : Ren) (ks : List Nat) {ops : Array Oper} {draw : Bool} {T0 : List V} {H0 : Hp} {i : Nat} {T : List V} {H : Hp} {Es : List (Bool × Eff)} {T' : List V} {H' : Hp}
  (h : (Nat.ble ops.size i && (okR draw ops T0 H0 Es && (m.ok && m.keep && selfOk m)), keepT m ks 0 T, handV m H m) = (true, T', some H') := by kernel_rfl) : W P G ops draw T0 H0 i T H Es fun st => Weak st ⟨T', H'⟩ := W.fs m ks h
theorem sI {α : Type} {a b : α} (h : some a = some b) : a = b := Option.some.inj h
end
end Go.Av

namespace Go.Av

def OwnAt (te : TypeId) (K : Nat) (w : World) (s : Value) (n : Nat) (olds : List Value) : Prop :=
 (s = .slice none 0 0 ∧ n = 0 ∧ olds = []) ∨ ∃ g c cur, s = .slice (some ⟨g, 0, none⟩) n c ∧ w.heap[g]? = some (.cells cur te (0, 0)) ∧ n ≤ c ∧ c ≤ maxLen ∧ cur.size = c * K ∧ olds = cur.toList.take (n * K)

theorem ObR.at {ρ : Nat → Option Value} {S : Nat → Prop} {w : World} {r : Value} {nn : Bool} {te : TypeId} {K : Nat} {rows : List (List V)} {F : List Nat} (h : ObR ρ S w r (.vec nn te K rows) F) (hnd : F.Nodup) :
  ∃ (olds : List Value) (cs : Nat → Nat → Value) (Fs : Nat → Nat → List Nat), OwnAt te K w r rows.length olds ∧ olds.length = rows.length * K ∧ (∀ (i : Nat) (x : List V), rows[i]? = some x → x.length = K) ∧
   (∀ (i j : Nat) (x : List V) (y : V), rows[i]? = some x → x[j]? = some y → olds[i * K + j]? = some (cs i j) ∧ RD S w (cs i j) y (Fs i j)) ∧
   (∀ v, v ∈ olds → v.oneCell' = true) ∧ (flat rows.length K Fs).Nodup ∧ (∀ b, b ∈ flat rows.length K Fs → b ∈ F ∧ r.ownBlock ≠ some b) ∧ (∀ g, r.ownBlock = some g → g ∈ F) := by
 cases h with
 | vnil =>
  exact ⟨[], fun _ _ => undef, fun _ _ => [], .inl ⟨rfl, rfl, rfl⟩, by simp, fun i x h => by simp at h, fun i j x y h => by simp at h, fun v h => (by cases h), by simp [flat], fun b h => (by simp [flat] at h), fun g h => by simp [Value.ownBlock] at h⟩
 | vec g cap arr _ _ _ _ cs Fs hh hcap hmax hsz hk hc hr =>
  have hl : (arr.toList.take (rows.length * K)).length = rows.length * K := by
   rw [List.length_take]
   exact Nat.min_eq_left (Nat.le_trans (Nat.mul_le_mul_right K hcap) (Nat.le_of_eq hsz.symm))
  have hget : ∀ (i j : Nat) (x : List V) (y : V), rows[i]? = some x → x[j]? = some y → (arr.toList.take (rows.length * K))[i * K + j]? = some (cs i j) := fun i j x y h1 h2 => by
   have hi : i < rows.length := (List.getElem?_eq_some_iff.1 h1).1
   have hj : j < K := by have := (List.getElem?_eq_some_iff.1 h2).1; rw [hk i x h1] at this; exact this
   rw [List.getElem?_take, if_pos (idx_lt hi hj)]
   simpa using hc i j x y h1 h2
  refine ⟨arr.toList.take (rows.length * K), cs, Fs, .inr ⟨g, cap, arr, rfl, hh, hcap, hmax, hsz, rfl⟩, hl, hk, fun i j x y h1 h2 => ⟨hget i j x y h1 h2, hr i j x y h1 h2⟩, fun v hv => ?_, (List.nodup_cons.1 hnd).2, fun b hb => ⟨List.mem_cons_of_mem _ hb, fun h => ?_⟩, fun g' h => ?_⟩
  ·obtain ⟨p, hp⟩ := List.getElem?_of_mem hv
   have hlt : p < rows.length * K := by rw [← hl]; exact (List.getElem?_eq_some_iff.1 hp).1
   have hk0 : 0 < K := by
    rcases Nat.eq_zero_or_pos K with h0 | h0
    ·rw [h0, Nat.mul_zero] at hlt; omega
    ·exact h0
   have hi : p / K < rows.length := Nat.div_lt_of_lt_mul (by rwa [Nat.mul_comm])
   have hj : p % K < K := Nat.mod_lt _ hk0
   have h1 : rows[p / K]? = some rows[p / K] := List.getElem?_eq_getElem hi
   have hj' : p % K < rows[p / K].length := by rw [hk _ _ h1]; exact hj
   have h2 : rows[p / K][p % K]? = some rows[p / K][p % K] := List.getElem?_eq_getElem hj'
   have h3 := hget _ _ _ _ h1 h2
   rw [show p / K * K + p % K = p by rw [Nat.mul_comm]; exact Nat.div_add_mod p K, hp] at h3
   cases h3
   exact (hr _ _ _ _ h1 h2).one
  ·simp only [Value.ownBlock, Option.some.injEq] at h
   subst h
   exact (List.nodup_cons.1 hnd).1 hb
  ·simp only [Value.ownBlock, Option.some.injEq] at h
   subst h; simp

section
variable {P : Program} {G : Nat → Option (List V)}

end
end Go.Av

namespace Go.Av

section
variable {P : Program} {G : Nat → Option (List V)}

def remO (a b : Int) : Option Int := bif b == 0 then none else some (a.tmod b)

def remW (G : Nat → Option (List V)) (ops : Array Oper) (i : Nat) (T : List V) : Option (V × V) :=
 match opW ops i T with
 | some (.binOp .rem _ x y _) => some (ev G T x, ev G T y)
 | _ => none

theorem W.rem {ops : Array Oper} {draw : Bool} {T0 : List V} {H0 : Hp} {i : Nat} {T : List V} {H : Hp} {Es : List (Bool × Eff)} {Q : St → Prop} {k : IntKind} {a b r : Int} (hx : remO a b = some r) (h : remW G ops i T = some (.c (.int k a), .c (.int k b)))
  (kk : W P G ops draw T0 H0 (i + 1) (setO T (dstW ops i) (.c (.int k r))) H (Es ++ [(true, { v := .c (.int k r) })]) Q) : W P G ops draw T0 H0 i T H Es Q := by
 unfold remO at hx
 cases hb : b == 0 with
 | true => rw [hb] at hx; cases hx
 | false =>
  rw [hb] at hx
  have hx := Option.some.inj hx
  subst hx
  have hb' : ¬ b = 0 := by simpa using hb
  unfold remW at h
  split at h
  ·rename_i t x y t' hop
   simp only [Option.some.injEq, Prod.mk.injEq] at h
   refine W.gen0 (.c (.int k (a.tmod b))) [] hop (fun o ho e' H' he _ => ?_) kk
   refine stepV_sound (D := []) (fun t i h => by simp [Tab.at] at h) ?_
   rw [ho]
   have e1 := (he x (by simp [Op.operands])).trans h.1
   have e2 := (he y (by simp [Op.operands])).trans h.2
   simp [stepV, binV, e1, e2, intV, hb']
  ·cases h

end
end Go.Av

namespace Go.Av

section
variable {P : Program} {G : Nat → Option (List V)} {L : Option Nat}

def lzB (D : Tab) (G : Nat → Option (List V)) (ops : Array Oper) (draw : Bool) (q : Nat) (T : List V) (H : Hp) : Bool :=
 match runE D G ops ops.size q 0 T H with
 | some r => okR draw ops T H r.Es
 | none => false

theorem lzW {D : Tab} (hD : TabOk P D) {q : Nat} {ops : Array Oper} {draw : Bool} {T : List V} {H : Hp} {Q : St → Prop} (h : lzB D G ops draw q T H = true) (k : Q ⟨(aftE D G ops ops.size q 0 T H).T, (aftE D G ops ops.size q 0 T H).H⟩) : W P G ops draw T H 0 T H [] Q := by
 unfold lzB at h
 unfold aftE at k
 split at h
 ·rename_i r hr
  rw [hr] at k
  exact W.runSome hD _ hr (W.fin (by omega) h k)
 ·cases h

theorem cv {D : Tab} (hD : TabOk P D) (hm : P.follows .mixedOrders = true) (q : Nat) {id : Nat} {l : List Oper} {draw : Bool} {c : Code} {T : List V} {H : Hp} {Q : Exit → St → Prop}
  (k : CO L P G c ⟨(aftE D G l.toArray l.toArray.size q 0 T H).T, (aftE D G l.toArray l.toArray.size q 0 T H).H⟩ Q) (h : lzB D G l.toArray draw q T H = true) : CO L P G (.seq (.region id l.toArray draw) c) ⟨T, H⟩ Q :=
 CO.sw hm (lzW hD h k)

def jnC (m : Ren) (ks : List Nat) (b : Bool) (T : List V) (H : Hp) : Bool × List V × Option Hp := (b && (m.ok && m.keep && selfOk m), keepT m ks 0 T, handV m H m)

theorem jnW {m : Ren} {ks : List Nat} {b : Bool} {T : List V} {H : Hp} {s : St} (h : jnC m ks b T H = (true, s.T, some s.H)) : b = true ∧ Weak ⟨T, H⟩ s := by
 unfold jnC at h
 simp only [Prod.mk.injEq] at h
 obtain ⟨h1, h2, h3⟩ := h
 rw [Bool.and_eq_true] at h1
 exact ⟨h1.1, Weak.sel m ks h1.2 h2 h3⟩

theorem ck {D : Tab} (hD : TabOk P D) (hm : P.follows .mixedOrders = true) (q : Nat) {ι : Type} {J : ι → St} {R : ι → Prop} {id : Nat} {l : List Oper} {draw : Bool} {T : List V} {H : Hp} {Q : Exit → St → Prop} (hk : ∀ i, R i → ∀ st, Weak st (J i) → Q .normal st) (i : ι) (hi : R i) (m : Ren) (ks : List Nat)
  (h : jnC m ks (lzB D G l.toArray draw q T H) (aftE D G l.toArray l.toArray.size q 0 T H).T (aftE D G l.toArray l.toArray.size q 0 T H).H = (true, (J i).T, some (J i).H)) : CO L P G (.region id l.toArray draw) ⟨T, H⟩ Q := by
 obtain ⟨h1, h2⟩ := jnW h
 exact CO.w hm (lzW hD h1 (hk i hi _ h2))

theorem sK {ι : Type} {J : ι → St} {R : ι → Prop} {T : List V} {H : Hp} {Q : Exit → St → Prop} (hk : ∀ i, R i → ∀ st, Weak st (J i) → Q .normal st) (i : ι) (hi : R i) (m : Ren) (ks : List Nat)
  (h : jnC m ks true T H = (true, (J i).T, some (J i).H) := by kernel_rfl) : CO L P G .skip ⟨T, H⟩ Q :=
 CO.skip (hk i hi _ (jnW h).2)

theorem wF {ops : Array Oper} {draw : Bool} {T0 : List V} {H0 : Hp} {i : Nat} {T : List V} {H : Hp} {Es : List (Bool × Eff)} {Q : St → Prop} (k : Q ⟨T, H⟩) (h : (Nat.ble ops.size i && okR draw ops T0 H0 Es) = true := by kernel_rfl) : W P G ops draw T0 H0 i T H Es Q := by
 simp only [Bool.and_eq_true, Nat.ble_eq] at h
 exact W.fin h.1 h.2 k

theorem wK {ops : Array Oper} {draw : Bool} {T0 : List V} {H0 : Hp} {i : Nat} {T : List V} {H : Hp} {Es : List (Bool × Eff)} {ι : Type} {J : ι → St} {R : ι → Prop} {Q : St → Prop} (hk : ∀ i, R i → ∀ st, Weak st (J i) → Q st) (x : ι) (hi : R x) (m : Ren) (ks : List Nat)
  (h : jnC m ks (Nat.ble ops.size i && okR draw ops T0 H0 Es) T H = (true, (J x).T, some (J x).H) := by kernel_rfl) : W P G ops draw T0 H0 i T H Es Q := by
 obtain ⟨h1, h2⟩ := jnW h
 exact wF (hk x hi _ h2) h1

theorem cI {β : Type} {b : Bool} {X Y : Option β} {r : β} {x : Operand} {c1 c2 : Code} {T : List V} {H : Hp} {Q : Exit → St → Prop} (h : (bif b then X else Y) = some r)
  (k : b = true → X = some r → CO L P G c1 ⟨T, H⟩ Q) (k' : b = false → Y = some r → CO L P G c2 ⟨T, H⟩ Q) (hb : ev G T x = .c (.bool b) := by kernel_rfl) : CO L P G (.cond x c1 c2) ⟨T, H⟩ Q :=
 cR (fun hc h => CO.ifT hc (hc ▸ hb) (k hc h)) (fun hc h => CO.ifF hc (hc ▸ hb) (k' hc h)) h

theorem wJ {β : Type} {b : Bool} {X Y : Option β} {r : β} {ops : Array Oper} {draw : Bool} {T0 : List V} {H0 : Hp} {i : Nat} {T : List V} {H : Hp} {Es : List (Bool × Eff)} {Q : St → Prop} (d : Nat) (h : (bif b then X else Y) = some r)
  (k : X = some r → W P G ops draw T0 H0 i (T.set d (.c (.bool true))) H Es Q) (k' : Y = some r → W P G ops draw T0 H0 i (T.set d (.c (.bool false))) H Es Q) (hd : T[d]? = some (.c (.bool b)) := by kernel_rfl) : W P G ops draw T0 H0 i T H Es Q :=
 cR (fun hc h => W.is d hc hd (k h)) (fun hc h => W.is d hc hd (k' h)) h

def ccC (D : Tab) (G : Nat → Option (List V)) (ops : Array Oper) (draw : Bool) (n q : Nat) (rc : V) (T : List V) (H : Hp) : Bool × Option (FuncId × List V × Hp) × V :=
 let r1 := aftE D G ops n q 0 T H
 let T1 := setO r1.T (dstW ops n) rc
 ((runE D G ops n q 0 T H).isSome && match runE D G ops (ops.size - (n + 1)) q (n + 1) T1 r1.H with
  | some r => okR draw ops T H (r1.Es ++ [(true, { v := rc })] ++ r.Es)
  | none => false, callW G ops [] [] n r1.T r1.H, rc.rn [])

def ccR (D : Tab) (G : Nat → Option (List V)) (ops : Array Oper) (n q : Nat) (rc : V) (T : List V) (H : Hp) : Run :=
 aftE D G ops (ops.size - (n + 1)) q (n + 1) (setO (aftE D G ops n q 0 T H).T (dstW ops n) rc) (aftE D G ops n q 0 T H).H

theorem ccW {D : Tab} (hD : TabOk P D) (n q : Nat) {ops : Array Oper} {draw : Bool} {T : List V} {H : Hp} {Q : St → Prop} {fid : FuncId} {vs : List V} {rc : V} (hA : AC P G fid vs [] rc []) (hcf : callOk P fid)
  (h : ccC D G ops draw n q rc T H = (true, some (fid, vs, []), rc)) (k : Q ⟨(ccR D G ops n q rc T H).T, (ccR D G ops n q rc T H).H⟩) : W P G ops draw T H 0 T H [] Q := by
 unfold ccC at h
 simp only [Prod.mk.injEq, Bool.and_eq_true] at h
 obtain ⟨⟨h1, h2⟩, h3, h4⟩ := h
 refine W.run hD n q h1 (W.call0 hA hcf h4 ?_ ?_)
 ·rw [Nat.zero_add]; exact h3
 ·rw [Nat.zero_add]
  unfold ccR at k
  unfold aftE at k
  unfold aftE at h2 ⊢
  split at h2
  ·rename_i r hr
   rw [hr] at k
   exact W.runSome hD _ hr (W.fin (by omega) (by simpa using h2) k)
  ·cases h2

theorem cc {D : Tab} (hD : TabOk P D) (hm : P.follows .mixedOrders = true) (n q : Nat) {id : Nat} {l : List Oper} {draw : Bool} {c : Code} {T : List V} {H : Hp} {Q : Exit → St → Prop} {fid : FuncId} {vs : List V} {rc : V} (hA : AC P G fid vs [] rc []) (hcf : callOk P fid)
  (k : CO L P G c ⟨(ccR D G l.toArray n q rc T H).T, (ccR D G l.toArray n q rc T H).H⟩ Q) (h : ccC D G l.toArray draw n q rc T H = (true, some (fid, vs, []), rc)) : CO L P G (.seq (.region id l.toArray draw) c) ⟨T, H⟩ Q :=
 CO.sw hm (ccW hD n q hA hcf h k)

theorem e1 (t : Tmp) {fn : Func} {T : List V} {H : Hp} {r : V} {Q : Exit → St → Prop} (hQ : Ends P fn r [] .ret ⟨T, H⟩ → Q .ret ⟨T, H⟩) (hf : fn.results = #[.tmp t] := by rfl) (h : (T[t]?, r.rn []) = (some r, r) := by kernel_rfl) : CO L P G .ret ⟨T, H⟩ Q := by
 simp only [Prod.mk.injEq] at h
 exact CO.ret (hQ (Ends.gen [] (.inr rfl) (RetV.one hf (OneR.t h.1)) rfl h.2 rfl))
end
end Go.Av

namespace Go.Av

end Go.Av

namespace Go.Av

end Go.Av

namespace Go.Av

end Go.Av

namespace Go.Av

end Go.Av

namespace Go.Av
open Go.RowKit

def JoinMem (P : Program) (f : FuncId) : Prop :=
 (∀ (bk c : Nat) (xs : List ByteArray) (sep : ByteArray) (w : World), (∀ (j : Nat) x, xs[j]? = some x → w.cell? ⟨bk, 0 + j, none⟩ = some (.string x)) → bk < w.heap.size → xs.length ≤ 140737488355328 → xs.length ≤ c →
  (Lib.join (xs.map (·.data.toList)) sep.data.toList).length ≤ 140737488355328 →
  Calls P f #[.slice (some ⟨bk, 0, none⟩) xs.length c, .string sep] w fun e w' => e = .returned (.string ⟨(Lib.join (xs.map (·.data.toList)) sep.data.toList).toArray⟩) ∧ Below w.heap.size w w') ∧
 ∀ (sep : ByteArray) (w : World), Calls P f #[.slice none 0 0, .string sep] w fun e w' => e = .returned (.string ⟨#[]⟩) ∧ w' = w

theorem AC.join {P : Program} {G : Nat → Option (List V)} {f : FuncId} {te : TypeId} (h : JoinMem P f) (nn : Bool) (l : List (List UInt8)) (sep : List UInt8) (hlen : l.length ≤ 1048576) (hj : (Lib.join l sep).length ≤ 140737488355328) :
  AC P G f [.own 0, V.s sep] [(0, .vec nn te 1 (l.map eNS))] (V.s (Lib.join l sep)) [(0, .vec nn te 1 (l.map eNS))] := by
 intro ρ S F xs w hsz hxs hH hG
 have l0 : look [(0, Ob.vec nn te 1 (l.map eNS))] 0 = some (.vec nn te 1 (l.map eNS)) := rfl
 obtain ⟨r0, hr0, ob0⟩ := hH.obj 0 _ l0
 have hnd := hH.nodup 0 _ l0
 have x0 : xs.getD 0 undef = r0 := by
  have h : RV ρ S w (xs.getD 0 undef) (.own 0) := hxs 0 _ rfl
  exact h.own_inv _ hr0
 have x1 : xs.getD 1 undef = .string ⟨⟨sep⟩⟩ := (hxs 1 _ rfl).c_inv
 have hx : xs = #[r0, .string ⟨⟨sep⟩⟩] := by
  have h3 : xs.size = 2 := hsz
  apply Array.ext
  ·exact h3
  ·intro j h1 h2
   have : j = 0 ∨ j = 1 := by omega
   rcases this with rfl | rfl
   ·simpa [Array.getD, h1] using x0
   ·simpa [Array.getD, h1] using x1
 subst hx
 have fin : ∀ w', Below w.heap.size w w' → ∃ x ρ' S' F', Ending.returned (.string ⟨⟨Lib.join l sep⟩⟩) = .returned x ∧ RV ρ' S' w' x (V.s (Lib.join l sep)) ∧ HRel ρ' S' F' [(0, Ob.vec nn te 1 (l.map eNS))] w' ∧ Evo S (Ub [(0, Ob.vec nn te 1 (l.map eNS))] F) w S' (Ub [(0, Ob.vec nn te 1 (l.map eNS))] F') w' ∧ AgF ρ ρ' := fun w' hb => by
  have hP := Post.upd hH [0] (i := 0) hr0 (Fi := F 0) hb.os hb.tape hb.output hb.size (fun b hb' _ => hb.block b hb') (fun ρ' => ob0.mono (fun _ _ _ h => by cases h) (fun b hb' => ⟨hb', hb.block b (hH.slt b hb')⟩) (fun b hb' => hb.block b (hH.lt 0 _ b l0 hb'))) hnd (fun b hb' => .inl ⟨0, _, by simp, l0, hb'⟩) (x := .string ⟨⟨Lib.join l sep⟩⟩) (v := V.s (Lib.join l sep)) (.c _)
  obtain ⟨ρ', S', F', h1, h2, h3, h4⟩ := hP
  exact ⟨_, ρ', S', F', rfl, h1, h2, h3, fun j r hj hr => h4 j r hr (by simp)⟩
 have hcase : (r0 = .slice none 0 0 ∧ l = []) ∨ ∃ (g cap : Nat) (arr : Array Value), r0 = .slice (some ⟨g, 0, none⟩) l.length cap ∧ w.heap[g]? = some (.cells arr te (0, 0)) ∧ l.length ≤ cap ∧
   (∀ (i : Nat) (x : List UInt8), l[i]? = some x → arr[i]? = some (Go.Proofs.encStr x)) := by
  generalize F 0 = Fi at ob0
  generalize hrows : l.map eNS = rows at ob0
  cases ob0 with
  | vnil => exact .inl ⟨rfl, List.map_eq_nil_iff.1 hrows⟩
  | vec g cap arr _ _ _ _ cc Fs hh hcap hmax hasz hk hc hr =>
   have hlen : rows.length = l.length := by rw [← hrows]; simp
   refine .inr ⟨g, cap, arr, by rw [hlen], hh, by omega, fun i x hx => ?_⟩
   have h1 : rows[i]? = some (eNS x) := by rw [← hrows, List.getElem?_map, hx]; rfl
   have h2 := hc i 0 _ (V.s x) h1 rfl
   have h3 := hr i 0 _ (V.s x) h1 rfl
   rw [Nat.mul_one, Nat.add_zero] at h2
   unfold V.s at h3
   generalize cc i 0 = v at h2 h3
   generalize Fs i 0 = fs at h3
   cases h3
   exact h2
 rcases hcase with ⟨rfl, rfl⟩ | ⟨g, cap, arr, rfl, hh, hcap, hval⟩
 ·refine Calls.mono (h.2 ⟨⟨sep⟩⟩ w) fun e w' hq => ?_
  obtain ⟨rfl, rfl⟩ := hq
  exact fin w' (Below.refl _ _)
 ·have hg : g < w.heap.size := (Array.getElem?_eq_some_iff.1 hh).1
  have hm : ((l.map fun b => (⟨⟨b⟩⟩ : ByteArray)).map (·.data.toList)) = l := by
   rw [List.map_map]
   exact (List.map_congr_left fun _ _ => rfl).trans (List.map_id l)
  have := h.1 g cap (l.map fun b => (⟨⟨b⟩⟩ : ByteArray)) ⟨⟨sep⟩⟩ w (fun j x hx => by
   rw [List.getElem?_map] at hx
   obtain ⟨b, hb, rfl⟩ := Option.map_eq_some_iff.1 hx
   unfold World.cell?
   simp only [hh]
   simpa using hval j b hb) hg (by simp; omega) (by simpa using hcap) (by rw [hm]; exact hj)
  rw [hm, List.length_map] at this
  refine Calls.mono this fun e w' hq => ?_
  obtain ⟨rfl, hb⟩ := hq
  exact fin w' hb

end Go.Av

namespace Go.Av
variable {P : Program}

theorem RetV.four {fn : Func} {st : St} {a b c d : ResultVar} {r s t u : V} (h : fn.results = #[a, b, c, d]) (h1 : OneR P st a r) (h2 : OneR P st b s) (h3 : OneR P st c t) (h4 : OneR P st d u) : RetV P fn st (.tup [r, s, t, u]) := by
 intro B G ρ S F act w hst
 obtain ⟨x, hx, rx⟩ := h1 _ G ρ S F act w hst
 obtain ⟨y, hy, ry⟩ := h2 _ G ρ S F act w hst
 obtain ⟨z, hz, rz⟩ := h3 _ G ρ S F act w hst
 obtain ⟨v, hv, rv⟩ := h4 _ G ρ S F act w hst
 refine ⟨.tuple #[x, y, z, v], ?_, .tup #[x, y, z, v] [r, s, t, u] rfl fun j q d hq hd => ?_⟩
 ·simp [results_eq, h, hx, hy, hz, hv]
 ·match j with
  | 0 => simp at hq hd; subst hq hd; exact rx
  | 1 => simp at hq hd; subst hq hd; exact ry
  | 2 => simp at hq hd; subst hq hd; exact rz
  | 3 => simp at hq hd; subst hq hd; exact rv
  | j + 4 => simp at hq

theorem RetV.five {fn : Func} {st : St} {a b c d e : ResultVar} {r s t u o : V} (h : fn.results = #[a, b, c, d, e]) (h1 : OneR P st a r) (h2 : OneR P st b s) (h3 : OneR P st c t) (h4 : OneR P st d u) (h5 : OneR P st e o) : RetV P fn st (.tup [r, s, t, u, o]) := by
 intro B G ρ S F act w hst
 obtain ⟨x, hx, rx⟩ := h1 _ G ρ S F act w hst
 obtain ⟨y, hy, ry⟩ := h2 _ G ρ S F act w hst
 obtain ⟨z, hz, rz⟩ := h3 _ G ρ S F act w hst
 obtain ⟨v, hv, rv⟩ := h4 _ G ρ S F act w hst
 obtain ⟨p, hp, rp⟩ := h5 _ G ρ S F act w hst
 refine ⟨.tuple #[x, y, z, v, p], ?_, .tup #[x, y, z, v, p] [r, s, t, u, o] rfl fun j q d hq hd => ?_⟩
 ·simp [results_eq, h, hx, hy, hz, hv, hp]
 ·match j with
  | 0 => simp at hq hd; subst hq hd; exact rx
  | 1 => simp at hq hd; subst hq hd; exact ry
  | 2 => simp at hq hd; subst hq hd; exact rz
  | 3 => simp at hq hd; subst hq hd; exact rv
  | 4 => simp at hq hd; subst hq hd; exact rp
  | j + 5 => simp at hq
end Go.Av

