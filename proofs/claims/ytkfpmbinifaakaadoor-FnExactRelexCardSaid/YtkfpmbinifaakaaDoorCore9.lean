/-
  Core9: calls by contract; new variables; stores; new slices.
-/
import Derived.Test.YtkfpmbinifaakaaDoorCore8
namespace Go.Av

section
variable {P : Program} {G : Nat → Option (List V)}

def callOk (P : Program) (f : FuncId) : Prop := ∀ args w, (callFunc f args).run P w = .ok (.enter f args) w

theorem OpOk.call {o : Oper} {e : Operand → V} {H H' : Hp} {v : V} {N : List Nat} {f : Operand} {as : Array Operand} {ats : Array TypeId} {fid : FuncId} {caps : List V}
    (ho : o.op = .call { callee := .value f, args := as, argTypes := ats }) (hf : e f = .fn fid caps) (hcf : callOk P fid)
    {vs : List V} {Hc Hc' : Hp} {rc : V} (h : AC P G fid vs Hc rc Hc') {q m : Ren} (c : CallFits q m (as.toList.map e ++ caps) H vs Hc rc Hc' v H' N)
    (hN : (N.all fun i => !hasH i H) = true) : OpOk P G o e H v H' N := by
  intro ρ S F η w hη hH hG
  have hfv := hη f (by simp [ho, Op.operands, Call.operands])
  rw [hf] at hfv
  obtain ⟨arr, ha, hsz, hr⟩ := hfv.fn_inv
  unfold ExecTo execOp
  simp only [ho, resolve, ha, Deferred.ofValue, Sem.run_bind, Sem.run_pure, Result.andThen_ok, invoke, Array.empty_append]
  have hcf' := hcf (as.map η ++ arr) w
  simp only [hcf']
  refine AC.call h c (by simp [hsz]) (fun i x hx => ?_) hH hG (fun j o hj i hi => ?_)
  · by_cases hi : i < as.size
    · rw [List.getElem?_append_left (by simpa using hi), List.getElem?_map, Option.map_eq_some_iff] at hx
      obtain ⟨y, hy, rfl⟩ := hx
      have hy' : as[i]? = some y := by simpa using hy
      have : (as.map η ++ arr).getD i undef = η y := by
        rw [Array.getD_eq_getD_getElem?, Array.getElem?_append_left (by simpa using hi), Array.getElem?_map, hy']; rfl
      rw [this]
      refine hη y ?_
      simp only [ho, Op.operands, Call.operands]
      exact Array.mem_append.2 (.inr (Array.mem_of_getElem? hy'))
    · rw [List.getElem?_append_right (by simpa using hi)] at hx
      simp only [List.length_map, Array.length_toList] at hx
      have hlt : i - as.size < arr.size := by rw [hsz]; exact (List.getElem?_eq_some_iff.1 hx).1
      have : (as.map η ++ arr).getD i undef = arr[i - as.size] := by
        rw [Array.getD_eq_getD_getElem?, Array.getElem?_append_right (by simpa using hi)]
        simp [Array.getElem?_eq_getElem hlt]
      rw [this]
      exact hr _ x _ hx (Array.getElem?_eq_getElem hlt)
  · have := List.all_eq_true.1 hN i hi
    simp only [Bool.not_eq_true'] at this
    exact (hasH_false this).2 j o hj

/-- a call of a function that leaves the objects alone -/
theorem CallFits.pure {args vs : List V} {H : Hp} {r : V} (hr : r.rn [] = r) (ha : SubT [] args vs) : CallFits [] [] args H vs [] r [] r H [] :=
  ⟨rfl, rfl, ha, trivial, hr, fun j o' ho => .inl ⟨rfl, ho, fun i => by simp [mget]⟩, fun i j h => by simp [mget] at h, fun i j h => by simp [mget] at h, fun j h => by cases h⟩

/-! ### a new object -/
theorem Ub.cons_new {i : Nat} {o : Ob} {H : Hp} {F : Nat → List Nat} {Fi : List Nat} {b : Nat} (h : Ub ((i, o) :: H) (fun j => if j = i then Fi else F j) b) : b ∈ Fi ∨ Ub H F b := by
  obtain ⟨j, p, hj, hb⟩ := h
  simp only [look] at hj
  replace hb : b ∈ (if j = i then Fi else F j) := hb
  split at hj
  · rw [if_pos ‹_›] at hb; exact .inl hb
  · rw [if_neg ‹_›] at hb; exact .inr ⟨j, p, hj, hb⟩

/-- an object is added, in blocks that are new -/
theorem Post.new {ρ : Nat → Option Value} {S : Nat → Prop} {F : Nat → List Nat} {H : Hp} {w w' : World} (hH : HRel ρ S F H w) {i : Nat} (hi : hasH i H = false) {o : Ob} {root : Value} {Fi : List Nat}
    (hos : w'.os = w.os) (htape : w'.tape = w.tape) (hout : w'.output = w.output) (hsize : w.heap.size ≤ w'.heap.size) (hkeep : ∀ b, b < w.heap.size → w'.heap[b]? = w.heap[b]?)
    (hob' : ObR ρ S w' root o Fi) (hnd : Fi.Nodup) (hFi : ∀ b, b ∈ Fi → w.heap.size ≤ b ∧ b < w'.heap.size)
    (hoi : o.has i = false) {x : Value} {v : V} (hv : RV (fun j => if j = i then some root else ρ j) S w' x v) : Post ρ S F H w v ((i, o) :: H) [i] x w' := by
  obtain ⟨hl, hO⟩ := hasH_false hi
  let ρ' : Nat → Option Value := fun j => if j = i then some root else ρ j
  have hρ : ∀ (y : Nat → Bool), y i = false → ∀ j r, ρ' j = some r → y j = true → ρ j = some r := fun y hy j r hj hh => by
    simp only [ρ'] at hj
    split at hj
    · subst_vars; rw [hy] at hh; cases hh
    · exact hj
  have hk : Keeps S w S w' := fun b hb => ⟨hb, hkeep b (hH.slt b hb)⟩
  refine ⟨ρ', S, fun j => if j = i then Fi else F j, hv, ⟨fun j hj => ?_, fun j p hp => ?_, fun j p hp => ?_, fun j j' p p' b hj hj' hne hb hb' => ?_, fun j p b hp hb => ?_, fun j p b hp hb => ?_, fun b hb => Nat.lt_of_lt_of_le (hH.slt b hb) hsize⟩,
    ⟨hos, htape, hout, hsize, fun b hb _ => hkeep b hb, fun _ h => h, fun _ h => .inl h, fun b hb => ?_⟩, fun j r hj hN => ?_⟩
  · simp only [look] at hj
    split at hj
    · cases hj
    · rename_i hne; simp only [ρ', if_neg hne]; exact hH.dom j hj
  · simp only [look] at hp
    split at hp
    · cases hp
      subst_vars
      refine ⟨root, by simp [ρ'], ?_⟩
      rw [if_pos rfl]
      exact hob'.mono (hρ (fun j => o.has j) hoi) (fun b hb => ⟨hb, rfl⟩) (fun _ _ => rfl)
    · rename_i hne
      obtain ⟨r, hr, hobj⟩ := hH.obj j p hp
      refine ⟨r, by simp only [ρ', if_neg hne]; exact hr, ?_⟩
      rw [if_neg hne]
      exact hobj.mono (hρ (fun j => p.has j) (hO j p hp)) hk (fun b hb => hkeep b (hH.lt j p b hp hb))
  · simp only [look] at hp
    split at hp
    · rename_i e; rw [if_pos e]; exact hnd
    · rename_i e; rw [if_neg e]; exact hH.nodup j p hp
  · simp only [look] at hj hj'
    by_cases e1 : j = i
    · by_cases e2 : j' = i
      · exact hne (e1.trans e2.symm)
      · rw [if_pos e1] at hb; rw [if_neg e2] at hb' hj'
        have := hFi b hb
        have := hH.lt j' p' b hj' hb'
        omega
    · by_cases e2 : j' = i
      · rw [if_neg e1] at hb hj; rw [if_pos e2] at hb'
        have := hFi b hb'
        have := hH.lt j p b hj hb
        omega
      · rw [if_neg e1] at hb hj; rw [if_neg e2] at hb' hj'
        exact hH.disj j j' p p' b hj hj' hne hb hb'
  · simp only [look] at hp
    by_cases e1 : j = i
    · rw [if_pos e1] at hb
      intro hs
      have := hFi b hb
      have := hH.slt b hs
      omega
    · rw [if_neg e1] at hb hp; exact hH.sep j p b hp hb
  · simp only [look] at hp
    by_cases e1 : j = i
    · rw [if_pos e1] at hb; exact (hFi b hb).2
    · rw [if_neg e1] at hb hp; exact Nat.lt_of_lt_of_le (hH.lt j p b hp hb) hsize
  · rcases Ub.cons_new hb with h | h
    · exact .inr (hFi b h).1
    · exact .inl h
  · simp only [List.mem_singleton] at hN
    simp only [ρ', if_neg hN] at hj
    exact hj

theorem heap_new (w : World) (o : Obj) (b : Nat) (h : b < w.heap.size) : (w.alloc o).heap[b]? = w.heap[b]? := heap_alloc_old w o b h

/-- a new variable that holds such cells -/
theorem Post.newVar {ρ : Nat → Option Value} {S : Nat → Prop} {F : Nat → List Nat} {H : Hp} {w : World} (hH : HRel ρ S F H w) {i : Nat} (hi : hasH i H = false) {ety : TypeId} {cs : List V} {arr : Array Value}
    (hc : Cells ρ S w arr cs) (hci : V.hasL i cs = false) : Post ρ S F H w (.loc i 0) ((i, .cells ety cs) :: H) [i] (.pointer (some ⟨w.heap.size, 0, none⟩)) (w.alloc (.cells arr ety)) := by
  have hk : Keeps S w S (w.alloc (.cells arr ety)) := fun b hb => ⟨hb, heap_new w _ b (hH.slt b hb)⟩
  refine Post.new hH hi (w' := w.alloc (.cells arr ety)) (o := .cells ety cs) (root := .pointer (some ⟨w.heap.size, 0, none⟩)) (Fi := [w.heap.size]) rfl rfl rfl (by simp) (fun b hb => heap_new w _ b hb) ?_ (by simp) (fun b hb => by simp at hb; subst hb; simp) (by simpa [Ob.has] using hci) ?_
  · exact .cells w.heap.size arr ety cs (heap_alloc_new w _) hc.1 fun j x hx => by
      obtain ⟨c, h1, h2⟩ := hc.2.2 j x hx
      exact ⟨c, h1, hc.2.1 j c h1, h2.mono (fun _ _ h _ => h) hk⟩
  · exact .loc _ i 0 fun r hr => by simp at hr; subst hr; exact ⟨_, rfl, rfl⟩

theorem OpOk.box {o : Oper} {e : Operand → V} {H : Hp} {t : TypeId} {x : Operand} {cs : List V} (i : Nat) (ho : o.op = .box t x) (hc : cellsV H (e x) = some cs) (hi : hasH i H = false) (hci : V.hasL i cs = false) :
    OpOk P G o e H (.loc i 0) ((i, .cells t cs) :: H) [i] := by
  intro ρ S F η w hη hH hG
  have h1 := (hη x (by simp [ho, Op.operands])).cells hH hc
  unfold ExecTo execOp
  simp only [ho, Instr.box, newVar, newRow, Sem.run_bind, run_newObj, Result.andThen_ok, Sem.run_pure]
  exact Post.newVar hH hi h1 hci

theorem OpOk.alloc {D : Tab} (hD : TabOk P D) {o : Oper} {e : Operand → V} {H : Hp} {t : TypeId} {ty : Ty} (i : Nat) (ho : o.op = .alloc t) (ht : D.at t = some ty) (hi : hasH i H = false) :
    OpOk P G o e H (.loc i 0) ((i, .cells t (ty.zero.map .c)) :: H) [i] := by
  intro ρ S F η w hη hH hG
  obtain ⟨z, hz, hzc, hz1⟩ := (hD _ _ ht).zeroValue w
  unfold ExecTo execOp
  simp only [ho, Instr.alloc, hz, newVar, newRow, Sem.run_bind, run_newObj, Result.andThen_ok, Sem.run_pure]
  refine Post.newVar hH hi (arr := z.cells) ⟨by simp [← hzc], fun j c hj => ?_, fun j x hj => ?_⟩ ?_
  · refine List.all_eq_true.1 hz1 c ?_
    rw [← hzc]
    exact List.mem_of_getElem? (by simpa using hj)
  · rw [← hzc, List.getElem?_map, Option.map_eq_some_iff] at hj
    obtain ⟨c, hc, rfl⟩ := hj
    exact ⟨c, by simpa using hc, .c c⟩
  · generalize ty.zero = l
    induction l with
    | nil => rfl
    | cons y l ih => simp [V.hasL, V.has, ih]

end
end Go.Av
