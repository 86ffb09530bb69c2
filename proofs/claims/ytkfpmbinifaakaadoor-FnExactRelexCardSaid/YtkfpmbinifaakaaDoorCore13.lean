/-
  Core13: the remaining operations: append in its forms, stores, slice literals, indexes, cuts, strings, make.
-/
import Derived.Test.YtkfpmbinifaakaaDoorCore12
namespace Go.Av

section
variable {P : Program} {G : Nat → Option (List V)}

theorem resolve_append {o : Oper} {η : Operand → Value} {s x : Operand} {t tx : TypeId} (ho : o.op = .call { callee := .builtin .append, args := #[s, x], argTypes := #[t, tx] }) {w w' : World} {v : Value}
    (h : (Builtin.append_ #[t, tx] o.type #[η s, η x]).run P w = .ok v w') : (execOp η o).run P w = .ok (.value v) w' := by
  unfold execOp
  simp only [ho, resolve, invoke, builtin, Sem.run_bind, Sem.run_pure, Result.andThen_ok, List.map_toArray, List.map_cons, List.map_nil, h]

/-- 'append(s, xs...)', xs another slice that the activation owns (the variadic arguments lie so): both are used up -/
theorem OpOk.appendOwn {D : Tab} (hD : TabOk P D) {o : Oper} {e : Operand → V} {H : Hp} {s x : Operand} {t el : TypeId} {it ie : Ty} (q : Nat) {i j : Nat} {nn nn2 : Bool} {rows rows2 : List (List V)} (nn' : Bool)
    (ho : o.op = .call { callee := .builtin .append, args := #[s, x], argTypes := #[t, t] }) (ht : D.at t = some it) (hit : it.d = .slice el) (hel : D.at el = some ie)
    (hs : e s = .own i) (hx : e x = .own j) (hij : i ≠ j) (hi : look H i = some (.vec nn el ie.size rows)) (hj : look H j = some (.vec nn2 el ie.size rows2))
    (hlen : rows.length + rows2.length ≤ maxLen) (hb : (rows.length + rows2.length) * ie.bytes ≤ 140737488355328) (hq : hasH q H = false) (hnn : nn' = true → nn = true ∨ rows2 ≠ []) :
    OpOk P G o e H (.own q) ((q, .vec nn' el ie.size (rows ++ rows2)) :: hrem [i, j] H) [q] := by
  intro ρ S F η w hη hH hG
  have h1 := hη s (by simp [ho, Op.operands, Call.operands])
  have h2 := hη x (by simp [ho, Op.operands, Call.operands])
  rw [hs] at h1
  rw [hx] at h2
  obtain ⟨r, hr, hob⟩ := hH.obj j _ hj
  have := h2.own_inv r hr
  obtain ⟨_, ⟨d, u1, u2⟩, _⟩ := hD _ _ ht
  rw [hit] at u2
  have hd : d = .slice el := by cases d <;> simp_all [TD.is]
  subst hd
  obtain ⟨F', hsrc, hsub, hnd⟩ := SrcV.of_own (P := P) u1 hob (hH.nodup j _ hj)
  rw [← this] at hsrc
  obtain ⟨v, w', hrun, hp⟩ := Post.append hD hH ht hit hel hi hsrc hnd [j] (fun b hb' => ⟨j, _, by simp, Ne.symm hij, hj, hsub b hb'⟩) hlen hb hq hnn h1 (tx := t) (ty := o.type)
  unfold ExecTo
  rw [resolve_append ho hrun]
  exact hp

/-- 'append(s, xs...)', xs data -/
theorem OpOk.appendData {D : Tab} (hD : TabOk P D) {o : Oper} {e : Operand → V} {H : Hp} {s x : Operand} {t tx el el' : TypeId} {it itx ie : Ty} (q : Nat) {i : Nat} {nn nn2 b2 : Bool} {rows rows2 : List (List V)} (nn' : Bool)
    (ho : o.op = .call { callee := .builtin .append, args := #[s, x], argTypes := #[t, tx] }) (ht : D.at t = some it) (hit : it.d = .slice el) (htx : D.at tx = some itx) (hitx : itx.d = .slice el') (hel : D.at el = some ie)
    (hs : e s = .own i) (hx : e x = .sl nn2 b2 rows2) (hi : look H i = some (.vec nn el ie.size rows)) (hrk : ∀ r, r ∈ rows2 → r.length = ie.size)
    (hlen : rows.length + rows2.length ≤ maxLen) (hb : (rows.length + rows2.length) * ie.bytes ≤ 140737488355328) (hq : hasH q H = false) (hnn : nn' = true → nn = true ∨ rows2 ≠ []) :
    OpOk P G o e H (.own q) ((q, .vec nn' el ie.size (rows ++ rows2)) :: hrem [i] H) [q] := by
  intro ρ S F η w hη hH hG
  have h1 := hη s (by simp [ho, Op.operands, Call.operands])
  have h2 := hη x (by simp [ho, Op.operands, Call.operands])
  rw [hs] at h1
  rw [hx] at h2
  obtain ⟨_, ⟨d, u1, u2⟩, _⟩ := hD _ _ htx
  rw [hitx] at u2
  have hd : d = .slice el' := by cases d <;> simp_all [TD.is]
  subst hd
  obtain ⟨v, w', hrun, hp⟩ := Post.append hD hH ht hit hel hi (SrcV.of_sl u1 h2.sl_inv hrk) List.nodup_nil [] (fun b hb' => by cases hb') hlen hb hq hnn h1 (tx := tx) (ty := o.type)
  unfold ExecTo
  rw [resolve_append ho hrun]
  exact hp

/-- 'append(bytes, text...)' -/
theorem OpOk.appendStr {D : Tab} (hD : TabOk P D) {o : Oper} {e : Operand → V} {H : Hp} {s x : Operand} {t tx el : TypeId} {it itx ie : Ty} (q : Nat) {i : Nat} {nn : Bool} {rows : List (List V)} {str : List UInt8} (nn' : Bool)
    (ho : o.op = .call { callee := .builtin .append, args := #[s, x], argTypes := #[t, tx] }) (ht : D.at t = some it) (hit : it.d = .slice el) (htx : D.at tx = some itx) (hitx : itx.d = .str) (hel : D.at el = some ie) (hsz : ie.size = 1)
    (hs : e s = .own i) (hx : e x = V.str str) (hi : look H i = some (.vec nn el 1 rows))
    (hlen : rows.length + str.length ≤ maxLen) (hb : (rows.length + str.length) * ie.bytes ≤ 140737488355328) (hq : hasH q H = false) (hnn : nn' = true → nn = true ∨ str ≠ []) :
    OpOk P G o e H (.own q) ((q, .vec nn' el 1 (rows ++ str.map byteRow)) :: hrem [i] H) [q] := by
  intro ρ S F η w hη hH hG
  have h1 := hη s (by simp [ho, Op.operands, Call.operands])
  have h2 := hη x (by simp [ho, Op.operands, Call.operands])
  rw [hs] at h1
  rw [hx] at h2
  obtain ⟨_, ⟨d, u1, u2⟩, _⟩ := hD _ _ htx
  rw [hitx] at u2
  have hd : d = .string := by cases d <;> simp_all [TD.is]
  subst hd
  have hsrc : SrcV P S w ie.size tx (η x) (str.map byteRow) [] := by
    rw [hsz, h2.c_inv]
    exact SrcV.of_str u1 _
  rw [← hsz] at hi ⊢
  obtain ⟨v, w', hrun, hp⟩ := Post.append hD hH ht hit hel hi hsrc List.nodup_nil [] (fun b hb' => by cases hb') (by simpa using hlen) (by simpa using hb) hq (nn' := nn') (fun h => (hnn h).imp id fun hne h0 => hne (by simpa using h0)) h1 (tx := tx) (ty := o.type)
  unfold ExecTo
  rw [resolve_append ho hrun]
  exact hp

/-! ### a store into a variable -/
def putAt (cs ys : List V) (o : Nat) : List V := cs.take o ++ ys ++ cs.drop (o + ys.length)

theorem OpOk.store {D : Tab} (hD : TabOk P D) {o : Oper} {e : Operand → V} {H : Hp} {t : TypeId} {a x : Operand} {it : Ty} {i off : Nat} {ety : TypeId} {cs ys : List V}
    (ho : o.op = .store t a x) (ht : D.at t = some it) (ha : e a = .loc i off) (hi : look H i = some (.cells ety cs)) (hx : cellsV H (e x) = some ys) (hsz : ys.length = it.size) (hfit : off + ys.length ≤ cs.length) :
    OpOk P G o e H .junk (hput H i (.cells ety (putAt cs ys off))) [] := by
  intro ρ S F η w hη hH hG
  have h1 := hη a (by simp [ho, Op.operands])
  have h2 := (hη x (by simp [ho, Op.operands])).cells hH hx
  rw [ha] at h1
  obtain ⟨r, hr, hob⟩ := hH.obj i _ hi
  obtain ⟨g, e1, e2⟩ := h1.loc_inv r hr
  have hFi : F i = [g] ∧ ∃ arr : Array Value, w.heap[g]? = some (.cells arr ety (0, 0)) ∧ Cells ρ S w arr cs := by
    generalize F i = Fi at hob
    cases hob with
    | cells g' arr _ _ hh hsz hcs =>
      cases e1
      refine ⟨rfl, arr, hh, hsz, fun j c hj => ?_, fun j y hy => ?_⟩
      · have hlt : j < cs.length := by rw [← hsz]; exact (Array.getElem?_eq_some_iff.1 hj).1
        obtain ⟨c', h1, h2, _⟩ := hcs j cs[j] (List.getElem?_eq_getElem hlt)
        rw [hj] at h1; cases h1; exact h2
      · obtain ⟨c, h1, _, h3⟩ := hcs j y hy
        exact ⟨c, h1, h3⟩
  obtain ⟨hFi, arr, hh, hcells⟩ := hFi
  have hlen : (η x).cells.toList.length = ys.length := by simpa using h2.1
  have hst := run_storeCells_at P g off ety (η x).cells.toList 0 arr w hh (by rw [hlen, hcells.1]; omega) (fun v hv => by
    obtain ⟨p, hp⟩ := List.getElem?_of_mem hv
    exact h2.2.1 p v (by simpa using hp))
  simp only [Nat.add_zero] at hst
  let out : Array Value := (arr.toList.take off ++ (η x).cells.toList ++ arr.toList.drop (off + (η x).cells.toList.length)).toArray
  have hrun : (execOp η o).run P w = .ok .skip (w.setRow g out) := by
    unfold execOp
    simp only [ho, Instr.storeAt, Instr.sureAddr, e2, storeVar, Sem.run_bind, Sem.run_pure, Result.andThen_ok, (hD _ _ ht).sizeOf w]
    rw [if_neg (by have := h2.1; omega)]
    simp only [hst, Result.andThen_ok]
    rfl
  unfold ExecTo
  rw [hrun]
  have hkeep : ∀ b, b ≠ g → (w.setRow g out).heap[b]? = w.heap[b]? := fun b hb => setRow_other w g b _ hb
  have hgS : ¬ S g := hH.sep i _ g hi (by rw [hFi]; simp)
  have hk : Keeps S w S (w.setRow g out) := fun b hb => ⟨hb, hkeep b fun e => hgS (e ▸ hb)⟩
  have hlook : ∀ j p, look (hput H i (.cells ety (putAt cs ys off))) j = some p → (j = i ∧ p = .cells ety (putAt cs ys off)) ∨ (j ≠ i ∧ look H j = some p) := fun j p hj => by
    rw [look_hput] at hj
    split at hj
    · cases hj; exact .inl ⟨‹_›, rfl⟩
    · exact .inr ⟨‹_›, hj⟩
  have hnew : Cells ρ S w out (putAt cs ys off) := by
    have := h2.1
    have := hcells.1
    refine Cells.over (vs := (η x).cells) hcells ⟨h2.1, h2.2.1, h2.2.2⟩ hfit ?_ fun p => ?_
    · simp only [out, List.size_toArray, List.length_append, List.length_take, List.length_drop, Array.length_toList]; omega
    · simp only [out, List.getElem?_toArray]
      rw [splice_get _ _ _ _ (by simp; omega), hlen]
      simp only [Array.getElem?_toList]
  refine ⟨ρ, S, F, .junk _, ⟨fun j hj => ?_, fun j p hp => ?_, fun j p hp => ?_, fun j j' p p' b hj hj' hne hb hb' => ?_, fun j p b hp hb => ?_, fun j p b hp hb => ?_, fun b hb => by rw [setRow_size]; exact hH.slt b hb⟩,
    ⟨rfl, rfl, rfl, by simp, fun b hb hu => hkeep b fun e => hu ⟨i, _, hi, by rw [hFi]; simp [e]⟩, fun _ h => h, fun _ h => .inl h, fun b hb => ?_⟩, fun _ _ h _ => h⟩
  · rw [look_hput] at hj
    split at hj
    · cases hj
    · exact hH.dom j hj
  · rcases hlook j p hp with ⟨rfl, rfl⟩ | ⟨hne, hp⟩
    · refine ⟨r, hr, ?_⟩
      rw [hFi, e1]
      exact .cells g out ety _ (setRow_heap w g arr _ ety _ hh) hnew.1 fun q y hy => by
        obtain ⟨c, h1, h2⟩ := hnew.2.2 q y hy
        exact ⟨c, h1, hnew.2.1 q c h1, h2.mono (fun _ _ h _ => h) hk⟩
    · obtain ⟨r', hr', hobj⟩ := hH.obj j p hp
      exact ⟨r', hr', hobj.mono (fun _ _ h _ => h) hk fun b hb => hkeep b fun e => hH.disj j i p _ g hp hi hne (e ▸ hb) (by rw [hFi]; simp)⟩
  · rcases hlook j p hp with ⟨rfl, rfl⟩ | ⟨hne, hp⟩
    · exact hH.nodup j _ hi
    · exact hH.nodup j p hp
  · rcases hlook j p hj with ⟨rfl, rfl⟩ | ⟨h1, hp⟩ <;> rcases hlook j' p' hj' with ⟨rfl, rfl⟩ | ⟨h2, hp'⟩
    · exact hne rfl
    · exact hH.disj _ _ _ _ b hi hp' hne hb hb'
    · exact hH.disj _ _ _ _ b hp hi hne hb hb'
    · exact hH.disj _ _ _ _ b hp hp' hne hb hb'
  · rcases hlook j p hp with ⟨rfl, rfl⟩ | ⟨hne, hp⟩
    · exact hH.sep j _ b hi hb
    · exact hH.sep j p b hp hb
  · rw [setRow_size]
    rcases hlook j p hp with ⟨rfl, rfl⟩ | ⟨hne, hp⟩
    · exact hH.lt j _ b hi hb
    · exact hH.lt j p b hp hb
  · obtain ⟨j, p, hp, hb⟩ := hb
    rcases hlook j p hp with ⟨rfl, rfl⟩ | ⟨hne, hp⟩
    · exact .inl ⟨j, _, hi, hb⟩
    · exact .inl ⟨j, p, hp, hb⟩

end
end Go.Av
