/-
  Core33: own slices laid down by the operation that takes them; calls to which own slices are lent; nil handed over as an own slice.
-/
import Derived.Test.YtkfpmbinifaakaaDoorCore32
namespace Go.Av

section
variable {P : Program} {G : Nat → Option (List V)}

theorem layC_sound {H Hi : Hp} {Zr : List (Nat × List (List V))} (hZr : LayOk Hi Zr) {ρ ρ1 : Nat → Option Value} {S S1 : Nat → Prop} {w : World}
    (touched : ∀ j, j ∈ Zr.map (·.1) → look H j = look Hi j) (a1 : ∀ i r, ρ1 i = some r → ρ i = some r) (hk : Keeps S w S1 w)
    (c1 : ∀ j, j ∈ Zr.map (·.1) → ∀ nn t k rows, look H j = some (.vec nn t k rows) → ∃ r, ρ j = some r ∧ RD S1 w r (.sl nn false (V.shareR rows)) [])
    {v : Value} {x : V} (hv : RV ρ S w v x) : RV ρ1 S1 w v (layC (layD Zr) x) := by
  unfold layC
  split
  · rename_i j
    split
    · rename_i p hp
      have hpm := List.mem_of_find?_eq_some hp
      have hpj := List.find?_some hp
      simp only [beq_iff_eq] at hpj
      unfold layD at hpm
      rw [List.mem_map] at hpm
      obtain ⟨p', hp', rfl⟩ := hpm
      simp only at hpj
      obtain ⟨nn, t, k, rows, hl, hsh⟩ := hZr.get hp'
      have hjZ : p'.1 ∈ Zr.map (·.1) := List.mem_map_of_mem hp'
      subst hpj
      obtain ⟨r, hr, hd⟩ := c1 p'.1 hjZ nn t k rows (by rw [touched p'.1 hjZ]; exact hl)
      rw [hv.own_inv r hr]
      rw [hsh] at hd
      exact .sl _ _ _ _ hd.low
    · exact hv.mono (fun i r hi _ => a1 i r hi) hk
  · rw [hv.c_inv]; exact .sl _ _ _ _ (.nils false)
  · exact hv.mono (fun i r hi _ => a1 i r hi) hk

theorem layV_sound {H Hi : Hp} {Zr : List (Nat × List (List V))} (hZr : LayOk Hi Zr) {ρ ρ1 : Nat → Option Value} {S S1 : Nat → Prop} {w : World}
    (touched : ∀ j, j ∈ Zr.map (·.1) → look H j = look Hi j) (a1 : ∀ i r, ρ1 i = some r → ρ i = some r) (hk : Keeps S w S1 w)
    (c1 : ∀ j, j ∈ Zr.map (·.1) → ∀ nn t k rows, look H j = some (.vec nn t k rows) → ∃ r, ρ j = some r ∧ RD S1 w r (.sl nn false (V.shareR rows)) [])
    {v : Value} {x : V} (hv : RV ρ S w v x) : RV ρ1 S1 w v (layV (layD Zr) x) := by
  unfold layV
  split
  · rename_i cs
    obtain ⟨arr, ha, hsz, h1c, hr⟩ := hv.agg_inv
    rw [ha]
    refine .agg arr _ (by simpa using hsz) h1c fun j x c hx hc => ?_
    rw [List.getElem?_map, Option.map_eq_some_iff] at hx
    obtain ⟨y, hy, rfl⟩ := hx
    obtain ⟨c', hc', hrv⟩ := hr j y hy
    rw [hc] at hc'
    cases hc'
    exact layC_sound hZr touched a1 hk c1 hrv
  · exact layC_sound hZr touched a1 hk c1 hv

/-- an operation that takes own slices as data: they are laid down -/
theorem OpOkL.lay {D : Tab} (hD : TabOk P D) {o : Oper} {q : Nat} {e : Operand → V} {Hi : Hp} {E : Eff} {Zr : List (Nat × List (List V))} (hZr : LayOk Hi Zr) (hn : decide (Zr.map (·.1)).Nodup = true)
    (h : effV D q (hrem (Zr.map (·.1)) Hi) (fun x => layV (layD Zr) (e x)) o.op = some E) : OpOkL P G o e { v := E.v, R := E.R, C := Zr.map (·.1) ++ E.C, new := E.new, N := E.N } Hi := by
  have hE := effV_sound (P := P) (G := G) hD h
  intro e' H he hH hN ρ S F η w hη hHr hG
  have touched : ∀ j, j ∈ Zr.map (·.1) → look H j = look Hi j := fun j hj => hH j (.inr (by unfold Eff.touch; simp only [Bool.or_eq_true, List.contains_iff_mem, List.mem_append]; exact .inl (.inl hj)))
  have hZ : ∀ j, j ∈ Zr.map (·.1) → ∃ nn t k rows, look H j = some (.vec nn t k rows) := fun j hj => by
    rw [touched j hj]
    obtain ⟨p, hp, rfl⟩ := List.mem_map.1 hj
    obtain ⟨nn, t, k, rows, h1, _⟩ := hZr.get hp
    exact ⟨nn, t, k, rows, h1⟩
  obtain ⟨ρ1, S1, hH1, a1, b1, c1, e1⟩ := hHr.lays (Zr.map (·.1)) (of_decide_eq_true hn) hZ
  have hk : Keeps S w S1 w := hHr.keeps e1
  have hop := hE (fun x => layV (layD Zr) (e' x)) (hrem (Zr.map (·.1)) H) (fun x hx => by rw [he x hx]) (fun x hx => ?_) ?_ ρ1 S1 F η w (fun x hx => layV_sound hZr touched a1 hk c1 (hη x hx)) hH1 (hG.mono hk)
  · refine hop.mono fun x w' hp => ?_
    obtain ⟨ρ', S', F', hv, hH', hE', hA'⟩ := hp
    have hlk : ∀ y, look (E.new ++ hrem (Zr.map (·.1) ++ E.C) H) y = look (E.new ++ hrem E.C (hrem (Zr.map (·.1)) H)) y := fun y => by
      simp only [look_app, hrem_hrem]
    have := e1.trans hE'
    exact ⟨ρ', S', F', hv, hH'.congr hlk, ⟨this.os, this.tape, this.output, this.size, this.keep, this.sub, this.newS, fun b hb => this.newU b (Ub.congr hlk hb)⟩, fun j r hj hN => a1 j r (hA' j r hj hN)⟩
  · rw [look_hrem, look_hrem]
    split
    · rfl
    · refine hH x (hx.imp id fun ht => ?_)
      unfold Eff.touch at ht ⊢
      simp only [Bool.or_eq_true, List.contains_iff_mem, List.mem_append] at ht ⊢
      exact ht.imp .inr id
  · refine List.all_eq_true.2 fun i hi => ?_
    have := List.all_eq_true.1 hN i hi
    simp only [Bool.not_eq_true'] at this ⊢
    cases hh : hasH i (hrem (Zr.map (·.1)) H) with
    | false => rfl
    | true => rw [hasH_hrem hh] at this; cases this

theorem W.layop {D : Tab} (hD : TabOk P D) {ops : Array Oper} {draw : Bool} {T0 : List V} {H0 : Hp} {i : Nat} {T : List V} {H : Hp} {Es : List (Bool × Eff)} {Q : St → Prop} {Zr : List (Nat × List (List V))} (hZr : LayOk H Zr) (hn : decide (Zr.map (·.1)).Nodup = true) (q : Nat) (E : Eff)
    (hE : (opW ops i T).bind (effV D q (hrem (Zr.map (·.1)) H) (fun x => layV (layD Zr) (ev G T x))) = some E)
    (k : W P G ops draw T0 H0 (i + 1) (setO T (dstW ops i) E.v) (E.new ++ hrem (Zr.map (·.1) ++ E.C) H) (Es ++ [(true, { v := E.v, R := E.R, C := Zr.map (·.1) ++ E.C, new := E.new, N := E.N })]) Q) : W P G ops draw T0 H0 i T H Es Q := by
  obtain ⟨op, h1, h2⟩ := Option.bind_eq_some_iff.1 hE
  exact W.gen { v := E.v, R := E.R, C := Zr.map (·.1) ++ E.C, new := E.new, N := E.N } h1 (fun o ho => OpOkL.lay hD hZr hn (by rw [ho]; exact h2)) k

/-! ### arguments as a contract takes them; K: the places of those that stay nil -/
def layK (Z : List (Nat × V)) (K : List Nat) : Nat → List V → List V
  | _, [] => []
  | i, x :: l => (if K.contains i then x else layV Z x) :: layK Z K (i + 1) l

theorem layK_get (Z : List (Nat × V)) (K : List Nat) : ∀ (n : Nat) (l : List V) (i : Nat) (y : V), (layK Z K n l)[i]? = some y → ∃ x, l[i]? = some x ∧ (y = x ∨ y = layV Z x)
  | _, [], i, y, h => by simp [layK] at h
  | n, x :: l, 0, y, h => by
    simp only [layK, List.getElem?_cons_zero, Option.some.injEq] at h
    refine ⟨x, by simp, ?_⟩
    subst h
    split
    · exact .inl rfl
    · exact .inr rfl
  | n, x :: l, i + 1, y, h => by
    simp only [layK, List.getElem?_cons_succ] at h
    obtain ⟨z, h1, h2⟩ := layK_get Z K (n + 1) l i y h
    exact ⟨z, by simpa using h1, h2⟩

theorem layK_len (Z : List (Nat × V)) (K : List Nat) : ∀ (n : Nat) (l : List V), (layK Z K n l).length = l.length
  | _, [] => rfl
  | n, x :: l => by simp [layK, layK_len Z K (n + 1) l]

theorem args_get {as : Array Operand} {η : Operand → Value} {e' : Operand → V} {ρ : Nat → Option Value} {S : Nat → Prop} {w : World} {arr : Array Value} {caps : List V} (hη : ∀ x, x ∈ as.toList → RV ρ S w (η x) (e' x)) (hsz : arr.size = caps.length)
    (hcap : ∀ (j : Nat) (x : V) (c : Value), caps[j]? = some x → arr[j]? = some c → RV ρ S w c x) {i : Nat} {x0 : V} (hx0 : (as.toList.map e' ++ caps)[i]? = some x0) : RV ρ S w ((as.map η ++ arr).getD i undef) x0 := by
  by_cases hi : i < as.size
  · rw [List.getElem?_append_left (by simpa using hi), List.getElem?_map, Option.map_eq_some_iff] at hx0
    obtain ⟨y, hy, rfl⟩ := hx0
    have hy' : as[i]? = some y := by simpa using hy
    have : (as.map η ++ arr).getD i undef = η y := by
      rw [Array.getD_eq_getD_getElem?, Array.getElem?_append_left (by simpa using hi), Array.getElem?_map, hy']; rfl
    rw [this]
    exact hη y (List.mem_of_getElem? hy)
  · rw [List.getElem?_append_right (by simpa using hi)] at hx0
    simp only [List.length_map, Array.length_toList] at hx0
    have hlt : i - as.size < arr.size := by rw [hsz]; exact (List.getElem?_eq_some_iff.1 hx0).1
    have : (as.map η ++ arr).getD i undef = arr[i - as.size] := by
      rw [Array.getD_eq_getD_getElem?, Array.getElem?_append_right (by simpa using hi)]
      simp [Array.getElem?_eq_getElem hlt]
    rw [this]
    exact hcap _ x0 _ hx0 (Array.getElem?_eq_getElem hlt)

theorem OpOkL.callK {o : Oper} {e : Operand → V} {Hi : Hp} {f : Operand} {as : Array Operand} {ats : Array TypeId} {fid : FuncId} {caps : List V} (ho : o.op = .call { callee := .value f, args := as, argTypes := ats }) (hf : e f = .fn fid caps) (hcf : callOk P fid)
    {vs : List V} {Hc Hc' : Hp} {rc : V} (h : AC P G fid vs Hc rc Hc') (q m : Ren) (Zr : List (Nat × List (List V))) (K : List Nat) (N : List Nat) (hn : namesOk q m (Zr.map (·.1)) N = true) (hHc' : nodupH Hc' = true)
    (hZr : LayOk Hi Zr) (hh : handV q Hi q = some Hc) (ha : V.rnL q (layK (layD Zr) K 0 (as.toList.map e ++ caps)) = vs) :
    OpOkL P G o e { v := rc.rn m, C := Zr.map (·.1) ++ q.map (·.1), new := keepH m Hc', N := N } Hi := by
  have hZ : ∀ j, j ∈ Zr.map (·.1) → ∃ nn t k rows, look Hi j = some (.vec nn t k rows) := fun j hj => by
    obtain ⟨p, hp, rfl⟩ := List.mem_map.1 hj
    obtain ⟨nn, t, k, rows, h1, _⟩ := hZr.get hp
    exact ⟨nn, t, k, rows, h1⟩
  unfold namesOk at hn
  simp only [Bool.and_eq_true, List.all_eq_true, decide_eq_true_eq, Bool.or_eq_true, Bool.not_eq_true'] at hn
  obtain ⟨⟨⟨⟨n1, n2⟩, n3⟩, n4⟩, n5⟩ := hn
  intro e' H he hH hN ρ S F η w hη hHr hG
  have touched : ∀ j, j ∈ Zr.map (·.1) ++ q.map (·.1) → look H j = look Hi j := fun j hj => hH j (.inr (by unfold Eff.touch; simp only [Bool.or_eq_true, List.contains_iff_mem]; exact .inl hj))
  have touchedZ : ∀ j, j ∈ Zr.map (·.1) → look H j = look Hi j := fun j hj => touched j (List.mem_append.2 (.inl hj))
  have hfop : f ∈ o.op.operands := by simp [ho, Op.operands, Call.operands]
  have hasop : ∀ x, x ∈ as.toList → x ∈ o.op.operands := fun x hx => by
    simp only [ho, Op.operands, Call.operands]
    exact Array.mem_append.2 (.inr (by simpa using hx))
  have hfe : e' f = .fn fid caps := (he f hfop).trans hf
  have hmap : as.toList.map e' = as.toList.map e := List.map_congr_left fun x hx => he x (hasop x hx)
  obtain ⟨ρ1, S1, hH1, a1, b1, c1, e1⟩ := hHr.lays (Zr.map (·.1)) n4 fun j hj => by
    obtain ⟨nn, t, k, rows, hl⟩ := hZ j hj
    exact ⟨nn, t, k, rows, by rw [touchedZ j hj]; exact hl⟩
  have hk : Keeps S w S1 w := hHr.keeps e1
  have hfv := hη f hfop
  rw [hfe] at hfv
  obtain ⟨arr, harr, hsz, hcap⟩ := hfv.fn_inv
  have fits : CallFits q m (layK (layD Zr) K 0 (as.toList.map e' ++ caps)) (hrem (Zr.map (·.1)) H) vs Hc rc Hc' (rc.rn m) (keepH m Hc' ++ hrem (q.map (·.1)) (hrem (Zr.map (·.1)) H)) N := by
    have hqZ : ∀ p, p ∈ q → p.1 ∉ Zr.map (·.1) ∧ mget q p.1 = some p.2 := fun p hp => by
      have := n5 p hp
      simp only [beq_iff_eq] at this
      exact ⟨fun hm => (by have h2 := this.1; rw [List.contains_iff_mem.2 hm] at h2; cases h2), this.2⟩
    refine ⟨n1, n2, ?_, handV_sub hh (fun p hp => (hqZ p hp).2) (fun p hp => ?_), rfl, fun j o' hj => ?_, fun i j hij hi => ?_, fun i j hij hi => ?_, fun j hj => ?_⟩
    · rw [hmap]
      have key : ∀ (l : List V), SubT q l (V.rnL q l) := SubT.rnL q
      rw [← ha]
      exact key _
    · rw [look_hrem, if_neg (hqZ p hp).1]
      exact touched p.1 (List.mem_append.2 (.inr (List.mem_map_of_mem hp)))
    · rw [look_app] at hj
      cases hkj : look (keepH m Hc') j with
      | some o2 =>
        rw [hkj] at hj
        cases hj
        obtain ⟨i, o2, h1, h2, h3⟩ := look_keepH (of_decide_eq_true hHc') hkj
        exact .inr ⟨i, o2, h1, h2, h3 ▸ Ob.rn_sub m o2⟩
      | none =>
        rw [hkj] at hj
        simp only at hj
        rw [look_hrem] at hj
        split at hj
        · cases hj
        · rename_i hnq
          refine .inl ⟨?_, hj, fun i hij => ?_⟩
          · cases hq : mget q j with
            | none => rfl
            | some i => exact absurd (List.mem_map_of_mem (f := (·.1)) (mget_mem hq)) hnq
          · have h3 := n3 _ (mget_mem hij)
            rcases Nat.lt_or_ge i 100 with hlt | hge
            · have := h3.1
              rcases this with h | h
              · rw [Nat.ble_eq] at h; simp only at h; omega
              · simp only [beq_iff_eq] at h
                exact hnq (List.mem_map_of_mem (f := (·.1)) (mget_mem h))
            · have := h3.2
              rcases this with h | h
              · rw [Nat.blt_eq] at h; simp only at h; omega
              · simp only [List.contains_iff_mem] at h
                have hNj := List.all_eq_true.1 hN j h
                simp only [Bool.not_eq_true'] at hNj
                have := (hasH_false hNj).1
                rw [look_hrem] at hj
                split at hj
                · cases hj
                · rw [this] at hj; cases hj
    · have h3 := (n3 _ (mget_mem hij)).1
      rcases h3 with h | h
      · rw [Nat.ble_eq] at h; simp only at h; omega
      · simpa using h
    · have h3 := (n3 _ (mget_mem hij)).2
      rcases h3 with h | h
      · rw [Nat.blt_eq] at h; simp only at h; omega
      · simpa using h
    · have hNj := List.all_eq_true.1 hN j hj
      simp only [Bool.not_eq_true'] at hNj
      rw [look_hrem]
      split
      · rfl
      · exact (hasH_false hNj).1
  unfold ExecTo execOp
  simp only [ho, resolve, harr, Deferred.ofValue, Sem.run_bind, Sem.run_pure, Result.andThen_ok, invoke, Array.empty_append]
  have hcf' := hcf (as.map η ++ arr) w
  simp only [hcf']
  have hcall := AC.call h fits (ρ := ρ1) (S := S1) (F := F) (xs := as.map η ++ arr) (w := w) (by simp [hsz, layK_len]) (fun i x hx => ?_) hH1 (hG.mono hk) (fun j o' hj i hi => ?_)
  · refine hcall.mono ?_
    rintro en w' ⟨x, rfl, hp⟩
    refine ⟨x, rfl, ?_⟩
    obtain ⟨ρ', S', F', hv, hH', hE', hA'⟩ := hp
    have hlk : ∀ y, look (keepH m Hc' ++ hrem (Zr.map (·.1) ++ q.map (·.1)) H) y = look (keepH m Hc' ++ hrem (q.map (·.1)) (hrem (Zr.map (·.1)) H)) y := fun y => by
      simp only [look_app, hrem_hrem]
    have := e1.trans hE'
    exact ⟨ρ', S', F', hv, hH'.congr hlk, ⟨this.os, this.tape, this.output, this.size, this.keep, this.sub, this.newS, fun b hb => this.newU b (Ub.congr hlk hb)⟩, fun j r hj hN => a1 j r (hA' j r hj hN)⟩
  · obtain ⟨x0, hx0, hy⟩ := layK_get _ _ _ _ _ _ hx
    have hrv := args_get (fun y hy => hη y (hasop y hy)) hsz hcap hx0
    rcases hy with rfl | rfl
    · exact hrv.mono (fun i r hi _ => a1 i r hi) hk
    · exact layV_sound hZr touchedZ a1 hk c1 hrv
  · rw [look_hrem] at hj
    split at hj
    · cases hj
    · have hNi := List.all_eq_true.1 hN i hi
      simp only [Bool.not_eq_true'] at hNi
      exact (hasH_false hNi).2 j o' hj

def callK (G : Nat → Option (List V)) (ops : Array Oper) (q : Ren) (Z : List (Nat × List (List V))) (K : List Nat) (i : Nat) (T : List V) (H : Hp) : Option (FuncId × List V × Hp) :=
  match opW ops i T with
  | some (.call { callee := .value f, args := as, argTypes := _ }) => match ev G T f, handV q H q with
    | .fn fid caps, some Hc => some (fid, V.rnL q (layK (layD Z) K 0 (as.toList.map (ev G T) ++ caps)), Hc)
    | _, _ => none
  | _ => none

theorem W.callK {ops : Array Oper} {draw : Bool} {T0 : List V} {H0 : Hp} {i : Nat} {T : List V} {H : Hp} {Es : List (Bool × Eff)} {Q : St → Prop} {fid : FuncId} {vs : List V} {Hc Hc' : Hp} {rc : V} (h : AC P G fid vs Hc rc Hc') (hcf : callOk P fid) (q m : Ren) (K : List Nat) {Z : List (Nat × List (List V))} (N : List Nat) (hZ : LayOk H Z) (hn : (namesOk q m (Z.map (·.1)) N && nodupH Hc') = true)
    (hc : Av.callK G ops q Z K i T H = some (fid, vs, Hc))
    (k : W P G ops draw T0 H0 (i + 1) (setO T (dstW ops i) (rc.rn m)) (keepH m Hc' ++ hrem (Z.map (·.1) ++ q.map (·.1)) H) (Es ++ [(true, { v := rc.rn m, C := Z.map (·.1) ++ q.map (·.1), new := keepH m Hc', N := N })]) Q) : W P G ops draw T0 H0 i T H Es Q := by
  simp only [Bool.and_eq_true] at hn
  unfold Av.callK at hc
  split at hc
  · rename_i f as ats hop
    split at hc
    · rename_i fid' caps Hc2 hf hh
      cases hc
      exact W.gen _ hop (fun o ho => OpOkL.callK ho hf hcf h q m Z K N hn.1 hn.2 hZ hh rfl) k
    · cases hc
  · cases hc

/-! ### a call to which own slices are lent: it reads them, and hands back nothing that lies in them -/
theorem OpOkL.lend {o : Oper} {e : Operand → V} {Hi : Hp} {f : Operand} {as : Array Operand} {ats : Array TypeId} {fid : FuncId} {caps : List V} (ho : o.op = .call { callee := .value f, args := as, argTypes := ats }) (hf : e f = .fn fid caps) (hcf : callOk P fid)
    {vs : List V} {Hc' : Hp} {rc : V} (h : AC P G fid vs [] rc Hc') (m : Ren) (Zr : List (Nat × List (List V))) (N : List Nat) (hn : namesOk [] m (Zr.map (·.1)) N = true) (hHc' : nodupH Hc' = true)
    (hZr : LayOk Hi Zr) (hd : Deep rc) (hdH : DeepH Hc') (ha : V.rnL [] ((as.toList.map e ++ caps).map (layV (layD Zr))) = vs) :
    OpOkL P G o e { v := rc.rn m, R := Zr.map (·.1), new := keepH m Hc', N := N } Hi := by
  unfold namesOk at hn
  simp only [Bool.and_eq_true, List.all_eq_true, decide_eq_true_eq, Bool.or_eq_true, Bool.not_eq_true'] at hn
  obtain ⟨⟨⟨⟨n1, n2⟩, n3⟩, n4⟩, n5⟩ := hn
  intro e' H he hH hN ρ S F η w hη hHr hG
  have touchedZ : ∀ j, j ∈ Zr.map (·.1) → look H j = look Hi j := fun j hj => hH j (.inl hj)
  have hZ : ∀ j, j ∈ Zr.map (·.1) → ∃ nn t k rows, look H j = some (.vec nn t k rows) := fun j hj => by
    rw [touchedZ j hj]
    obtain ⟨p, hp, rfl⟩ := List.mem_map.1 hj
    obtain ⟨nn, t, k, rows, h1, _⟩ := hZr.get hp
    exact ⟨nn, t, k, rows, h1⟩
  have hfop : f ∈ o.op.operands := by simp [ho, Op.operands, Call.operands]
  have hasop : ∀ x, x ∈ as.toList → x ∈ o.op.operands := fun x hx => by
    simp only [ho, Op.operands, Call.operands]
    exact Array.mem_append.2 (.inr (by simpa using hx))
  have hfe : e' f = .fn fid caps := (he f hfop).trans hf
  have hmap : as.toList.map e' = as.toList.map e := List.map_congr_left fun x hx => he x (hasop x hx)
  obtain ⟨ρ1, S1, hH1, a1, b1, c1, e1⟩ := hHr.lays (Zr.map (·.1)) n4 hZ
  have hk : Keeps S w S1 w := hHr.keeps e1
  have hfv := hη f hfop
  rw [hfe] at hfv
  obtain ⟨arr, harr, hsz, hcap⟩ := hfv.fn_inv
  unfold ExecTo execOp
  simp only [ho, resolve, harr, Deferred.ofValue, Sem.run_bind, Sem.run_pure, Result.andThen_ok, invoke, Array.empty_append]
  simp only [hcf (as.map η ++ arr) w]
  have hH0 : HRel (fun _ => none) S1 (fun _ => []) [] w := ⟨fun _ _ => rfl, fun i o h => by simp [look] at h, fun i o h => by simp [look] at h, fun i j o p b h => by simp [look] at h, fun i o b h => by simp [look] at h, fun i o b h => by simp [look] at h, hH1.slt⟩
  refine (h (fun _ => none) S1 (fun _ => []) (as.map η ++ arr) w ?_ (fun i x hx => ?_) hH0 (hG.mono hk)).mono ?_
  · rw [← ha, V.rnL_eq]; simp [hsz]
  · rw [← ha, V.rnL_eq, List.getElem?_map, Option.map_eq_some_iff] at hx
    obtain ⟨y, hy, rfl⟩ := hx
    rw [List.getElem?_map, Option.map_eq_some_iff] at hy
    obtain ⟨x0, hx0, rfl⟩ := hy
    rw [← hmap] at hx0
    exact (layV_sound hZr touchedZ a1 hk c1 (args_get (fun y hy => hη y (hasop y hy)) hsz hcap hx0)).rn (fun i j r hi _ => by simp [mget] at hi)
  · rintro en w' ⟨x, ρ', S', F', rfl, hx, hHn, hE, hA⟩
    have hUn : ∀ b, ¬ Ub ([] : Hp) (fun _ => []) b := fun b ⟨i, o, h1, _⟩ => by simp [look] at h1
    have hold : ∀ b, b < w.heap.size → w'.heap[b]? = w.heap[b]? := fun b hb => hE.keep b hb (hUn b)
    have hks : Keeps S w S w' := fun b hb => ⟨hb, hold b (hHr.slt b hb)⟩
    have hsub : SubH m Hc' (keepH m Hc') := keepH_sub (of_decide_eq_true hHc') Hc' fun _ hp => hp
    obtain ⟨ρ2, F2, hH2, k2, k3, k4⟩ := hHn.rn n2 hsub
    -- the new objects' names are new
    have hfresh : ∀ i j, mget m i = some j → hasH j H = false := fun i j hij => by
      have h3 := n3 _ (mget_mem hij)
      have hj : j ∈ N := by
        rcases h3.2 with h | h
        · rcases h3.1 with h' | h'
          · rw [Nat.blt_eq] at h; rw [Nat.ble_eq] at h'; simp only at h h'; omega
          · simp [mget] at h'
        · simpa using h
      simpa using List.all_eq_true.1 hN j hj
    have hKm : ∀ j o', look (keepH m Hc') j = some o' → ∃ i o, mget m i = some j ∧ look Hc' i = some o ∧ F2 j = F' i ∧ ρ2 j = ρ' i := k4
    let K := keepH m Hc'
    let ρ3 : Nat → Option Value := fun j => if (look K j).isSome then ρ2 j else ρ j
    let F3 : Nat → List Nat := fun j => if (look K j).isSome then F2 j else F j
    have hKH : ∀ j o', look K j = some o' → look H j = none ∧ ∀ p o, look H p = some o → o.has j = false := fun j o' hj => by
      obtain ⟨i, o, hi, _⟩ := hKm j o' hj
      exact hasH_false (hfresh i j hi)
    have hnew : ∀ j o' b, look K j = some o' → b ∈ F2 j → w.heap.size ≤ b := fun j o' b hj hb => by
      obtain ⟨i, o, hi, hl, hF, _⟩ := hKm j o' hj
      rw [hF] at hb
      rcases hE.newU b ⟨i, o, hl, hb⟩ with h | h
      · exact absurd h (hUn b)
      · exact h
    have lk : ∀ j o', look (K ++ hrem [] H) j = some o' → (look K j = some o') ∨ (look K j = none ∧ look H j = some o') := fun j o' hj => by
      rw [look_app, hrem_nil] at hj
      split at hj
      · rename_i o2 h2; cases hj; exact .inl h2
      · rename_i h2; exact .inr ⟨h2, hj⟩
    have hAN : AgN ρ ρ3 N := fun j r hr hj => by
      simp only [ρ3] at hr
      split at hr
      · rename_i hs
        obtain ⟨o', ho'⟩ := Option.isSome_iff_exists.1 hs
        obtain ⟨i, o, hi, _⟩ := hKm j o' ho'
        have h3 := n3 _ (mget_mem hi)
        rcases h3.2 with h | h
        · rcases h3.1 with h' | h'
          · rw [Nat.blt_eq] at h; rw [Nat.ble_eq] at h'; simp only at h h'; omega
          · simp [mget] at h'
        · exact absurd (by simpa using h) hj
      · exact hr
    refine ⟨x, rfl, ρ3, S, F3, ?_, ⟨fun j hj => ?_, fun j o' hj => ?_, fun j o' hj => ?_, fun j j' o' p' b hj hj' hne hb hb' => ?_, fun j o' b hj hb => ?_, fun j o' b hj hb => ?_, fun b hb => Nat.lt_of_lt_of_le (hHr.slt b hb) hE.size⟩,
      ⟨hE.os, hE.tape, hE.output, hE.size, fun b hb _ => hold b hb, fun _ hb => hb, fun _ hb => .inl hb, fun b hb => ?_⟩, hAN⟩
    · refine ((hx.deep (S' := S) hd).rn (m := m) (ρ' := ρ3) fun i j r hi hr => ?_)
      simp only [ρ3] at hr
      split at hr
      · exact k2 i j r hi hr
      · have := (hasH_false (hfresh i j hi)).1
        rw [hHr.dom j this] at hr; cases hr
    · rw [look_app, hrem_nil] at hj
      split at hj
      · cases hj
      · rename_i h2
        simp only [ρ3]
        rw [show look K j = none from h2]
        exact hHr.dom j hj
    · rcases lk j o' hj with h1 | ⟨h1, h2⟩
      · obtain ⟨r, hr, hob⟩ := hH2.obj j o' h1
        obtain ⟨i, o, hi, hl, hF, hρ⟩ := hKm j o' h1
        refine ⟨r, by simp only [ρ3, h1]; exact hr, ?_⟩
        simp only [F3, h1, Option.isSome_some, if_true]
        obtain ⟨i2, o2, hi2, hl2, hoo⟩ := look_keepH (of_decide_eq_true hHc') h1
        obtain ⟨nn, e0, k0, rows, rfl, hdr⟩ := hdH.get hl2
        subst hoo
        exact hob.deep hdr
      · obtain ⟨r, hr, hob⟩ := hHr.obj j o' h2
        refine ⟨r, by simp only [ρ3, h1]; exact hr, ?_⟩
        simp only [F3, h1, Option.isSome_none]
        refine hob.mono (fun i r' hi hh => ?_) hks (fun b hb => hold b (hHr.lt j o' b h2 hb))
        simp only [ρ3] at hi
        split at hi
        · rename_i hs
          obtain ⟨o2, ho2⟩ := Option.isSome_iff_exists.1 hs
          rw [(hKH i o2 ho2).2 j o' h2] at hh; cases hh
        · exact hi
    · rcases lk j o' hj with h1 | ⟨h1, h2⟩
      · simp only [F3, h1, Option.isSome_some, if_true]; exact hH2.nodup j o' h1
      · simp only [F3, h1, Option.isSome_none]; exact hHr.nodup j o' h2
    · rcases lk j o' hj with h1 | ⟨h1, h2⟩ <;> rcases lk j' p' hj' with h1' | ⟨h1', h2'⟩
      · simp only [F3, h1, h1', Option.isSome_some, if_true] at hb hb'
        exact hH2.disj j j' o' p' b h1 h1' hne hb hb'
      · simp only [F3, h1, h1', Option.isSome_some, if_true, Option.isSome_none] at hb hb'
        have := hnew j o' b h1 hb
        have := hHr.lt j' p' b h2' hb'
        omega
      · simp only [F3, h1, h1', Option.isSome_some, if_true, Option.isSome_none] at hb hb'
        have := hnew j' p' b h1' hb'
        have := hHr.lt j o' b h2 hb
        omega
      · simp only [F3, h1, h1', Option.isSome_none] at hb hb'
        exact hHr.disj j j' o' p' b h2 h2' hne hb hb'
    · rcases lk j o' hj with h1 | ⟨h1, h2⟩
      · simp only [F3, h1, Option.isSome_some, if_true] at hb
        intro hs
        have := hnew j o' b h1 hb
        have := hHr.slt b hs
        omega
      · simp only [F3, h1, Option.isSome_none] at hb
        exact hHr.sep j o' b h2 hb
    · rcases lk j o' hj with h1 | ⟨h1, h2⟩
      · simp only [F3, h1, Option.isSome_some, if_true] at hb
        exact hH2.lt j o' b h1 hb
      · simp only [F3, h1, Option.isSome_none] at hb
        exact Nat.lt_of_lt_of_le (hHr.lt j o' b h2 hb) hE.size
    · obtain ⟨j, o', hj, hb⟩ := hb
      rcases lk j o' hj with h1 | ⟨h1, h2⟩
      · simp only [F3, h1, Option.isSome_some, if_true] at hb
        exact .inr (hnew j o' b h1 hb)
      · simp only [F3, h1, Option.isSome_none] at hb
        exact .inl ⟨j, o', h2, hb⟩

theorem W.lend {ops : Array Oper} {draw : Bool} {T0 : List V} {H0 : Hp} {i : Nat} {T : List V} {H : Hp} {Es : List (Bool × Eff)} {Q : St → Prop} {fid : FuncId} {vs : List V} {Hc' : Hp} {rc : V} (h : AC P G fid vs [] rc Hc') (hcf : callOk P fid) (m : Ren) {Z : List (Nat × List (List V))} (N : List Nat) (hZ : LayOk H Z) (hd : Deep rc) (hdH : DeepH Hc') (hn : (namesOk [] m (Z.map (·.1)) N && nodupH Hc') = true)
    (hc : callW G ops [] Z i T H = some (fid, vs, []))
    (k : W P G ops draw T0 H0 (i + 1) (setO T (dstW ops i) (rc.rn m)) (keepH m Hc' ++ H) (Es ++ [(true, { v := rc.rn m, R := Z.map (·.1), new := keepH m Hc', N := N })]) Q) : W P G ops draw T0 H0 i T H Es Q := by
  simp only [Bool.and_eq_true] at hn
  unfold callW at hc
  split at hc
  · rename_i f as ats hop
    split at hc
    · rename_i fid' caps Hc2 hf hh
      cases hc
      refine W.gen { v := rc.rn m, R := Z.map (·.1), new := keepH m Hc', N := N } hop (fun o ho => OpOkL.lend ho hf hcf h m Z N hn.1 hn.2 hZ hd hdH rfl) ?_
      rw [hrem_nil]
      exact k
    · cases hc
  · cases hc

/-- an own slice that comes in as nil -/
theorem AC.nilArg {f : FuncId} {vs : List V} {H H' : Hp} {r : V} (p i e k : Nat) (h : AC P G f vs ((i, .vec false e k []) :: H) r H') (hi : hasH i H = false) (hH' : look H' i = none)
    (hp : (vs[p]?).isSome = true) (hh : V.hasL i (vs.set p .junk) = false) (hv : vs = vs.set p (.own i)) : AC P G f (vs.set p (.c (.slice none 0 0))) H r H' := by
  intro ρ S F xs w hsz hxs hH hG
  refine (h _ S _ xs w (by simpa using hsz) (fun j x hx => ?_) (hH.addNil (e := e) (k := k) hi) hG).mono ?_
  · by_cases hj : j = p
    · subst hj
      have hx2 := hxs j (.c (.slice none 0 0)) (by rw [List.getElem?_set]; rw [if_pos rfl]; rw [if_pos]; exact (List.getElem?_eq_some_iff.1 hx).1)
      rw [hv, List.getElem?_set, if_pos rfl] at hx
      split at hx
      · cases hx
        rw [hx2.c_inv]
        exact .own _ i fun r hr => by simp only [if_true] at hr; cases hr; rfl
      · cases hx
    · have hx2 := hxs j x (by rw [List.getElem?_set, if_neg (Ne.symm hj)]; exact hx)
      refine hx2.mono (fun q r hq hh' => ?_) fun b hb => ⟨hb, rfl⟩
      split at hq
      · subst_vars
        have hm : x ∈ vs.set p .junk := List.mem_of_getElem? (i := j) (by rw [List.getElem?_set, if_neg (Ne.symm hj)]; exact hx)
        rw [hasL_false hh hm] at hh'; cases hh'
      · exact hq
  · rintro en w' ⟨x, ρ', S', F', he, hx, hH2, hE, hA⟩
    refine ⟨x, ρ', S', F', he, hx, hH2, ⟨hE.os, hE.tape, hE.output, hE.size, fun b hb hu => hE.keep b hb fun h => hu (Ub.addNil h), hE.sub, fun b hb => (hE.newS b hb).imp id (Or.imp Ub.addNil id), fun b hb => (hE.newU b hb).imp Ub.addNil id⟩, fun j r hj hr => ?_⟩
    have := hA j r hj hr
    simp only at this
    split at this
    · subst_vars; rw [hH2.dom _ hH'] at hr; cases hr
    · exact this

/-- element of a slice that is data, its cells told by hand -/
theorem W.ixDr {D : Tab} (hD : TabOk P D) {ops : Array Oper} {draw : Bool} {T0 : List V} {H0 : Hp} {i : Nat} {T : List V} {H : Hp} {Es : List (Bool × Eff)} {Q : St → Prop} {α : Type} (enc : α → List V) {l : List α} {n : Int} {x : α} (hx : ix l n = some x)
    (sz : Nat) (h : Av.ixD D G ops i T = some (l.map enc, n, sz)) {row : List V} (hr : enc x = row) (hs : row.length = sz)
    (k : W P G ops draw T0 H0 (i + 1) (setO T (dstW ops i) (.el row)) H (Es ++ [(true, { v := .el row })]) Q) : W P G ops draw T0 H0 i T H Es Q := by
  subst hr
  exact W.ixD hD enc hx sz h hs k

theorem hput_self {H : Hp} {i : Nat} {o : Ob} (h : look H i = some o) : hput H i o = H := by
  induction H with
  | nil => cases h
  | cons p H ih =>
    obtain ⟨j, p⟩ := p
    simp only [look] at h
    simp only [hput]
    split
    · subst_vars; rw [if_pos rfl] at h; cases h; rfl
    · rename_i hne; rw [if_neg hne] at h; rw [ih h]

/-- an object's rows told otherwise -/
theorem W.vecEq {ops : Array Oper} {draw : Bool} {T0 : List V} {H0 : Hp} {i : Nat} {T : List V} {H : Hp} {Es : List (Bool × Eff)} {Q : St → Prop} (j : Nat) {nn : Bool} {e k : Nat} {rows rows' : List (List V)} (h : look H j = some (.vec nn e k rows)) (he : rows = rows')
    (k' : W P G ops draw T0 H0 i T (hput H j (.vec nn e k rows')) Es Q) : W P G ops draw T0 H0 i T H Es Q := by
  subst he
  rw [hput_self h] at k'
  exact k'

end
end Go.Av
