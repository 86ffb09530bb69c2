/-
  Abstract values, states, walks, part 5.
-/
import Derived.Test.YtefhoiablidajaaDoorCore4
import Derived.Lib.Bytealg
import Derived.Laws.Externs
import Derived.OpenShut
import Derived.OpenVars
import Derived.ChangeArms
set_option linter.unusedSimpArgs false
set_option linter.unusedVariables false

namespace Go.Av

section
variable {P : Program} {G : Nat → Option (List V)}

theorem layC_sound {H Hi : Hp} {Zr : List (Nat × List (List V))} (hZr : LayOk Hi Zr) {ρ ρ1 : Nat → Option Value} {S S1 : Nat → Prop} {w : World}
    (touched : ∀ j, j ∈ Zr.map (·.1) → look H j = look Hi j) (a1 : ∀ i r, ρ1 i = some r → ρ i = some r) (hk : Keeps S w S1 w)
    (c1 : ∀ j, j ∈ Zr.map (·.1) → ∀ nn t k rows, look H j = some (.vec nn t k rows) → ∃ r, ρ j = some r ∧ RD S1 w r (.sl nn false (V.shareR rows)) [])
    {v : Value} {x : V} (hv : RV ρ S w v x) : RV ρ1 S1 w v (layC (layD Zr) x) := by
  unfold layC
  split
  · rename_i j
    split
    · rename_i p hp
      have hpm := List.mem_of_find?_eq_some hp
      have hpj := List.find?_some hp
      simp only [beq_iff_eq] at hpj
      unfold layD at hpm
      rw [List.mem_map] at hpm
      obtain ⟨p', hp', rfl⟩ := hpm
      simp only at hpj
      obtain ⟨nn, t, k, rows, hl, hsh⟩ := hZr.get hp'
      have hjZ : p'.1 ∈ Zr.map (·.1) := List.mem_map_of_mem hp'
      subst hpj
      obtain ⟨r, hr, hd⟩ := c1 p'.1 hjZ nn t k rows (by rw [touched p'.1 hjZ]; exact hl)
      rw [hv.own_inv r hr]
      rw [hsh] at hd
      exact .sl _ _ _ _ hd.low
    · exact hv.mono (fun i r hi _ => a1 i r hi) hk
  · rw [hv.c_inv]; exact .sl _ _ _ _ (.nils false)
  · exact hv.mono (fun i r hi _ => a1 i r hi) hk

theorem layV_sound {H Hi : Hp} {Zr : List (Nat × List (List V))} (hZr : LayOk Hi Zr) {ρ ρ1 : Nat → Option Value} {S S1 : Nat → Prop} {w : World}
    (touched : ∀ j, j ∈ Zr.map (·.1) → look H j = look Hi j) (a1 : ∀ i r, ρ1 i = some r → ρ i = some r) (hk : Keeps S w S1 w)
    (c1 : ∀ j, j ∈ Zr.map (·.1) → ∀ nn t k rows, look H j = some (.vec nn t k rows) → ∃ r, ρ j = some r ∧ RD S1 w r (.sl nn false (V.shareR rows)) [])
    {v : Value} {x : V} (hv : RV ρ S w v x) : RV ρ1 S1 w v (layV (layD Zr) x) := by
  unfold layV
  split
  · rename_i cs
    obtain ⟨arr, ha, hsz, h1c, hr⟩ := hv.agg_inv
    rw [ha]
    refine .agg arr _ (by simpa using hsz) h1c fun j x c hx hc => ?_
    rw [List.getElem?_map, Option.map_eq_some_iff] at hx
    obtain ⟨y, hy, rfl⟩ := hx
    obtain ⟨c', hc', hrv⟩ := hr j y hy
    rw [hc] at hc'
    cases hc'
    exact layC_sound hZr touched a1 hk c1 hrv
  · exact layC_sound hZr touched a1 hk c1 hv

/-- an operation that takes own slices as data: they are laid down -/
theorem OpOkL.lay {D : Tab} (hD : TabOk P D) {o : Oper} {q : Nat} {e : Operand → V} {Hi : Hp} {E : Eff} {Zr : List (Nat × List (List V))} (hZr : LayOk Hi Zr) (hn : decide (Zr.map (·.1)).Nodup = true)
    (h : effV D q (hrem (Zr.map (·.1)) Hi) (fun x => layV (layD Zr) (e x)) o.op = some E) : OpOkL P G o e { v := E.v, R := E.R, C := Zr.map (·.1) ++ E.C, new := E.new, N := E.N } Hi := by
  have hE := effV_sound (P := P) (G := G) hD h
  intro e' H he hH hN ρ S F η w hη hHr hG
  have touched : ∀ j, j ∈ Zr.map (·.1) → look H j = look Hi j := fun j hj => hH j (.inr (by unfold Eff.touch; simp only [Bool.or_eq_true, List.contains_iff_mem, List.mem_append]; exact .inl (.inl hj)))
  have hZ : ∀ j, j ∈ Zr.map (·.1) → ∃ nn t k rows, look H j = some (.vec nn t k rows) := fun j hj => by
    rw [touched j hj]
    obtain ⟨p, hp, rfl⟩ := List.mem_map.1 hj
    obtain ⟨nn, t, k, rows, h1, _⟩ := hZr.get hp
    exact ⟨nn, t, k, rows, h1⟩
  obtain ⟨ρ1, S1, hH1, a1, b1, c1, e1⟩ := hHr.lays (Zr.map (·.1)) (of_decide_eq_true hn) hZ
  have hk : Keeps S w S1 w := hHr.keeps e1
  have hop := hE (fun x => layV (layD Zr) (e' x)) (hrem (Zr.map (·.1)) H) (fun x hx => by rw [he x hx]) (fun x hx => ?_) ?_ ρ1 S1 F η w (fun x hx => layV_sound hZr touched a1 hk c1 (hη x hx)) hH1 (hG.mono hk)
  · refine hop.mono fun x w' hp => ?_
    obtain ⟨ρ', S', F', hv, hH', hE', hA'⟩ := hp
    have hlk : ∀ y, look (E.new ++ hrem (Zr.map (·.1) ++ E.C) H) y = look (E.new ++ hrem E.C (hrem (Zr.map (·.1)) H)) y := fun y => by
      simp only [look_app, hrem_hrem]
    have := e1.trans hE'
    exact ⟨ρ', S', F', hv, hH'.congr hlk, ⟨this.os, this.tape, this.output, this.size, this.keep, this.sub, this.newS, fun b hb => this.newU b (Ub.congr hlk hb)⟩, fun j r hj hN => a1 j r (hA' j r hj hN)⟩
  · rw [look_hrem, look_hrem]
    split
    · rfl
    · refine hH x (hx.imp id fun ht => ?_)
      unfold Eff.touch at ht ⊢
      simp only [Bool.or_eq_true, List.contains_iff_mem, List.mem_append] at ht ⊢
      exact ht.imp .inr id
  · refine List.all_eq_true.2 fun i hi => ?_
    have := List.all_eq_true.1 hN i hi
    simp only [Bool.not_eq_true'] at this ⊢
    cases hh : hasH i (hrem (Zr.map (·.1)) H) with
    | false => rfl
    | true => rw [hasH_hrem hh] at this; cases this

theorem W.layop {D : Tab} (hD : TabOk P D) {ops : Array Oper} {draw : Bool} {T0 : List V} {H0 : Hp} {i : Nat} {T : List V} {H : Hp} {Es : List (Bool × Eff)} {Q : St → Prop} {Zr : List (Nat × List (List V))} (hZr : LayOk H Zr) (hn : decide (Zr.map (·.1)).Nodup = true) (q : Nat) (E : Eff)
    (hE : (opW ops i T).bind (effV D q (hrem (Zr.map (·.1)) H) (fun x => layV (layD Zr) (ev G T x))) = some E)
    (k : W P G ops draw T0 H0 (i + 1) (setO T (dstW ops i) E.v) (E.new ++ hrem (Zr.map (·.1) ++ E.C) H) (Es ++ [(true, { v := E.v, R := E.R, C := Zr.map (·.1) ++ E.C, new := E.new, N := E.N })]) Q) : W P G ops draw T0 H0 i T H Es Q := by
  obtain ⟨op, h1, h2⟩ := Option.bind_eq_some_iff.1 hE
  exact W.gen { v := E.v, R := E.R, C := Zr.map (·.1) ++ E.C, new := E.new, N := E.N } h1 (fun o ho => OpOkL.lay hD hZr hn (by rw [ho]; exact h2)) k

/-! ### arguments as a contract takes them; K: the places of those that stay nil -/
def layK (Z : List (Nat × V)) (K : List Nat) : Nat → List V → List V
  | _, [] => []
  | i, x :: l => (if K.contains i then x else layV Z x) :: layK Z K (i + 1) l

theorem layK_get (Z : List (Nat × V)) (K : List Nat) : ∀ (n : Nat) (l : List V) (i : Nat) (y : V), (layK Z K n l)[i]? = some y → ∃ x, l[i]? = some x ∧ (y = x ∨ y = layV Z x)
  | _, [], i, y, h => by simp [layK] at h
  | n, x :: l, 0, y, h => by
    simp only [layK, List.getElem?_cons_zero, Option.some.injEq] at h
    refine ⟨x, by simp, ?_⟩
    subst h
    split
    · exact .inl rfl
    · exact .inr rfl
  | n, x :: l, i + 1, y, h => by
    simp only [layK, List.getElem?_cons_succ] at h
    obtain ⟨z, h1, h2⟩ := layK_get Z K (n + 1) l i y h
    exact ⟨z, by simpa using h1, h2⟩

theorem layK_len (Z : List (Nat × V)) (K : List Nat) : ∀ (n : Nat) (l : List V), (layK Z K n l).length = l.length
  | _, [] => rfl
  | n, x :: l => by simp [layK, layK_len Z K (n + 1) l]

theorem args_get {as : Array Operand} {η : Operand → Value} {e' : Operand → V} {ρ : Nat → Option Value} {S : Nat → Prop} {w : World} {arr : Array Value} {caps : List V} (hη : ∀ x, x ∈ as.toList → RV ρ S w (η x) (e' x)) (hsz : arr.size = caps.length)
    (hcap : ∀ (j : Nat) (x : V) (c : Value), caps[j]? = some x → arr[j]? = some c → RV ρ S w c x) {i : Nat} {x0 : V} (hx0 : (as.toList.map e' ++ caps)[i]? = some x0) : RV ρ S w ((as.map η ++ arr).getD i undef) x0 := by
  by_cases hi : i < as.size
  · rw [List.getElem?_append_left (by simpa using hi), List.getElem?_map, Option.map_eq_some_iff] at hx0
    obtain ⟨y, hy, rfl⟩ := hx0
    have hy' : as[i]? = some y := by simpa using hy
    have : (as.map η ++ arr).getD i undef = η y := by
      rw [Array.getD_eq_getD_getElem?, Array.getElem?_append_left (by simpa using hi), Array.getElem?_map, hy']; rfl
    rw [this]
    exact hη y (List.mem_of_getElem? hy)
  · rw [List.getElem?_append_right (by simpa using hi)] at hx0
    simp only [List.length_map, Array.length_toList] at hx0
    have hlt : i - as.size < arr.size := by rw [hsz]; exact (List.getElem?_eq_some_iff.1 hx0).1
    have : (as.map η ++ arr).getD i undef = arr[i - as.size] := by
      rw [Array.getD_eq_getD_getElem?, Array.getElem?_append_right (by simpa using hi)]
      simp [Array.getElem?_eq_getElem hlt]
    rw [this]
    exact hcap _ x0 _ hx0 (Array.getElem?_eq_getElem hlt)

theorem OpOkL.callK {o : Oper} {e : Operand → V} {Hi : Hp} {f : Operand} {as : Array Operand} {ats : Array TypeId} {fid : FuncId} {caps : List V} (ho : o.op = .call { callee := .value f, args := as, argTypes := ats }) (hf : e f = .fn fid caps) (hcf : callOk P fid)
    {vs : List V} {Hc Hc' : Hp} {rc : V} (h : AC P G fid vs Hc rc Hc') (q m : Ren) (Zr : List (Nat × List (List V))) (K : List Nat) (N : List Nat) (hn : namesOk q m (Zr.map (·.1)) N = true) (hHc' : nodupH Hc' = true)
    (hZr : LayOk Hi Zr) (hh : handV q Hi q = some Hc) (ha : V.rnL q (layK (layD Zr) K 0 (as.toList.map e ++ caps)) = vs) :
    OpOkL P G o e { v := rc.rn m, C := Zr.map (·.1) ++ q.map (·.1), new := keepH m Hc', N := N } Hi := by
  have hZ : ∀ j, j ∈ Zr.map (·.1) → ∃ nn t k rows, look Hi j = some (.vec nn t k rows) := fun j hj => by
    obtain ⟨p, hp, rfl⟩ := List.mem_map.1 hj
    obtain ⟨nn, t, k, rows, h1, _⟩ := hZr.get hp
    exact ⟨nn, t, k, rows, h1⟩
  unfold namesOk at hn
  simp only [Bool.and_eq_true, List.all_eq_true, decide_eq_true_eq, Bool.or_eq_true, Bool.not_eq_true'] at hn
  obtain ⟨⟨⟨⟨n1, n2⟩, n3⟩, n4⟩, n5⟩ := hn
  intro e' H he hH hN ρ S F η w hη hHr hG
  have touched : ∀ j, j ∈ Zr.map (·.1) ++ q.map (·.1) → look H j = look Hi j := fun j hj => hH j (.inr (by unfold Eff.touch; simp only [Bool.or_eq_true, List.contains_iff_mem]; exact .inl hj))
  have touchedZ : ∀ j, j ∈ Zr.map (·.1) → look H j = look Hi j := fun j hj => touched j (List.mem_append.2 (.inl hj))
  have hfop : f ∈ o.op.operands := by simp [ho, Op.operands, Call.operands]
  have hasop : ∀ x, x ∈ as.toList → x ∈ o.op.operands := fun x hx => by
    simp only [ho, Op.operands, Call.operands]
    exact Array.mem_append.2 (.inr (by simpa using hx))
  have hfe : e' f = .fn fid caps := (he f hfop).trans hf
  have hmap : as.toList.map e' = as.toList.map e := List.map_congr_left fun x hx => he x (hasop x hx)
  obtain ⟨ρ1, S1, hH1, a1, b1, c1, e1⟩ := hHr.lays (Zr.map (·.1)) n4 fun j hj => by
    obtain ⟨nn, t, k, rows, hl⟩ := hZ j hj
    exact ⟨nn, t, k, rows, by rw [touchedZ j hj]; exact hl⟩
  have hk : Keeps S w S1 w := hHr.keeps e1
  have hfv := hη f hfop
  rw [hfe] at hfv
  obtain ⟨arr, harr, hsz, hcap⟩ := hfv.fn_inv
  have fits : CallFits q m (layK (layD Zr) K 0 (as.toList.map e' ++ caps)) (hrem (Zr.map (·.1)) H) vs Hc rc Hc' (rc.rn m) (keepH m Hc' ++ hrem (q.map (·.1)) (hrem (Zr.map (·.1)) H)) N := by
    have hqZ : ∀ p, p ∈ q → p.1 ∉ Zr.map (·.1) ∧ mget q p.1 = some p.2 := fun p hp => by
      have := n5 p hp
      simp only [beq_iff_eq] at this
      exact ⟨fun hm => (by have h2 := this.1; rw [List.contains_iff_mem.2 hm] at h2; cases h2), this.2⟩
    refine ⟨n1, n2, ?_, handV_sub hh (fun p hp => (hqZ p hp).2) (fun p hp => ?_), rfl, fun j o' hj => ?_, fun i j hij hi => ?_, fun i j hij hi => ?_, fun j hj => ?_⟩
    · rw [hmap]
      have key : ∀ (l : List V), SubT q l (V.rnL q l) := SubT.rnL q
      rw [← ha]
      exact key _
    · rw [look_hrem, if_neg (hqZ p hp).1]
      exact touched p.1 (List.mem_append.2 (.inr (List.mem_map_of_mem hp)))
    · rw [look_app] at hj
      cases hkj : look (keepH m Hc') j with
      | some o2 =>
        rw [hkj] at hj
        cases hj
        obtain ⟨i, o2, h1, h2, h3⟩ := look_keepH (of_decide_eq_true hHc') hkj
        exact .inr ⟨i, o2, h1, h2, h3 ▸ Ob.rn_sub m o2⟩
      | none =>
        rw [hkj] at hj
        simp only at hj
        rw [look_hrem] at hj
        split at hj
        · cases hj
        · rename_i hnq
          refine .inl ⟨?_, hj, fun i hij => ?_⟩
          · cases hq : mget q j with
            | none => rfl
            | some i => exact absurd (List.mem_map_of_mem (f := (·.1)) (mget_mem hq)) hnq
          · have h3 := n3 _ (mget_mem hij)
            rcases Nat.lt_or_ge i 100 with hlt | hge
            · have := h3.1
              rcases this with h | h
              · rw [Nat.ble_eq] at h; simp only at h; omega
              · simp only [beq_iff_eq] at h
                exact hnq (List.mem_map_of_mem (f := (·.1)) (mget_mem h))
            · have := h3.2
              rcases this with h | h
              · rw [Nat.blt_eq] at h; simp only at h; omega
              · simp only [List.contains_iff_mem] at h
                have hNj := List.all_eq_true.1 hN j h
                simp only [Bool.not_eq_true'] at hNj
                have := (hasH_false hNj).1
                rw [look_hrem] at hj
                split at hj
                · cases hj
                · rw [this] at hj; cases hj
    · have h3 := (n3 _ (mget_mem hij)).1
      rcases h3 with h | h
      · rw [Nat.ble_eq] at h; simp only at h; omega
      · simpa using h
    · have h3 := (n3 _ (mget_mem hij)).2
      rcases h3 with h | h
      · rw [Nat.blt_eq] at h; simp only at h; omega
      · simpa using h
    · have hNj := List.all_eq_true.1 hN j hj
      simp only [Bool.not_eq_true'] at hNj
      rw [look_hrem]
      split
      · rfl
      · exact (hasH_false hNj).1
  unfold ExecTo execOp
  simp only [ho, resolve, harr, Deferred.ofValue, Sem.run_bind, Sem.run_pure, Result.andThen_ok, invoke, Array.empty_append]
  have hcf' := hcf (as.map η ++ arr) w
  simp only [hcf']
  have hcall := AC.call h fits (ρ := ρ1) (S := S1) (F := F) (xs := as.map η ++ arr) (w := w) (by simp [hsz, layK_len]) (fun i x hx => ?_) hH1 (hG.mono hk) (fun j o' hj i hi => ?_)
  · refine hcall.mono ?_
    rintro en w' ⟨x, rfl, hp⟩
    refine ⟨x, rfl, ?_⟩
    obtain ⟨ρ', S', F', hv, hH', hE', hA'⟩ := hp
    have hlk : ∀ y, look (keepH m Hc' ++ hrem (Zr.map (·.1) ++ q.map (·.1)) H) y = look (keepH m Hc' ++ hrem (q.map (·.1)) (hrem (Zr.map (·.1)) H)) y := fun y => by
      simp only [look_app, hrem_hrem]
    have := e1.trans hE'
    exact ⟨ρ', S', F', hv, hH'.congr hlk, ⟨this.os, this.tape, this.output, this.size, this.keep, this.sub, this.newS, fun b hb => this.newU b (Ub.congr hlk hb)⟩, fun j r hj hN => a1 j r (hA' j r hj hN)⟩
  · obtain ⟨x0, hx0, hy⟩ := layK_get _ _ _ _ _ _ hx
    have hrv := args_get (fun y hy => hη y (hasop y hy)) hsz hcap hx0
    rcases hy with rfl | rfl
    · exact hrv.mono (fun i r hi _ => a1 i r hi) hk
    · exact layV_sound hZr touchedZ a1 hk c1 hrv
  · rw [look_hrem] at hj
    split at hj
    · cases hj
    · have hNi := List.all_eq_true.1 hN i hi
      simp only [Bool.not_eq_true'] at hNi
      exact (hasH_false hNi).2 j o' hj

def callK (G : Nat → Option (List V)) (ops : Array Oper) (q : Ren) (Z : List (Nat × List (List V))) (K : List Nat) (i : Nat) (T : List V) (H : Hp) : Option (FuncId × List V × Hp) :=
  match opW ops i T with
  | some (.call { callee := .value f, args := as, argTypes := _ }) => match ev G T f, handV q H q with
    | .fn fid caps, some Hc => some (fid, V.rnL q (layK (layD Z) K 0 (as.toList.map (ev G T) ++ caps)), Hc)
    | _, _ => none
  | _ => none

theorem W.callK {ops : Array Oper} {draw : Bool} {T0 : List V} {H0 : Hp} {i : Nat} {T : List V} {H : Hp} {Es : List (Bool × Eff)} {Q : St → Prop} {fid : FuncId} {vs : List V} {Hc Hc' : Hp} {rc : V} (h : AC P G fid vs Hc rc Hc') (hcf : callOk P fid) (q m : Ren) (K : List Nat) {Z : List (Nat × List (List V))} (N : List Nat) (hZ : LayOk H Z) (hn : (namesOk q m (Z.map (·.1)) N && nodupH Hc') = true)
    (hc : Av.callK G ops q Z K i T H = some (fid, vs, Hc))
    (k : W P G ops draw T0 H0 (i + 1) (setO T (dstW ops i) (rc.rn m)) (keepH m Hc' ++ hrem (Z.map (·.1) ++ q.map (·.1)) H) (Es ++ [(true, { v := rc.rn m, C := Z.map (·.1) ++ q.map (·.1), new := keepH m Hc', N := N })]) Q) : W P G ops draw T0 H0 i T H Es Q := by
  simp only [Bool.and_eq_true] at hn
  unfold Av.callK at hc
  split at hc
  · rename_i f as ats hop
    split at hc
    · rename_i fid' caps Hc2 hf hh
      cases hc
      exact W.gen _ hop (fun o ho => OpOkL.callK ho hf hcf h q m Z K N hn.1 hn.2 hZ hh rfl) k
    · cases hc
  · cases hc

/-! ### a call to which own slices are lent: it reads them, and hands back nothing that lies in them -/
theorem OpOkL.lend {o : Oper} {e : Operand → V} {Hi : Hp} {f : Operand} {as : Array Operand} {ats : Array TypeId} {fid : FuncId} {caps : List V} (ho : o.op = .call { callee := .value f, args := as, argTypes := ats }) (hf : e f = .fn fid caps) (hcf : callOk P fid)
    {vs : List V} {Hc' : Hp} {rc : V} (h : AC P G fid vs [] rc Hc') (m : Ren) (Zr : List (Nat × List (List V))) (N : List Nat) (hn : namesOk [] m (Zr.map (·.1)) N = true) (hHc' : nodupH Hc' = true)
    (hZr : LayOk Hi Zr) (hd : Deep rc) (hdH : DeepH Hc') (ha : V.rnL [] ((as.toList.map e ++ caps).map (layV (layD Zr))) = vs) :
    OpOkL P G o e { v := rc.rn m, R := Zr.map (·.1), new := keepH m Hc', N := N } Hi := by
  unfold namesOk at hn
  simp only [Bool.and_eq_true, List.all_eq_true, decide_eq_true_eq, Bool.or_eq_true, Bool.not_eq_true'] at hn
  obtain ⟨⟨⟨⟨n1, n2⟩, n3⟩, n4⟩, n5⟩ := hn
  intro e' H he hH hN ρ S F η w hη hHr hG
  have touchedZ : ∀ j, j ∈ Zr.map (·.1) → look H j = look Hi j := fun j hj => hH j (.inl hj)
  have hZ : ∀ j, j ∈ Zr.map (·.1) → ∃ nn t k rows, look H j = some (.vec nn t k rows) := fun j hj => by
    rw [touchedZ j hj]
    obtain ⟨p, hp, rfl⟩ := List.mem_map.1 hj
    obtain ⟨nn, t, k, rows, h1, _⟩ := hZr.get hp
    exact ⟨nn, t, k, rows, h1⟩
  have hfop : f ∈ o.op.operands := by simp [ho, Op.operands, Call.operands]
  have hasop : ∀ x, x ∈ as.toList → x ∈ o.op.operands := fun x hx => by
    simp only [ho, Op.operands, Call.operands]
    exact Array.mem_append.2 (.inr (by simpa using hx))
  have hfe : e' f = .fn fid caps := (he f hfop).trans hf
  have hmap : as.toList.map e' = as.toList.map e := List.map_congr_left fun x hx => he x (hasop x hx)
  obtain ⟨ρ1, S1, hH1, a1, b1, c1, e1⟩ := hHr.lays (Zr.map (·.1)) n4 hZ
  have hk : Keeps S w S1 w := hHr.keeps e1
  have hfv := hη f hfop
  rw [hfe] at hfv
  obtain ⟨arr, harr, hsz, hcap⟩ := hfv.fn_inv
  unfold ExecTo execOp
  simp only [ho, resolve, harr, Deferred.ofValue, Sem.run_bind, Sem.run_pure, Result.andThen_ok, invoke, Array.empty_append]
  simp only [hcf (as.map η ++ arr) w]
  have hH0 : HRel (fun _ => none) S1 (fun _ => []) [] w := ⟨fun _ _ => rfl, fun i o h => by simp [look] at h, fun i o h => by simp [look] at h, fun i j o p b h => by simp [look] at h, fun i o b h => by simp [look] at h, fun i o b h => by simp [look] at h, hH1.slt⟩
  refine (h (fun _ => none) S1 (fun _ => []) (as.map η ++ arr) w ?_ (fun i x hx => ?_) hH0 (hG.mono hk)).mono ?_
  · rw [← ha, V.rnL_eq]; simp [hsz]
  · rw [← ha, V.rnL_eq, List.getElem?_map, Option.map_eq_some_iff] at hx
    obtain ⟨y, hy, rfl⟩ := hx
    rw [List.getElem?_map, Option.map_eq_some_iff] at hy
    obtain ⟨x0, hx0, rfl⟩ := hy
    rw [← hmap] at hx0
    exact (layV_sound hZr touchedZ a1 hk c1 (args_get (fun y hy => hη y (hasop y hy)) hsz hcap hx0)).rn (fun i j r hi _ => by simp [mget] at hi)
  · rintro en w' ⟨x, ρ', S', F', rfl, hx, hHn, hE, hA⟩
    have hUn : ∀ b, ¬ Ub ([] : Hp) (fun _ => []) b := fun b ⟨i, o, h1, _⟩ => by simp [look] at h1
    have hold : ∀ b, b < w.heap.size → w'.heap[b]? = w.heap[b]? := fun b hb => hE.keep b hb (hUn b)
    have hks : Keeps S w S w' := fun b hb => ⟨hb, hold b (hHr.slt b hb)⟩
    have hsub : SubH m Hc' (keepH m Hc') := keepH_sub (of_decide_eq_true hHc') Hc' fun _ hp => hp
    obtain ⟨ρ2, F2, hH2, k2, k3, k4⟩ := hHn.rn n2 hsub
    -- the new objects' names are new
    have hfresh : ∀ i j, mget m i = some j → hasH j H = false := fun i j hij => by
      have h3 := n3 _ (mget_mem hij)
      have hj : j ∈ N := by
        rcases h3.2 with h | h
        · rcases h3.1 with h' | h'
          · rw [Nat.blt_eq] at h; rw [Nat.ble_eq] at h'; simp only at h h'; omega
          · simp [mget] at h'
        · simpa using h
      simpa using List.all_eq_true.1 hN j hj
    have hKm : ∀ j o', look (keepH m Hc') j = some o' → ∃ i o, mget m i = some j ∧ look Hc' i = some o ∧ F2 j = F' i ∧ ρ2 j = ρ' i := k4
    let K := keepH m Hc'
    let ρ3 : Nat → Option Value := fun j => if (look K j).isSome then ρ2 j else ρ j
    let F3 : Nat → List Nat := fun j => if (look K j).isSome then F2 j else F j
    have hKH : ∀ j o', look K j = some o' → look H j = none ∧ ∀ p o, look H p = some o → o.has j = false := fun j o' hj => by
      obtain ⟨i, o, hi, _⟩ := hKm j o' hj
      exact hasH_false (hfresh i j hi)
    have hnew : ∀ j o' b, look K j = some o' → b ∈ F2 j → w.heap.size ≤ b := fun j o' b hj hb => by
      obtain ⟨i, o, hi, hl, hF, _⟩ := hKm j o' hj
      rw [hF] at hb
      rcases hE.newU b ⟨i, o, hl, hb⟩ with h | h
      · exact absurd h (hUn b)
      · exact h
    have lk : ∀ j o', look (K ++ hrem [] H) j = some o' → (look K j = some o') ∨ (look K j = none ∧ look H j = some o') := fun j o' hj => by
      rw [look_app, hrem_nil] at hj
      split at hj
      · rename_i o2 h2; cases hj; exact .inl h2
      · rename_i h2; exact .inr ⟨h2, hj⟩
    have hAN : AgN ρ ρ3 N := fun j r hr hj => by
      simp only [ρ3] at hr
      split at hr
      · rename_i hs
        obtain ⟨o', ho'⟩ := Option.isSome_iff_exists.1 hs
        obtain ⟨i, o, hi, _⟩ := hKm j o' ho'
        have h3 := n3 _ (mget_mem hi)
        rcases h3.2 with h | h
        · rcases h3.1 with h' | h'
          · rw [Nat.blt_eq] at h; rw [Nat.ble_eq] at h'; simp only at h h'; omega
          · simp [mget] at h'
        · exact absurd (by simpa using h) hj
      · exact hr
    refine ⟨x, rfl, ρ3, S, F3, ?_, ⟨fun j hj => ?_, fun j o' hj => ?_, fun j o' hj => ?_, fun j j' o' p' b hj hj' hne hb hb' => ?_, fun j o' b hj hb => ?_, fun j o' b hj hb => ?_, fun b hb => Nat.lt_of_lt_of_le (hHr.slt b hb) hE.size⟩,
      ⟨hE.os, hE.tape, hE.output, hE.size, fun b hb _ => hold b hb, fun _ hb => hb, fun _ hb => .inl hb, fun b hb => ?_⟩, hAN⟩
    · refine ((hx.deep (S' := S) hd).rn (m := m) (ρ' := ρ3) fun i j r hi hr => ?_)
      simp only [ρ3] at hr
      split at hr
      · exact k2 i j r hi hr
      · have := (hasH_false (hfresh i j hi)).1
        rw [hHr.dom j this] at hr; cases hr
    · rw [look_app, hrem_nil] at hj
      split at hj
      · cases hj
      · rename_i h2
        simp only [ρ3]
        rw [show look K j = none from h2]
        exact hHr.dom j hj
    · rcases lk j o' hj with h1 | ⟨h1, h2⟩
      · obtain ⟨r, hr, hob⟩ := hH2.obj j o' h1
        obtain ⟨i, o, hi, hl, hF, hρ⟩ := hKm j o' h1
        refine ⟨r, by simp only [ρ3, h1]; exact hr, ?_⟩
        simp only [F3, h1, Option.isSome_some, if_true]
        obtain ⟨i2, o2, hi2, hl2, hoo⟩ := look_keepH (of_decide_eq_true hHc') h1
        obtain ⟨nn, e0, k0, rows, rfl, hdr⟩ := hdH.get hl2
        subst hoo
        exact hob.deep hdr
      · obtain ⟨r, hr, hob⟩ := hHr.obj j o' h2
        refine ⟨r, by simp only [ρ3, h1]; exact hr, ?_⟩
        simp only [F3, h1, Option.isSome_none]
        refine hob.mono (fun i r' hi hh => ?_) hks (fun b hb => hold b (hHr.lt j o' b h2 hb))
        simp only [ρ3] at hi
        split at hi
        · rename_i hs
          obtain ⟨o2, ho2⟩ := Option.isSome_iff_exists.1 hs
          rw [(hKH i o2 ho2).2 j o' h2] at hh; cases hh
        · exact hi
    · rcases lk j o' hj with h1 | ⟨h1, h2⟩
      · simp only [F3, h1, Option.isSome_some, if_true]; exact hH2.nodup j o' h1
      · simp only [F3, h1, Option.isSome_none]; exact hHr.nodup j o' h2
    · rcases lk j o' hj with h1 | ⟨h1, h2⟩ <;> rcases lk j' p' hj' with h1' | ⟨h1', h2'⟩
      · simp only [F3, h1, h1', Option.isSome_some, if_true] at hb hb'
        exact hH2.disj j j' o' p' b h1 h1' hne hb hb'
      · simp only [F3, h1, h1', Option.isSome_some, if_true, Option.isSome_none] at hb hb'
        have := hnew j o' b h1 hb
        have := hHr.lt j' p' b h2' hb'
        omega
      · simp only [F3, h1, h1', Option.isSome_some, if_true, Option.isSome_none] at hb hb'
        have := hnew j' p' b h1' hb'
        have := hHr.lt j o' b h2 hb
        omega
      · simp only [F3, h1, h1', Option.isSome_none] at hb hb'
        exact hHr.disj j j' o' p' b h2 h2' hne hb hb'
    · rcases lk j o' hj with h1 | ⟨h1, h2⟩
      · simp only [F3, h1, Option.isSome_some, if_true] at hb
        intro hs
        have := hnew j o' b h1 hb
        have := hHr.slt b hs
        omega
      · simp only [F3, h1, Option.isSome_none] at hb
        exact hHr.sep j o' b h2 hb
    · rcases lk j o' hj with h1 | ⟨h1, h2⟩
      · simp only [F3, h1, Option.isSome_some, if_true] at hb
        exact hH2.lt j o' b h1 hb
      · simp only [F3, h1, Option.isSome_none] at hb
        exact Nat.lt_of_lt_of_le (hHr.lt j o' b h2 hb) hE.size
    · obtain ⟨j, o', hj, hb⟩ := hb
      rcases lk j o' hj with h1 | ⟨h1, h2⟩
      · simp only [F3, h1, Option.isSome_some, if_true] at hb
        exact .inr (hnew j o' b h1 hb)
      · simp only [F3, h1, Option.isSome_none] at hb
        exact .inl ⟨j, o', h2, hb⟩

theorem W.lend {ops : Array Oper} {draw : Bool} {T0 : List V} {H0 : Hp} {i : Nat} {T : List V} {H : Hp} {Es : List (Bool × Eff)} {Q : St → Prop} {fid : FuncId} {vs : List V} {Hc' : Hp} {rc : V} (h : AC P G fid vs [] rc Hc') (hcf : callOk P fid) (m : Ren) {Z : List (Nat × List (List V))} (N : List Nat) (hZ : LayOk H Z) (hd : Deep rc) (hdH : DeepH Hc') (hn : (namesOk [] m (Z.map (·.1)) N && nodupH Hc') = true)
    (hc : callW G ops [] Z i T H = some (fid, vs, []))
    (k : W P G ops draw T0 H0 (i + 1) (setO T (dstW ops i) (rc.rn m)) (keepH m Hc' ++ H) (Es ++ [(true, { v := rc.rn m, R := Z.map (·.1), new := keepH m Hc', N := N })]) Q) : W P G ops draw T0 H0 i T H Es Q := by
  simp only [Bool.and_eq_true] at hn
  unfold callW at hc
  split at hc
  · rename_i f as ats hop
    split at hc
    · rename_i fid' caps Hc2 hf hh
      cases hc
      refine W.gen { v := rc.rn m, R := Z.map (·.1), new := keepH m Hc', N := N } hop (fun o ho => OpOkL.lend ho hf hcf h m Z N hn.1 hn.2 hZ hd hdH rfl) ?_
      rw [hrem_nil]
      exact k
    · cases hc
  · cases hc

/-- an own slice that comes in as nil -/
theorem AC.nilArg {f : FuncId} {vs : List V} {H H' : Hp} {r : V} (p i e k : Nat) (h : AC P G f vs ((i, .vec false e k []) :: H) r H') (hi : hasH i H = false) (hH' : look H' i = none)
    (hp : (vs[p]?).isSome = true) (hh : V.hasL i (vs.set p .junk) = false) (hv : vs = vs.set p (.own i)) : AC P G f (vs.set p (.c (.slice none 0 0))) H r H' := by
  intro ρ S F xs w hsz hxs hH hG
  refine (h _ S _ xs w (by simpa using hsz) (fun j x hx => ?_) (hH.addNil (e := e) (k := k) hi) hG).mono ?_
  · by_cases hj : j = p
    · subst hj
      have hx2 := hxs j (.c (.slice none 0 0)) (by rw [List.getElem?_set]; rw [if_pos rfl]; rw [if_pos]; exact (List.getElem?_eq_some_iff.1 hx).1)
      rw [hv, List.getElem?_set, if_pos rfl] at hx
      split at hx
      · cases hx
        rw [hx2.c_inv]
        exact .own _ i fun r hr => by simp only [if_true] at hr; cases hr; rfl
      · cases hx
    · have hx2 := hxs j x (by rw [List.getElem?_set, if_neg (Ne.symm hj)]; exact hx)
      refine hx2.mono (fun q r hq hh' => ?_) fun b hb => ⟨hb, rfl⟩
      split at hq
      · subst_vars
        have hm : x ∈ vs.set p .junk := List.mem_of_getElem? (i := j) (by rw [List.getElem?_set, if_neg (Ne.symm hj)]; exact hx)
        rw [hasL_false hh hm] at hh'; cases hh'
      · exact hq
  · rintro en w' ⟨x, ρ', S', F', he, hx, hH2, hE, hA⟩
    refine ⟨x, ρ', S', F', he, hx, hH2, ⟨hE.os, hE.tape, hE.output, hE.size, fun b hb hu => hE.keep b hb fun h => hu (Ub.addNil h), hE.sub, fun b hb => (hE.newS b hb).imp id (Or.imp Ub.addNil id), fun b hb => (hE.newU b hb).imp Ub.addNil id⟩, fun j r hj hr => ?_⟩
    have := hA j r hj hr
    simp only at this
    split at this
    · subst_vars; rw [hH2.dom _ hH'] at hr; cases hr
    · exact this

/-- element of a slice that is data, its cells told by hand -/
theorem W.ixDr {D : Tab} (hD : TabOk P D) {ops : Array Oper} {draw : Bool} {T0 : List V} {H0 : Hp} {i : Nat} {T : List V} {H : Hp} {Es : List (Bool × Eff)} {Q : St → Prop} {α : Type} (enc : α → List V) {l : List α} {n : Int} {x : α} (hx : ix l n = some x)
    (sz : Nat) (h : Av.ixD D G ops i T = some (l.map enc, n, sz)) {row : List V} (hr : enc x = row) (hs : row.length = sz)
    (k : W P G ops draw T0 H0 (i + 1) (setO T (dstW ops i) (.el row)) H (Es ++ [(true, { v := .el row })]) Q) : W P G ops draw T0 H0 i T H Es Q := by
  subst hr
  exact W.ixD hD enc hx sz h hs k

theorem hput_self {H : Hp} {i : Nat} {o : Ob} (h : look H i = some o) : hput H i o = H := by
  induction H with
  | nil => cases h
  | cons p H ih =>
    obtain ⟨j, p⟩ := p
    simp only [look] at h
    simp only [hput]
    split
    · subst_vars; rw [if_pos rfl] at h; cases h; rfl
    · rename_i hne; rw [if_neg hne] at h; rw [ih h]

/-- an object's rows told otherwise -/
theorem W.vecEq {ops : Array Oper} {draw : Bool} {T0 : List V} {H0 : Hp} {i : Nat} {T : List V} {H : Hp} {Es : List (Bool × Eff)} {Q : St → Prop} (j : Nat) {nn : Bool} {e : Tg} {k : Nat} {rows rows' : List (List V)} (h : look H j = some (.vec nn e k rows)) (he : rows = rows')
    (k' : W P G ops draw T0 H0 i T (hput H j (.vec nn e k rows')) Es Q) : W P G ops draw T0 H0 i T H Es Q := by
  subst he
  rw [hput_self h] at k'
  exact k'

end
end Go.Av

namespace Go.Av

section
variable {P : Program} {G : Nat → Option (List V)}

def extW (G : Nat → Option (List V)) (ops : Array Oper) (i : Nat) (T : List V) : Option (FuncId × List V) :=
  match opW ops i T with
  | some (.call { callee := .value f, args := as, argTypes := _ }) => match ev G T f with
    | .fn fid caps => some (fid, as.toList.map (ev G T) ++ caps)
    | _ => none
  | _ => none

/-- a call of a function without a body, of plain values -/
theorem W.ext {ops : Array Oper} {draw : Bool} {T0 : List V} {H0 : Hp} {i : Nat} {T : List V} {H : Hp} {Es : List (Bool × Eff)} {Q : St → Prop} {fid : FuncId} {vs : List Value} {v : Value}
    (h : ∀ w, (callFunc fid vs.toArray).run P w = .ok (.value v) w) (hc : extW G ops i T = some (fid, vs.map .c))
    (k : W P G ops draw T0 H0 (i + 1) (setO T (dstW ops i) (.c v)) H (Es ++ [(true, { v := .c v })]) Q) : W P G ops draw T0 H0 i T H Es Q := by
  unfold extW at hc
  split at hc
  · rename_i f as ats hop
    split at hc
    · rename_i fid' caps hf
      simp only [Option.some.injEq, Prod.mk.injEq] at hc
      obtain ⟨rfl, hvs⟩ := hc
      refine W.gen0 (.c v) [] hop (fun o ho e' H' he _ => ?_) k
      refine OpOk.pure fun ρ S F η w hη hH => ?_
      have hfop : f ∈ o.op.operands := by simp [ho, Op.operands, Call.operands]
      have hasop : ∀ x, x ∈ as.toList → x ∈ o.op.operands := fun x hx => by
        simp only [ho, Op.operands, Call.operands]
        exact Array.mem_append.2 (.inr (by simpa using hx))
      have hop' : ∀ x, x ∈ (Op.call { callee := Callee.value f, args := as, argTypes := ats }).operands → e' x = ev G T x := he
      have hfe : e' f = .fn fid' caps := (hop' f (by simp [Op.operands, Call.operands])).trans hf
      have hmap : as.toList.map e' = as.toList.map (ev G T) := List.map_congr_left fun x hx => hop' x (by simp only [Op.operands, Call.operands]; exact Array.mem_append.2 (.inr (by simpa using hx)))
      have hfv := hη f hfop
      rw [hfe] at hfv
      obtain ⟨arr, harr, hsz, hcap⟩ := hfv.fn_inv
      have hargs : as.map η ++ arr = vs.toArray := by
        apply Array.ext'
        simp only [Array.toList_append, Array.toList_map]
        have hlen : (as.toList.map η ++ arr.toList).length = vs.length := by
          have := congrArg List.length hvs
          simp only [List.length_map, List.length_append, Array.length_toList] at this ⊢
          omega
        refine List.ext_getElem hlen fun j h1 h2 => ?_
        have hj : (vs.map V.c)[j]? = some (.c vs[j]) := by rw [List.getElem?_map, List.getElem?_eq_getElem h2]; rfl
        rw [← hvs, ← hmap] at hj
        have hrv := args_get (fun y hy => hη y (hasop y hy)) hsz hcap hj
        have hcv := hrv.c_inv
        have hg : (as.map η ++ arr).getD j undef = (as.toList.map η ++ arr.toList)[j] := by
          rw [Array.getD_eq_getD_getElem?]
          have : (as.map η ++ arr)[j]? = (as.toList.map η ++ arr.toList)[j]? := by
            rw [← Array.getElem?_toList]; simp
          rw [this, List.getElem?_eq_getElem h1]; rfl
        rw [← hg]; exact hcv
      refine ⟨v, ?_, .c v⟩
      simp only [execOp, ho, resolve, harr, Deferred.ofValue, Sem.run_bind, Sem.run_pure, Result.andThen_ok, invoke, Array.empty_append]
      rw [hargs]
      exact h w
    · cases hc
  · cases hc

/-- a new object told otherwise -/
theorem OpOk.head {o : Oper} {e : Operand → V} {H H1 : Hp} {v : V} {q : Nat} {o1 o2 : Ob} {N : List Nat} (h : OpOk P G o e H v ((q, o1) :: H1) N)
    (ho : ∀ (ρ : Nat → Option Value) S w r F, ObR ρ S w r o1 F → ObR ρ S w r o2 F) : OpOk P G o e H v ((q, o2) :: H1) N := by
  intro ρ S F η w hη hH hG
  refine (h ρ S F η w hη hH hG).mono fun x w' hp => ?_
  obtain ⟨ρ', S', F', hv, hH', hE, hA⟩ := hp
  have hl : look ((q, o1) :: H1) q = some o1 := by simp [look]
  have hq : hput ((q, o1) :: H1) q o2 = (q, o2) :: H1 := by simp [hput]
  have := hH'.reob hl (o' := o2) fun r _ hob => ho _ _ _ _ _ hob
  rw [hq] at this
  exact ⟨ρ', S', F', hv, this, ⟨hE.os, hE.tape, hE.output, hE.size, hE.keep, hE.sub, hE.newS, fun b hb => hE.newU b (Ub.hput hl (hq ▸ hb : Ub (hput ((q, o1) :: H1) q o2) F' b))⟩, hA⟩

theorem RD.c_inv2 {S : Nat → Prop} {w : World} {v u : Value} {F : List Nat} (h : RD S w v (.c u) F) : v = u ∧ F = [] := by
  cases h
  exact ⟨rfl, rfl⟩

/-- nil in a cell of a slice of one's own -/
def nilR : V → V
  | .c (.slice none 0 0) => .sl false true []
  | x => x

theorem RD.nilR {S : Nat → Prop} {w : World} {v : Value} {x : V} {F : List Nat} (h : RD S w v x F) : RD S w v (Av.nilR x) F := by
  by_cases hx : x = .c (.slice none 0 0)
  · subst hx
    obtain ⟨h1, h2⟩ := h.c_inv2
    rw [h1, h2]
    exact .nils true
  · have : Av.nilR x = x := by
      unfold Av.nilR
      split
      · exact absurd rfl hx
      · rfl
    rw [this]; exact h

theorem ObR.nilR {ρ : Nat → Option Value} {S : Nat → Prop} {w : World} {r : Value} {nn : Bool} {e : Tg} {k : Nat} {rows : List (List V)} {F : List Nat} (h : ObR ρ S w r (.vec nn e k rows) F) : ObR ρ S w r (.vec nn e k (rows.map fun r => r.map Av.nilR)) F := by
  cases h with
  | vnil => exact .vnil _ _
  | vec g cap arr _ _ _ _ cs Fs hh hcap hmax hsz hk hc hr ht =>
    have e1 : rows.length = (rows.map fun r => r.map Av.nilR).length := by simp
    rw [e1] at ht ⊢
    refine .vec g cap arr nn e k _ cs Fs hh (by simpa using hcap) hmax hsz (fun i r hi => ?_) (fun i j r x hi hj => ?_) (fun i j r x hi hj => ?_) ht
    · rw [List.getElem?_map, Option.map_eq_some_iff] at hi
      obtain ⟨r0, hr0, rfl⟩ := hi
      rw [List.length_map]; exact hk i r0 hr0
    all_goals
      rw [List.getElem?_map, Option.map_eq_some_iff] at hi
      obtain ⟨r0, hr0, rfl⟩ := hi
      rw [List.getElem?_map, Option.map_eq_some_iff] at hj
      obtain ⟨x0, hx0, rfl⟩ := hj
    · exact hc i j r0 x0 hr0 hx0
    · exact (hr i j r0 x0 hr0 hx0).nilR

theorem W.mkN {D : Tab} (hD : TabOk P D) {ops : Array Oper} {draw : Bool} {T0 : List V} {H0 : Hp} {i : Nat} {T : List V} {H : Hp} {Es : List (Bool × Eff)} {Q : St → Prop} {α : Type} (enc : α → List V) {n : Int} {z : α} {r : List α} (b : Nat) (hx : Av.mk b z n = some r) (q : Nat) (el sz : Nat) (zs : List Value)
    (h : mkW D G ops i T = some (el, sz, b, zs, n, n)) (hz : enc z = (zs.map .c).map nilR)
    (k : W P G ops draw T0 H0 (i + 1) (setO T (dstW ops i) (.own q)) ((q, .vec false el sz (r.map enc)) :: H) (Es ++ [(true, { v := .own q, new := [(q, .vec false el sz (r.map enc))], N := [q] })]) Q) : W P G ops draw T0 H0 i T H Es Q := by
  unfold Av.mk at hx
  split at hx
  · rename_i hb
    cases hx
    unfold mkW at h
    split at h
    · rename_i t l c hop
      split at h
      · rename_i it kl n' kc nc ht hl hc
        split at h
        · rename_i el' hit
          split at h
          · rename_i ie hel
            split at h
            · rename_i hs
              simp only [Option.some.injEq, Prod.mk.injEq] at h
              obtain ⟨rfl, rfl, rfl, rfl, rfl, rfl⟩ := h
              refine W.gen { v := .own q, new := [(q, .vec false el' ie.size _)], N := [q] } hop (fun o ho e' H' he _ hN => ?_) (by simpa [hrem_nil] using k)
              simp only [List.all_cons, List.all_nil, Bool.and_true, Bool.not_eq_true'] at hN
              have hlv := (he l (by simp [ho, Op.operands])).trans hl
              have hcv := (he c (by simp [ho, Op.operands])).trans hc
              have := (OpOk.makeSlice (G := G) hD q nc.toNat ho ht hit hel hs hlv hcv (by omega) (by omega) hb.2.1 hb.2.2 hN).head fun ρ S w r F h => h.nilR
              rw [List.map_replicate, ← hz] at this
              exact this
            · cases h
          · cases h
        · cases h
      · cases h
    · cases h
  · cases hx

theorem shareR_map {α : Type} {enc enc' : α → List V} (h : ∀ a, V.shareL (enc a) = enc' a) (l : List α) : V.shareR (l.map enc) = l.map enc' := by
  rw [V.shareR_eq, List.map_map]
  exact List.map_congr_left fun a _ => h a

theorem share_encL {α : Type} (x : Bool) {enc enc' : α → List V} (h : ∀ a, V.shareL (enc a) = enc' a) (l : List α) : V.shareL (encL x enc l) = encL false enc' l := by
  simp only [encL, V.shareL, V.share, shareR_map h]

/-- the byte that a number is cut to -/
def bytI (n : Int) : UInt8 := UInt8.ofNat (IntKind.wrap .u8 n).toNat

theorem bytI_row (n : Int) : [V.c (.int .u8 (IntKind.wrap .u8 n))] = byteRow (bytI n) := by
  have h : ((bytI n).toNat : Int) = IntKind.wrap .u8 n := by
    unfold bytI
    have h1 : 0 ≤ IntKind.wrap .u8 n ∧ IntKind.wrap .u8 n < 256 := by
      simp only [IntKind.wrap, IntKind.bits, IntKind.signed, Bool.false_and, Bool.false_eq_true, if_false]
      omega
    rw [UInt8.toNat_ofNat']
    omega
  unfold byteRow
  rw [h]

end
end Go.Av

namespace Go.Av

section
variable {P : Program} {G : Nat → Option (List V)} {L : Option Nat} {B : Nat}

theorem OpsOk.wpThen {ops : Array Oper} {Q : Exit → Act → World → Prop} {rest : List Oper} (l : List Oper) : ∀ {st : St} {K : St → Prop}, OpsOk P G ops l st K →
    ∀ {ρ : Nat → Option Value} {S : Nat → Prop} {F : Nat → List Nat} {a : Act} {w : World}, StRel B G ρ S F st a w →
    (∀ st', K st' → Onto B G ρ S F st.H w st' (wpListIn (fen L) 0 P ops Q rest)) → wpListIn (fen L) 0 P ops Q (l ++ rest) a w := by
  induction l with
  | nil =>
    intro st K h ρ S F a w hst hn
    exact hn st h ρ S F a w hst (Evo.refl _ _ _) (AgF.refl _)
  | cons o l ih =>
    intro st K h ρ S F a w hst hn
    have go : Step P G o st (fun st' => OpsOk P G ops l st' K) → Region.wanted o (yielded ops a.tmps) = true → wpListIn (fen L) 0 P ops Q (o :: (l ++ rest)) a w := by
      intro hs hw
      unfold wpListIn
      rw [if_pos hw]
      refine (hs.wp hst fun st' h' ρ' S' F' a' w' hst' hE hA => ?_)
      exact ih h' hst' fun st2 h2 ρ2 S2 F2 a2 w2 hst2 hE2 hA2 => hn st2 h2 ρ2 S2 F2 a2 w2 hst2 (hE.trans hE2) (hA.trans hA2)
    unfold OpsOk at h
    cases hg : o.guard with
    | none =>
      rw [hg] at h
      exact go h (by simp [Region.wanted, hg])
    | some jb =>
      obtain ⟨j, b⟩ := jb
      rw [hg] at h
      obtain ⟨b', hgv, h⟩ := h
      have hy := yielded_gval hst hgv
      rcases h with ⟨rfl, h⟩ | ⟨hne, h⟩
      · exact go h (by simp [Region.wanted, hg, hy])
      · change wpListIn (fen L) 0 P ops Q (o :: (l ++ rest)) a w
        unfold wpListIn
        rw [if_neg (by simp [Region.wanted, hg, hy, hne])]
        refine ⟨fun _ _ => trivial, ?_⟩
        refine ih h (Onto.of_undef hst o.dst) fun st2 h2 ρ2 S2 F2 a2 w2 hst2 hE2 hA2 => ?_
        exact hn st2 h2 ρ2 S2 F2 a2 w2 hst2 (by simpa [St.put] using hE2) hA2

theorem OpsOk.imp {ops : Array Oper} : ∀ {l : List Oper} {st : St} {K K' : St → Prop}, OpsOk P G ops l st K → (∀ st, K st → K' st) → OpsOk P G ops l st K'
  | [], _, _, _, h, hk => hk _ h
  | o :: l, st, K, K', h, hk => by
    unfold OpsOk at h ⊢
    cases hg : o.guard with
    | none =>
      rw [hg] at h
      obtain ⟨v, H', N, h1, h2, h3⟩ := h
      exact ⟨v, H', N, h1, h2, OpsOk.imp h3 hk⟩
    | some jb =>
      obtain ⟨j, b⟩ := jb
      rw [hg] at h
      obtain ⟨b', hb, h⟩ := h
      refine ⟨b', hb, h.imp ?_ ?_⟩
      · rintro ⟨he, v, H', N, h1, h2, h3⟩
        exact ⟨he, v, H', N, h1, h2, OpsOk.imp h3 hk⟩
      · rintro ⟨he, h3⟩
        exact ⟨he, OpsOk.imp h3 hk⟩

theorem set_get {α : Type} {l : List α} {m p : Nat} {y r : α} (h : (l.set m y)[p]? = some r) : (p = m ∧ r = y) ∨ (p ≠ m ∧ l[p]? = some r) := by
  rw [List.getElem?_set] at h
  split at h
  · split at h
    · cases h; exact .inl ⟨(by subst_vars; rfl), rfl⟩
    · cases h
  · exact .inr ⟨fun e => (by subst_vars; contradiction), h⟩

theorem flat_mem_lt {n k : Nat} {Fs : Nat → Nat → List Nat} {i j b : Nat} (hi : i < n) (hj : j < k) (hb : b ∈ Fs i j) : b ∈ flat n k Fs := mem_flat.2 ⟨i, j, hi, hj, hb⟩

/-- the callee's view: the one slice, under the name 0 -/
theorem nest_call {f : FuncId} {u u' : Value} {k2 : Nat} {srows srows' : List (List V)} (hcont : srows ≠ [] → ∀ e, AC P G f [.own 0, .c u] [(0, .vec false e k2 srows)] (.c u') [(0, .vec false e k2 srows')])
    (hnil : srows = [] → srows' = [] ∧ AC P G f [.sl false false [], .c u] [] (.c u') []) (hk2 : ∀ r, r ∈ srows → r.length = k2)
    {ρ : Nat → Option Value} {S : Nat → Prop} {F : Nat → List Nat} {H : Hp} {w : World} (hH : HRel ρ S F H w) (hG : GRel G S w) {i : Nat} {nn nn2 : Bool} {ety : Tg} {k m b : Nat} {rows : List (List V)} {row : List V}
    (hi : look H i = some (.vec nn ety k rows)) (hrow : rows[m]? = some row) (hb : row[b]? = some (.sl nn2 true srows)) {g n cap : Nat} (hroot : ρ i = some (.slice (some ⟨g, 0, none⟩) n cap)) :
    ∃ c, w.cell? ⟨g, m * k + b, none⟩ = some c ∧ c.oneCell' = true ∧ Calls P f #[c, u] w fun en w' => en = .returned u' ∧ ∃ ρ' S' F', HRel ρ' S' F' ((i, .vec nn ety k (rows.set m (row.set b (.sl false true srows')))) :: hrem [i] H) w' ∧
      Evo S (Ub H F) w S' (Ub ((i, .vec nn ety k (rows.set m (row.set b (.sl false true srows')))) :: hrem [i] H) F') w' ∧ AgN ρ ρ' [] := by
  obtain ⟨r0, hr0, hob⟩ := hH.obj i _ hi
  rw [hroot] at hr0
  cases hr0
  have hnd := hH.nodup i _ hi
  have hdisj := fun j p b' (hj : look H j = some p) (hne : i ≠ j) (h1 : b' ∈ F i) (h2 : b' ∈ F j) => hH.disj i j _ p b' hi hj hne h1 h2
  have hsep := fun b' (h1 : b' ∈ F i) => hH.sep i _ b' hi h1
  have hlt := fun b' (h1 : b' ∈ F i) => hH.lt i _ b' hi h1
  generalize hFi : F i = Fi at hob hnd hdisj hsep hlt
  cases hob with
  | vec g' cap' arr _ _ _ _ cc Fs hh hcap hmax hasz hk hc hrd htg =>
    have hmn : m < rows.length := (List.getElem?_eq_some_iff.1 hrow).1
    have hbk : b < k := by have := (List.getElem?_eq_some_iff.1 hb).1; rw [hk m row hrow] at this; exact this
    have hcell := hc m b row _ hrow hb
    have hd := hrd m b row _ hrow hb
    have hwc : w.cell? ⟨g, m * k + b, none⟩ = some (cc m b) := by rw [cell_of_row w g (m * k + b) arr _ (0, 0) hh]; exact hcell
    refine ⟨cc m b, hwc, hd.one, ?_⟩
    have hFsub : ∀ b', b' ∈ Fs m b → b' ∈ g :: flat rows.length k Fs := fun b' h => List.mem_cons_of_mem _ (flat_mem_lt hmn hbk h)
    have hndf := List.nodup_cons.1 hnd
    have hgF : g ∉ Fs m b := fun h => hndf.1 (flat_mem_lt hmn hbk h)
    -- the step in general: a world in which the cells of that slice alone have turned
    have fin : ∀ (w' : World) (S' : Nat → Prop) (F0 : List Nat), RD S' w' (cc m b) (.sl false true srows') F0 → F0.Nodup → (∀ b', b' ∈ F0 → b' ∈ Fs m b ∨ w.heap.size ≤ b') → (∀ b', b' ∈ F0 → ¬ S' b') → (∀ b', b' ∈ F0 → b' < w'.heap.size) → (∀ b', S' b' → b' < w'.heap.size) →
        w'.os = w.os → w'.tape = w.tape → w'.output = w.output → w.heap.size ≤ w'.heap.size → (∀ b', b' < w.heap.size → b' ∉ Fs m b → w'.heap[b']? = w.heap[b']?) → (∀ b', S b' → S' b') → (∀ b', S' b' → S b' ∨ b' ∈ Fs m b ∨ w.heap.size ≤ b') →
        ∃ ρ' S' F', HRel ρ' S' F' ((i, .vec nn ety k (rows.set m (row.set b (.sl false true srows')))) :: hrem [i] H) w' ∧
          Evo S (Ub H F) w S' (Ub ((i, .vec nn ety k (rows.set m (row.set b (.sl false true srows')))) :: hrem [i] H) F') w' ∧ AgN ρ ρ' [] := by
      intro w' S' F0 hrd' hnd0 hF0 hF0S hF0lt hSlt hos htape hout hsize hkeep hSS hSnew
      let Fs' : Nat → Nat → List Nat := fun p q => if p = m ∧ q = b then F0 else Fs p q
      let rows' := rows.set m (row.set b (.sl false true srows'))
      have hlen' : rows'.length = rows.length := by simp [rows']
      have hk' : Keeps S w S' w' := fun b' h => ⟨hSS b' h, hkeep b' (hH.slt b' h) fun hm => hsep b' (hFsub b' hm) h⟩
      have hg' : w'.heap[g]? = some (.cells arr _ (0, 0)) := (hkeep g (hlt g (by simp)) hgF).trans hh
      have hFsmem : ∀ p q b', p < rows.length → q < k → b' ∈ Fs' p q → b' ∈ Fs p q ∨ w.heap.size ≤ b' := fun p q b' _ _ h => by
        simp only [Fs'] at h
        split at h
        · rename_i he; obtain ⟨rfl, rfl⟩ := he; exact hF0 b' h
        · exact .inl h
      have hflat' : ∀ b', b' ∈ flat rows.length k Fs' → b' ∈ flat rows.length k Fs ∨ w.heap.size ≤ b' := fun b' h => by
        obtain ⟨p, q, hp, hq, h⟩ := mem_flat.1 h
        exact (hFsmem p q b' hp hq h).imp (flat_mem_lt hp hq) id
      have hNdF := flat_nodup.1 hndf.2
      have hobn : ObR ρ S' w' (.slice (some ⟨g, 0, none⟩) rows.length cap) (.vec nn ety k rows') (g :: flat rows'.length k Fs') := by
        rw [← hlen']
        refine .vec g cap arr nn ety k rows' cc Fs' hg' (by rw [hlen']; exact hcap) hmax hasz (fun p r hp => ?_) (fun p q r x hp hq => ?_) (fun p q r x hp hq => ?_) (by rw [hlen']; exact htg)
        · rcases set_get hp with ⟨rfl, rfl⟩ | ⟨_, hp⟩
          · simp [hk _ row hrow]
          · exact hk p r hp
        · rcases set_get hp with ⟨rfl, rfl⟩ | ⟨_, hp⟩
          · rcases set_get hq with ⟨rfl, rfl⟩ | ⟨_, hq⟩
            · exact hcell
            · exact hc _ q row x hrow hq
          · exact hc p q r x hp hq
        · have hqk : q < k := by
            have := (List.getElem?_eq_some_iff.1 hq).1
            have hl : r.length = k := by
              rcases set_get hp with ⟨rfl, rfl⟩ | ⟨_, hp⟩
              · simp [hk _ row hrow]
              · exact hk p r hp
            omega
          have old : ∀ x, RD S w (cc p q) x (Fs p q) → (∀ b', b' ∈ Fs p q → b' ∉ Fs m b) → p < rows.length → RD S' w' (cc p q) x (Fs p q) := fun x h hne hpn =>
            h.mono hk' fun b' hb' => hkeep b' (hlt b' (List.mem_cons_of_mem _ (flat_mem_lt hpn hqk hb'))) (hne b' hb')
          rcases set_get hp with ⟨rfl, rfl⟩ | ⟨hne, hp⟩
          · rcases set_get hq with ⟨rfl, rfl⟩ | ⟨hne, hq⟩
            · simp only [Fs', and_self, if_true]
              exact hrd'
            · simp only [Fs', true_and, if_neg hne]
              exact old x (hrd _ q row x hrow hq) (fun b' h1 h2 => hne (hNdF.2 _ _ _ _ b' hmn hqk hmn hbk h1 h2).2) hmn
          · have hpn := (List.getElem?_eq_some_iff.1 hp).1
            have hpm : ¬ (p = m ∧ q = b) := fun h => hne h.1
            simp only [Fs', if_neg hpm]
            exact old x (hrd p q r x hp hq) (fun b' h1 h2 => hne (hNdF.2 _ _ _ _ b' hpn hqk hmn hbk h1 h2).1) hpn
      have hndn : (g :: flat rows'.length k Fs').Nodup := by
        rw [hlen']
        refine List.nodup_cons.2 ⟨fun h => ?_, flat_nodup.2 ⟨fun p q hp hq => ?_, fun p q p' q' b' hp hq hp' hq' h1 h2 => ?_⟩⟩
        · rcases hflat' g h with h | h
          · exact hndf.1 h
          · have := hlt g (by simp); omega
        · simp only [Fs']
          split
          · exact hnd0
          · exact hNdF.1 p q hp hq
        · have hx : ∀ p q, p < rows.length → q < k → ¬ (p = m ∧ q = b) → ∀ b', b' ∈ F0 → b' ∈ Fs p q → False := fun p q hp hq hne b' ha hb' => by
            rcases hF0 b' ha with h | h
            · exact hne (hNdF.2 p q m b b' hp hq hmn hbk hb' h)
            · have := hlt b' (List.mem_cons_of_mem _ (flat_mem_lt hp hq hb')); omega
          simp only [Fs'] at h1 h2
          split at h1
          · rename_i he
            split at h2
            · rename_i he2; exact ⟨he.1.trans he2.1.symm, he.2.trans he2.2.symm⟩
            · rename_i he2; exact (hx p' q' hp' hq' he2 b' h1 h2).elim
          · rename_i he
            split at h2
            · exact (hx p q hp hq he b' h2 h1).elim
            · exact hNdF.2 p q p' q' b' hp hq hp' hq' h1 h2
      let F' : Nat → List Nat := fun j => if j = i then g :: flat rows'.length k Fs' else F j
      have hnewF : ∀ b', b' ∈ g :: flat rows'.length k Fs' → b' ∈ F i ∨ w.heap.size ≤ b' := fun b' h => by
        rw [hFi]
        rw [hlen'] at h
        rcases List.mem_cons.1 h with rfl | h
        · exact .inl (by simp)
        · exact (hflat' b' h).imp (List.mem_cons_of_mem _) id
      have lk : ∀ j p, look ((i, .vec nn ety k rows') :: hrem [i] H) j = some p → (j = i ∧ p = .vec nn ety k rows') ∨ (j ≠ i ∧ look H j = some p) := fun j p hp => by
        simp only [look, look_hrem] at hp
        split at hp
        · cases hp; exact .inl ⟨‹_›, rfl⟩
        · split at hp
          · cases hp
          · exact .inr ⟨‹_›, hp⟩
      have hold : ∀ j p b', j ≠ i → look H j = some p → b' ∈ F j → b' ∉ Fs m b := fun j p b' hne hp h1 h2 => hdisj j p b' hp (Ne.symm hne) (hFsub b' h2) h1
      refine ⟨ρ, S', F', ⟨fun j hj => ?_, fun j p hp => ?_, fun j p hp => ?_, fun j j' p p' b' hj hj' hne h1 h2 => ?_, fun j p b' hp h1 => ?_, fun j p b' hp h1 => ?_, hSlt⟩,
        ⟨hos, htape, hout, hsize, fun b' h1 h2 => hkeep b' h1 fun h3 => h2 ⟨i, _, hi, hFi ▸ hFsub b' h3⟩, hSS, fun b' h => (hSnew b' h).imp id (Or.imp (fun h => ⟨i, _, hi, hFi ▸ hFsub b' h⟩) id), fun b' ⟨j, p, hp, h1⟩ => ?_⟩, fun j r hr _ => hr⟩
      · simp only [look, look_hrem] at hj
        split at hj
        · cases hj
        · rename_i hne
          split at hj
          · rename_i h; simp only [List.mem_singleton] at h; exact absurd h hne
          · exact hH.dom j hj
      · rcases lk j p hp with ⟨rfl, rfl⟩ | ⟨hne, hp⟩
        · exact ⟨_, hroot, by simp only [F', if_true]; exact hobn⟩
        · obtain ⟨r, hr, hob⟩ := hH.obj j p hp
          refine ⟨r, hr, ?_⟩
          simp only [F', if_neg hne]
          exact hob.mono (fun _ _ h _ => h) hk' fun b' h => hkeep b' (hH.lt j p b' hp h) (hold j p b' hne hp h)
      · rcases lk j p hp with ⟨rfl, rfl⟩ | ⟨hne, hp⟩
        · simp only [F', if_true]; exact hndn
        · simp only [F', if_neg hne]; exact hH.nodup j p hp
      · have far : ∀ j p, j ≠ i → look H j = some p → ∀ b', b' ∈ F j → b' ∈ g :: flat rows'.length k Fs' → False := fun j p hne hp b' ha hb' => by
          rcases hnewF b' hb' with h | h
          · exact hH.disj i j _ p b' hi hp (Ne.symm hne) h ha
          · have := hH.lt j p b' hp ha; omega
        rcases lk j p hj with ⟨rfl, rfl⟩ | ⟨hn1, hp1⟩
        · rcases lk j' p' hj' with ⟨rfl, rfl⟩ | ⟨hn2, hp2⟩
          · exact hne rfl
          · simp only [F', if_true, if_neg hn2] at h1 h2
            exact far j' p' hn2 hp2 b' h2 h1
        · rcases lk j' p' hj' with ⟨rfl, rfl⟩ | ⟨hn2, hp2⟩
          · simp only [F', if_true, if_neg hn1] at h1 h2
            exact far j p hn1 hp1 b' h1 h2
          · simp only [F', if_neg hn1, if_neg hn2] at h1 h2
            exact hH.disj j j' p p' b' hp1 hp2 hne h1 h2
      · rcases lk j p hp with ⟨rfl, rfl⟩ | ⟨hne, hp⟩
        · simp only [F', if_true] at h1
          rw [hlen'] at h1
          intro hs
          rcases hSnew b' hs with h | h | h
          · rcases hnewF b' (by rw [hlen']; exact h1) with h' | h'
            · exact hsep b' (hFi ▸ h') h
            · have := hH.slt b' h; omega
          · rcases List.mem_cons.1 h1 with rfl | h1
            · exact hgF h
            · obtain ⟨p, q, hp, hq, h1⟩ := mem_flat.1 h1
              simp only [Fs'] at h1
              split at h1
              · exact hF0S b' h1 hs
              · rename_i hne; exact hne (hNdF.2 p q m b b' hp hq hmn hbk h1 h)
          · rcases List.mem_cons.1 h1 with rfl | h1
            · have := hlt b' (by simp); omega
            · obtain ⟨p, q, hp, hq, h1⟩ := mem_flat.1 h1
              simp only [Fs'] at h1
              split at h1
              · exact hF0S b' h1 hs
              · have := hlt b' (List.mem_cons_of_mem _ (flat_mem_lt hp hq h1)); omega
        · simp only [F', if_neg hne] at h1
          intro hs
          rcases hSnew b' hs with h | h | h
          · exact hH.sep j p b' hp h1 h
          · exact hold j p b' hne hp h1 h
          · have := hH.lt j p b' hp h1; omega
      · rcases lk j p hp with ⟨rfl, rfl⟩ | ⟨hne, hp⟩
        · simp only [F', if_true] at h1
          rw [hlen'] at h1
          rcases List.mem_cons.1 h1 with rfl | h1
          · exact Nat.lt_of_lt_of_le (hlt b' (by simp)) hsize
          · obtain ⟨p, q, hp, hq, h1⟩ := mem_flat.1 h1
            simp only [Fs'] at h1
            split at h1
            · exact hF0lt b' h1
            · exact Nat.lt_of_lt_of_le (hlt b' (List.mem_cons_of_mem _ (flat_mem_lt hp hq h1))) hsize
        · simp only [F', if_neg hne] at h1
          exact Nat.lt_of_lt_of_le (hH.lt j p b' hp h1) hsize
      · rcases lk j p hp with ⟨rfl, rfl⟩ | ⟨hne, hp⟩
        · simp only [F', if_true] at h1
          exact (hnewF b' h1).imp (fun h => ⟨_, _, hi, h⟩) id
        · simp only [F', if_neg hne] at h1
          exact .inl ⟨j, p, hp, h1⟩
    have hsz0 : (#[cc m b, u] : Array Value).size = 2 := rfl
    by_cases hsr : srows = []
    · obtain ⟨hs', hac⟩ := hnil hsr
      subst hsr
      have hH0 : HRel (fun _ => none) S (fun _ => []) [] w := ⟨fun _ _ => rfl, fun i o h => by simp [look] at h, fun i o h => by simp [look] at h, fun i j o p b h => by simp [look] at h, fun i o b h => by simp [look] at h, fun i o b h => by simp [look] at h, hH.slt⟩
      have hrdS : RD S w (cc m b) (.sl false false []) [] := by
        generalize cc m b = c at hd
        generalize Fs m b = F0 at hd
        cases hd with
        | nils => exact .nils false
        | exc g2 cap2 arr2 ety2 _ _ k3 cs2 Fs2 hh2 hcap2 hmax2 hsz2 hk3 hc2 hr2 => exact .shr ⟨g2, 0, none⟩ cap2 false [] k3 cs2 (Nat.zero_le _) (Nat.zero_le _) (fun i r h => by simp at h) (fun i j r x h => by simp at h) (fun i j r x h => by simp at h)
      refine (hac (fun _ => none) S (fun _ => []) #[cc m b, u] w rfl (fun j x hx => ?_) hH0 hG).mono ?_
      · match j with
        | 0 => simp at hx; subst hx; exact hrdS.toRV
        | 1 => simp at hx; subst hx; exact .c _
        | j + 2 => simp at hx
      · rintro en w' ⟨x, ρ', S', F', rfl, hx, hHn, hE, hA⟩
        have hUn : ∀ b, ¬ Ub ([] : Hp) (fun _ => []) b := fun b ⟨i, o, h1, _⟩ => by simp [look] at h1
        have hkp : ∀ b', b' < w.heap.size → w'.heap[b']? = w.heap[b']? := fun b' h => hE.keep b' h (hUn b')
        refine ⟨by rw [hx.c_inv], fin w' S (Fs m b) ?_ ((flat_nodup.1 hndf.2).1 m b hmn hbk) (fun b' h => .inl h) (fun b' h => hsep b' (hFsub b' h)) (fun b' h => Nat.lt_of_lt_of_le (hlt b' (hFsub b' h)) hE.size) (fun b' h => Nat.lt_of_lt_of_le (hH.slt b' h) hE.size) hE.os hE.tape hE.output hE.size (fun b' h _ => hkp b' h) (fun _ h => h) (fun _ h => .inl h)⟩
        rw [hs']
        exact (hd.mono (fun b' h => ⟨h, hkp b' (hH.slt b' h)⟩) (fun b' h => hkp b' (hlt b' (hFsub b' h)))).low
    · obtain ⟨e2, he2, hobc⟩ : ∃ e2 : Tg, e2.hard = true ∧ ObR (fun j => if j = 0 then some (cc m b) else none) S w (cc m b) (.vec false e2 k2 srows) (Fs m b) := by
        generalize cc m b = c at hd
        generalize Fs m b = F0 at hd
        cases hd with
        | nils => exact absurd rfl hsr
        | exc g2 cap2 arr2 ety2 _ _ k3 cs2 Fs2 hh2 hcap2 hmax2 hsz2 hk3 hc2 hr2 ht2 =>
          have : k3 = k2 := by
            cases srows with
            | nil => exact absurd rfl hsr
            | cons r l => rw [← hk3 0 r rfl, hk2 r (by simp)]
          subst this
          exact ⟨ety2, rfl, .vec g2 cap2 arr2 false ety2 k3 srows cs2 Fs2 hh2 hcap2 hmax2 hsz2 hk3 hc2 hr2 ⟨rfl, ht2⟩⟩
      have hFnd : (Fs m b).Nodup := (flat_nodup.1 hndf.2).1 m b hmn hbk
      have hHc : HRel (fun j => if j = 0 then some (cc m b) else none) S (fun _ => Fs m b) [(0, .vec false e2 k2 srows)] w := by
        have l0 : ∀ j o, look [(0, Ob.vec false e2 k2 srows)] j = some o → j = 0 ∧ o = .vec false e2 k2 srows := fun j o h => by
          simp only [look] at h
          split at h
          · cases h; exact ⟨‹_›, rfl⟩
          · cases h
        refine ⟨fun j hj => ?_, fun j o h => ?_, fun j o h => hFnd, fun j j' o p b' h h' hne _ _ => ?_, fun j o b' h h1 => hsep b' (hFsub b' h1), fun j o b' h h1 => hlt b' (hFsub b' h1), hH.slt⟩
        · simp only [look] at hj
          split at hj
          · cases hj
          · rename_i hne; simp [hne]
        · obtain ⟨rfl, rfl⟩ := l0 j o h
          exact ⟨cc m b, by simp, hobc⟩
        · exact hne ((l0 j o h).1.trans (l0 j' p h').1.symm)
      refine (hcont hsr e2 _ S _ #[cc m b, u] w rfl (fun j x hx => ?_) hHc hG).mono ?_
      · match j with
        | 0 => simp at hx; subst hx; exact .own _ 0 fun r hr => by simp at hr; simpa using hr
        | 1 => simp at hx; subst hx; exact .c _
        | j + 2 => simp at hx
      · rintro en w' ⟨x, ρ', S', F', rfl, hx, hHn, hE, hA⟩
        have hl0 : look [(0, Ob.vec false e2 k2 srows')] 0 = some (.vec false e2 k2 srows') := rfl
        obtain ⟨r1, hr1, hob1⟩ := hHn.obj 0 _ hl0
        have hr1c : r1 = cc m b := by
          have := hA 0 r1 (by omega) hr1
          simpa using this.symm
        subst hr1c
        have hU : ∀ b', Ub [(0, Ob.vec false e2 k2 srows)] (fun _ => Fs m b) b' → b' ∈ Fs m b := fun b' ⟨_, _, _, h⟩ => h
        refine ⟨by rw [hx.c_inv], fin w' S' (F' 0) (hob1.toRD he2) (hHn.nodup 0 _ hl0) (fun b' h => (hE.newU b' ⟨0, _, hl0, h⟩).imp (hU b') id) (fun b' h => hHn.sep 0 _ b' hl0 h) (fun b' h => hHn.lt 0 _ b' hl0 h) hHn.slt hE.os hE.tape hE.output hE.size (fun b' h h2 => hE.keep b' h fun h3 => h2 (hU b' h3)) hE.sub (fun b' h => (hE.newS b' h).imp id (Or.imp (hU b') id))⟩

/-- a region that calls a function with a slice out of a cell of one's own slice -/
theorem CodeOk.nest {D : Tab} (hD : TabOk P D) {id : Nat} {l : List Oper} (pre post : List Oper) {oL oM oC : Oper} (hl : l = pre ++ oL :: oM :: oC :: post) {T : List V} {H0 : Hp} {Q : Exit → St → Prop} (T1 : List V) (H : Hp)
    (hpre : OpsOk P G l.toArray pre ⟨T, H0⟩ fun st => Weak st ⟨T1, H⟩)
    {tL : TypeId} {p dl s dm dc i k m b : Nat} {u : Value} (gL : oL.guard = none) (opL : oL.op = .load tL (.tmp p)) (dL : oL.dst = some dl) (gM : oM.guard = none) (opM : oM.op = .move (.tmp s)) (dM : oM.dst = some dm)
    {f : FuncId} {ats : Array TypeId} (gC : oC.guard = none) (opC : oC.op = .call { callee := .value (.func f), args := #[.tmp dl, .tmp dm], argTypes := ats }) (dC : oC.dst = some dc) (hcf : callOk P f)
    {it : Ty} (ht : D.at tL = some it) (hag : it.d.agg = false) (hdl : dl < T1.length) (hdm : dm < T1.length) (hne : dl ≠ dm) (hsl : s ≠ dl)
    (hp : T1[p]? = some (.vp i k m b)) (hs : T1[s]? = some (.c u))
    {nn nn2 : Bool} {ety : Tg} {rows : List (List V)} {row : List V} (hi : look H i = some (.vec nn ety k rows)) (hrow : rows[m]? = some row) {srows srows' : List (List V)} (hb : row[b]? = some (.sl nn2 true srows))
    {u' : Value} {k2 : Nat} (hcont : srows ≠ [] → ∀ e, AC P G f [.own 0, .c u] [(0, .vec false e k2 srows)] (.c u') [(0, .vec false e k2 srows')])
    (hnil : srows = [] → srows' = [] ∧ AC P G f [.sl false false [], .c u] [] (.c u') []) (hk2 : ∀ r, r ∈ srows → r.length = k2)
    (hpost : OpsOk P G l.toArray post ⟨((T1.set dl .junk).set dm (.c u)).set dc (.c u'), (i, .vec nn ety k (rows.set m (row.set b (.sl false true srows')))) :: hrem [i] H⟩ (Q .normal)) :
    CodeOk L P G (.region id l.toArray false) ⟨T, H0⟩ Q := by
  intro B ρ S F a w R hst hn
  refine wpIn_region_lit ?_
  have hgo : wpListIn (fen L) 0 P l.toArray R (pre ++ oL :: oM :: oC :: post) a w := by
    refine OpsOk.wpThen pre hpre hst fun st1 h1 => ?_
    intro ρ0 S0 F0 a1 w1 hst0 hE0 hA0
    obtain ⟨ρ1, S1, F1, hst1, hE01, hA01⟩ := h1 _ G ρ0 S0 F0 a1 w1 hst0
    have hE1 := hE0.trans hE01
    have hA1 := hA0.trans hA01
    have hvp := hst1.tmps p _ hp
    obtain ⟨r0, hr0, hob⟩ := hst1.heap.obj i _ hi
    obtain ⟨g, n, cap, e1, e2⟩ := hvp.vp_inv r0 hr0
    subst e1
    obtain ⟨c, hcell, hone, hcalls⟩ := nest_call hcont hnil hk2 hst1.heap hst1.glob hi hrow hb hr0
    have hz := hst1.size
    simp only at hz
    -- the load
    have hload : (execOp a1.eval oL).run P w1 = .ok (.value c) w1 := by
      unfold execOp
      have hv : a1.eval (.tmp p) = .pointer (some ⟨g, m * k + b, none⟩) := e2
      simp only [opL, hv]
      have hpart : (loadVar tL ⟨g, m * k + b, none⟩).run P w1 = .ok c w1 := by
        simp only [loadVar, Sem.run_bind, (hD _ _ ht).isAgg w1, Result.andThen_ok, hag]
        simp [hcell]
      simp [Instr.loadAt, Instr.sureAddr, hpart]
    unfold wpListIn
    rw [if_pos (by simp [Region.wanted, gL])]
    refine ⟨fun _ _ => trivial, ?_⟩
    rw [Oper.semAt_eq _ _ _ (by intro c h; rw [opL] at h; cases h), hload, Oper.uponIn_value]
    -- the move
    unfold wpListIn
    rw [if_pos (by simp [Region.wanted, gM])]
    have hs1 : (a1.put oL.dst c).eval (.tmp s) = u := by
      have := (hst1.tmps s _ hs).c_inv
      simp only [Act.eval, dL, Act.put]
      rw [getD_setIfInBounds (by rw [hz]; exact (List.getElem?_eq_some_iff.1 hs).1), if_neg hsl]
      exact this
    have hmove : (execOp (a1.put oL.dst c).eval oM).run P w1 = .ok (.value u) w1 := by
      unfold execOp
      simp only [opM, hs1, Sem.run_pure, Sem.run_bind, Result.andThen_ok]
    refine ⟨fun _ _ => trivial, ?_⟩
    rw [Oper.semAt_eq _ _ _ (by intro c h; rw [opM] at h; cases h), hmove, Oper.uponIn_value]
    -- the call
    unfold wpListIn
    rw [if_pos (by simp [Region.wanted, gC])]
    generalize ha3 : ((a1.put oL.dst c).put oM.dst u) = a3
    have ht3 : a3.tmps = (a1.tmps.setIfInBounds dl c).setIfInBounds dm u := by rw [← ha3]; simp [dL, dM, Act.put]
    have hd3 : a3.defers = a1.defers := by rw [← ha3]; simp [dL, dM, Act.put]
    have hv1 : a3.eval (.tmp dl) = c := by
      simp only [Act.eval, ht3]
      rw [getD_setIfInBounds (by simp [hz, hdl]), if_neg hne, getD_setIfInBounds (by rw [hz]; exact hdl), if_pos rfl]
    have hv2 : a3.eval (.tmp dm) = u := by
      simp only [Act.eval, ht3]
      rw [getD_setIfInBounds (by simp [hz, hdm]), if_pos rfl]
    have hcall : (execOp a3.eval oC).run P w1 = .ok (.enter f #[c, u]) w1 := by
      unfold execOp
      have hfv : a3.eval (.func f) = .func (.func f) #[] #[] := rfl
      simp only [opC, resolve, hfv, Deferred.ofValue, Sem.run_bind, Sem.run_pure, Result.andThen_ok, invoke, Array.empty_append, Array.append_empty, List.map_toArray, List.map_cons, List.map_nil, hv1, hv2]
      exact hcf #[c, u] w1
    refine ⟨fun _ _ => trivial, ?_⟩
    rw [Oper.semAt_eq _ _ _ (by intro c h; rw [opC] at h; cases h), hcall, Oper.uponIn_enter]
    refine ⟨fun h => (by cases h), ?_⟩
    refine CallsIn.mono (callsIn_wide.2 hcalls : CallsIn Fence.wide 0 P _ _ _ _) ?_
    rintro en w' ⟨rfl, ρ2, S2, F2, hH2, hE2, hA2⟩
    simp only
    refine OpsOk.wpThen (B := B) (rest := []) post hpost (ρ := ρ2) (S := S2) (F := F2) ?_ (fun st' h' => ?_) |> fun h => by simpa using h
    · have hkp := hst1.heap.keeps hE2
      refine ⟨by simp only [dC, Act.put, hd3]; exact hst1.defers.evo hst1.heap hE2, by simp [dC, Act.put, ht3, hz], fun j x hx => ?_, hH2, hst1.glob.mono hkp⟩
      have hold : ∀ j x, T1[j]? = some x → RV ρ2 S2 w' (a1.tmps.getD j undef) x := fun j x h => (hst1.tmps j x h).mono (fun i r hi _ => hA2 i r hi (by simp)) hkp
      have hjT : j < T1.length := by have := (List.getElem?_eq_some_iff.1 hx).1; simpa using this
      simp only [dC, Act.put, ht3]
      rw [getD_setIfInBounds (by simp [hz, hjT])]
      rcases set_get hx with ⟨rfl, rfl⟩ | ⟨h1, hx⟩
      · rw [if_pos rfl]; exact .c _
      · rw [if_neg h1, getD_setIfInBounds (by simp [hz, hjT])]
        rcases set_get hx with ⟨rfl, rfl⟩ | ⟨h2, hx⟩
        · rw [if_pos rfl]; exact .c _
        · rw [if_neg h2, getD_setIfInBounds (by rw [hz]; exact hjT)]
          rcases set_get hx with ⟨rfl, rfl⟩ | ⟨h3, hx⟩
          · rw [if_pos rfl]; exact .junk _
          · rw [if_neg h3]; exact hold j x hx
    · intro ρ3 S3 F3 a4 w4 hst4 hE4 hA4
      exact hn .normal st' h' ρ3 S3 F3 a4 w4 hst4 (hE1.trans (hE2.trans hE4)) (hA1.trans (AgF.trans (fun j r _ hr => hA2 j r hr (by simp)) hA4))
  rw [hl] at hgo ⊢
  exact hgo

theorem OpsOk.free {ops ops' : Array Oper} : ∀ {l : List Oper} {st : St} {Q : St → Prop}, (l.all fun o => o.guard.isNone) = true → OpsOk P G ops l st Q → OpsOk P G ops' l st Q
  | [], _, _, _, h => h
  | o :: l, st, Q, hg, h => by
    simp only [List.all_cons, Bool.and_eq_true] at hg
    unfold OpsOk at h ⊢
    have hn : o.guard = none := by
      cases hgo : o.guard with
      | none => rfl
      | some _ => rw [hgo] at hg; exact absurd hg.1 (by simp)
    rw [hn] at h ⊢
    obtain ⟨v, H', N, h1, h2, h3⟩ := h
    exact ⟨v, H', N, h1, h2, OpsOk.free hg.2 h3⟩

theorem W.toOps {l : List Oper} {ops' : Array Oper} {T : List V} {H : Hp} {Q : St → Prop} (hg : (l.all fun o => o.guard.isNone) = true) (h : W P G l.toArray false T H 0 T H [] Q) : OpsOk P G ops' l ⟨T, H⟩ Q := by
  obtain ⟨tail, T', H', hc, hk, hq⟩ := h
  have := hc.opsOk (Q := Q) (by simpa [okR] using hk) hq
  exact OpsOk.free hg (by simpa using this)

/-- what an operation is, where it goes -/
def opAs (l : List Oper) (n : Nat) (op : Op) (d : Nat) : Prop := ∃ o, l[n]? = some o ∧ o.op = op ∧ o.dst = some d

theorem split3 {l : List Oper} {n : Nat} {a b c : Oper} (ha : l[n]? = some a) (hb : l[n + 1]? = some b) (hc : l[n + 2]? = some c) : l = l.take n ++ a :: b :: c :: l.drop (n + 3) := by
  have h1 := (List.getElem?_eq_some_iff.1 ha)
  have h2 := (List.getElem?_eq_some_iff.1 hb)
  have h3 := (List.getElem?_eq_some_iff.1 hc)
  obtain ⟨l1, e1⟩ := h1
  obtain ⟨l2, e2⟩ := h2
  obtain ⟨l3, e3⟩ := h3
  conv => lhs; rw [← List.take_append_drop n l]
  rw [List.drop_eq_getElem_cons l1, e1, List.drop_eq_getElem_cons l2, e2, List.drop_eq_getElem_cons l3, e3]

/-- a region with such a call, told by places; behind it a state told by hand -/
theorem CodeOk.nestEnd {D : Tab} (hD : TabOk P D) {id : Nat} {l : List Oper} (n : Nat) {T : List V} {H0 : Hp} {Q : Exit → St → Prop} (T1 : List V) (H : Hp) (T' : List V) (H' : Hp)
    (hg : (l.all fun o => o.guard.isNone) = true) (hpre : W P G (l.take n).toArray false T H0 0 T H0 [] fun st => Weak st ⟨T1, H⟩)
    {tL p dl s dm dc i k m b : Nat} {u : Value} {f : FuncId} {ats : Array TypeId}
    (hL : opAs l n (.load tL (.tmp p)) dl) (hM : opAs l (n + 1) (.move (.tmp s)) dm) (hC : opAs l (n + 2) (.call { callee := .value (.func f), args := #[.tmp dl, .tmp dm], argTypes := ats }) dc) (hcf : callOk P f)
    (ht : (D.at tL).any (fun it => !it.d.agg) = true) (hnum : (Nat.blt dl T1.length && Nat.blt dm T1.length && dl != dm && s != dl) = true)
    (hp : T1[p]? = some (.vp i k m b)) (hs : T1[s]? = some (.c u))
    {nn nn2 : Bool} {ety : Tg} {α : Type} (enc : α → List V) {la la' : List α} {n0 : Int} {x x' : α} (hx : ix la n0 = some x) (hu : upd la n0 x' = some la') (hm : m = n0.toNat)
    (hi : look H i = some (.vec nn ety k (la.map enc))) {srows srows' : List (List V)} (hb : (enc x)[b]? = some (.sl nn2 true srows)) (hx' : (enc x).set b (.sl false true srows') = enc x')
    {u' : Value} {k2 : Nat} (hcont : srows ≠ [] → ∀ e, AC P G f [.own 0, .c u] [(0, .vec false e k2 srows)] (.c u') [(0, .vec false e k2 srows')])
    (hnil : srows = [] → srows' = [] ∧ AC P G f [.sl false false [], .c u] [] (.c u') []) (hk2 : ∀ r, r ∈ srows → r.length = k2)
    (hpost : W P G (l.drop (n + 3)).toArray false (((T1.set dl .junk).set dm (.c u)).set dc (.c u')) ((i, .vec nn ety k (la'.map enc)) :: hrem [i] H) 0 (((T1.set dl .junk).set dm (.c u)).set dc (.c u')) ((i, .vec nn ety k (la'.map enc)) :: hrem [i] H) [] fun st => Weak st ⟨T', H'⟩)
    (hQ : ∀ st, Weak st ⟨T', H'⟩ → Q .normal st) : CodeOk L P G (.region id l.toArray false) ⟨T, H0⟩ Q := by
  obtain ⟨oL, hL1, hL2, hL3⟩ := hL
  obtain ⟨oM, hM1, hM2, hM3⟩ := hM
  obtain ⟨oC, hC1, hC2, hC3⟩ := hC
  have hsp := split3 hL1 hM1 hC1
  have hgn : ∀ o, o ∈ l → o.guard = none := fun o ho => by
    have := List.all_eq_true.1 hg o ho
    cases h : o.guard with
    | none => rfl
    | some _ => rw [h] at this; exact absurd this (by simp)
  have hgsub : ∀ l2 : List Oper, (∀ o, o ∈ l2 → o ∈ l) → (l2.all fun o => o.guard.isNone) = true := fun l2 h => List.all_eq_true.2 fun o ho => by rw [hgn o (h o ho)]; rfl
  simp only [Bool.and_eq_true, Nat.blt_eq, bne_iff_ne] at hnum
  obtain ⟨⟨⟨h1, h2⟩, h3⟩, h4⟩ := hnum
  obtain ⟨q1, q2⟩ := ix_some hx
  subst hm
  have hrow : (la.map enc)[n0.toNat]? = some (enc x) := by rw [List.getElem?_map, q2]; rfl
  have hset : (la.map enc).set n0.toNat ((enc x).set b (.sl false true srows')) = la'.map enc := by
    unfold upd at hu
    split at hu
    · cases hu; rw [hx', List.map_set]
    · cases hu
  obtain ⟨it, ht1, ht2⟩ : ∃ it, D.at tL = some it ∧ it.d.agg = false := by
    cases h : D.at tL with
    | none => rw [h] at ht; cases ht
    | some it => rw [h] at ht; exact ⟨it, rfl, by simpa using ht⟩
  refine CodeOk.nest hD (l.take n) (l.drop (n + 3)) hsp T1 H (W.toOps (hgsub _ fun o ho => List.mem_of_mem_take ho) hpre) (hgn _ (List.mem_of_getElem? hL1)) hL2 hL3 (hgn _ (List.mem_of_getElem? hM1)) hM2 hM3 (hgn _ (List.mem_of_getElem? hC1)) hC2 hC3 hcf ht1 ht2 h1 h2 h3 h4 hp hs hi hrow hb hcont hnil hk2 ?_
  rw [hset]
  have := W.toOps (ops' := l.toArray) (hgsub _ fun o ho => List.mem_of_mem_drop ho) hpost
  exact OpsOk.imp this fun st h => hQ st h

end
end Go.Av

namespace Go.Av

theorem wrap64 {n : Int} (h1 : -9223372036854775808 ≤ n) (h2 : n ≤ 9223372036854775807) : IntKind.wrap .i64 n = n := by
  rw [IntKind.wrap_i64]; omega

theorem ix_nat {α : Type} {l : List α} {i : Nat} (h : i < l.length) : ix l (i : Int) = some l[i] := by
  unfold ix
  rw [if_pos (Int.natCast_nonneg i), Int.toNat_natCast, List.getElem?_eq_getElem h]

theorem ix_get {α : Type} {l : List α} {i : Nat} {x : α} (h : l[i]? = some x) : ix l (i : Int) = some x := by
  unfold ix
  rw [if_pos (Int.natCast_nonneg i), Int.toNat_natCast, h]

theorem upd_nat {α : Type} {l : List α} {i : Nat} {x : α} (h : i < l.length) : upd l (i : Int) x = some (l.set i x) := by
  unfold upd
  rw [if_pos ⟨Int.natCast_nonneg i, by simpa using h⟩, Int.toNat_natCast]

theorem step64 {i n : Nat} (h : i < n) (hn : n ≤ maxLen) : IntKind.wrap .i64 ((i : Int) + 1) = ((i + 1 : Nat) : Int) := by
  simp only [maxLen] at hn
  rw [wrap64 (by omega) (by omega)]
  omega

theorem cut_nat {α : Type} {l : List α} {a b : Nat} (h : a ≤ b) (hb : b ≤ l.length) : cut l (a : Int) (b : Int) = some ((l.drop a).take (b - a)) := by
  unfold cut
  rw [if_pos ⟨Int.natCast_nonneg a, by omega, by omega⟩]
  simp

theorem app_some {α : Type} {n : Nat} {l l2 : List α} (h : (l.length + l2.length) * n ≤ 140737488355328) : app n l l2 = some (l ++ l2) := by
  unfold app
  rw [if_pos h]

theorem cat_some {a b : List UInt8} (h : a.length + b.length ≤ maxLen) : cat a b = some (a ++ b) := by
  unfold cat
  rw [if_pos h]

theorem mk_some {α : Type} {n : Nat} {z : α} {i : Nat} (h : n * i ≤ 281474976710656) (h2 : i ≤ maxLen) : mk n z (i : Int) = some (List.replicate i z) := by
  unfold mk
  rw [if_pos ⟨Int.natCast_nonneg i, by simpa using h, by simpa using h2⟩, Int.toNat_natCast]

theorem lt_true {i n : Nat} (h : i < n) : decide ((i : Int) < (n : Int)) = true := by simp [h]
theorem lt_false {i n : Nat} (h : ¬ i < n) : decide ((i : Int) < (n : Int)) = false := by simp; omega

theorem drop_cons {α : Type} {l : List α} {i : Nat} (h : i < l.length) : l.drop i = l[i] :: l.drop (i + 1) := List.drop_eq_getElem_cons h
theorem drop_nil {α : Type} {l : List α} {i : Nat} (h : ¬ i < l.length) : l.drop i = [] := List.drop_of_length_le (by omega)

/-! ### loops that copy, compare, measure -/
def toL {α : Type} (f : α → Option α) : Nat → (List α × Int × List α) → Option (List α)
  | 0, _ => none
  | n + 1, (a, i, y) => bif decide (i < (a.length : Int)) then Option.bind (ix a i) fun e => Option.bind (f e) fun r => Option.bind (ix y i) fun _ => Option.bind (upd y i r) fun x => toL f n (a, IntKind.wrap .i64 (i + 1), x) else some y

theorem toL_is {α : Type} (f : α → Option α) (a : List α) (hf : ∀ x, x ∈ a → f x = some x) (hl : a.length ≤ maxLen) : ∀ (n i : Nat) (y : List α), a.length - i < n → i ≤ a.length → y.length = a.length → y.take i = a.take i → toL f n (a, (i : Int), y) = some a := by
  intro n
  induction n with
  | zero => intro i y h; omega
  | succ n ih =>
    intro i y hn hi hy ht
    rw [toL]
    by_cases h : i < a.length
    · have hy' : i < y.length := by omega
      simp only [lt_true h, cond_true, ix_nat h, Option.bind_some, hf _ (List.getElem_mem h), ix_nat hy', upd_nat hy', step64 h hl]
      refine ih (i + 1) _ (by omega) (by omega) (by simpa using hy) ?_
      rw [List.take_add_one, List.take_add_one, List.take_set_of_le (Nat.le_refl i), ht, List.getElem?_set_self hy', List.getElem?_eq_getElem h]
    · simp only [lt_false h, cond_false]
      have hi' : i = a.length := by omega
      subst hi'
      rw [List.take_of_length_le (by omega), List.take_of_length_le (by omega)] at ht
      rw [ht]

def eqL {α : Type} (f : α → α → Option Bool) : Nat → (List α × List α × Int) → Option Bool
  | 0, _ => none
  | n + 1, (a, b, i) => bif decide (i < (a.length : Int)) then Option.bind (ix a i) fun x => Option.bind (ix b i) fun y => Option.bind (f x y) fun r => bif !r then some false else eqL f n (a, b, IntKind.wrap .i64 (i + 1)) else some true

theorem eqL_self {α : Type} (f : α → α → Option Bool) (a : List α) (hf : ∀ x, x ∈ a → f x x = some true) (hl : a.length ≤ maxLen) : ∀ (n i : Nat), a.length - i < n → i ≤ a.length → eqL f n (a, a, (i : Int)) = some true := by
  intro n
  induction n with
  | zero => intro i h; omega
  | succ n ih =>
    intro i hn hi
    rw [eqL]
    by_cases h : i < a.length
    · simp only [lt_true h, cond_true, ix_nat h, Option.bind_some, hf _ (List.getElem_mem h), Bool.not_true, cond_false, step64 h hl]
      exact ih (i + 1) (by omega) (by omega)
    · simp only [lt_false h, cond_false]

def szL {α : Type} (f : α → Int → Option Int) : Nat → (List α × Int × Int) → Option Int
  | 0, _ => none
  | n + 1, (a, b, i) => bif decide (i < (a.length : Int)) then Option.bind (ix a i) fun e => Option.bind (f e b) fun r => bif decide (r < 0) then some (-1) else szL f n (a, r, IntKind.wrap .i64 (i + 1)) else some b

/-- what a measure says: none of it is left, or so much -/
def Sz (f : Int → Option Int) (s : Nat) : Prop := ∀ b : Int, 0 ≤ b → b ≤ 1048576 → ∃ r, f b = some r ∧ ((r < 0 ∧ b < s) ∨ r = b - s ∧ 0 ≤ r)

def sumN {α : Type} (sz : α → Nat) (l : List α) : Nat := (l.map sz).sum

theorem szL_is {α : Type} (f : α → Int → Option Int) (sz : α → Nat) (a : List α) (hf : ∀ x, x ∈ a → Sz (f x) (sz x)) (hl : a.length ≤ maxLen) : ∀ (n i : Nat) (b : Int), a.length - i < n → i ≤ a.length → 0 ≤ b → b ≤ 1048576 →
    ∃ r, szL f n (a, b, (i : Int)) = some r ∧ ((r < 0 ∧ b < sumN sz (a.drop i)) ∨ r = b - sumN sz (a.drop i) ∧ 0 ≤ r) := by
  intro n
  induction n with
  | zero => intro i b h; omega
  | succ n ih =>
    intro i b hn hi h0 h1
    rw [szL]
    by_cases h : i < a.length
    · obtain ⟨r, hr, hc⟩ := hf _ (List.getElem_mem h) b h0 h1
      have hs : sumN sz (a.drop i) = sz a[i] + sumN sz (a.drop (i + 1)) := by rw [drop_cons h]; simp only [sumN, List.map_cons, List.sum_cons]
      simp only [lt_true h, cond_true, ix_nat h, Option.bind_some, hr, step64 h hl]
      rcases hc with ⟨hc, hb⟩ | ⟨hc, hr0⟩
      · exact ⟨-1, by simp [hc], .inl ⟨by omega, by omega⟩⟩
      · obtain ⟨r', hr', hc'⟩ := ih (i + 1) r (by omega) (by omega) hr0 (by omega)
        have hd : decide (r < 0) = false := by simp; omega
        refine ⟨r', by rw [hd]; exact hr', ?_⟩
        rcases hc' with ⟨h2, h3⟩ | ⟨h2, h3⟩
        · exact .inl ⟨h2, by omega⟩
        · exact .inr ⟨by omega, h3⟩
    · simp only [lt_false h, cond_false]
      exact ⟨b, rfl, .inr ⟨by rw [drop_nil h]; simp [sumN], h0⟩⟩

theorem sumN_mem {α : Type} {sz : α → Nat} {l : List α} {x : α} (h : x ∈ l) : sz x ≤ sumN sz l := by
  induction l with
  | nil => cases h
  | cons y l ih =>
    simp only [sumN, List.map_cons, List.sum_cons]
    rcases List.mem_cons.1 h with rfl | h
    · omega
    · have := ih h; simp only [sumN] at this; omega

/-- length and then elements -/
theorem Sz.list {α : Type} {f : α → Int → Option Int} {sz : α → Nat} {a : List α} (hf : ∀ x, x ∈ a → Sz (f x) (sz x)) (hl : a.length ≤ maxLen) {g : Nat → Int → Option Int} {n : Nat} (hn : a.length < n)
    (hg : ∀ b, g n b = bif decide (IntKind.wrap .i64 (b - (a.length : Int)) < 0) then some (-1) else szL f n (a, IntKind.wrap .i64 (b - (a.length : Int)), 0)) : Sz (g n) (a.length + sumN sz a) := by
  intro b h0 h1
  have hl' := hl
  simp only [maxLen] at hl'
  rw [hg, wrap64 (by omega) (by omega)]
  by_cases h : b - (a.length : Int) < 0
  · exact ⟨-1, by simp [h], .inl ⟨by omega, by omega⟩⟩
  · obtain ⟨r, hr, hc⟩ := szL_is f sz a hf hl n 0 (b - a.length) (by omega) (by omega) (by omega) (by omega)
    refine ⟨r, by simp only [h, decide_false, cond_false]; exact hr, ?_⟩
    rw [List.drop_zero] at hc
    rcases hc with ⟨h2, h3⟩ | ⟨h2, h3⟩
    · exact .inl ⟨h2, by omega⟩
    · exact .inr ⟨by omega, h3⟩

/-! ### marks -/
/-- all marked, one behind the other -/
def mkAll {α : Type} (mk : α → Int → α × Int) : List α → Int → List α × Int
  | [], k => ([], k)
  | e :: l, k => ((mk e k).1 :: (mkAll mk l (mk e k).2).1, (mkAll mk l (mk e k).2).2)

theorem mkAll_le {α : Type} {mk : α → Int → α × Int} {cost : α → Nat} (hmk : ∀ e k, 0 ≤ k → k ≤ (mk e k).2 ∧ (mk e k).2 ≤ k + cost e) : ∀ (l : List α) (k : Int), 0 ≤ k → k ≤ (mkAll mk l k).2 ∧ (mkAll mk l k).2 ≤ k + sumN cost l
  | [], k, h => by simp [mkAll, sumN]
  | e :: l, k, h => by
    have h1 := hmk e k h
    have h2 := mkAll_le hmk l (mk e k).2 (by omega)
    simp only [mkAll, sumN, List.map_cons, List.sum_cons] at h2 ⊢
    omega

theorem mkAll_len {α : Type} (mk : α → Int → α × Int) : ∀ (l : List α) (k : Int), (mkAll mk l k).1.length = l.length
  | [], _ => rfl
  | e :: l, k => by simp [mkAll, mkAll_len mk l]

theorem set_mid {α : Type} (pre : List α) (e x : α) (rest : List α) : (pre ++ e :: rest).set pre.length x = pre ++ x :: rest := by
  rw [List.set_append_right _ _ (Nat.le_refl _), Nat.sub_self, List.set_cons_zero]

theorem get_mid {α : Type} (pre : List α) (e : α) (rest : List α) : (pre ++ e :: rest)[pre.length]? = some e := by
  rw [List.getElem?_append_right (Nat.le_refl _), Nat.sub_self, List.getElem?_cons_zero]

theorem markLoop {α : Type} {M : Nat → (Int × Int × List α) → Option (Int × List α)} {mk : α → Int → α × Int} {cost : α → Nat} {ok : α → Prop} (hmk : ∀ e k, 0 ≤ k → k ≤ (mk e k).2 ∧ (mk e k).2 ≤ k + cost e)
    (step : ∀ (n : Nat) (k : Int) (i : Nat) (y : List α) (e : α), ok e → 0 ≤ k → k + (cost e : Int) ≤ 4611686018427387904 → y.length ≤ maxLen → y[i]? = some e → M (n + 1) (k, (i : Int), y) = M n ((mk e k).2, ((i + 1 : Nat) : Int), y.set i (mk e k).1))
    (stop : ∀ (n : Nat) (k : Int) (i : Nat) (y : List α), ¬ i < y.length → M (n + 1) (k, (i : Int), y) = some (k, y)) :
    ∀ (rest pre : List α) (k : Int) (n : Nat), (∀ e, e ∈ rest → ok e) → 0 ≤ k → k + (sumN cost rest : Int) ≤ 4611686018427387904 → rest.length < n → (pre ++ rest).length ≤ maxLen →
      M n (k, (pre.length : Int), pre ++ rest) = some ((mkAll mk rest k).2, pre ++ (mkAll mk rest k).1) := by
  intro rest
  induction rest with
  | nil =>
    intro pre k n _ _ _ hn _
    obtain ⟨n, rfl⟩ : ∃ m, n = m + 1 := ⟨n - 1, by simp at hn; omega⟩
    rw [stop n k pre.length _ (by simp)]
    simp [mkAll]
  | cons e rest ih =>
    intro pre k n hok h0 hk hn hl
    obtain ⟨n, rfl⟩ : ∃ m, n = m + 1 := ⟨n - 1, by simp at hn; omega⟩
    simp only [sumN, List.map_cons, List.sum_cons] at hk
    have h1 := hmk e k h0
    rw [step n k pre.length _ e (hok e (by simp)) h0 (by omega) hl (get_mid _ _ _), set_mid]
    have := ih (pre ++ [(mk e k).1]) (mk e k).2 n (fun x hx => hok x (by simp [hx])) (by omega) (by simp only [sumN]; omega) (by simp at hn; omega) (by simpa using hl)
    simp only [List.length_append, List.length_cons, List.length_nil, List.append_assoc, List.cons_append, List.nil_append, Nat.zero_add] at this
    rw [this]
    simp [mkAll]

theorem heldLoop {α : Type} {L : Nat → (List α × Int × Int) → Option Int} {mk : α → Int → α × Int} {cost : α → Nat} {ok : α → Prop} (hmk : ∀ e k, 0 ≤ k → k ≤ (mk e k).2 ∧ (mk e k).2 ≤ k + cost e)
    (step : ∀ (n : Nat) (k : Int) (i : Nat) (a : List α) (e : α), ok e → 0 ≤ k → k + (cost e : Int) ≤ 4611686018427387904 → a.length ≤ maxLen → a[i]? = some (mk e k).1 → L (n + 1) (a, k, (i : Int)) = L n (a, (mk e k).2, ((i + 1 : Nat) : Int)))
    (stop : ∀ (n : Nat) (k : Int) (i : Nat) (a : List α), ¬ i < a.length → L (n + 1) (a, k, (i : Int)) = some k) :
    ∀ (rest pre : List α) (k : Int) (n : Nat), (∀ e, e ∈ rest → ok e) → 0 ≤ k → k + (sumN cost rest : Int) ≤ 4611686018427387904 → rest.length < n → (pre ++ rest).length ≤ maxLen →
      L n (pre ++ (mkAll mk rest k).1, k, (pre.length : Int)) = some (mkAll mk rest k).2 := by
  intro rest
  induction rest with
  | nil =>
    intro pre k n _ _ _ hn _
    obtain ⟨n, rfl⟩ : ∃ m, n = m + 1 := ⟨n - 1, by simp at hn; omega⟩
    rw [stop n k pre.length _ (by simp [mkAll])]
    simp [mkAll]
  | cons e rest ih =>
    intro pre k n hok h0 hk hn hl
    obtain ⟨n, rfl⟩ : ∃ m, n = m + 1 := ⟨n - 1, by simp at hn; omega⟩
    simp only [sumN, List.map_cons, List.sum_cons] at hk
    have h1 := hmk e k h0
    simp only [mkAll]
    rw [step n k pre.length _ e (hok e (by simp)) h0 (by omega) (by simp [mkAll_len] at hl ⊢; omega) (get_mid _ _ _)]
    have := ih (pre ++ [(mk e k).1]) (mk e k).2 n (fun x hx => hok x (by simp [hx])) (by omega) (by simp only [sumN]; omega) (by simp at hn; omega) (by simpa using hl)
    simp only [List.length_append, List.length_cons, List.length_nil, List.append_assoc, List.cons_append, List.nil_append, Nat.zero_add] at this
    exact this

/-- numbers from k on -/
def mkInt (_ : Int) (k : Int) : Int × Int := (k, k + 1)

theorem mkInt_le (e k : Int) (_ : 0 ≤ k) : k ≤ (mkInt e k).2 ∧ (mkInt e k).2 ≤ k + ((fun _ : Int => 1) e : Nat) := by simp [mkInt]; omega

theorem sumN_const {α : Type} (c : Nat) (l : List α) : sumN (fun _ => c) l = c * l.length := by
  induction l with
  | nil => simp [sumN]
  | cons a l ih => simp only [sumN, List.map_cons, List.sum_cons, List.length_cons] at ih ⊢; rw [ih, Nat.mul_succ]; omega

end Go.Av

namespace Go.Av

theorem take_rev {α : Type} {l : List α} {j : Nat} (h : j < l.length) : (l.take (j + 1)).reverse = l[j] :: (l.take j).reverse := by
  rw [List.take_add_one, List.getElem?_eq_getElem h]
  simp

theorem nat_ge (j : Nat) : decide ((j : Int) ≥ 0) = true := by simp
theorem pred_nat (j : Nat) : ((j + 1 : Nat) : Int) - 1 = (j : Int) := by omega

/-- from a node's kids, the last one first, down to where its part begins; out: where the parts of the nodes ahead begin -/
def walk (out : List Int) : Int → List Int → Option Int
  | a, [] => some a
  | a, k :: ks => if a = 0 ∨ k ≠ a - 1 then none else match out[(a - 1).toNat]? with
    | some b => walk out b ks
    | none => none

/-- where the part of each node begins -/
def starts : List (List Int) → List Int → Option (List Int)
  | [], out => some out
  | ks :: l, out => (walk out (out.length : Int) ks.reverse).bind fun s => starts l (out ++ [s])

/-- kids stand one behind the other from a to b -/
def Kids (out : List Int) : Int → Int → List Int → Prop
  | a, b, [] => a = b
  | a, b, k :: ks => 0 ≤ a ∧ a ≤ k ∧ k < b ∧ out[k.toNat]? = some a ∧ Kids out (k + 1) b ks

/-- no part begins behind its node -/
def Low (out : List Int) : Prop := ∀ (j : Nat) (s : Int), out[j]? = some s → 0 ≤ s ∧ s ≤ j

theorem Low.snoc {out : List Int} (h : Low out) {s : Int} (h0 : 0 ≤ s) (h1 : s ≤ out.length) : Low (out ++ [s]) := by
  intro j x hx
  rw [List.getElem?_append] at hx
  split at hx
  · exact h j x hx
  · rename_i hj
    have : j - out.length = 0 := by
      have := (List.getElem?_eq_some_iff.1 hx).1
      simp at this
      omega
    rw [this] at hx
    cases hx
    omega

theorem Kids.snoc {out : List Int} : ∀ {ks : List Int} {a m : Int}, Kids out a m ks → ∀ {k b : Int}, 0 ≤ m → m ≤ k → k < b → k + 1 = b → out[k.toNat]? = some m → Kids out a b (ks ++ [k])
  | [], a, m, h, k, b, h0, h1, h2, h3, h4 => by
    simp only [Kids] at h
    subst h
    exact ⟨h0, h1, h2, h4, h3⟩
  | k' :: ks, a, m, h, k, b, h0, h1, h2, h3, h4 => by
    obtain ⟨g0, g1, g2, g3, g4⟩ := h
    exact ⟨g0, g1, by omega, g3, Kids.snoc g4 h0 h1 h2 h3 h4⟩

theorem walk_le {out : List Int} (hl : Low out) : ∀ (ks : List Int) {b a : Int}, 0 ≤ b → walk out b ks = some a → 0 ≤ a ∧ a ≤ b
  | [], b, a, h0, h => by cases h; omega
  | k :: ks, b, a, h0, h => by
    unfold walk at h
    split at h
    · cases h
    · rename_i hc
      split at h
      · rename_i m hm
        have := hl _ _ hm
        have := walk_le hl ks this.1 h
        omega
      · cases h

theorem walk_kids {out : List Int} (hl : Low out) : ∀ (r : List Int) {b a : Int}, 0 ≤ b → walk out b r = some a → Kids out a b r.reverse
  | [], b, a, h0, h => by cases h; rfl
  | k :: r, b, a, h0, h => by
    unfold walk at h
    split at h
    · cases h
    · rename_i hc
      split at h
      · rename_i m hm
        have h1 := hl _ _ hm
        have h2 : k = b - 1 := by
          cases Classical.em (k = b - 1) with
          | inl h => exact h
          | inr h => exact absurd (.inr h) hc
        have h3 : b ≠ 0 := fun h => hc (.inl h)
        rw [List.reverse_cons]
        have hm' : out[k.toNat]? = some m := by rw [h2]; exact hm
        exact (walk_kids hl r h1.1 h).snoc h1.1 (by omega) (by omega) (by omega) hm'
      · cases h

theorem Kids.more {out : List Int} (out2 : List Int) : ∀ {ks : List Int} {a b : Int}, Kids out a b ks → Kids (out ++ out2) a b ks
  | [], _, _, h => h
  | k :: ks, a, b, ⟨h0, h1, h2, h3, h4⟩ => ⟨h0, h1, h2, by rw [List.getElem?_append_left (List.getElem?_eq_some_iff.1 h3).1]; exact h3, h4.more out2⟩

theorem starts_spec : ∀ (l : List (List Int)) {out r : List Int}, Low out → starts l out = some r → (∃ m, r = out ++ m ∧ m.length = l.length) ∧ Low r ∧
    ∀ (j : Nat) (ks : List Int), l[j]? = some ks → ∃ s, r[out.length + j]? = some s ∧ Kids r s ((out.length + j : Nat) : Int) ks
  | [], out, r, hl, h => by
    cases h
    exact ⟨⟨[], by simp, rfl⟩, hl, fun j ks h => by simp at h⟩
  | ks :: l, out, r, hl, h => by
    unfold starts at h
    obtain ⟨s, hs, h⟩ := Option.bind_eq_some_iff.1 h
    have h1 := walk_le hl _ (Int.natCast_nonneg _) hs
    have hl2 := hl.snoc h1.1 h1.2
    obtain ⟨⟨m, hm, hml⟩, hlr, hk⟩ := starts_spec l hl2 h
    refine ⟨⟨s :: m, by rw [hm]; simp, by simp [hml]⟩, hlr, fun j ks' hj => ?_⟩
    cases j with
    | zero =>
      simp only [List.getElem?_cons_zero, Option.some.injEq] at hj
      subst hj
      refine ⟨s, by rw [hm]; simp, ?_⟩
      have := walk_kids hl _ (Int.natCast_nonneg _) hs
      rw [List.reverse_reverse] at this
      rw [hm, List.append_assoc, Nat.add_zero]
      exact this.more _
    | succ j =>
      simp only [List.getElem?_cons_succ] at hj
      obtain ⟨s', hs', hk'⟩ := hk j ks' hj
      have e : (out ++ [s]).length + j = out.length + (j + 1) := by simp; omega
      rw [e] at hs' hk'
      exact ⟨s', hs', hk'⟩

theorem Kids.lt {out : List Int} : ∀ {ks : List Int} {a b : Int}, Kids out a b ks → ∀ k, k ∈ ks → a ≤ k ∧ 0 ≤ k ∧ k < b
  | [], _, _, _, k, hk => by cases hk
  | k' :: ks, a, b, ⟨h0, h1, h2, _, h4⟩, k, hk => by
    rcases List.mem_cons.1 hk with rfl | hk
    · omega
    · have := h4.lt k hk; omega

theorem Kids.le {out : List Int} : ∀ {ks : List Int} {a b : Int}, Kids out a b ks → a ≤ b
  | [], _, _, h => by simp only [Kids] at h; omega
  | k' :: ks, a, b, ⟨h0, h1, h2, _, h4⟩ => by have := h4.le; omega

end Go.Av

namespace Go.Av
open Go
variable {P : Program} {G : Nat → Option (List V)}

theorem OpOk.imp {o : Oper} {e : Operand → V} {H : Hp} {v v' : V} (h : OpOk P G o e H v H []) (hv : ∀ ρ S w x, RV ρ S w x v → RV ρ S w x v') : OpOk P G o e H v' H [] := by
  intro ρ S F η w hη hH hG
  refine (h ρ S F η w hη hH hG).mono ?_
  rintro x w' ⟨ρ', S', F', h1, h2, h3, h4⟩
  exact ⟨ρ', S', F', hv _ _ _ _ h1, h2, h3, h4⟩

theorem RV.elOne {ρ : Nat → Option Value} {S : Nat → Prop} {w : World} {v : Value} {cells : List V} {x : V} (h : RV ρ S w v (.el cells)) (hx : cells[0]? = some x) : RV ρ S w v (.el [x]) := by
  obtain ⟨a, cs, rfl, h1, h2⟩ := h.el_inv
  refine .el a [x] cs (fun j y hy => ?_) (fun j y hy => ?_)
  all_goals
    cases j with
    | zero =>
      simp only [List.getElem?_cons_zero, Option.some.injEq] at hy
      subst hy
      first
        | exact h1 0 x hx
        | exact h2 0 x hx
    | succ j => simp at hy

theorem RV.slAny {ρ : Nat → Option Value} {S : Nat → Prop} {w : World} {v : Value} {nn x : Bool} {rows : List (List V)} (h : RV ρ S w v (.sl nn x rows)) : RV ρ S w v (.sl false x rows) := by
  cases h with
  | sl _ _ _ _ h =>
    refine .sl _ _ _ _ ?_
    generalize hF : ([] : List Nat) = F at h
    cases h with
    | nils => exact .nils _
    | shr a cap nn rows k cs h1 h2 h3 h4 h5 => exact .shr a cap _ rows k cs h1 h2 h3 h4 h5
    | exc => cases hF

theorem AC.mono {G G' : Nat → Option (List V)} {f : FuncId} {vs : List V} {H : Hp} {r : V} {H1 : Hp} (h : AC P G f vs H r H1) (hs : ∀ g cs, G g = some cs → G' g = some cs) : AC P G' f vs H r H1 :=
  fun ρ S F xs w a b c d => h ρ S F xs w a b c fun g cs hg => d g cs (hs g cs hg)

/-- an element of a table of the program's, elements of one cell -/
def ixG (D : Tab) (G : Nat → Option (List V)) (ops : Array Oper) (i : Nat) (T : List V) : Option (List V × Int × Nat) :=
  match opW ops i T with
  | some (.indexAddr t x ix) => match D.at t, ev G T x, ev G T ix with
    | some it, .el cs, .c (.int _ n) => match it.d with
      | .arr len el => match D.at el with
        | some ie => if ie.size = 1 then some (cs, n, len) else none
        | none => none
      | _ => none
    | _, _, _ => none
  | _ => none

theorem W.ixG {D : Tab} (hD : TabOk P D) {ops : Array Oper} {draw : Bool} {T0 : List V} {H0 : Hp} {i : Nat} {T : List V} {H : Hp} {Es : List (Bool × Eff)} {Q : St → Prop} {α : Type} (enc : α → V) {l : List α} {n : Int} {x : α} (hx : ix l n = some x)
    (h : ixG D G ops i T = some (l.map enc, n, l.length))
    (k : W P G ops draw T0 H0 (i + 1) (setO T (dstW ops i) (.el [enc x])) H (Es ++ [(true, { v := .el [enc x] })]) Q) : W P G ops draw T0 H0 i T H Es Q := by
  obtain ⟨h1, h2⟩ := ix_some hx
  unfold Av.ixG at h
  split at h
  · rename_i t xo io hop
    split at h
    · rename_i it cs kk n' ht hxv hiv
      split at h
      · rename_i len el hit
        split at h
        · rename_i ie hel
          split at h
          · rename_i hs
            simp only [Option.some.injEq, Prod.mk.injEq] at h
            obtain ⟨rfl, rfl, rfl⟩ := h
            refine W.gen0 (.el [enc x]) [] hop (fun o ho e' H' he _ => ?_) k
            have hev := (he xo (by simp [Op.operands])).trans hxv
            refine OpOk.imp (OpOk.indexArr (v := .el ((l.map enc).drop n'.toNat)) hD n'.toNat ho ht hit hel ?_ ((he io (by simp [Op.operands])).trans hiv) h1 (List.getElem?_eq_some_iff.1 h2).1) fun ρ S w y hy => hy.elOne ?_
            · rw [hev, hs, Nat.mul_one]; rfl
            · rw [List.getElem?_drop, Nat.add_zero, List.getElem?_map, h2]; rfl
          · cases h
        · cases h
      · cases h
    · cases h
  · cases h

/-- a table of the program's as a slice -/
def cutG (D : Tab) (G : Nat → Option (List V)) (ops : Array Oper) (i : Nat) (T : List V) : Option (List V) :=
  match opW ops i T with
  | some (.slice t x none none none) => match D.at t, ev G T x with
    | some it, .el cs => match it.d with
      | .arr len el => match D.at el with
        | some ie => if ie.size = 1 ∧ cs.length = len ∧ len ≤ maxLen then some cs else none
        | none => none
      | _ => none
    | _, _ => none
  | _ => none

theorem W.cutG {D : Tab} (hD : TabOk P D) {ops : Array Oper} {draw : Bool} {T0 : List V} {H0 : Hp} {i : Nat} {T : List V} {H : Hp} {Es : List (Bool × Eff)} {Q : St → Prop} {α : Type} (enc : α → V) (l : List α)
    (h : cutG D G ops i T = some (l.map enc))
    (k : W P G ops draw T0 H0 (i + 1) (setO T (dstW ops i) (.sl false false (l.map fun x => [enc x]))) H (Es ++ [(true, { v := .sl false false (l.map fun x => [enc x]) })]) Q) : W P G ops draw T0 H0 i T H Es Q := by
  unfold Av.cutG at h
  split at h
  · rename_i t xo hop
    split at h
    · rename_i it cs ht hxv
      split at h
      · rename_i len el hit
        split at h
        · rename_i ie hel
          split at h
          · rename_i hs
            simp only [Option.some.injEq] at h
            subst h
            refine W.gen0 (.sl false false _) [] hop (fun o ho e' H' he _ => ?_) k
            have hev := (he xo (by simp [Op.operands])).trans hxv
            have := OpOk.cutArr (G := G) (P := P) (H := H') hD ho ht hit hel hs.1 hev hs.2.1 hs.2.2
            rw [List.map_map] at this
            exact OpOk.imp this fun ρ S w y hy => hy.slAny
          · cases h
        · cases h
      · cases h
    · cases h
  · cases h

/-- a data slice is nil or it is not: a contract out of two -/
theorem AC.slCase {f : FuncId} {x : Bool} {rows : List (List V)} {vs : List V} {H : Hp} {r : V} {H1 : Hp} (h0 : rows = [] → AC P G f (.c (.slice none 0 0) :: vs) H r H1) (h1 : AC P G f (.sl true x rows :: vs) H r H1) : AC P G f (.sl false x rows :: vs) H r H1 := by
  intro ρ S F xs w hsz hxs hH hG
  have hfst := hxs 0 _ rfl
  generalize hv : xs.getD 0 undef = v at hfst
  cases hfst with
  | sl _ _ _ _ h =>
    generalize hF : ([] : List Nat) = F0 at h
    cases h with
    | nils =>
      refine h0 rfl ρ S F xs w (by simpa using hsz) (fun i y hy => ?_) hH hG
      cases i with
      | zero =>
        simp only [List.getElem?_cons_zero, Option.some.injEq] at hy
        subst hy
        rw [hv]
        exact .c _
      | succ i => exact hxs (i + 1) y (by simpa using hy)
    | shr a cap nn rows k cs h3 h4 h5 h6 h7 =>
      refine h1 ρ S F xs w (by simpa using hsz) (fun i y hy => ?_) hH hG
      cases i with
      | zero =>
        simp only [List.getElem?_cons_zero, Option.some.injEq] at hy
        subst hy
        rw [hv]
        exact .sl _ _ _ _ (.shr a cap true rows k cs h3 h4 h5 h6 h7)
      | succ i => exact hxs (i + 1) y (by simpa using hy)
    | exc => cases hF

end Go.Av

namespace Go.Av
open Go.RowKit Go.WideShapes Go.ChangeShapes
variable {P : Program} {G : Nat → Option (List V)}

theorem AC.belowG {f : FuncId} {vs : List V} {r : V} (h : AC P G f vs [] r []) (S : Nat → Prop) {xs : Array Value} {w : World} (hS : ∀ b, S b → b < w.heap.size) (hG : GRel G S w) (hsz : xs.size = vs.length)
    (hxs : ∀ i x, vs[i]? = some x → RV (fun _ => none) S w (xs.getD i undef) x) :
    Calls P f xs w fun e w' => ∃ x S', e = .returned x ∧ RV (fun _ => none) S' w' x r ∧ Below w.heap.size w w' := by
  refine (h (fun _ => none) S (fun _ => []) xs w hsz hxs ⟨fun _ _ => rfl, fun _ _ h => (by cases h), fun _ _ h => (by cases h), fun _ _ _ _ _ h => (by cases h), fun _ _ _ h => (by cases h), fun _ _ _ h => (by cases h), hS⟩ hG).mono ?_
  rintro e w' ⟨x, ρ', S', F', rfl, hx, _, hE, _⟩
  refine ⟨x, S', rfl, hx.mono (fun _ _ h _ => (by cases h)) (fun b hb => ⟨hb, rfl⟩), hE.os, hE.tape, hE.output, hE.size, fun k hk => hE.keep k hk ?_⟩
  rintro ⟨i, o, hi, _⟩
  cases hi

/-- the cells of a table of strings -/
def strCells (l : List (List UInt8)) : Array Value := (l.map fun s => Value.string ⟨⟨s⟩⟩).toArray

theorem strs_of_trod {H : Type} {enc : TypeId × Value → H} {w : World} {base : Nat} {sp : Nat → Bool} {held : Bool} {fuel : Nat} {t el : TypeId} {n : Nat} {cs : Array Value} {l : List (List UInt8)} {p : List MemPlace}
    (h : DataW.trod enc P w base sp held fuel t cs.toList = some (.agg (l.map fun s => .lit (.string s)), p)) (ht : P.underlying t = some (.array n el)) (hel : P.underlying el = some .string) (h1 : P.cellsOf el = 1) (hn : P.cellsOf t = n) : cs = strCells l := by
  obtain ⟨xs, m, _, ex, hlen, hl, he⟩ := DataW.trod_array ht h
  rw [hn] at hlen
  simp only [Prod.mk.injEq, DataW.agg.injEq] at ex
  obtain ⟨e1, _⟩ := ex
  have hll : l.length = n := by
    have := congrArg List.length e1
    simp only [List.length_map] at this
    omega
  unfold strCells
  have hcs : cs.size = n := by simpa using hlen
  apply Array.ext
  · simp [hcs, hll]
  · intro i hi _
    have hin : i < n := by omega
    have hx := he i hin
    rw [h1, Nat.mul_one] at hx
    have hdrop : (cs.toList.drop i).take 1 = [cs[i]] := by
      rw [List.drop_eq_getElem_cons (by simpa using hi)]
      simp
    rw [hdrop] at hx
    have hxs : xs[i]? = some xs[i] := List.getElem?_eq_getElem (by omega)
    rw [hxs] at hx
    obtain ⟨s, hs, hxi, _⟩ := DataW.trod_string hel hx
    simp only [List.cons.injEq, and_true] at hs
    have e2 : (l.map fun s => (DataW.lit (.string s) : DataW H))[i]? = (xs.map (·.1))[i]? := by rw [e1]
    rw [List.getElem?_map, List.getElem?_map, hxs, Option.map_some, hxi, List.getElem?_eq_getElem (by omega), Option.map_some] at e2
    simp only [Option.some.injEq, DataW.lit.injEq, Lit.string.injEq] at e2
    rw [hs]
    simp only [List.getElem_toArray, List.getElem_map, e2]

theorem el_of_var {w : World} {S : Nat → Prop} {name : String} {g : Nat} {l : List (List UInt8)} (hg : P.globalNamed name = some g) (hv : w.var? P name = some (strCells l)) (hS : S g) : RV (fun _ => none) S w (.pointer (some ⟨g, 0, none⟩)) (.el (l.map V.str)) := by
  refine .el ⟨g, 0, none⟩ _ (fun j => (strCells l).getD j undef) (fun j x hx => ⟨hS, ?_⟩) (fun j x hx => ?_)
  all_goals
    rw [List.getElem?_map, Option.map_eq_some_iff] at hx
    obtain ⟨s, hs, rfl⟩ := hx
    have hj : j < l.length := (List.getElem?_eq_some_iff.1 hs).1
    have hc : (strCells l)[j]? = some (Value.string ⟨⟨s⟩⟩) := by
      unfold strCells
      rw [List.getElem?_toArray, List.getElem?_map, hs]
      rfl
    have hd : (strCells l).getD j undef = Value.string ⟨⟨s⟩⟩ := by
      rw [Array.getD_eq_getD_getElem?, hc]
      rfl
    rw [hd]
  · have := World.var?_cell hg hv j
    rw [hc] at this
    have e : Addr.add ⟨g, 0, none⟩ j = ⟨g, j, none⟩ := by
      unfold Addr.add
      split <;> simp_all
    rw [e]
    exact this
  · exact .c _ rfl

theorem var_lt {w : World} {name : String} {g : Nat} {cs : Array Value} (hg : P.globalNamed name = some g) (hv : w.var? P name = some cs) : g < w.heap.size := by
  unfold World.var? at hv
  rw [hg] at hv
  simp only [Option.bind_some] at hv
  cases hh : w.heap[g]? with
  | none => rw [hh] at hv; cases hv
  | some o => exact (Array.getElem?_eq_some_iff.1 hh).1

/-- the named variables read behind the call as ahead of it, whatever is said of spare places, where they lie -/
theorem vars_kept {H : Type} {enc : TypeId × Value → H} (hl : laidOutB P = true) {W W' : World} (hb : Below W.heap.size W W') {sp : Nat → Bool} :
    ∀ {ns : List String} {gs : List (DataW H)} {ps : List MemPlace}, varsRowed P ns = true → DataW.TrodVars enc P W (fun _ => true) ns gs ps → (∀ p, p ∈ ps → sp p.block = true) → DataW.TrodVars enc P W' sp ns gs ps
  | [], [], _, _, h, _ => h
  | [], _ :: _, _, _, h, _ => h.elim
  | _ :: _, [], _, _, h, _ => h.elim
  | n :: ns, d :: ds, ps, hv, h, hs => by
    have hlt := h.lt
    obtain ⟨g, t, cs, fuel, p, q, h1, h2, h3, h4, h5, e⟩ := h
    have hg := var_lt h1 h3
    have ht : P.readableRec t = true ∧ t < P.types.size := by
      simp only [varsRowed, List.all_cons, Bool.and_eq_true] at hv
      obtain ⟨gl, hgl, rfl⟩ := Option.map_eq_some_iff.1 h2
      have := hv.1
      simpa [h1, hgl] using this
    have hp : ∀ x, x ∈ p → x ∈ ps := fun x hx => by rw [e]; simp [hx]
    have h3' : W'.var? P n = some cs := by
      unfold World.var? at h3 ⊢
      rw [h1] at h3 ⊢
      simp only [Option.bind_some] at h3 ⊢
      rw [hb.block g hg]
      exact h3
    refine ⟨g, t, cs, fuel, p, q, h1, h2, h3', DataW.trod_stays (kids_book hl ht.1) (book_sized ht.1) (fun h => by cases h) ⟨ht.2, book_self t⟩ h4 (fun x hx => hb.same (hlt x (hp x hx))) (fun x hx => hs x (hp x hx)), ?_, e⟩
    exact vars_kept hl hb (by simp only [varsRowed, List.all_cons, Bool.and_eq_true] at hv; exact hv.2) h5 fun x hx => hs x (by rw [e]; simp [hx])

theorem vars_len {H : Type} {enc : TypeId × Value → H} {W : World} {sp : Nat → Bool} : ∀ {ns : List String} {gs : List (DataW H)} {ps : List MemPlace}, DataW.TrodVars enc P W sp ns gs ps → gs.length = ns.length
  | [], [], _, _ => rfl
  | [], _ :: _, _, h => h.elim
  | _ :: _, [], _, h => h.elim
  | n :: ns, d :: ds, ps, ⟨_, _, _, _, _, _, _, _, _, _, h, _⟩ => congrArg (· + 1) (vars_len h)

/-- a variable's block, by its name -/
theorem var_block {w : World} {name : String} {g : Nat} {arr : Array Value} (hg : P.globalNamed name = some g) (hv : w.var? P name = some arr) : ∃ ety fr, w.heap[g]? = some (.cells arr ety fr) := by
  unfold World.var? at hv
  rw [hg, Option.bind_some] at hv
  split at hv
  · rename_i cs ety fr h
    cases hv
    exact ⟨ety, fr, h⟩
  · cases hv

theorem grel_strs {w : World} {S : Nat → Prop} {name : String} {g : Nat} {l : List (List UInt8)} (hg : P.globalNamed name = some g) (hv : w.var? P name = some (strCells l)) (hS : S g) :
    RV (fun _ => none) S w (.pointer (some ⟨g, 0, none⟩)) (.el (l.map V.str)) ∧ ∃ arr ety fr, w.heap[g]? = some (.cells arr ety fr) ∧ arr.size = (l.map V.str).length ∧ S g := by
  obtain ⟨ety, fr, h⟩ := var_block hg hv
  exact ⟨el_of_var hg hv hS, _, ety, fr, h, by simp [strCells], hS⟩

/-! ### tables of numbers -/
def numCells (k : IntKind) (l : List Int) : Array Value := (l.map fun z => Value.int k z).toArray
def numV (k : IntKind) (z : Int) : V := .c (.int k z)

theorem nums_of_trod {H : Type} {enc : TypeId × Value → H} {w : World} {base : Nat} {sp : Nat → Bool} {held : Bool} {fuel : Nat} {t el : TypeId} {n : Nat} {cs : Array Value} {k : IntKind} {l : List Int} {p : List MemPlace}
    (h : DataW.trod enc P w base sp held fuel t cs.toList = some (.agg (l.map fun z => .lit (.int k z)), p)) (ht : P.underlying t = some (.array n el)) (hel : P.underlying el = some (.int k)) (h1 : P.cellsOf el = 1) (hn : P.cellsOf t = n) : cs = numCells k l := by
  obtain ⟨xs, m, _, ex, hlen, hl, he⟩ := DataW.trod_array ht h
  rw [hn] at hlen
  simp only [Prod.mk.injEq, DataW.agg.injEq] at ex
  obtain ⟨e1, _⟩ := ex
  have hll : l.length = n := by
    have := congrArg List.length e1
    simp at this; omega
  have hcs : cs.size = n := by simpa using hlen
  apply Array.ext
  · rw [hcs]; simp [numCells, hll]
  · intro i h2 h3
    have hin : i < n := by omega
    have hx := he i hin
    rw [h1, Nat.mul_one] at hx
    have hdrop : (cs.toList.drop i).take 1 = [cs[i]] := by
      rw [List.drop_eq_getElem_cons (by simpa using h2)]
      simp
    rw [hdrop] at hx
    have hxs : xs[i]? = some xs[i] := List.getElem?_eq_getElem (by omega)
    rw [hxs] at hx
    obtain ⟨s, hs, hxi, _⟩ := DataW.trod_int hel hx
    simp only [List.cons.injEq, and_true] at hs
    have e2 : (l.map fun z => (DataW.lit (.int k z) : DataW H))[i]? = (xs.map (·.1))[i]? := by rw [e1]
    rw [List.getElem?_map, List.getElem?_map, hxs, Option.map_some, hxi, List.getElem?_eq_getElem (by omega), Option.map_some] at e2
    simp only [Option.some.injEq, DataW.lit.injEq, Lit.int.injEq, true_and] at e2
    rw [hs]
    simp only [numCells, List.getElem_toArray, List.getElem_map, e2]

theorem grel_nums {w : World} {S : Nat → Prop} {name : String} {g : Nat} {k : IntKind} {l : List Int} (hg : P.globalNamed name = some g) (hv : w.var? P name = some (numCells k l)) (hS : S g) :
    RV (fun _ => none) S w (.pointer (some ⟨g, 0, none⟩)) (.el (l.map (numV k))) ∧ ∃ arr ety fr, w.heap[g]? = some (.cells arr ety fr) ∧ arr.size = (l.map (numV k)).length ∧ S g := by
  obtain ⟨ety, fr, h⟩ := var_block hg hv
  refine ⟨?_, _, ety, fr, h, by simp [numCells], hS⟩
  refine .el ⟨g, 0, none⟩ _ (fun j => (numCells k l).getD j undef) (fun j x hx => ⟨hS, ?_⟩) (fun j x hx => ?_)
  all_goals
    rw [List.getElem?_map, Option.map_eq_some_iff] at hx
    obtain ⟨s, hs, rfl⟩ := hx
    have hc : (numCells k l)[j]? = some (Value.int k s) := by
      unfold numCells
      rw [List.getElem?_toArray, List.getElem?_map, hs]
      rfl
    have hd : (numCells k l).getD j undef = Value.int k s := by
      rw [Array.getD_eq_getD_getElem?, hc]
      rfl
    rw [hd]
  · have := World.var?_cell hg hv j
    rw [hc] at this
    have e : Addr.add ⟨g, 0, none⟩ j = ⟨g, j, none⟩ := by
      unfold Addr.add
      split <;> simp_all
    rw [e]; exact this
  · exact .c _ rfl

end Go.Av

namespace Go.Av
open Go
variable {P : Program} {G : Nat → Option (List V)}

theorem eqGuard_at_slice (P : Program) (w : World) (op : BinOp) (t : TypeId) (x y : Operand) (a b : Option Addr) (n c n' c' : Nat) : (eqGuard op t x y (.slice a n c) (.slice b n' c')).run P w = .ok () w := by
  unfold eqGuard
  cases op <;> rfl

theorem equal_nil {P : Program} {t el : TypeId} (hu : P.underlying t = some (.slice el)) (w : World) (a : Option Addr) (n c : Nat) : (Op.equal t (.slice a n c) (.slice none 0 0)).run P w = .ok a.isNone w := by
  unfold Op.equal
  obtain ⟨k, hk⟩ : ∃ k, Op.maxDepth = k + 1 := ⟨_, rfl⟩
  rw [hk, Op.equalIn]
  simp only [Sem.run_bind, run_underlying hu, Result.andThen_ok]
  cases a <;> rfl

theorem eql_nil {P : Program} {t el : TypeId} (hu : P.underlying t = some (.slice el)) (w : World) (a : Option Addr) (n c : Nat) : (binOp .eql t (.slice a n c) (.slice none 0 0)).run P w = .ok (.bool a.isNone) w := by
  show (Op.equal t (.slice a n c) (.slice none 0 0) >>= fun b => pure (Value.bool b)).run P w = _
  simp only [Sem.run_bind, equal_nil hu, Result.andThen_ok, Sem.run_pure]

theorem OpOk.nilEq {D : Tab} (hD : TabOk P D) {o : Oper} {e : Operand → V} {H : Hp} {t t' el : TypeId} {it : Ty} {x y : Operand} (q : Bool) (ho : o.op = .binOp .eql t x y t') (ht : D.at t = some it) (hit : it.d = .slice el) (hy : e y = .c (.slice none 0 0))
    (hx : (e x = .c (.slice none 0 0) ∧ q = true) ∨ ∃ b rows, e x = .sl true b rows ∧ q = false) : OpOk P G o e H (.c (.bool q)) H [] := by
  refine OpOk.pure fun ρ S F η w hη hH => ?_
  have h1 := hη x (by simp [ho, Op.operands])
  have h2 := hη y (by simp [ho, Op.operands])
  rw [hy] at h2
  have hu := slice_ty hD ht hit
  refine ⟨_, ?_, .c _⟩
  unfold execOp
  rcases hx with ⟨hx, rfl⟩ | ⟨b, rows, hx, rfl⟩
  · rw [hx] at h1
    simp only [ho, h1.c_inv, h2.c_inv, Sem.run_bind, eqGuard_at_slice, Result.andThen_ok, eql_nil hu, Sem.run_pure, Option.isNone_none]
  · rw [hx] at h1
    have hv : ∃ a n c, η x = .slice (some a) n c := by
      generalize η x = v at h1
      cases h1 with
      | sl _ _ _ _ h => cases h with
        | shr a cap nn rows k cs => exact ⟨_, _, _, rfl⟩
    obtain ⟨a, n, c, hv⟩ := hv
    simp only [ho, hv, h2.c_inv, Sem.run_bind, eqGuard_at_slice, Result.andThen_ok, eql_nil hu, Sem.run_pure, Option.isNone_some]

/-- is the slice nil, where it is told -/
def nlW (D : Tab) (G : Nat → Option (List V)) (ops : Array Oper) (i : Nat) (T : List V) : Option Bool :=
  match opW ops i T with
  | some (.binOp .eql t x y _) => match D.at t, ev G T y with
    | some it, .c (.slice none 0 0) => match it.d with
      | .slice _ => match ev G T x with
        | .c (.slice none 0 0) => some true
        | .sl true _ _ => some false
        | _ => none
      | _ => none
    | _, _ => none
  | _ => none

theorem W.nilEq {D : Tab} (hD : TabOk P D) {ops : Array Oper} {draw : Bool} {T0 : List V} {H0 : Hp} {i : Nat} {T : List V} {H : Hp} {Es : List (Bool × Eff)} {Q : St → Prop} (q : Bool) (h : nlW D G ops i T = some q)
    (k : W P G ops draw T0 H0 (i + 1) (setO T (dstW ops i) (.c (.bool q))) H (Es ++ [(true, { v := .c (.bool q) })]) Q) : W P G ops draw T0 H0 i T H Es Q := by
  unfold nlW at h
  split at h
  · rename_i t x y t' hop
    split at h
    · rename_i it ht hy
      split at h
      · rename_i el hit
        refine W.gen0 (.c (.bool q)) [] hop (fun o ho e' H' he _ => ?_) k
        refine OpOk.nilEq hD q ho ht hit ((he y (by simp [Op.operands])).trans hy) ?_
        rw [he x (by simp [Op.operands])]
        split at h
        · rename_i hx
          cases h
          exact .inl ⟨hx, rfl⟩
        · rename_i b rows hx
          cases h
          exact .inr ⟨b, rows, hx, rfl⟩
        · cases h
      · cases h
    · cases h
  · cases h

end Go.Av

