/-
  Abstract values, states, walks, part 6.
-/
import Derived.Test.YtllanibkffnogaaGreatDoorCore5
set_option linter.unusedSimpArgs false
set_option linter.unusedVariables false

namespace Go.Av

theorem bind_rev {α β : Type} {x : Option α} {f : α → Option β} {r : β} {P : Prop} (k : ∀ a, x = some a → f a = some r → P) (h : Option.bind x f = some r) : P :=
  match bind_some h with
  | ⟨a, h1, h2⟩ => k a h1 h2

theorem cond_rev {β : Type} {c : Bool} {x y : Option β} {r : β} {P : Prop} (k : c = true → x = some r → P) (k' : c = false → y = some r → P) (h : (bif c then x else y) = some r) : P :=
  match cond_some h with
  | .inl ⟨h1, h2⟩ => k h1 h2
  | .inr ⟨h1, h2⟩ => k' h1 h2

section
variable {P : Program} {G : Nat → Option (List V)}

theorem RV.vw_inv {ρ : Nat → Option Value} {S : Nat → Prop} {w : World} {v : Value} {i k a n : Nat} (h : RV ρ S w v (.vw i k a n)) : ∀ r, ρ i = some r → (v = .slice none 0 0 ∧ n = 0) ∨ ∃ A c, v = .slice (some A) n c ∧ (n ≠ 0 → ∃ g m cap, r = .slice (some ⟨g, 0, none⟩) m cap ∧ A = ⟨g, a * k, none⟩) := by cases h; assumption

theorem OpOk.view {D : Tab} (hD : TabOk P D) {o : Oper} {e : Operand → V} {H : Hp} {t el : TypeId} {x : Operand} {l h : Option Operand} {it ie : Ty} {i : Nat} {nn : Bool} {ety : TypeId} {rows : List (List V)} (lo hi : Nat)
    (ho : o.op = .slice t x l h none) (ht : D.at t = some it) (hit : it.d = .slice el) (hel : D.at el = some ie) (hx : e x = .own i) (hl : look H i = some (.vec nn ety ie.size rows)) (hc : cutOk e rows.length lo hi l h) :
    OpOk P G o e H (.vw i ie.size lo (hi - lo)) H [] := by
  refine OpOk.pure fun ρ S F η w hη hH => ?_
  have h1 := hη x (by simp [ho, Op.operands])
  rw [hx] at h1
  obtain ⟨r, hr, hob⟩ := hH.obj i _ hl
  have hxr := h1.own_inv r hr
  have h3 := hc.1
  have h4 := hc.2.1
  unfold execOp
  simp only [ho, hxr, Instr.sliceAt, Sem.run_bind, run_underlying (slice_ty hD ht hit), Result.andThen_ok, Option.map_none]
  generalize F i = Fi at hob
  cases hob with
  | vnil =>
    have hlo : lo = 0 := by simp at h4; omega
    have hhi : hi = 0 := by simp at h4; omega
    subst hlo hhi
    have hb := run_sliceBounds (P := P) (ρ := ρ) (S := S) (w := w) (isSlice := true) (η := η) (e := e) (l := l) (h := h) (cap := 0) (fun y hy => hη y (by simp [ho, Op.operands, hy])) (fun y hy => hη y (by simp [ho, Op.operands, hy])) hc (by simp)
    refine ⟨.slice none 0 0, ?_, .vw _ _ _ _ _ fun _ _ => .inl ⟨rfl, rfl⟩⟩
    simp only [List.length_nil] at hb
    simp [Instr.slice, run_underlying (slice_ty hD ht hit), hb, (hD _ _ hel).sizeOf w]
  | vec g cap arr _ _ _ _ cs Fs hh hcap hmax hsz hk hcc hrd =>
    have hb := run_sliceBounds (P := P) (ρ := ρ) (S := S) (w := w) (isSlice := true) (η := η) (e := e) (l := l) (h := h) (cap := cap) (fun y hy => hη y (by simp [ho, Op.operands, hy])) (fun y hy => hη y (by simp [ho, Op.operands, hy])) hc hcap
    refine ⟨.slice (some (if cap = lo then ⟨g, 0, none⟩ else (⟨g, 0, none⟩ : Addr).add (lo * ie.size))) (hi - lo) (cap - lo), ?_, ?_⟩
    · simp only [Instr.slice, Sem.run_bind, run_underlying (slice_ty hD ht hit), Result.andThen_ok, hb, (hD _ _ hel).sizeOf w, Sem.run_pure]
      split <;> rfl
    · refine .vw _ _ _ _ _ fun r' hr' => .inr ⟨_, _, rfl, fun hn => ⟨g, rows.length, cap, ?_, ?_⟩⟩
      · rw [hr] at hr'; cases hr'; rfl
      · rw [if_neg (by omega), Addr.add_lit, Nat.zero_add]

theorem flat_nil (n k : Nat) : flat n k (fun _ _ => []) = [] := by
  simp [flat]

/-- a part of one's own slice whose cells hold nothing but themselves, as what is appended -/
theorem SrcV.of_view {ρ : Nat → Option Value} {S : Nat → Prop} {w : World} {tx e' : TypeId} (ht : P.underlying tx = some (.slice e')) {r : Value} {nn : Bool} {e k : Nat} {rows : List (List V)} {F : List Nat} (h : ObR ρ S w r (.vec nn e k rows) F)
    {i a n : Nat} (hρ : ρ i = some r) {v : Value} (hv : RV ρ S w v (.vw i k a n)) (han : a + n ≤ rows.length) (hflat : ∀ r, r ∈ rows → ∀ y, y ∈ r → ∃ u, y = .c u) : SrcV P S w k tx v ((rows.drop a).take n) [] := by
  have hl2 : ((rows.drop a).take n).length = n := by simp; omega
  rcases hv.vw_inv r hρ with ⟨rfl, h0⟩ | ⟨A, c, rfl, hA⟩
  · subst h0
    exact ⟨[], fun _ _ => undef, fun _ _ => [], by simpa using Src.ofNil w ht 0, by simp [flat], fun i r h => by simp at h, fun i j r y h => by simp at h⟩
  · by_cases hn : n = 0
    · subst hn
      refine ⟨[], fun _ _ => undef, fun _ _ => [], ?_, by simp [flat], fun i r h => by simp at h, fun i j r y h => by simp at h⟩
      simp only [List.take_zero, List.length_nil]
      exact Src.ofSlice w ht A 0 c [] (by simp) (fun p u hu => by simp at hu) (fun u hu => by cases hu)
    · obtain ⟨g, m, cap, rfl, rfl⟩ := hA hn
      cases h with
      | vec _ _ arr _ _ _ _ cs Fs hh hcap hmax hsz hk hc hr =>
        have hget : ∀ (i : Nat) (r : List V), ((rows.drop a).take n)[i]? = some r → i < n ∧ rows[a + i]? = some r := fun i r hi' => by
          rw [List.getElem?_take] at hi'
          split at hi'
          · rw [List.getElem?_drop] at hi'; exact ⟨‹_›, hi'⟩
          · cases hi'
        have hall : rows.length * k ≤ arr.size := by rw [hsz]; exact Nat.mul_le_mul_right _ hcap
        have hak : a * k + n * k ≤ rows.length * k := by rw [← Nat.add_mul]; exact Nat.mul_le_mul_right _ han
        refine ⟨(arr.toList.drop (a * k)).take (n * k), fun i j => cs (a + i) j, fun _ _ => [], ?_, by rw [flat_nil], fun i r hi => hk _ r (hget i r hi).2, fun i j r y h1 h2 => ⟨?_, ?_⟩⟩
        · rw [hl2]
          refine Src.ofSlice w ht ⟨g, a * k, none⟩ n c _ (by simp; omega) (fun p u hu => ?_) (fun u hu => ?_)
          · rw [Addr.add_lit, cell_of_row w g _ arr e (0, 0) hh]
            rw [List.getElem?_take] at hu
            split at hu
            · rw [List.getElem?_drop] at hu; simpa using hu
            · cases hu
          · obtain ⟨p, hp⟩ := List.getElem?_of_mem hu
            have hlt : p < n * k := by have := (List.getElem?_eq_some_iff.1 hp).1; simp at this; omega
            rw [List.getElem?_take, if_pos hlt, List.getElem?_drop] at hp
            have hk0 : 0 < k := by
              rcases Nat.eq_zero_or_pos k with h0 | h0
              · rw [h0, Nat.mul_zero] at hlt; omega
              · exact h0
            have hi : p / k < n := Nat.div_lt_of_lt_mul (by rwa [Nat.mul_comm])
            have hj : p % k < k := Nat.mod_lt _ hk0
            have h1 : rows[a + p / k]? = some rows[a + p / k] := List.getElem?_eq_getElem (by omega)
            have hj' : p % k < rows[a + p / k].length := by rw [hk _ _ h1]; exact hj
            have h2 : rows[a + p / k][p % k]? = some rows[a + p / k][p % k] := List.getElem?_eq_getElem hj'
            have h3 := hc _ _ _ _ h1 h2
            rw [show (a + p / k) * k + p % k = a * k + p by rw [Nat.add_mul, Nat.add_assoc, Nat.mul_comm (p / k)]; congr 1; exact Nat.div_add_mod p k] at h3
            have hp' : arr[a * k + p]? = some u := by simpa using hp
            rw [h3] at hp'
            cases hp'
            exact (hr _ _ _ _ h1 h2).one
        · obtain ⟨hin, h1'⟩ := hget i r h1
          have hj : j < k := by have := (List.getElem?_eq_some_iff.1 h2).1; rw [hk _ r h1'] at this; exact this
          rw [List.getElem?_take, if_pos (idx_lt hin hj), List.getElem?_drop]
          have := hc _ j r y h1' h2
          rw [Nat.add_mul, Nat.add_assoc] at this
          simpa using this
        · obtain ⟨hin, h1'⟩ := hget i r h1
          obtain ⟨u, rfl⟩ := hflat r (List.mem_of_getElem? h1') y (List.mem_of_getElem? h2)
          have := hr _ j r _ h1' h2
          show RD S w (cs (a + i) j) (.c u) []
          generalize Fs (a + i) j = Fx at this
          generalize cs (a + i) j = vx at this ⊢
          cases this
          exact .c _ ‹_›

theorem OpOk.appendView {D : Tab} (hD : TabOk P D) {o : Oper} {e : Operand → V} {H : Hp} {s x : Operand} {t el : TypeId} {it ie : Ty} (q : Nat) {i j a n : Nat} {nn nn2 : Bool} {el2 : Nat} {rows rows2 : List (List V)} (nn' : Bool)
    (ho : o.op = .call { callee := .builtin .append, args := #[s, x], argTypes := #[t, t] }) (ht : D.at t = some it) (hit : it.d = .slice el) (hel : D.at el = some ie)
    (hs : e s = .own i) (hx : e x = .vw j ie.size a n) (hi : look H i = some (.vec nn el ie.size rows)) (hj : look H j = some (.vec nn2 el2 ie.size rows2)) (han : a + n ≤ rows2.length) (hflat : ∀ r, r ∈ rows2 → ∀ y, y ∈ r → ∃ u, y = .c u)
    (hlen : rows.length + n ≤ maxLen) (hb : (rows.length + n) * ie.bytes ≤ 140737488355328) (hq : hasH q H = false) (hnn : nn' = true → nn = true ∨ (rows2.drop a).take n ≠ []) :
    OpOk P G o e H (.own q) ((q, .vec nn' el ie.size (rows ++ (rows2.drop a).take n)) :: hrem [i] H) [q] := by
  intro ρ S F η w hη hH hG
  have h1 := hη s (by simp [ho, Op.operands, Call.operands])
  have h2 := hη x (by simp [ho, Op.operands, Call.operands])
  rw [hs] at h1
  rw [hx] at h2
  obtain ⟨r, hr, hob⟩ := hH.obj j _ hj
  obtain ⟨_, ⟨d, u1, u2⟩, _⟩ := hD _ _ ht
  rw [hit] at u2
  have hd : d = .slice el := by cases d <;> simp_all [TD.is]
  subst hd
  have hl2 : ((rows2.drop a).take n).length = n := by simp; omega
  obtain ⟨v, w', hrun, hp⟩ := Post.append hD hH ht hit hel hi (SrcV.of_view (P := P) u1 hob hr h2 han hflat) List.nodup_nil [] (fun b hb' => by cases hb') (by rw [hl2]; exact hlen) (by rw [hl2]; exact hb) hq hnn h1 (tx := t) (ty := o.type)
  unfold ExecTo
  rw [resolve_append ho hrun]
  exact hp

theorem flat_encI : ∀ x y, y ∈ encI x → ∃ u, y = .c u := fun x y h => by
  simp only [encI, List.mem_singleton] at h
  exact ⟨_, h⟩

def viewO (D : Tab) (G : Nat → Option (List V)) (ops : Array Oper) (i : Nat) (T : List V) (H : Hp) (len : Nat) : Option (Nat × List (List V) × Int × Int × Nat) :=
  match opW ops i T with
  | some (.slice t x l h none) => match D.at t, ev G T x, bndV G T 0 l, bndV G T len h with
    | some it, .own j, some lo, some hi => match it.d, look H j with
      | .slice el, some (.vec _ _ k rows) => match D.at el with
        | some ie => if k = ie.size then some (j, rows, lo, hi, ie.size) else none
        | none => none
      | _, _ => none
    | _, _, _, _ => none
  | _ => none

theorem W.viewO {D : Tab} (hD : TabOk P D) {ops : Array Oper} {draw : Bool} {T0 : List V} {H0 : Hp} {i : Nat} {T : List V} {H : Hp} {Es : List (Bool × Eff)} {Q : St → Prop} {α : Type} (enc : α → List V) {s r : List α} {lo hi : Int} (hx : cut s lo hi = some r) (j sz : Nat)
    (h : viewO D G ops i T H s.length = some (j, s.map enc, lo, hi, sz))
    (k : W P G ops draw T0 H0 (i + 1) (setO T (dstW ops i) (.vw j sz lo.toNat (hi.toNat - lo.toNat))) H (Es ++ [(true, { v := .vw j sz lo.toNat (hi.toNat - lo.toNat), R := [j] })]) Q) : W P G ops draw T0 H0 i T H Es Q := by
  unfold cut at hx
  split at hx
  · rename_i hb
    cases hx
    unfold Av.viewO at h
    split at h
    · rename_i t xo l hh hop
      split at h
      · rename_i it j' lo' hi' ht hxv hlo hhi
        split at h
        · rename_i el nn ety k' rows hit hl
          split at h
          · rename_i ie hel
            split at h
            · rename_i hc
              subst hc
              simp only [Option.some.injEq, Prod.mk.injEq] at h
              obtain ⟨rfl, rfl, rfl, rfl, rfl⟩ := h
              refine W.gen0 (.vw j' ie.size lo'.toNat (hi'.toNat - lo'.toNat)) [j'] hop (fun o ho e' H' he hH' => ?_) k
              exact OpOk.view hD lo'.toNat hi'.toNat ho ht hit hel ((he xo (by simp [Op.operands])).trans hxv) (by rw [hH' j' (by simp)]; exact hl)
                (by simpa using cutOk_of hlo hhi hb fun x hx => he x (by rcases hx with rfl | rfl <;> simp [Op.operands]))
            · cases h
          · cases h
        · cases h
      · cases h
    · cases h
  · cases hx

def appV (D : Tab) (G : Nat → Option (List V)) (ops : Array Oper) (i : Nat) (T : List V) (H : Hp) : Option (Nat × Nat × TypeId × Nat × Nat × List (List V) × List (List V) × Nat × Nat) :=
  match opW ops i T with
  | some (.call c) => match c.callee, c.args, c.argTypes with
    | .builtin .append, ⟨[s, x]⟩, ⟨[t, t']⟩ => match D.at t, ev G T s, ev G T x with
      | some it, .own a, .vw b k2 u n => match it.d, look H a, look H b with
        | .slice el, some (.vec _ el1 k1 rows), some (.vec _ _ k3 rows2) => match D.at el with
          | some ie => if t = t' ∧ el1 = el ∧ k1 = ie.size ∧ k2 = ie.size ∧ k3 = ie.size then some (a, b, el, ie.size, ie.bytes, rows, rows2, u, n) else none
          | none => none
        | _, _, _ => none
      | _, _, _ => none
    | _, _, _ => none
  | _ => none

theorem W.appV {D : Tab} (hD : TabOk P D) {ops : Array Oper} {draw : Bool} {T0 : List V} {H0 : Hp} {i : Nat} {T : List V} {H : Hp} {Es : List (Bool × Eff)} {Q : St → Prop} {α : Type} (enc : α → List V) {l l2 s r : List α} {lo hi : Int} (hc : cut l2 lo hi = some s) (b : Nat) (hx : app b l s = some r) (hb : Nat.ble 1 b = true) (hflat : ∀ x y, y ∈ enc x → ∃ u, y = .c u) (q : Nat) {a c el sz : Nat}
    (h : appV D G ops i T H = some (a, c, el, sz, b, l.map enc, l2.map enc, lo.toNat, hi.toNat - lo.toNat))
    (k : W P G ops draw T0 H0 (i + 1) (setO T (dstW ops i) (.own q)) ((q, .vec false el sz (r.map enc)) :: hrem [a] H) (Es ++ [(true, { v := .own q, R := [c], C := [a], new := [(q, .vec false el sz (r.map enc))], N := [q] })]) Q) : W P G ops draw T0 H0 i T H Es Q := by
  unfold cut at hc
  split at hc
  · rename_i hcb
    cases hc
    obtain ⟨rfl, h1, h2⟩ := app_len (Nat.le_of_ble_eq_true hb) hx
    unfold Av.appV at h
    split at h
    · rename_i cl hop
      obtain ⟨callee, args, ats⟩ := cl
      simp only at h
      split at h
      · rename_i s x t t'
        split at h
        · rename_i it a' c' k2 u n ht hs hxv
          split at h
          · rename_i el' nn1 el1 k1 rows nn2 el2 k3 rows2 hit hl1 hl2
            split at h
            · rename_i ie hel
              split at h
              · rename_i hc
                obtain ⟨rfl, rfl, rfl, rfl, rfl⟩ := hc
                simp only [Option.some.injEq, Prod.mk.injEq] at h
                obtain ⟨rfl, rfl, rfl, rfl, rfl, rfl, rfl, rfl, rfl⟩ := h
                have hl : ((l2.drop lo.toNat).take (hi.toNat - lo.toNat)).length = hi.toNat - lo.toNat := by simp; omega
                rw [hl] at h1 h2
                refine W.gen { v := .own q, R := [c'], C := [a'], new := [(q, .vec false _ ie.size ((l ++ (l2.drop lo.toNat).take (hi.toNat - lo.toNat)).map enc))], N := [q] } hop (fun o ho e' H' he hH' hN => ?_) k
                simp only [List.all_cons, List.all_nil, Bool.and_true, Bool.not_eq_true'] at hN
                have := OpOk.appendView (G := G) hD q false ho ht hit hel ((he s (by simp [ho, Op.operands, Call.operands])).trans hs) ((he x (by simp [ho, Op.operands, Call.operands])).trans hxv)
                  (by rw [hH' a' (.inr (by simp [Eff.touch]))]; exact hl1) (by rw [hH' c' (.inl (by simp))]; exact hl2) (by simp; omega) (fun r hr y hy => by obtain ⟨z, _, rfl⟩ := List.mem_map.1 hr; exact hflat z y hy) (by simpa using h2) (by simpa using h1) hN (by simp)
                rw [List.map_append, List.map_take, List.map_drop]
                exact this
              · cases h
            · cases h
          · cases h
        · cases h
      · cases h
    · cases h
  · cases hc

end
end Go.Av

